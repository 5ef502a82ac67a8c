/- Pairs sorted in place: by insertion. Conditions: those of its summaries. -/
import Derived.Test.YtmphlckolampoaaGreatDoorRBa
import Derived.Test.YtmphlckolampoaaGreatDoorRBb
namespace Go.Proofs.YtmphlckolampoaaGreatDoor.tbl
open Go Go.Abs Go.Abs.Rec Go.Abs.Stb Go.Proofs
set_option maxRecDepth 100000
set_option linter.unusedVariables false
set_option linter.unusedSimpArgs false
theorem Ts.tc {S : Sums} (hS : Ts S) : Tc S := ⟨fun f args h hf => hS.ns f args h (by simp only [List.mem_cons, List.not_mem_nil, or_false] at hf; rcases hf with rfl | rfl | rfl | rfl <;> simp)⟩
theorem Mr.eqL {id : Nat} {v : AV} {h g : AH} {l l' : PL} (hm : Mr id v h g l) (e : l = l') : Mr id v h g l' := e ▸ hm
theorem Mr.fr {id : Nat} {v : AV} {h g g' : AH} {l : PL} (hm : Mr id v h g l) (f : Fr g g') : Mr id v h g' l := by
 obtain ⟨n1, o1, ⟨hv, hg, hlt⟩⟩ := hm
 exact ⟨Nat.le_trans n1 f.nx, fun j hj hne => (f.get j (Nat.lt_of_lt_of_le hj n1)).trans (o1 j hj hne), hv, (f.get _ hlt).trans hg, Nat.lt_of_lt_of_le hlt f.nx⟩
/-- Two neighbours change places. -/
theorem nb {X Z : PL} {y x : Pr} {l : PL} (hl : l = X ++ y :: x :: Z) {p : Nat} (hp : p = X.length) :
  (((l.flatMap pc).drop (p * 3)).take 3 = [.str y.1, .str y.2.1, .bool y.2.2] ∧ ((l.flatMap pc).drop ((p + 1) * 3)).take 3 = [.str x.1, .str x.2.1, .bool x.2.2] ∧ p * 3 + 3 ≤ (l.flatMap pc).length ∧ (p + 1) * 3 + 3 ≤ (l.flatMap pc).length ∧ p + 1 < l.length ∧ p < l.length ∧ (X ++ x :: y :: Z).length = l.length) ∧
  ((l.flatMap pc).take ((p + 1) * 3) ++ [.str y.1, .str y.2.1, .bool y.2.2] ++ (l.flatMap pc).drop ((p + 1) * 3 + 3) = (l.set (p + 1) y).flatMap pc ∧ ((l.set (p + 1) y).flatMap pc).take (p * 3) ++ [.str x.1, .str x.2.1, .bool x.2.2] ++ ((l.set (p + 1) y).flatMap pc).drop (p * 3 + 3) = (X ++ x :: y :: Z).flatMap pc ∧ p * 3 + 3 ≤ ((l.set (p + 1) y).flatMap pc).length) ∧
  ((l.flatMap pc).take (p * 3) ++ [.str x.1, .str x.2.1, .bool x.2.2] ++ (l.flatMap pc).drop (p * 3 + 3) = (l.set p x).flatMap pc ∧ ((l.set p x).flatMap pc).take ((p + 1) * 3) ++ [.str y.1, .str y.2.1, .bool y.2.2] ++ ((l.set p x).flatMap pc).drop ((p + 1) * 3 + 3) = (X ++ x :: y :: Z).flatMap pc ∧ (p + 1) * 3 + 3 ≤ ((l.set p x).flatMap pc).length) := by
 have g1 : l[p]? = some y := by rw [hl, hp]; simp
 have g2 : l[p + 1]? = some x := by rw [hl, hp]; simp
 have hlen : l.length = X.length + Z.length + 2 := by rw [hl]; simp; omega
 have s1 : (l.set (p + 1) y).set p x = X ++ x :: y :: Z := by
  rw [hl, hp, List.set_append_right _ _ (by omega), Nat.add_sub_cancel_left, List.set_append_right _ _ (by omega), Nat.sub_self]; rfl
 have s2 : (l.set p x).set (p + 1) y = X ++ x :: y :: Z := by
  rw [hl, hp, List.set_append_right _ _ (by omega), Nat.sub_self, List.set_append_right _ _ (by omega), Nat.add_sub_cancel_left]; rfl
 refine ⟨⟨pcAt g1, pcAt g2, pcLe (by omega), pcLe (by omega), by omega, by omega, by rw [hl]; simp⟩, ⟨pcSet y (by omega), ?_, pcLe (by rw [List.length_set]; omega)⟩, pcSet x (by omega), ?_, pcLe (by rw [List.length_set]; omega)⟩
 ·rw [← s1]; exact pcSet (l := l.set (p + 1) y) x (by rw [List.length_set]; omega)
 ·rw [← s2]; exact pcSet (l := l.set p x) y (by rw [List.length_set]; omega)
theorem srt_app {α : Type} {lt : α → α → Bool} : ∀ {a b : List α}, srt lt (a ++ b) ↔ srt lt a ∧ srt lt b ∧ ∀ x ∈ a, ∀ y ∈ b, lt y x = false
 | [], b => by simp [srt]
 | x :: a, b => by
  rw [List.cons_append]
  have e : ∀ (x : α) (l : List α), srt lt (x :: l) = ((∀ y ∈ l, lt y x = false) ∧ srt lt l) := fun _ _ => rfl
  rw [e, e, srt_app (a := a) (b := b)]
  constructor
  ·rintro ⟨h1, h2, h3, h4⟩
   refine ⟨⟨fun y hy => h1 y (List.mem_append_left _ hy), h2⟩, h3, fun z hz y hy => ?_⟩
   rcases List.mem_cons.1 hz with rfl | hz
   ·exact h1 y (List.mem_append_right _ hy)
   ·exact h4 z hz y hy
  ·rintro ⟨⟨h1, h2⟩, h3, h4⟩
   refine ⟨fun y hy => ?_, h2, h3, fun z hz y hy => h4 z (List.mem_cons_of_mem _ hz) y hy⟩
   rcases List.mem_append.1 hy with hy | hy
   ·exact h1 y hy
   ·exact h4 x (List.mem_cons_self ..) y hy
/-- One more is inserted. -/
theorem isort_snoc {Q : PL} {x : Pr} {S1 S2 : PL} (hs : S1 ++ S2 = isort ltK Q) (h2 : ∀ y ∈ S2, ltK x y = true) (h1 : ∀ y ∈ S1, ltK x y = false) : isort ltK (Q ++ [x]) = S1 ++ x :: S2 := by
 have hsr := srt_isort (woK (α := List Nat × Bool)) Q
 rw [← isort_mg woK, ← hs]
 rw [← hs] at hsr
 have e1 : isort ltK [x] = [x] ++ ([] : PL) := rfl
 rw [e1, mg_split woK _ (Nat.le_refl _) hsr (by simp [srt]) (by simp) (by simpa using h2), mg_nil]
 have h3 := mg_split (lt := ltK (α := List Nat × Bool)) woK _ (a1 := S1) (a2 := []) (b1 := []) (b2 := [x]) (Nat.le_refl _) (by simpa using (srt_app.1 hsr).1) (by simp [srt]) (by simpa using h1) (by simp)
 rw [List.append_nil, List.nil_append, mg_nil] at h3
 rw [h3]
 simp [mg]
theorem srt_end {T S2 : PL} {y x : Pr} (h : srt ltK (T ++ [y] ++ S2)) (hx : ltK x y = false) : ∀ z ∈ T ++ [y], ltK x z = false := fun z hz => by
 rcases List.mem_append.1 hz with hz | hz
 ·exact woK.ntr x y z hx ((srt_app.1 (srt_app.1 h).1).2.2 z hz y (List.mem_singleton.2 rfl))
 ·rw [List.mem_singleton.1 hz]; exact hx
section
variable {S : Sums}
set_option maxHeartbeats 16000000 in
theorem insC (hS : Ts S) {h : AH} {id : Nat} {v : AV} {A Q B : PL} (hm : Mt id v h (A ++ Q ++ B)) (hb : (A ++ Q ++ B).length ≤ 1000000) {a b : Nat} (ha : a = A.length) (hb' : b = A.length + Q.length) :
  RnC Tryz.prog S 135 [v, .int .i64 (a : Nat), .int .i64 (b : Nat), fK] h fun r h' => Mr id v h h' (A ++ isort ltK Q ++ B) := by
 refine RnC.enter' Tryz.f135 _ 53 [] (hS.ns _ _ _ (by simp)) bd135 Tryz.func135 rfl rfl rfl ?_
 subst ha hb'
 have hlen : (A ++ Q ++ B).length = A.length + Q.length + B.length := by simp; omega
 have ov : oneA v = true := by obtain ⟨⟨c, hv, _⟩, _⟩ := hm; rw [hv]; rfl
 have e0 : ((A.length : Nat) : Int) + 1 = ((A.length + 1 : Nat) : Int) := by omega
 have hf : oneA fK = true := rfl
 have hTc := hS.tc
 simp (maxSteps := 1000000) -dsimp (disch := (repeat first | rw [nxn] | rw [nxp]); try omega) only [go_sem, ov, e0]
 refine loopK_of (RnL.rounds (Q := fun ex u => ex = .exit 0 ∧ u.d = [] ∧ Mr id v h u.h (A ++ isort ltK Q ++ B))
  (fun m u => u.d = [] ∧ u.t.get 0 = some v ∧ u.t.get 1 = some (.int .i64 (A.length : Nat)) ∧ u.t.get 2 = some (.int .i64 ((A.length + Q.length : Nat) : Int)) ∧ u.t.get 3 = some fK ∧ ∃ k : Nat, u.t.get 8 = some (.int .i64 ((A.length + k : Nat) : Int)) ∧ 1 ≤ k ∧ (k ≤ Q.length ∨ Q = []) ∧ Mr id v h u.h (A ++ isort ltK (Q.take k) ++ Q.drop k ++ B) ∧ m = Q.length - k) ?_ (Q.length - 1) ?_) ?_
 ·rintro m ⟨tt, g, d⟩ ⟨e2, g0, g1, g2, g3, k, g8, hk, hkq, hmr, rfl⟩
  dsimp only at e2 g0 g1 g2 g3 g8 hmr
  subst e2
  by_cases c1 : k < Q.length
  ·have c2 : ((A.length + k : Nat) : Int) < ((A.length + Q.length : Nat) : Int) := by omega
   obtain ⟨x, hx⟩ : ∃ x, Q[k]? = some x := ⟨_, List.getElem?_eq_getElem c1⟩
   have dx : Q.drop k = x :: Q.drop (k + 1) := by rw [List.drop_eq_getElem_cons c1, (List.getElem?_eq_some_iff.1 hx).2]
   have tx : Q.take (k + 1) = Q.take k ++ [x] := by rw [List.take_add_one, hx]; rfl
   have hil : (isort ltK (Q.take k)).length = k := by rw [isort_len, List.length_take]; omega
   have hdl : (Q.drop (k + 1)).length = Q.length - (k + 1) := List.length_drop
   simp (maxSteps := 1000000) -dsimp (disch := (repeat first | rw [nxn] | rw [nxp]); try omega) only [go_sem, c2, g0, g1, g2, g3, g8]
   refine loopK_of (RnL.rounds (Q := fun ex u => ex = .exit 2 ∧ u.d = [] ∧ u.t.get 0 = some v ∧ u.t.get 1 = some (.int .i64 (A.length : Nat)) ∧ u.t.get 2 = some (.int .i64 ((A.length + Q.length : Nat) : Int)) ∧ u.t.get 3 = some fK ∧ u.t.get 8 = some (.int .i64 ((A.length + k : Nat) : Int)) ∧ Mr id v h u.h (A ++ isort ltK (Q.take (k + 1)) ++ Q.drop (k + 1) ++ B))
    (fun m u => u.d = [] ∧ u.t.get 0 = some v ∧ u.t.get 1 = some (.int .i64 (A.length : Nat)) ∧ u.t.get 2 = some (.int .i64 ((A.length + Q.length : Nat) : Int)) ∧ u.t.get 3 = some fK ∧ u.t.get 8 = some (.int .i64 ((A.length + k : Nat) : Int)) ∧ ∃ (n : Nat) (S1 S2 : PL), u.t.get 9 = some (.int .i64 ((A.length + n : Nat) : Int)) ∧ n = S1.length ∧ S1 ++ S2 = isort ltK (Q.take k) ∧ (∀ y ∈ S2, ltK x y = true) ∧ Mr id v h u.h (A ++ S1 ++ x :: S2 ++ Q.drop (k + 1) ++ B) ∧ m = n) ?_ k ?_) ?_
   ·rintro m ⟨tt2, g', d2⟩ ⟨e2, g0, g1, g2, g3, g8, n, S1, S2, g9, hn, hs, hs2, hmr', rfl⟩
    dsimp only at e2 g0 g1 g2 g3 g8 g9 hmr'
    subst e2
    have hsl : S1.length + S2.length = k := by rw [← hil, ← hs, List.length_append]
    rcases List.eq_nil_or_concat S1 with rfl | ⟨T, y, rfl⟩
    ·have c3 : ¬ ((A.length : Nat) : Int) < ((A.length + m : Nat) : Int) := by rw [hn]; simp
     simp (maxSteps := 1000000) -dsimp (disch := (repeat first | rw [nxn] | rw [nxp]); try omega) only [go_sem, c3, g0, g1, g2, g3, g8, g9]
     refine syDraw.keepN 0 (fun _ => True) (by kernel_rfl) (by kernel_rfl) rfl ?_
     simp (maxSteps := 1000000) -dsimp (disch := (repeat first | rw [nxn] | rw [nxp]); try omega) only [go_sem, c3, g0, g1, g2, g3, g8, g9, ov, hf]
     have hq : isort ltK (Q.take (k + 1)) = x :: S2 := by rw [tx]; exact isort_snoc hs hs2 (by simp)
     exact ⟨trivial, trivial, trivial, trivial, trivial, trivial, trivial, by rw [hq]; exact (hmr'.more (by omega)).eqL (by simp)⟩
    ·obtain ⟨p, hp⟩ : ∃ p, p = (A ++ T).length := ⟨_, rfl⟩
     rw [List.concat_eq_append] at *
     have hn2 : A.length + m = p + 1 := by rw [hn, hp]; simp; omega
     rw [hn2] at g9
     have c3 : ((A.length : Nat) : Int) < ((p + 1 : Nat) : Int) := by rw [hp, List.length_append]; omega
     have e5 : ((p + 1 : Nat) : Int) - 1 = ((p : Nat) : Int) := by omega
     have eL : A ++ (T ++ [y]) ++ x :: S2 ++ Q.drop (k + 1) ++ B = (A ++ T) ++ y :: x :: (S2 ++ Q.drop (k + 1) ++ B) := by simp
     have hbl : (A ++ (T ++ [y]) ++ x :: S2 ++ Q.drop (k + 1) ++ B).length = (A ++ Q ++ B).length := by
      rw [hlen]; simp only [List.length_append, List.length_cons, List.length_nil] at hsl ⊢; omega
     generalize hlq : A ++ (T ++ [y]) ++ x :: S2 ++ Q.drop (k + 1) ++ B = l at hmr' hbl eL
     obtain ⟨⟨a1, a2, b1, b2, q1, q2, hll⟩, ⟨s1, s2, b3⟩, _⟩ := nb eL hp
     have hmr2 := hmr'
     obtain ⟨nx1, ot1, ⟨⟨c', hv', hc'⟩, hg1, hlt1⟩⟩ := hmr'
     have hv2 := hv'
     rw [hv'] at g0
     simp (maxSteps := 1000000) -dsimp (disch := (repeat first | rw [nxn] | rw [nxp]); try omega) only [go_sem, c3, g0, g1, g2, g3, g8, g9]
     refine syDraw.keepN 0 (fun _ => True) (by kernel_rfl) (by kernel_rfl) rfl ?_
     simp (maxSteps := 1000000) -dsimp (disch := (repeat first | rw [nxn] | rw [nxp]); try omega) only [go_sem, c3, g0, g1, g2, g3, g8, g9, e5, q1, q2, hg1, a1, a2, b1, b2, hf, fK]
     refine callK_of (keyC hTc _ x y) ?_
     rintro w g5 ⟨rfl, f5⟩
     have hmr5 := (hmr2.more (n := g'.nx + 17) (by omega)).fr f5
     have hg5 := hmr5.m.g
     cases hlx : lessA x.1 y.1
     ·have c6 : ¬ cmpI x.1 y.1 < 0 := by rw [cmpI_neg, hlx]; decide
      simp (maxSteps := 1000000) -dsimp (disch := (repeat first | rw [nxn] | rw [nxp]); try omega) only [go_sem, c6, g0, g1, g2, g3, g8, g9]
      have hq : isort ltK (Q.take (k + 1)) = (T ++ [y]) ++ x :: S2 := by rw [tx]; exact isort_snoc hs hs2 (srt_end (S2 := S2) (by rw [hs]; exact srt_isort woK _) hlx)
      exact ⟨trivial, trivial, hv2.symm, trivial, trivial, trivial, trivial, by rw [hq]; exact hmr5.eqL (by rw [← hlq]; simp)⟩
     ·have c6 : cmpI x.1 y.1 < 0 := by rw [cmpI_neg, hlx]
      simp (maxSteps := 1000000) -dsimp (disch := (repeat first | rw [nxn] | rw [nxp]); try omega) only [go_sem, c6, g0, g1, g2, g3, g8, g9]
      refine syDraw.keepN 0 (fun _ => True) (by kernel_rfl) (by kernel_rfl) rfl ?_
      simp (maxSteps := 1000000) -dsimp (disch := (repeat first | rw [nxn] | rw [nxp]); try omega) only [go_sem, g0, g1, g2, g3, g8, g9, e5, q1, q2, hg5, a1, a2, b1, b2, b3, s1, s2]
      refine ⟨T.length, by rw [hn]; simp, trivial, hv2.symm, trivial, trivial, trivial, trivial, T.length, T, y :: S2, by rw [hp, List.length_append], rfl, by rw [← hs]; simp, ?_, (hmr5.put2 hll (by omega)).eqL (by simp), rfl⟩
      intro z hz
      rcases List.mem_cons.1 hz with rfl | hz
      ·exact hlx
      ·exact hs2 z hz
   ·simp (maxSteps := 1000000) -dsimp (disch := (repeat first | rw [nxn] | rw [nxp]); try omega) only [go_sem]
    exact ⟨trivial, g0, g1, g2, g3, g8, k, isort ltK (Q.take k), [], rfl, hil.symm, by simp, by simp, hmr.eqL (by rw [dx]; simp), rfl⟩
   ·rintro ex ⟨tt2, g', d2⟩ ⟨rfl, rfl, g0, g1, g2, g3, g8, hmr'⟩
    dsimp only at g0 g1 g2 g3 g8 hmr'
    have e9 : ((A.length + k : Nat) : Int) + 1 = ((A.length + (k + 1) : Nat) : Int) := by omega
    simp (maxSteps := 1000000) -dsimp (disch := (repeat first | rw [nxn] | rw [nxp]); try omega) only [go_sem, g0, g1, g2, g3, g8, e9]
    exact ⟨Q.length - (k + 1), by omega, trivial, trivial, trivial, trivial, trivial, k + 1, rfl, by omega, .inl c1, hmr', rfl⟩
  ·have c2 : ¬ ((A.length + k : Nat) : Int) < ((A.length + Q.length : Nat) : Int) := by omega
   simp (maxSteps := 1000000) -dsimp (disch := (repeat first | rw [nxn] | rw [nxp]); try omega) only [go_sem, c2, g0, g1, g2, g3, g8]
   refine ⟨trivial, trivial, hmr.eqL ?_⟩
   rw [List.take_of_length_le (by omega), List.drop_eq_nil_of_le (by omega), List.append_nil]
 ·simp (maxSteps := 1000000) -dsimp (disch := (repeat first | rw [nxn] | rw [nxp]); try omega) only [go_sem]
  refine ⟨trivial, trivial, trivial, trivial, trivial, 1, rfl, Nat.le_refl _, ?_, (Mr.refl hm).eqL ?_, rfl⟩
  ·rcases Q with _ | ⟨q, Q⟩
   ·exact .inr rfl
   ·exact .inl (by simp)
  ·rcases Q with _ | ⟨q, Q⟩
   ·simp [isort]
   ·simp [isort, ins]
 ·rintro ex ⟨tt, g, d⟩ ⟨rfl, rfl, hmr⟩
  dsimp only at hmr
  simp (maxSteps := 1000000) -dsimp (disch := (repeat first | rw [nxn] | rw [nxp]); try omega) only [go_sem]
  exact hmr
end
end Go.Proofs.YtmphlckolampoaaGreatDoor.tbl
