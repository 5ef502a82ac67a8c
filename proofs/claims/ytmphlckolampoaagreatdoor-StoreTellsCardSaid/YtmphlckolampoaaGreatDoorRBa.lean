/- Pairs sorted in place: swapped, rotated. Conditions: those of its summaries. -/
import Derived.Test.YtmphlckolampoaaGreatDoorRAi
namespace Go.Proofs.YtmphlckolampoaaGreatDoor.tbl
open Go Go.Abs Go.Abs.Rec Go.Abs.Stb Go.Proofs
set_option maxRecDepth 100000
set_option linter.unusedVariables false
set_option linter.unusedSimpArgs false
abbrev PL := KL (List Nat × Bool)
/-- A slice of pairs of one's own, all of it, at a place. -/
structure Mt (id : Nat) (v : AV) (h : AH) (l : PL) : Prop where
 v : ∃ c, v = .sl id 0 l.length 3 c ∧ (c = none ∨ c = some l.length)
 g : h.get id = some (.cells (l.flatMap pc) true false)
 lt : id < h.nx
/-- Afterwards. -/
structure Mr (id : Nat) (v : AV) (h h' : AH) (l' : PL) : Prop where
 nx : h.nx ≤ h'.nx
 ot : ∀ j, j < h.nx → j ≠ id → h'.get j = h.get j
 m : Mt id v h' l'
theorem Mr.refl {id : Nat} {v : AV} {h : AH} {l : PL} (hm : Mt id v h l) : Mr id v h h l := ⟨Nat.le_refl _, fun _ _ _ => rfl, hm⟩
theorem Mr.trans {id : Nat} {v : AV} {h1 h2 h3 : AH} {l2 l3 : PL} (a : Mr id v h1 h2 l2) (b : Mr id v h2 h3 l3) : Mr id v h1 h3 l3 :=
 ⟨Nat.le_trans a.nx b.nx, fun j hj hne => (b.ot j (Nat.lt_of_lt_of_le hj a.nx) hne).trans (a.ot j hj hne), b.m⟩
theorem Mt.ps {id : Nat} {v : AV} {h : AH} {l : PL} (hm : Mt id v h l) : Ps h v l := by
 obtain ⟨c, hv, hc⟩ := hm.v
 exact .inr ⟨id, 0, c, _, true, false, hv, hm.g, hm.lt, fun k hk => by
  rcases hc with hc | hc
  ·rw [hc] at hk; cases hk
  ·rw [hc] at hk; cases hk; exact Nat.le_refl _, by rw [pc_len]; omega, by rw [List.drop_zero, ← pc_len, List.take_length]⟩
theorem Mt.more {id : Nat} {v : AV} {h : AH} {l : PL} (hm : Mt id v h l) {n : Nat} (hn : h.nx ≤ n) : Mt id v { tr := h.tr, nx := n } l := ⟨hm.v, hm.g, Nat.lt_of_lt_of_le hm.lt hn⟩
theorem Mr.put2 {id : Nat} {v : AV} {h g : AH} {l l1 l2 : PL} {n : Nat} (hm : Mr id v h g l) (hl : l2.length = l.length) (hn : g.nx ≤ n) :
  Mr id v h ((({ tr := g.tr, nx := n } : AH).put id (.cells (l1.flatMap pc) true false)).put id (.cells (l2.flatMap pc) true false)) l2 := by
 obtain ⟨n1, o1, ⟨c, hv, hc⟩, hg, hlt⟩ := hm
 refine ⟨Nat.le_trans n1 hn, fun j hj hne => (AH.get_put_ne hne).trans ((AH.get_put_ne hne).trans (o1 j hj hne)), ⟨c, by rw [hl]; exact hv, by rw [hl]; exact hc⟩, AH.get_put_eq rfl, Nat.lt_of_lt_of_le hlt hn⟩
theorem Mr.more {id : Nat} {v : AV} {h g : AH} {l : PL} {n : Nat} (hm : Mr id v h g l) (hn : g.nx ≤ n) : Mr id v h { tr := g.tr, nx := n } l :=
 ⟨Nat.le_trans hm.nx hn, hm.ot, hm.m.more hn⟩
/-- One element written. -/
theorem pcSet : ∀ {l : PL} {i : Nat} (p : Pr), i < l.length → (l.flatMap pc).take (i * 3) ++ [.str p.1, .str p.2.1, .bool p.2.2] ++ (l.flatMap pc).drop (i * 3 + 3) = (l.set i p).flatMap pc
 | [], i, p, h => by simp at h
 | q :: l, 0, p, h => by simp [pc]
 | q :: l, i + 1, p, h => by
  have ih := pcSet (l := l) (i := i) p (by simpa using h)
  have e1 : (i + 1) * 3 = (pc q).length + i * 3 := by show _ = 3 + _; omega
  have e2 : (i + 1) * 3 + 3 = (pc q).length + (i * 3 + 3) := by show _ = 3 + _; omega
  rw [List.flatMap_cons, e2, e1, List.take_length_add_append, List.drop_length_add_append, List.set_cons_succ, List.flatMap_cons, ← ih]
  simp
theorem pcAt {l : PL} {i : Nat} {p : Pr} (hi : l[i]? = some p) : ((l.flatMap pc).drop (i * 3)).take 3 = [.str p.1, .str p.2.1, .bool p.2.2] := pc_get hi
theorem pcLe {l : PL} {i : Nat} (hi : i < l.length) : i * 3 + 3 ≤ (l.flatMap pc).length := by rw [pc_len]; omega
theorem swap_mid {X Y Z : PL} {u v : Pr} : ((X ++ u :: Y ++ v :: Z).set X.length v).set (X.length + 1 + Y.length) u = X ++ v :: Y ++ u :: Z := by
 have e1 : X ++ u :: Y ++ v :: Z = X ++ u :: (Y ++ v :: Z) := by simp
 rw [e1, List.set_append_right _ _ (Nat.le_refl _), Nat.sub_self, List.set_cons_zero]
 have e2 : X ++ v :: (Y ++ v :: Z) = (X ++ v :: Y) ++ v :: Z := by simp
 have e3 : X.length + 1 + Y.length = (X ++ v :: Y).length := by simp; omega
 rw [e2, e3, List.set_append_right _ _ (Nat.le_refl _), Nat.sub_self, List.set_cons_zero]
theorem get_mid {X Z : PL} {u : Pr} : (X ++ u :: Z)[X.length]? = some u := by simp
section
variable {S : Sums}
structure Ts (S : Sums) : Prop extends Td S where
 ns : ∀ f args h, f ∈ [63, 64, 65, 104, 135, 136, 158, 167, 68, 24, 66, 69, 67, 105] → S f args h = none
set_option maxHeartbeats 16000000 in
/-- Two ranges of one length change places. -/
theorem swapRC (hS : Ts S) {h : AH} {id : Nat} {v f : AV} {A U M V B : PL} (hm : Mt id v h (A ++ U ++ M ++ V ++ B)) (hl : U.length = V.length) (hb : (A ++ U ++ M ++ V ++ B).length ≤ 1000000) (hf : oneA f = true) {a b n : Nat} (ha : a = A.length) (hb' : b = A.length + U.length + M.length) (hn : n = U.length) :
  RnC Tryz.prog S 167 [v, .int .i64 (a : Nat), .int .i64 (b : Nat), .int .i64 (n : Nat), f] h fun r h' => Mr id v h h' (A ++ V ++ M ++ U ++ B) := by
 refine RnC.enter' Tryz.f167 _ 38 [] (hS.ns _ _ _ (by simp)) bd167 Tryz.func167 rfl rfl rfl ?_
 subst ha hb' hn
 have hm0 := hm
 obtain ⟨⟨c, hv, hc⟩, hg, hlt⟩ := hm
 have hlen : (A ++ U ++ M ++ V ++ B).length = A.length + U.length + M.length + V.length + B.length := by simp; omega
 have ov : oneA v = true := by rw [hv]; rfl
 simp (maxSteps := 1000000) -dsimp (disch := (repeat first | rw [nxn] | rw [nxp]); try omega) only [go_sem, ov, hf]
 refine loopK_of (RnL.rounds (Q := fun ex u => ex = .exit 0 ∧ u.d = [] ∧ Mr id v h u.h (A ++ V ++ M ++ U ++ B))
  (fun m u => u.d = [] ∧ u.t.get 0 = some v ∧ u.t.get 1 = some (.int .i64 (A.length : Nat)) ∧ u.t.get 2 = some (.int .i64 ((A.length + U.length + M.length : Nat) : Int)) ∧ u.t.get 3 = some (.int .i64 (U.length : Nat)) ∧ ∃ i : Nat, u.t.get 10 = some (.int .i64 (i : Nat)) ∧ i ≤ U.length ∧ Mr id v h u.h (A ++ V.take i ++ U.drop i ++ M ++ U.take i ++ V.drop i ++ B) ∧ m = U.length - i) ?_ U.length ?_) ?_
 ·rintro m ⟨tt, g, d⟩ ⟨e2, g0, g1, g2, g3, i, g10, hi, hmr, rfl⟩
  dsimp only at e2 g0 g1 g2 g3 g10 hmr
  subst e2
  by_cases c4 : (i : Int) < (U.length : Nat)
  ·have hil : i < U.length := by omega
   obtain ⟨u, hu⟩ : ∃ u, U[i]? = some u := ⟨_, List.getElem?_eq_getElem hil⟩
   obtain ⟨w, hw⟩ : ∃ w, V[i]? = some w := ⟨_, List.getElem?_eq_getElem (show i < V.length by omega)⟩
   have du : U.drop i = u :: U.drop (i + 1) := by rw [List.drop_eq_getElem_cons hil, (List.getElem?_eq_some_iff.1 hu).2]
   have dw : V.drop i = w :: V.drop (i + 1) := by rw [List.drop_eq_getElem_cons (by omega), (List.getElem?_eq_some_iff.1 hw).2]
   have tu : U.take (i + 1) = U.take i ++ [u] := by rw [List.take_add_one, hu]; rfl
   have tw : V.take (i + 1) = V.take i ++ [w] := by rw [List.take_add_one, hw]; rfl
   generalize hX : A ++ V.take i = X at hmr
   generalize hY : U.drop (i + 1) ++ M ++ U.take i = Y
   generalize hZ : V.drop (i + 1) ++ B = Z
   have eL : X ++ U.drop i ++ M ++ U.take i ++ V.drop i ++ B = X ++ u :: Y ++ w :: Z := by
    rw [du, dw, ← hY, ← hZ]; simp
   have eR : A ++ V.take (i + 1) ++ U.drop (i + 1) ++ M ++ U.take (i + 1) ++ V.drop (i + 1) ++ B = X ++ w :: Y ++ u :: Z := by
    rw [tu, tw, ← hX, ← hY, ← hZ]; simp
   have hXl : X.length = A.length + i := by rw [← hX, List.length_append, List.length_take]; omega
   have hYl : Y.length = U.length - (i + 1) + M.length + i := by rw [← hY]; simp only [List.length_append, List.length_drop, List.length_take]; omega
   rw [eL] at hmr
   have hll : (X ++ u :: Y ++ w :: Z).length = (A ++ U ++ M ++ V ++ B).length := by
    rw [← eL, ← hX, hlen]; simp only [List.length_append, List.length_drop, List.length_take]; omega
   have hZl : Z.length = V.length - (i + 1) + B.length := by rw [← hZ]; simp only [List.length_append, List.length_drop]
   have hp : A.length + i < (X ++ u :: Y ++ w :: Z).length := by rw [hll, hlen]; omega
   have hq : A.length + U.length + M.length + i < (X ++ u :: Y ++ w :: Z).length := by rw [hll, hlen]; omega
   have gp : (X ++ u :: Y ++ w :: Z)[A.length + i]? = some u := by rw [← hXl]; simp
   have gq : (X ++ u :: Y ++ w :: Z)[A.length + U.length + M.length + i]? = some w := by
    have : A.length + U.length + M.length + i = (X ++ u :: Y).length := by simp; omega
    rw [this]; exact get_mid
   have hsw : ((X ++ u :: Y ++ w :: Z).set (A.length + i) w).set (A.length + U.length + M.length + i) u = X ++ w :: Y ++ u :: Z := by
    have e1 : A.length + U.length + M.length + i = X.length + 1 + Y.length := by omega
    rw [e1, ← hXl]; exact swap_mid
   have hll2 : (X ++ w :: Y ++ u :: Z).length = (X ++ u :: Y ++ w :: Z).length := by simp
   generalize X ++ u :: Y ++ w :: Z = l at hmr hll hp hq gp gq hsw hll2
   have hmr2 := hmr
   obtain ⟨nx1, ot1, ⟨⟨c', hv', hc'⟩, hg1, hlt1⟩⟩ := hmr
   have a1 := pcAt gp
   have a2 := pcAt gq
   have b1 := pcLe hp
   have b2 := pcLe hq
   have s1 := pcSet w hp
   have s2 := pcSet (l := l.set (A.length + i) w) u (by rw [List.length_set]; exact hq)
   rw [hsw] at s2
   have b2' : (A.length + U.length + M.length + i) * 3 + 3 ≤ ((l.set (A.length + i) w).flatMap pc).length := pcLe (by rw [List.length_set]; exact hq)
   have ep : ((A.length : Nat) : Int) + ((i : Nat) : Int) = ((A.length + i : Nat) : Int) := by omega
   have eq : ((A.length + U.length + M.length : Nat) : Int) + ((i : Nat) : Int) = ((A.length + U.length + M.length + i : Nat) : Int) := by omega
   have hv2 := hv'
   rw [hv'] at g0
   simp (maxSteps := 1000000) -dsimp (disch := (repeat first | rw [nxn] | rw [nxp]); try omega) only [go_sem, c4, g0, g1, g2, g3, g10]
   refine syDraw.keepN 0 (fun _ => True) (by kernel_rfl) (by kernel_rfl) rfl ?_
   simp (maxSteps := 1000000) -dsimp (disch := (repeat first | rw [nxn] | rw [nxp]); try omega) only [go_sem, c4, g0, g1, g2, g3, g10, ep, eq, hp, hq, hg1, a1, a2, b1, b2, b2', s1, s2]
   exact ⟨U.length - (i + 1), by omega, trivial, hv2.symm, trivial, trivial, trivial, i + 1, rfl, by omega, by rw [eR]; exact hmr2.put2 hll2 (by omega), rfl⟩
  ·have : i = U.length := by omega
   subst this
   rw [List.take_length, List.drop_length, hl, List.take_length, List.drop_length] at hmr
   simp (maxSteps := 1000000) -dsimp (disch := (repeat first | rw [nxn] | rw [nxp]); try omega) only [go_sem, c4, g0, g1, g2, g3, g10]
   exact ⟨trivial, trivial, by simpa only [List.append_nil] using hmr⟩
 ·simp (maxSteps := 1000000) -dsimp (disch := (repeat first | rw [nxn] | rw [nxp]); try omega) only [go_sem]
  exact ⟨trivial, trivial, trivial, trivial, trivial, 0, rfl, Nat.zero_le _, by simpa only [List.take_zero, List.drop_zero, List.append_nil] using Mr.refl hm0, rfl⟩
 ·rintro ex ⟨tt, g, d⟩ ⟨rfl, rfl, hmr⟩
  dsimp only at hmr
  simp (maxSteps := 1000000) -dsimp (disch := (repeat first | rw [nxn] | rw [nxp]); try omega) only [go_sem]
  exact hmr
set_option maxHeartbeats 16000000 in
/-- Two neighbours change places. -/
theorem rotC (hS : Ts S) {h : AH} {id : Nat} {v f : AV} {A U V B : PL} (hm : Mt id v h (A ++ U ++ V ++ B)) (hU : 0 < U.length) (hV : 0 < V.length) (hb : (A ++ U ++ V ++ B).length ≤ 1000000) (hf : oneA f = true) {a m b : Nat} (ha : a = A.length) (hm' : m = A.length + U.length) (hb' : b = A.length + U.length + V.length) :
  RnC Tryz.prog S 158 [v, .int .i64 (a : Nat), .int .i64 (m : Nat), .int .i64 (b : Nat), f] h fun r h' => Mr id v h h' (A ++ V ++ U ++ B) := by
 refine RnC.enter' Tryz.f158 _ 58 [] (hS.ns _ _ _ (by simp)) bd158 Tryz.func158 rfl rfl rfl ?_
 subst ha hm' hb'
 have hlen : (A ++ U ++ V ++ B).length = A.length + U.length + V.length + B.length := by simp; omega
 have ov : oneA v = true := by obtain ⟨⟨c, hv, _⟩, _⟩ := hm; rw [hv]; rfl
 have e1 : ((A.length + U.length : Nat) : Int) - ((A.length : Nat) : Int) = ((U.length : Nat) : Int) := by omega
 have e2 : ((A.length + U.length + V.length : Nat) : Int) - ((A.length + U.length : Nat) : Int) = ((V.length : Nat) : Int) := by omega
 simp (maxSteps := 1000000) -dsimp (disch := (repeat first | rw [nxn] | rw [nxp]); try omega) only [go_sem, ov, hf, e1, e2]
 refine loopK_of (RnL.rounds (Q := fun ex u => ex = .exit 0 ∧ u.d = [] ∧ u.t.get 0 = some v ∧ u.t.get 4 = some f ∧ u.t.get 2 = some (.int .i64 ((A.length + U.length : Nat) : Int)) ∧ ∃ P U' V' Q : PL, u.t.get 10 = some (.int .i64 (U'.length : Nat)) ∧ u.t.get 11 = some (.int .i64 (V'.length : Nat)) ∧ P.length + U'.length = A.length + U.length ∧ U'.length = V'.length ∧ P ++ V' ++ U' ++ Q = A ++ V ++ U ++ B ∧ Mr id v h u.h (P ++ U' ++ V' ++ Q))
  (fun k u => u.d = [] ∧ u.t.get 0 = some v ∧ u.t.get 4 = some f ∧ u.t.get 2 = some (.int .i64 ((A.length + U.length : Nat) : Int)) ∧ ∃ P U' V' Q : PL, u.t.get 10 = some (.int .i64 (U'.length : Nat)) ∧ u.t.get 11 = some (.int .i64 (V'.length : Nat)) ∧ P.length + U'.length = A.length + U.length ∧ 0 < U'.length ∧ 0 < V'.length ∧ P ++ V' ++ U' ++ Q = A ++ V ++ U ++ B ∧ Mr id v h u.h (P ++ U' ++ V' ++ Q) ∧ k = U'.length + V'.length) ?_ (U.length + V.length) ?_) ?_
 ·rintro k ⟨tt, g, d⟩ ⟨e3, g0, g4, g2, P, U', V', Q, g10, g11, hPU, hU', hV', hpe, hmr, rfl⟩
  dsimp only at e3 g0 g4 g2 g10 g11 hmr
  subst e3
  have hpl : P.length + V'.length + U'.length + Q.length = A.length + U.length + V.length + B.length := by
   have := congrArg List.length hpe
   simp only [List.length_append] at this
   omega
  by_cases c1 : U'.length = V'.length
  ·have c2 : ((U'.length : Nat) : Int) = ((V'.length : Nat) : Int) := by omega
   simp (maxSteps := 1000000) -dsimp (disch := (repeat first | rw [nxn] | rw [nxp]); try omega) only [go_sem, c2, g0, g2, g4, g10, g11]
   exact ⟨trivial, trivial, trivial, trivial, trivial, P, U', V', Q, by simp [c1], rfl, hPU, c1, hpe, hmr⟩
  ·have c2 : ¬ ((U'.length : Nat) : Int) = ((V'.length : Nat) : Int) := by omega
   by_cases c3 : V'.length < U'.length
   ·have c4 : ((V'.length : Nat) : Int) < ((U'.length : Nat) : Int) := by omega
    obtain ⟨U1, U2, rfl, hu1⟩ : ∃ U1 U2, U' = U1 ++ U2 ∧ U1.length = V'.length := ⟨U'.take V'.length, U'.drop V'.length, (List.take_append_drop _ _).symm, by rw [List.length_take]; omega⟩
    have e4 : ((A.length + U.length : Nat) : Int) - (((U1 ++ U2).length : Nat) : Int) = ((P.length : Nat) : Int) := by omega
    have hul : (U1 ++ U2).length = U1.length + U2.length := List.length_append
    have e5 : (((U1 ++ U2).length : Nat) : Int) - ((V'.length : Nat) : Int) = ((U2.length : Nat) : Int) := by omega
    have hm2 : Mt id v g (P ++ U1 ++ U2 ++ V' ++ Q) := by simpa only [List.append_assoc] using hmr.m
    simp (maxSteps := 1000000) -dsimp (disch := (repeat first | rw [nxn] | rw [nxp]); try omega) only [go_sem, c2, c4, e4, g0, g2, g4, g10, g11, ov, hf]
    refine callK_of (swapRC hS hm2 hu1 (by simp only [List.length_append] at hpl ⊢; omega) hf rfl (by omega) hu1.symm) ?_
    intro w g5 hr
    simp (maxSteps := 1000000) -dsimp (disch := (repeat first | rw [nxn] | rw [nxp]); try omega) only [go_sem, e5, g0, g2, g4, g10, g11]
    exact ⟨U2.length + V'.length, by omega, trivial, trivial, trivial, trivial, P ++ V', U2, U1, Q, rfl, by rw [hu1], by rw [List.length_append]; omega, by omega, by omega, by rw [← hpe]; simp only [List.append_assoc], (hmr.trans (by simpa only [List.append_assoc] using hr)), by omega⟩
   ·have c4 : ¬ ((V'.length : Nat) : Int) < ((U'.length : Nat) : Int) := by omega
    obtain ⟨V1, V2, rfl, hv2⟩ : ∃ V1 V2, V' = V1 ++ V2 ∧ V2.length = U'.length := ⟨V'.take (V'.length - U'.length), V'.drop (V'.length - U'.length), (List.take_append_drop _ _).symm, by rw [List.length_drop]; omega⟩
    have hul : (V1 ++ V2).length = V1.length + V2.length := List.length_append
    have e4 : ((A.length + U.length : Nat) : Int) - ((U'.length : Nat) : Int) = ((P.length : Nat) : Int) := by omega
    have e6 : ((A.length + U.length : Nat) : Int) + (((V1 ++ V2).length : Nat) : Int) = ((A.length + U.length + (V1 ++ V2).length : Nat) : Int) := by omega
    have e7 : ((A.length + U.length + (V1 ++ V2).length : Nat) : Int) - ((U'.length : Nat) : Int) = ((A.length + U.length + V1.length : Nat) : Int) := by omega
    have e5 : (((V1 ++ V2).length : Nat) : Int) - ((U'.length : Nat) : Int) = ((V1.length : Nat) : Int) := by omega
    have hm2 : Mt id v g (P ++ U' ++ V1 ++ V2 ++ Q) := by simpa only [List.append_assoc] using hmr.m
    simp (maxSteps := 1000000) -dsimp (disch := (repeat first | rw [nxn] | rw [nxp]); try omega) only [go_sem, c2, c4, e4, e6, e7, g0, g2, g4, g10, g11, ov, hf]
    refine callK_of (swapRC hS hm2 hv2.symm (by simp only [List.length_append] at hpl ⊢; omega) hf rfl (by omega) rfl) ?_
    intro w g5 hr
    simp (maxSteps := 1000000) -dsimp (disch := (repeat first | rw [nxn] | rw [nxp]); try omega) only [go_sem, e5, g0, g2, g4, g10, g11]
    exact ⟨U'.length + V1.length, by omega, trivial, trivial, trivial, trivial, P, V2, V1, U' ++ Q, by rw [hv2], rfl, by omega, by omega, by omega, by rw [← hpe]; simp only [List.append_assoc], (hmr.trans (by simpa only [List.append_assoc] using hr)), by omega⟩
 ·simp (maxSteps := 1000000) -dsimp (disch := (repeat first | rw [nxn] | rw [nxp]); try omega) only [go_sem]
  exact ⟨trivial, trivial, trivial, trivial, A, U, V, B, rfl, rfl, rfl, hU, hV, rfl, Mr.refl hm, rfl⟩
 ·rintro ex ⟨tt, g, d⟩ ⟨rfl, rfl, g0, g4, g2, P, U', V', Q, g10, g11, hPU, hUV, hpe, hmr⟩
  dsimp only at g0 g4 g2 g10 g11 hmr
  have hpl : P.length + V'.length + U'.length + Q.length = A.length + U.length + V.length + B.length := by
   have := congrArg List.length hpe
   simp only [List.length_append] at this
   omega
  have e4 : ((A.length + U.length : Nat) : Int) - ((U'.length : Nat) : Int) = ((P.length : Nat) : Int) := by omega
  have hm2 : Mt id v g (P ++ U' ++ [] ++ V' ++ Q) := by simpa only [List.append_nil] using hmr.m
  simp (maxSteps := 1000000) -dsimp (disch := (repeat first | rw [nxn] | rw [nxp]); try omega) only [go_sem, e4, g0, g2, g4, g10, g11, ov, hf]
  refine callK_of (swapRC hS hm2 hUV (by simp only [List.length_append, List.length_nil] at hpl ⊢; omega) hf rfl (by simp only [List.length_nil]; omega) rfl) ?_
  intro w g5 hr
  try simp (maxSteps := 1000000) -dsimp (disch := (repeat first | rw [nxn] | rw [nxp]); try omega) only [go_sem]
  rw [← hpe]
  exact hmr.trans (by simpa only [List.append_nil] using hr)
end
end Go.Proofs.YtmphlckolampoaaGreatDoor.tbl
