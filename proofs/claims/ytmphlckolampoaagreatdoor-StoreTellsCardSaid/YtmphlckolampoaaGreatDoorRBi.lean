/- Pairs: of equals the first. Conditions: those of its summaries. -/
import Derived.Test.YtmphlckolampoaaGreatDoorRBh
namespace Go.Proofs.YtmphlckolampoaaGreatDoor.tbl
open Go Go.Abs Go.Abs.Rec Go.Abs.Stb Go.Proofs
set_option maxRecDepth 100000
set_option linter.unusedVariables false
set_option linter.unusedSimpArgs false
/-- The key of the last. -/
def lkA (x : Pr) : PL → List Nat
 | [] => x.1
 | y :: r => lkA y r
theorem lkA_eq {x y : Pr} (h : x.1 = y.1) : ∀ r : PL, lkA x r = lkA y r
 | [] => h
 | _ :: _ => rfl
theorem cptA_snoc (w : Pr) : ∀ (r : PL) (x : Pr), cptA x (r ++ [w]) = if lkA x r = w.1 then cptA x r else cptA x r ++ [w]
 | [], x => by
  show cptA x [w] = _
  rw [cptA_cons]
  show (if x.1 = w.1 then cptA x [] else x :: cptA w []) = if x.1 = w.1 then cptA x [] else cptA x [] ++ [w]
  rfl
 | y :: r, x => by
  rw [List.cons_append, cptA_cons, cptA_cons]
  show _ = if lkA y r = w.1 then _ else _
  by_cases h : x.1 = y.1
  ·rw [if_pos h, if_pos h, cptA_snoc w r x, lkA_eq h]
  ·rw [if_neg h, if_neg h, cptA_snoc w r y]
   split <;> rfl
theorem lkA_last : ∀ (r : PL) (x z : Pr), (x :: r).getLast? = some z → lkA x r = z.1
 | [], x, z, h => by simp at h; rw [← h]; rfl
 | y :: r, x, z, h => by
  rw [List.getLast?_cons_cons] at h
  exact lkA_last r y z h
theorem cpt_take {D : PL} {m : Nat} {z w : Pr} (hm : 0 < m) (hz : D[m - 1]? = some z) (hw : D[m]? = some w) : cpt (D.take (m + 1)) = if w.1 = z.1 then cpt (D.take m) else cpt (D.take m) ++ [w] := by
 have tw : D.take (m + 1) = D.take m ++ [w] := by rw [List.take_add_one, hw]; rfl
 have hml : m < D.length := (List.getElem?_eq_some_iff.1 hw).1
 have tz : (D.take m).getLast? = some z := by
  rw [List.getLast?_eq_getElem?, List.length_take, List.getElem?_take_of_lt (by omega), show min m D.length - 1 = m - 1 by omega]; exact hz
 rw [tw]
 cases hd : D.take m with
 | nil =>
  have := congrArg List.length hd
  simp at this
  rcases this with h | h
  ·omega
  ·rw [h] at hml; simp at hml
 | cons x r =>
  rw [hd] at tz
  have h1 := cptA_snoc w r x
  rw [lkA_last r x z tz] at h1
  show cptA x (r ++ [w]) = if w.1 = z.1 then cptA x r else cptA x r ++ [w]
  rw [h1]
  by_cases h : z.1 = w.1
  ·rw [if_pos h, if_pos h.symm]
  ·rw [if_neg h, if_neg (fun hh => h hh.symm)]
theorem set_tail {C J R : PL} {z w : Pr} : (C ++ J ++ z :: R).set C.length w = (C ++ [w]) ++ (J ++ [z]).tail ++ R := by
 rw [List.append_assoc, List.set_append_right _ _ (Nat.le_refl _), Nat.sub_self]
 cases J with
 | nil => simp
 | cons y J => simp
theorem Mr.put1 {id : Nat} {v : AV} {h g : AH} {l l2 : PL} {n : Nat} (hm : Mr id v h g l) (hl : l2.length = l.length) (hn : g.nx ≤ n) :
  Mr id v h (({ tr := g.tr, nx := n } : AH).put id (.cells (l2.flatMap pc) true false)) l2 := by
 obtain ⟨n1, o1, ⟨c, hv, hc⟩, hg, hlt⟩ := hm
 exact ⟨Nat.le_trans n1 hn, fun j hj hne => (AH.get_put_ne hne).trans (o1 j hj hne), ⟨c, by rw [hl]; exact hv, by rw [hl]; exact hc⟩, AH.get_put_eq rfl, Nat.lt_of_lt_of_le hlt hn⟩
theorem slK (h : AH) (id : Nat) {n k : Nat} {c : Option Nat} (hk : k ≤ n) : evSlice Tryz.prog h 22 (.sl id 0 n 3 c) (some (.int .i64 ((k : Nat) : Int))) none none = some (.sl id (k * 3) (n - k) 3 (c.map (· - k))) := by
 have hu : upTo ((k : Nat) : Int) n = some k := by rw [upTo_of (by omega) (by omega)]; simp
 simp [evSlice, Tryz.underlying22, tz51, boundsA, boundA, hu]
theorem slT (h : AH) (id : Nat) {n k : Nat} {c : Option Nat} (hk : k ≤ n) (hc : c = none ∨ c = some n) : evSlice Tryz.prog h 22 (.sl id 0 n 3 c) none (some (.int .i64 ((k : Nat) : Int))) none = some (.sl id 0 k 3 (c.map (· - 0))) := by
 have hu : upTo ((k : Nat) : Int) (c.getD n) = some k := by
  rw [upTo_of (by omega) (by rcases hc with rfl | rfl <;> simp <;> omega)]; simp
 simp [evSlice, Tryz.underlying22, tz51, boundsA, boundA, hu]
theorem clrP {h : AH} {id off n : Nat} {c : Option Nat} {cs : List AV} {tx : Bool} (hg : h.get id = some (.cells cs true tx)) (hn : n ≠ 0) (hl : off + n * 3 ≤ cs.length) :
  evClear Tryz.prog h #[22] (.sl id off n 3 c) = some (.val (.tup []) (h.put id (.cells (putCells cs off (repCells [.str [], .str [], .bool false] n)) true tx))) := by
 have hz := zc51
 unfold zeroC at hz
 cases hz2 : tzero Tryz.prog 51 with
 | none => rw [hz2] at hz; cases hz
 | some z =>
  rw [hz2, Option.bind_some] at hz
  simp only [evClear, Tryz.underlying22, hz2, hz, hg, if_neg hn, Option.bind_eq_bind, Option.bind_some, List.getElem?_toArray, List.getElem?_cons_zero]
  rw [if_pos (by simp [oneA, hl])]
theorem psHead {g : AH} {id : Nat} {c : Option Nat} {C T : PL} {X Y : List AV} (hid : id < g.nx) (hc : ∀ q, c = some q → C.length ≤ q) :
  Ps (g.put id (.cells (((C ++ T).flatMap pc).take (C.length * 3) ++ X ++ Y) true false)) (.sl id 0 C.length 3 c) C := by
 have e : ((C ++ T).flatMap pc).take (C.length * 3) = C.flatMap pc := by
  rw [List.flatMap_append, ← pc_len, List.take_append_of_le_length (Nat.le_refl _), List.take_length]
 rw [e]
 refine .inr ⟨id, 0, c, _, true, false, rfl, AH.get_put_eq rfl, hid, hc, ?_, ?_⟩
 ·simp only [List.length_append, pc_len]; omega
 ·rw [List.drop_zero, List.append_assoc, ← pc_len, List.take_append_of_le_length (Nat.le_refl _), List.take_length]
section
variable {S : Sums}
set_option maxHeartbeats 32000000 in
theorem compC (hS : Ts S) {h : AH} {id : Nat} {v : AV} {D : PL} (hm : Mt id v h D) (hb : D.length ≤ 100000) :
  RnC Tryz.prog S 68 [v, fE] h fun r h' => Ps h' r (cpt D) ∧ h.nx ≤ h'.nx ∧ ∀ j, j < h.nx → j ≠ id → h'.get j = h.get j := by
 refine RnC.enter' Tryz.f68 _ 66 [.tmp 4] (hS.ns _ _ _ (by simp)) bd68 Tryz.func68 rfl rfl rfl ?_
 obtain ⟨lv, sv, ov⟩ := hm.ps.ln
 have hf : oneA fE = true := rfl
 have hTc := hS.tc
 by_cases c0 : D.length < 2
 ·have c1 : ((D.length : Nat) : Int) < 2 := by omega
  simp (maxSteps := 1000000) -dsimp (disch := (repeat first | rw [nxn] | rw [nxp]); try omega) only [go_sem, ov, lv, hf, c1]
  refine ⟨?_, Nat.le_refl _, fun _ _ _ => by first | rfl | trivial⟩
  have : cpt D = D := by
   match D, c0 with
   | [], _ => rfl
   | [x], _ => rfl
  rw [this]
  exact hm.ps
 have c1 : ¬ ((D.length : Nat) : Int) < 2 := by omega
 obtain ⟨c', hv', hc'⟩ := hm.v
 simp (maxSteps := 1000000) -dsimp (disch := (repeat first | rw [nxn] | rw [nxp]); try omega) only [go_sem, ov, lv, hf, c1]
 refine loopK_of (RnL.rounds (Q := fun ex u => u.d = [] ∧ (ex = .exit 0 ∧ u.t.get 0 = some v ∧ Mr id v h u.h D ∧ cpt D = D ∨ ex = .ret ∧ ∃ r, u.t.get 4 = some r ∧ Ps u.h r (cpt D) ∧ h.nx ≤ u.h.nx ∧ ∀ j, j < h.nx → j ≠ id → u.h.get j = h.get j))
  (fun m u => u.d = [] ∧ u.t.get 0 = some v ∧ u.t.get 1 = some fE ∧ ∃ k : Nat, u.t.get 5 = some (.int .i64 (k : Nat)) ∧ 1 ≤ k ∧ k ≤ D.length ∧ cpt (D.take k) = D.take k ∧ Mr id v h u.h D ∧ m = D.length - k) ?_ (D.length - 1) ?_) ?_
 ·rintro m ⟨tt, g, d⟩ ⟨e9, g0, g1, k, g5, hk1, hk2, hcp, hmr, rfl⟩
  dsimp only at e9 g0 g1 g5 hmr
  subst e9
  by_cases c2 : k < D.length
  ·have c3 : ((k : Nat) : Int) < ((D.length : Nat) : Int) := by omega
   have e1 : ((k : Nat) : Int) - 1 = ((k - 1 : Nat) : Int) := by omega
   have e2 : ((k : Nat) : Int) + 1 = ((k + 1 : Nat) : Int) := by omega
   obtain ⟨w, hw⟩ : ∃ w, D[k]? = some w := ⟨_, List.getElem?_eq_getElem c2⟩
   obtain ⟨z, hz⟩ : ∃ z, D[k - 1]? = some z := ⟨_, List.getElem?_eq_getElem (by omega)⟩
   have a1 := pcAt hw
   have a2 := pcAt hz
   have b1 := pcLe c2
   have b2 := pcLe (show k - 1 < D.length by omega)
   have q2 : k - 1 < D.length := by omega
   have hg1 := hmr.m.g
   have hct := cpt_take (by omega) hz hw
   have lv2 : ∀ g, evLen Tryz.prog g #[22] (.sl id 0 D.length 3 c') = some (.int .i64 (D.length : Nat)) := by rw [← hv']; exact lv
   have ov2 : oneA (.sl id 0 D.length 3 c') = true := rfl
   rw [hv'] at g0
   simp (maxSteps := 1000000) -dsimp (disch := (repeat first | rw [nxn] | rw [nxp]); try omega) only [go_sem, c3, g0, g1, g5, lv2]
   refine syDraw.keepN 0 (fun _ => True) (by kernel_rfl) (by kernel_rfl) rfl ?_
   simp (maxSteps := 1000000) -dsimp (disch := (repeat first | rw [nxn] | rw [nxp]); try omega) only [go_sem, g0, g1, g5, c2, q2, hg1, a1, a2, b1, b2, hf, fE, e1]
   refine callK_of (eqlC hTc _ w z) ?_
   rintro ww g5' ⟨rfl, f5⟩
   have hmr5 := (hmr.more (n := g.nx + 11) (by omega)).fr f5
   by_cases hq : w.1 = z.1
   ·have hqd : decide (w.1 = z.1) = true := by simpa using hq
    rw [if_pos hq, hcp] at hct
    have sl1 := fun g => slK g id (c := c') (show k ≤ D.length by omega)
    have lv3 : ∀ g, evLen Tryz.prog g #[22] (.sl id (k * 3) (D.length - k) 3 (c'.map (· - k))) = some (.int .i64 ((D.length - k : Nat) : Int)) := fun g => by simp [evLen, Tryz.underlying22]
    simp (maxSteps := 1000000) -dsimp (disch := (repeat first | rw [nxn] | rw [nxp]); try omega) only [go_sem, hqd, g0, g1, g5, sl1]
    clear hmr hg1 a1 a2 b1 b2 q2
    refine loopK_of (RnL.rounds (Q := fun ex u => ex = .exit 2 ∧ u.d = [] ∧ u.t.get 0 = some (.sl id 0 D.length 3 c') ∧ ∃ C J : PL, u.t.get 5 = some (.int .i64 (C.length : Nat)) ∧ C = cpt D ∧ C.length + J.length = D.length - 1 ∧ Mr id v h u.h (C ++ J ++ D.drop (D.length - 1)))
     (fun m u => u.d = [] ∧ u.t.get 0 = some (.sl id 0 D.length 3 c') ∧ u.t.get 1 = some fE ∧ u.t.get 6 = some (.sl id (k * 3) (D.length - k) 3 (c'.map (· - k))) ∧ ∃ (n : Nat) (C J : PL), u.t.get 7 = some (.int .i64 ((n - k : Nat) : Int)) ∧ u.t.get 5 = some (.int .i64 (C.length : Nat)) ∧ k < n ∧ n ≤ D.length ∧ C = cpt (D.take n) ∧ C.length + J.length = n - 1 ∧ Mr id v h u.h (C ++ J ++ D.drop (n - 1)) ∧ m = D.length - n) ?_ (D.length - (k + 1)) ?_) ?_
    ·rintro m ⟨tt2, g2, d2⟩ ⟨e9, g0, g1, g6, n, C, J, g7, g5, hkn, hn, hC, hCJ, hmr, rfl⟩
     dsimp only at e9 g0 g1 g6 g7 g5 hmr
     subst e9
     by_cases c4 : n < D.length
     ·have c5 : ((n - k : Nat) : Int) < ((D.length - k : Nat) : Int) := by omega
      have e3 : ((n - k : Nat) : Int) - 1 = ((n - k - 1 : Nat) : Int) := by omega
      have e4 : ((n - k : Nat) : Int) + 1 = ((n + 1 - k : Nat) : Int) := by omega
      have e5 : ((C.length : Nat) : Int) + 1 = ((C.length + 1 : Nat) : Int) := by omega
      obtain ⟨w1, hw1⟩ : ∃ w, D[n]? = some w := ⟨_, List.getElem?_eq_getElem c4⟩
      obtain ⟨z1, hz1⟩ : ∃ z, D[n - 1]? = some z := ⟨_, List.getElem?_eq_getElem (by omega)⟩
      have hct1 := cpt_take (by omega) hz1 hw1
      have dz : D.drop (n - 1) = z1 :: D.drop n := by
       rw [List.drop_eq_getElem_cons (show n - 1 < D.length by omega), (List.getElem?_eq_some_iff.1 hz1).2, show n - 1 + 1 = n by omega]
      have dw : D.drop n = w1 :: D.drop (n + 1) := by rw [List.drop_eq_getElem_cons c4, (List.getElem?_eq_some_iff.1 hw1).2]
      have hll : (C ++ J ++ D.drop (n - 1)).length = D.length := by simp only [List.length_append, List.length_drop]; omega
      obtain ⟨a1, b1, q1⟩ := at2 (l := C ++ J ++ D.drop (n - 1)) (X := C ++ J ++ [z1]) (Z := D.drop (n + 1)) (u := w1) (p := n) (by rw [dz, dw]; simp) (by simp only [List.length_append, List.length_cons, List.length_nil]; omega)
      obtain ⟨a2, b2, q2⟩ := at2 (l := C ++ J ++ D.drop (n - 1)) (X := C ++ J) (Z := D.drop n) (u := z1) (p := n - 1) (by rw [dz]) (by simp only [List.length_append]; omega)
      have he1 : k * 3 + (n - k) * 3 = n * 3 := by omega
      have he2 : k * 3 + (n - k - 1) * 3 = (n - 1) * 3 := by omega
      have q3 : n - k < D.length - k := by omega
      have q4 : n - k - 1 < D.length - k := by omega
      have hg1 := hmr.m.g
      simp (maxSteps := 1000000) -dsimp (disch := (repeat first | rw [nxn] | rw [nxp]); try omega) only [go_sem, c5, g0, g1, g5, g6, g7, lv3]
      refine syDraw.keepN 0 (fun _ => True) (by kernel_rfl) (by kernel_rfl) rfl ?_
      simp (maxSteps := 1000000) -dsimp (disch := (repeat first | rw [nxn] | rw [nxp]); try omega) only [go_sem, g0, g1, g5, g6, g7, q3, q4, he1, he2, hg1, a1, a2, b1, b2, hf, fE, e3]
      refine callK_of (eqlC hTc _ w1 z1) ?_
      rintro ww2 g6' ⟨rfl, f6⟩
      have hmr6 := (hmr.more (n := g2.nx + 12) (by omega)).fr f6
      by_cases hq1 : w1.1 = z1.1
      ·have hqd1 : decide (w1.1 = z1.1) = true := by simpa using hq1
       rw [if_pos hq1] at hct1
       simp (maxSteps := 1000000) -dsimp (disch := (repeat first | rw [nxn] | rw [nxp]); try omega) only [go_sem, hqd1, g0, g1, g5, g6, g7, e4]
       exact ⟨D.length - (n + 1), by omega, trivial, trivial, trivial, trivial, n + 1, C, J ++ [z1], rfl, rfl, by omega, by omega, by rw [hC, hct1], by simp only [List.length_append, List.length_cons, List.length_nil]; omega, hmr6.eqL (by rw [dz, Nat.add_sub_cancel]; simp), rfl⟩
      ·have hqd1 : decide (w1.1 = z1.1) = false := by simpa using hq1
       rw [if_neg hq1] at hct1
       have hg6 := hmr6.m.g
       have hCl : C.length < (C ++ J ++ D.drop (n - 1)).length := by omega
       have hCl2 : C.length < D.length := by omega
       have s1 := pcSet w1 hCl
       have b3 := pcLe hCl
       have hst : (C ++ J ++ D.drop (n - 1)).set C.length w1 = (C ++ [w1]) ++ (J ++ [z1]).tail ++ D.drop n := by rw [dz]; exact set_tail
       rw [hst] at s1
       simp (maxSteps := 1000000) -dsimp (disch := (repeat first | rw [nxn] | rw [nxp]); try omega) only [go_sem, hqd1, g0, g1, g5, g6, g7, e4, e5, q3, he1, hCl2, hg6, a1, b1, b3, s1]
       refine ⟨D.length - (n + 1), by omega, trivial, trivial, trivial, trivial, n + 1, C ++ [w1], (J ++ [z1]).tail, rfl, by simp, by omega, by omega, by rw [hC, hct1], by simp only [List.length_append, List.length_tail, List.length_cons, List.length_nil]; omega, ?_, rfl⟩
       rw [Nat.add_sub_cancel]
       exact hmr6.put1 (by rw [← hst, List.length_set]) (Nat.le_refl _)
     ·have c5 : ¬ ((n - k : Nat) : Int) < ((D.length - k : Nat) : Int) := by omega
      obtain rfl : n = D.length := by omega
      rw [List.take_length] at hC
      simp (maxSteps := 1000000) -dsimp (disch := (repeat first | rw [nxn] | rw [nxp]); try omega) only [go_sem, c5, g0, g1, g5, g6, g7, lv3]
      exact ⟨trivial, trivial, trivial, C, J, rfl, hC, hCJ, hmr⟩
    ·simp (maxSteps := 1000000) -dsimp (disch := (repeat first | rw [nxn] | rw [nxp]); try omega) only [go_sem]
     exact ⟨trivial, g0, g1, trivial, k + 1, D.take k, [], by rw [show k + 1 - k = 1 by omega]; rfl, by rw [List.length_take, Nat.min_eq_left hk2]; exact g5, by omega, by omega, hct.symm, by rw [List.length_take, List.length_nil]; omega, hmr5.eqL (by simp), rfl⟩
    ·rintro ex ⟨tt2, g2, d2⟩ ⟨rfl, rfl, g0, C, J, g5, hC, hCJ, hmr⟩
     dsimp only at g0 g5 hmr
     have hg1 := hmr.m.g
     have hll : (C ++ J ++ D.drop (D.length - 1)).length = D.length := by simp only [List.length_append, List.length_drop]; omega
     have sl2 := fun g => slK g id (c := c') (show C.length ≤ D.length by omega)
     have sl3 := fun g => slT g id (show C.length ≤ D.length by omega) hc'
     have clr := clrP (off := C.length * 3) (n := D.length - C.length) (c := c'.map (· - C.length)) hg1 (by omega) (by rw [pc_len, hll]; omega)
     simp (maxSteps := 1000000) -dsimp (disch := (repeat first | rw [nxn] | rw [nxp]); try omega) only [go_sem, g0, g5, sl2, clr, sl3]
     refine ⟨trivial, .inr ⟨trivial, _, rfl, ?_, hmr.nx, fun j hj hne => (AH.get_put_ne hne).trans (hmr.ot j hj hne)⟩⟩
     rw [← hC, List.append_assoc C J]
     exact psHead (show id < g2.nx from hmr.m.lt) (by intro q hq; rcases hc' with rfl | rfl <;> simp at hq; omega)
   ·have hqd : decide (w.1 = z.1) = false := by simpa using hq
    rw [if_neg hq, hcp] at hct
    have tw : D.take (k + 1) = D.take k ++ [w] := by rw [List.take_add_one, hw]; rfl
    simp (maxSteps := 1000000) -dsimp (disch := (repeat first | rw [nxn] | rw [nxp]); try omega) only [go_sem, hqd, g0, g1, g5, e2]
    exact ⟨D.length - (k + 1), by omega, trivial, hv'.symm, trivial, k + 1, rfl, by omega, by omega, by rw [hct, tw], hmr5, rfl⟩
  ·have c3 : ¬ ((k : Nat) : Int) < ((D.length : Nat) : Int) := by omega
   have : k = D.length := by omega
   subst this
   rw [List.take_length] at hcp
   simp (maxSteps := 1000000) -dsimp (disch := (repeat first | rw [nxn] | rw [nxp]); try omega) only [go_sem, c3, g0, g1, g5, lv]
   exact ⟨trivial, .inl ⟨trivial, trivial, hmr, hcp⟩⟩
 ·simp (maxSteps := 1000000) -dsimp (disch := (repeat first | rw [nxn] | rw [nxp]); try omega) only [go_sem]
  exact ⟨trivial, trivial, trivial, 1, rfl, Nat.le_refl _, by omega, by cases D <;> simp [cpt, cptA], Mr.refl hm, rfl⟩
 ·rintro ex ⟨tt, g, d⟩ ⟨e9, ⟨rfl, g0, hmr, hcp⟩ | ⟨rfl, r, g4, hp, hn, ho⟩⟩
  ·dsimp only at e9 g0 hmr
   subst e9
   simp (maxSteps := 1000000) -dsimp (disch := (repeat first | rw [nxn] | rw [nxp]); try omega) only [go_sem, g0, ov]
   rw [hcp]
   exact ⟨hmr.m.ps, hmr.nx, hmr.ot⟩
  ·dsimp only at e9 g4 hp hn ho
   subst e9
   simp (maxSteps := 1000000) -dsimp (disch := (repeat first | rw [nxn] | rw [nxp]); try omega) only [go_sem, g4]
   exact ⟨hp, hn, ho⟩
end
end Go.Proofs.YtmphlckolampoaaGreatDoor.tbl
