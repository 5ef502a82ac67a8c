/- The law WalScans, walked: the program's scan and the document's find the same. Conditions: none beyond the stated premises. -/
import Derived.Test.YticccdaomgildaaGreatDoorWSb
namespace Go.Proofs.YticccdaomgildaaGreatDoor.walScans
open Go Go.Abs Go.Proofs
set_option maxRecDepth 100000
set_option linter.unusedVariables false
set_option linter.unusedSimpArgs false

section
variable {S : Sums}
theorem eqL_refl : ∀ (l : List Nat), eqL l l = true
  | [] => rfl
  | a :: l => by simp [eqL, eqL_refl l]
theorem ne_str (h : AH) (l : List Nat) : binA Tryz.prog h .neq 9 (.str l) (.str l) = some (.bool false) := by
  simp [binA, strA, eqL_refl]

set_option maxHeartbeats 4000000 in
theorem texts8 (hS : ∀ f args h, f ≠ 4 → S f args h = none) {h : AH} {n0 n1 : Nat} {x y : AV} {l : List (List Nat)} (hx : Ss n0 h x l) (hy : Ss n1 h y l) (hn : l.length ≤ 1048576) :
    RnC Tryz.prog S 8 [x, y] h fun r h' => r = .bool true ∧ Fr h h' := by
  refine RnC.enter' Tryz.f8 _ 26 [.tmp 4] (hS _ _ _ (by decide)) bd8 Tryz.func8 rfl rfl rfl ?_
  have nilcase : l = [] → x = .nilsl ∧ y = .nilsl ∨ ∃ id, (x = .sl id 0 l.length 1 none ∨ y = .sl id 0 l.length 1 none) := fun _ => by
    rcases hx with ⟨rfl, _⟩ | ⟨id, hh, _⟩
    · rcases hy with ⟨rfl, _⟩ | ⟨id, hh, _⟩
      · exact .inl ⟨rfl, rfl⟩
      · exact .inr ⟨id, .inr hh⟩
    · exact .inr ⟨id, .inl hh⟩
  rcases hx with ⟨rfl, rfl⟩ | ⟨idx, rfl, hgx, hix, _⟩
  · rcases hy with ⟨rfl, _⟩ | ⟨idy, rfl, hgy, hiy, _⟩
    · simp (maxSteps := 1000000) -dsimp (disch := first | omega | ((repeat first | rw [AH.nx_new] | rw [AH.nx_put]); done) | ((repeat first | rw [AH.nx_new] | rw [AH.nx_put]); omega)) only [go_sem, Int.reduceEq, Int.reduceNe, Int.reduceLT, Int.reduceLE, Int.reduceAdd, Int.reduceSub, Int.reduceMul, Int.reduceNeg, Int.reduceToNat, Nat.reducePow, reduceCtorEq, Nat.reduceEqDiff, Nat.reduceAdd, Nat.reduceLT, Nat.reduceLeDiff, Nat.reduceMul, Nat.reduceSub, Nat.reduceBEq, Int.reduceToNat, Tryz.underlying24]
      refine loopK_unroll ?_
      simp (maxSteps := 1000000) -dsimp (disch := first | omega | ((repeat first | rw [AH.nx_new] | rw [AH.nx_put]); done) | ((repeat first | rw [AH.nx_new] | rw [AH.nx_put]); omega)) only [go_sem, Int.reduceEq, Int.reduceNe, Int.reduceLT, Int.reduceLE, Int.reduceAdd, Int.reduceSub, Int.reduceMul, Int.reduceNeg, Int.reduceToNat, Nat.reducePow, reduceCtorEq, Nat.reduceEqDiff, Nat.reduceAdd, Nat.reduceLT, Nat.reduceLeDiff, Nat.reduceMul, Nat.reduceSub, Nat.reduceBEq, Int.reduceToNat, Tryz.underlying24]
      exact ⟨trivial, Fr.refl _⟩
    · simp (maxSteps := 1000000) -dsimp (disch := first | omega | ((repeat first | rw [AH.nx_new] | rw [AH.nx_put]); done) | ((repeat first | rw [AH.nx_new] | rw [AH.nx_put]); omega)) only [go_sem, Int.reduceEq, Int.reduceNe, Int.reduceLT, Int.reduceLE, Int.reduceAdd, Int.reduceSub, Int.reduceMul, Int.reduceNeg, Int.reduceToNat, Nat.reducePow, reduceCtorEq, Nat.reduceEqDiff, Nat.reduceAdd, Nat.reduceLT, Nat.reduceLeDiff, Nat.reduceMul, Nat.reduceSub, Nat.reduceBEq, Int.reduceToNat, Tryz.underlying24]
      refine loopK_unroll ?_
      simp (maxSteps := 1000000) -dsimp (disch := first | omega | ((repeat first | rw [AH.nx_new] | rw [AH.nx_put]); done) | ((repeat first | rw [AH.nx_new] | rw [AH.nx_put]); omega)) only [go_sem, Int.reduceEq, Int.reduceNe, Int.reduceLT, Int.reduceLE, Int.reduceAdd, Int.reduceSub, Int.reduceMul, Int.reduceNeg, Int.reduceToNat, Nat.reducePow, reduceCtorEq, Nat.reduceEqDiff, Nat.reduceAdd, Nat.reduceLT, Nat.reduceLeDiff, Nat.reduceMul, Nat.reduceSub, Nat.reduceBEq, Int.reduceToNat, Tryz.underlying24]
      exact ⟨trivial, Fr.refl _⟩
  · have hy2 : (y = .nilsl ∧ l = []) ∨ ∃ idy, y = .sl idy 0 l.length 1 none ∧ h.get idy = some (.cells (l.map AV.str) true false) ∧ idy < h.nx := by
      rcases hy with h1 | ⟨idy, h1, h2, h3, _⟩
      · exact .inl h1
      · exact .inr ⟨idy, h1, h2, h3⟩
    rcases hy2 with ⟨rfl, rfl⟩ | ⟨idy, rfl, hgy, hiy⟩
    · simp (maxSteps := 1000000) -dsimp (disch := first | omega | ((repeat first | rw [AH.nx_new] | rw [AH.nx_put]); done) | ((repeat first | rw [AH.nx_new] | rw [AH.nx_put]); omega)) only [go_sem, Int.reduceEq, Int.reduceNe, Int.reduceLT, Int.reduceLE, Int.reduceAdd, Int.reduceSub, Int.reduceMul, Int.reduceNeg, Int.reduceToNat, Nat.reducePow, reduceCtorEq, Nat.reduceEqDiff, Nat.reduceAdd, Nat.reduceLT, Nat.reduceLeDiff, Nat.reduceMul, Nat.reduceSub, Nat.reduceBEq, Int.reduceToNat, Tryz.underlying24]
      refine loopK_unroll ?_
      simp (maxSteps := 1000000) -dsimp (disch := first | omega | ((repeat first | rw [AH.nx_new] | rw [AH.nx_put]); done) | ((repeat first | rw [AH.nx_new] | rw [AH.nx_put]); omega)) only [go_sem, Int.reduceEq, Int.reduceNe, Int.reduceLT, Int.reduceLE, Int.reduceAdd, Int.reduceSub, Int.reduceMul, Int.reduceNeg, Int.reduceToNat, Nat.reducePow, reduceCtorEq, Nat.reduceEqDiff, Nat.reduceAdd, Nat.reduceLT, Nat.reduceLeDiff, Nat.reduceMul, Nat.reduceSub, Nat.reduceBEq, Int.reduceToNat, Tryz.underlying24]
      exact ⟨trivial, Fr.refl _⟩
    · simp (maxSteps := 1000000) -dsimp (disch := first | omega | ((repeat first | rw [AH.nx_new] | rw [AH.nx_put]); done) | ((repeat first | rw [AH.nx_new] | rw [AH.nx_put]); omega)) only [go_sem, Int.reduceEq, Int.reduceNe, Int.reduceLT, Int.reduceLE, Int.reduceAdd, Int.reduceSub, Int.reduceMul, Int.reduceNeg, Int.reduceToNat, Nat.reducePow, reduceCtorEq, Nat.reduceEqDiff, Nat.reduceAdd, Nat.reduceLT, Nat.reduceLeDiff, Nat.reduceMul, Nat.reduceSub, Nat.reduceBEq, Int.reduceToNat, Tryz.underlying24]
      refine loopK_of (RnL.rounds (Q := fun ex s => ex = .exit 0 ∧ Fr h s.h ∧ s.d = [])
        (fun m s => Fr h s.h ∧ s.d = [] ∧ s.t.get 0 = some (.sl idx 0 l.length 1 none) ∧ s.t.get 1 = some (.sl idy 0 l.length 1 none) ∧ ∃ i : Nat, s.t.get 5 = some (.int .i64 (i : Nat)) ∧ i ≤ l.length ∧ m = l.length - i) ?_ l.length ?_) ?_
      · rintro m ⟨t, h1, d⟩ ⟨e1, e2, g0, g1, i, g5, hi, rfl⟩
        dsimp only at e1 e2 g0 g1 g5
        subst e2
        by_cases c1 : (i : Int) < (l.length : Nat)
        · have hil : i < l.length := by omega
          obtain ⟨p, hp⟩ : ∃ p, l[i]? = some p := ⟨_, List.getElem?_eq_getElem hil⟩
          have q := strs_get hp
          have hg1 : h1.get idx = some (.cells (l.map AV.str) true false) := (e1.get idx hix).trans hgx
          have hg2 : h1.get idy = some (.cells (l.map AV.str) true false) := (e1.get idy hiy).trans hgy
          simp (maxSteps := 1000000) -dsimp (disch := first | omega | ((repeat first | rw [AH.nx_new] | rw [AH.nx_put]); done) | ((repeat first | rw [AH.nx_new] | rw [AH.nx_put]); omega)) only [go_sem, Int.reduceEq, Int.reduceNe, Int.reduceLT, Int.reduceLE, Int.reduceAdd, Int.reduceSub, Int.reduceMul, Int.reduceNeg, Int.reduceToNat, Nat.reducePow, reduceCtorEq, Nat.reduceEqDiff, Nat.reduceAdd, Nat.reduceLT, Nat.reduceLeDiff, Nat.reduceMul, Nat.reduceSub, Nat.reduceBEq, Int.reduceToNat, c1, g0, g1, g5, Tryz.underlying24]
          refine syDraw.go0 (by kernel_rfl) ?_
          simp (maxSteps := 1000000) -dsimp (disch := first | omega | ((repeat first | rw [AH.nx_new] | rw [AH.nx_put]); done) | ((repeat first | rw [AH.nx_new] | rw [AH.nx_put]); omega)) only [go_sem, Int.reduceEq, Int.reduceNe, Int.reduceLT, Int.reduceLE, Int.reduceAdd, Int.reduceSub, Int.reduceMul, Int.reduceNeg, Int.reduceToNat, Nat.reducePow, reduceCtorEq, Nat.reduceEqDiff, Nat.reduceAdd, Nat.reduceLT, Nat.reduceLeDiff, Nat.reduceMul, Nat.reduceSub, Nat.reduceBEq, Int.reduceToNat, c1, g0, g1, g5, Tryz.underlying24, Tryz.underlying9, tz9, hg1, hg2, q, ne_str, Nat.mul_one]
          refine ⟨l.length - (i + 1), by omega, e1.more _ (by omega), trivial, trivial, trivial, i + 1, rfl, by omega, rfl⟩
        · simp (maxSteps := 1000000) -dsimp (disch := first | omega | ((repeat first | rw [AH.nx_new] | rw [AH.nx_put]); done) | ((repeat first | rw [AH.nx_new] | rw [AH.nx_put]); omega)) only [go_sem, Int.reduceEq, Int.reduceNe, Int.reduceLT, Int.reduceLE, Int.reduceAdd, Int.reduceSub, Int.reduceMul, Int.reduceNeg, Int.reduceToNat, Nat.reducePow, reduceCtorEq, Nat.reduceEqDiff, Nat.reduceAdd, Nat.reduceLT, Nat.reduceLeDiff, Nat.reduceMul, Nat.reduceSub, Nat.reduceBEq, Int.reduceToNat, c1, g0, g1, g5, Tryz.underlying24]
          exact ⟨trivial, e1, trivial⟩
      · simp (maxSteps := 1000000) -dsimp (disch := first | omega | ((repeat first | rw [AH.nx_new] | rw [AH.nx_put]); done) | ((repeat first | rw [AH.nx_new] | rw [AH.nx_put]); omega)) only [go_sem, Int.reduceEq, Int.reduceNe, Int.reduceLT, Int.reduceLE, Int.reduceAdd, Int.reduceSub, Int.reduceMul, Int.reduceNeg, Int.reduceToNat, Nat.reducePow, reduceCtorEq, Nat.reduceEqDiff, Nat.reduceAdd, Nat.reduceLT, Nat.reduceLeDiff, Nat.reduceMul, Nat.reduceSub, Nat.reduceBEq, Int.reduceToNat]
        exact ⟨Fr.refl _, trivial, trivial, trivial, 0, rfl, Nat.zero_le _, rfl⟩
      · rintro ex ⟨t, h1, d⟩ ⟨rfl, e1, rfl⟩
        dsimp only at e1
        simp (maxSteps := 1000000) -dsimp (disch := first | omega | ((repeat first | rw [AH.nx_new] | rw [AH.nx_put]); done) | ((repeat first | rw [AH.nx_new] | rw [AH.nx_put]); omega)) only [go_sem, Int.reduceEq, Int.reduceNe, Int.reduceLT, Int.reduceLE, Int.reduceAdd, Int.reduceSub, Int.reduceMul, Int.reduceNeg, Int.reduceToNat, Nat.reducePow, reduceCtorEq, Nat.reduceEqDiff, Nat.reduceAdd, Nat.reduceLT, Nat.reduceLeDiff, Nat.reduceMul, Nat.reduceSub, Nat.reduceBEq, Int.reduceToNat]
        exact ⟨trivial, e1⟩

set_option maxHeartbeats 4000000 in
theorem own6 (hS : ∀ f args h, f ≠ 4 → S f args h = none) {h : AH} {v : AV} {l : List Nat} (hb : Bs h v l) (hn : l.length ≤ 1048576) :
    RnC Tryz.prog S 6 [v] h fun r h' => Bs h' r l ∧ Fr h h' := by
  refine RnC.enter' Tryz.f6 _ 6 [.tmp 2] (hS _ _ _ (by decide)) bd6 Tryz.func6 rfl rfl rfl ?_
  obtain ⟨w, h2, ha, hf, hw, ho⟩ := Bs.own (P := Tryz.prog) (h := h.new (.cells [] true true)) (id := h.nx) (cs0 := []) (o := true) (t := true) Tryz.underlying22 ai5 (by decide) (hb.fr (Fr.new _ _)) (by omega) (AH.get_new_eq rfl) (Nat.lt_succ_self _)
  simp (maxSteps := 1000000) -dsimp (disch := first | omega | ((repeat first | rw [AH.nx_new] | rw [AH.nx_put]); done) | ((repeat first | rw [AH.nx_new] | rw [AH.nx_put]); omega)) only [go_sem, Int.reduceEq, Int.reduceNe, Int.reduceLT, Int.reduceLE, Int.reduceAdd, Int.reduceSub, Int.reduceMul, Int.reduceNeg, Int.reduceToNat, Nat.reducePow, reduceCtorEq, Nat.reduceEqDiff, Nat.reduceAdd, Nat.reduceLT, Nat.reduceLeDiff, Nat.reduceMul, Nat.reduceSub, Nat.reduceBEq, Int.reduceToNat, Tryz.underlying22, Tryz.underlying5, tz5, zc5, ha]
  exact ⟨hw, (Fr.new _ _).trans hf⟩

theorem tot_bound : ∀ (f : Nat) (l : List Nat), (scn f l).1.length ≤ l.length ∧ (scn f l).2.1 ≤ l.length
  | 0, l => ⟨Nat.zero_le _, Nat.zero_le _⟩
  | f + 1, l => by
    unfold scn
    split
    · rename_i h0
      obtain ⟨_, h2⟩ := unfE_ok h0
      obtain ⟨i1, i2⟩ := tot_bound f (l.drop (told l + 8))
      rw [List.length_drop] at i1 i2
      exact ⟨by simp only [List.length_cons]; omega, by simp only; omega⟩
    · split
      · exact ⟨Nat.zero_le _, Nat.zero_le _⟩
      · exact ⟨Nat.zero_le _, Nat.zero_le _⟩

set_option maxHeartbeats 4000000 in
theorem law (hS : ∀ f args h, f ≠ 4 → S f args h = none) (hL : ∀ h, S 4 [] h = some (.bool true, h)) {h : AH} {v : AV} {l : List Nat} (hb : Bs h v l) (hl : ∀ b ∈ l, b < 256) (hm : l.length ≤ maxLen) :
    RnC Tryz.prog S 3 [v] h fun r _ => r = .bool true := by
  refine RnC.enter' Tryz.f3 _ 40 [.tmp 2] (hS _ _ _ (by decide)) bd3 Tryz.func3 rfl rfl rfl ?_
  simp (maxSteps := 1000000) -dsimp (disch := first | omega | ((repeat first | rw [AH.nx_new] | rw [AH.nx_put]); done) | ((repeat first | rw [AH.nx_new] | rw [AH.nx_put]); omega)) only [go_sem, Int.reduceEq, Int.reduceNe, Int.reduceLT, Int.reduceLE, Int.reduceAdd, Int.reduceSub, Int.reduceMul, Int.reduceNeg, Int.reduceToNat, Nat.reducePow, reduceCtorEq, Nat.reduceEqDiff, Nat.reduceAdd, Nat.reduceLT, Nat.reduceLeDiff, Nat.reduceMul, Nat.reduceSub, Nat.reduceBEq, Int.reduceToNat]
  refine callK_of (RnC.sum (hL _) (Q := fun v h' => v = .bool true ∧ h' = h) ⟨rfl, rfl⟩) ?_
  rintro r g ⟨rfl, hg0⟩
  obtain rfl : h = g := hg0.symm
  have key : evLen Tryz.prog h #[22] v = some (.int .i64 (l.length : Nat)) := by
    rcases hb with ⟨rfl, rfl⟩ | ⟨id, off, c, cs, o, tx, rfl, _⟩
    · simp [evLen, Tryz.underlying22]
    · simp [evLen, Tryz.underlying22]
  by_cases c1 : (3000 : Int) < (l.length : Nat)
  · rcases hb with ⟨rfl, rfl⟩ | ⟨id, off, c, cs, o, tx, rfl, _⟩
    · simp at c1
    · simp (maxSteps := 1000000) -dsimp (disch := first | omega | ((repeat first | rw [AH.nx_new] | rw [AH.nx_put]); done) | ((repeat first | rw [AH.nx_new] | rw [AH.nx_put]); omega)) only [go_sem, Int.reduceEq, Int.reduceNe, Int.reduceLT, Int.reduceLE, Int.reduceAdd, Int.reduceSub, Int.reduceMul, Int.reduceNeg, Int.reduceToNat, Nat.reducePow, reduceCtorEq, Nat.reduceEqDiff, Nat.reduceAdd, Nat.reduceLT, Nat.reduceLeDiff, Nat.reduceMul, Nat.reduceSub, Nat.reduceBEq, Int.reduceToNat, c1, Tryz.underlying22]
  · have hn : l.length ≤ 1048576 := by omega
    have hb0 := hb
    obtain ⟨i1, i2⟩ := tot_bound (l.length + 1) l
    rcases hb with ⟨rfl, rfl⟩ | ⟨id, off, c, cs, o, tx, rfl, _⟩
    · simp (maxSteps := 1000000) -dsimp (disch := first | omega | ((repeat first | rw [AH.nx_new] | rw [AH.nx_put]); done) | ((repeat first | rw [AH.nx_new] | rw [AH.nx_put]); omega)) only [go_sem, Int.reduceEq, Int.reduceNe, Int.reduceLT, Int.reduceLE, Int.reduceAdd, Int.reduceSub, Int.reduceMul, Int.reduceNeg, Int.reduceToNat, Nat.reducePow, reduceCtorEq, Nat.reduceEqDiff, Nat.reduceAdd, Nat.reduceLT, Nat.reduceLeDiff, Nat.reduceMul, Nat.reduceSub, Nat.reduceBEq, Int.reduceToNat, Tryz.underlying22]
      refine callK_of (own6 hS hb0 hn) ?_
      rintro r h1 ⟨hb1, hf1⟩
      refine callK_of (scan5 hS hb1 hl hn) ?_
      rintro r h2 ⟨sv, rfl, hs2, hf2⟩
      simp (maxSteps := 1000000) -dsimp (disch := first | omega | ((repeat first | rw [AH.nx_new] | rw [AH.nx_put]); done) | ((repeat first | rw [AH.nx_new] | rw [AH.nx_put]); omega)) only [go_sem, Int.reduceEq, Int.reduceNe, Int.reduceLT, Int.reduceLE, Int.reduceAdd, Int.reduceSub, Int.reduceMul, Int.reduceNeg, Int.reduceToNat, Nat.reducePow, reduceCtorEq, Nat.reduceEqDiff, Nat.reduceAdd, Nat.reduceLT, Nat.reduceLeDiff, Nat.reduceMul, Nat.reduceSub, Nat.reduceBEq, Int.reduceToNat]
      refine callK_of (scan7 hS (hb0.fr (hf1.trans hf2)) hl hn) ?_
      rintro r h3 ⟨su, rfl, hs3, hf3⟩
      simp (maxSteps := 1000000) -dsimp (disch := first | omega | ((repeat first | rw [AH.nx_new] | rw [AH.nx_put]); done) | ((repeat first | rw [AH.nx_new] | rw [AH.nx_put]); omega)) only [go_sem, Int.reduceEq, Int.reduceNe, Int.reduceLT, Int.reduceLE, Int.reduceAdd, Int.reduceSub, Int.reduceMul, Int.reduceNeg, Int.reduceToNat, Nat.reducePow, reduceCtorEq, Nat.reduceEqDiff, Nat.reduceAdd, Nat.reduceLT, Nat.reduceLeDiff, Nat.reduceMul, Nat.reduceSub, Nat.reduceBEq, Int.reduceToNat]
      refine callK_of (texts8 hS (hs2.fr hf3) hs3 (Nat.le_trans i1 hn)) ?_
      rintro r h4 ⟨rfl, hf4⟩
      simp (maxSteps := 1000000) -dsimp (disch := first | omega | ((repeat first | rw [AH.nx_new] | rw [AH.nx_put]); done) | ((repeat first | rw [AH.nx_new] | rw [AH.nx_put]); omega)) only [go_sem, Int.reduceEq, Int.reduceNe, Int.reduceLT, Int.reduceLE, Int.reduceAdd, Int.reduceSub, Int.reduceMul, Int.reduceNeg, Int.reduceToNat, Nat.reducePow, reduceCtorEq, Nat.reduceEqDiff, Nat.reduceAdd, Nat.reduceLT, Nat.reduceLeDiff, Nat.reduceMul, Nat.reduceSub, Nat.reduceBEq, Int.reduceToNat]
    · simp (maxSteps := 1000000) -dsimp (disch := first | omega | ((repeat first | rw [AH.nx_new] | rw [AH.nx_put]); done) | ((repeat first | rw [AH.nx_new] | rw [AH.nx_put]); omega)) only [go_sem, Int.reduceEq, Int.reduceNe, Int.reduceLT, Int.reduceLE, Int.reduceAdd, Int.reduceSub, Int.reduceMul, Int.reduceNeg, Int.reduceToNat, Nat.reducePow, reduceCtorEq, Nat.reduceEqDiff, Nat.reduceAdd, Nat.reduceLT, Nat.reduceLeDiff, Nat.reduceMul, Nat.reduceSub, Nat.reduceBEq, Int.reduceToNat, c1, Tryz.underlying22]
      refine callK_of (own6 hS hb0 hn) ?_
      rintro r h1 ⟨hb1, hf1⟩
      refine callK_of (scan5 hS hb1 hl hn) ?_
      rintro r h2 ⟨sv, rfl, hs2, hf2⟩
      simp (maxSteps := 1000000) -dsimp (disch := first | omega | ((repeat first | rw [AH.nx_new] | rw [AH.nx_put]); done) | ((repeat first | rw [AH.nx_new] | rw [AH.nx_put]); omega)) only [go_sem, Int.reduceEq, Int.reduceNe, Int.reduceLT, Int.reduceLE, Int.reduceAdd, Int.reduceSub, Int.reduceMul, Int.reduceNeg, Int.reduceToNat, Nat.reducePow, reduceCtorEq, Nat.reduceEqDiff, Nat.reduceAdd, Nat.reduceLT, Nat.reduceLeDiff, Nat.reduceMul, Nat.reduceSub, Nat.reduceBEq, Int.reduceToNat]
      refine callK_of (scan7 hS (hb0.fr (hf1.trans hf2)) hl hn) ?_
      rintro r h3 ⟨su, rfl, hs3, hf3⟩
      simp (maxSteps := 1000000) -dsimp (disch := first | omega | ((repeat first | rw [AH.nx_new] | rw [AH.nx_put]); done) | ((repeat first | rw [AH.nx_new] | rw [AH.nx_put]); omega)) only [go_sem, Int.reduceEq, Int.reduceNe, Int.reduceLT, Int.reduceLE, Int.reduceAdd, Int.reduceSub, Int.reduceMul, Int.reduceNeg, Int.reduceToNat, Nat.reducePow, reduceCtorEq, Nat.reduceEqDiff, Nat.reduceAdd, Nat.reduceLT, Nat.reduceLeDiff, Nat.reduceMul, Nat.reduceSub, Nat.reduceBEq, Int.reduceToNat]
      refine callK_of (texts8 hS (hs2.fr hf3) hs3 (Nat.le_trans i1 hn)) ?_
      rintro r h4 ⟨rfl, hf4⟩
      simp (maxSteps := 1000000) -dsimp (disch := first | omega | ((repeat first | rw [AH.nx_new] | rw [AH.nx_put]); done) | ((repeat first | rw [AH.nx_new] | rw [AH.nx_put]); omega)) only [go_sem, Int.reduceEq, Int.reduceNe, Int.reduceLT, Int.reduceLE, Int.reduceAdd, Int.reduceSub, Int.reduceMul, Int.reduceNeg, Int.reduceToNat, Nat.reducePow, reduceCtorEq, Nat.reduceEqDiff, Nat.reduceAdd, Nat.reduceLT, Nat.reduceLeDiff, Nat.reduceMul, Nat.reduceSub, Nat.reduceBEq, Int.reduceToNat]
end
end Go.Proofs.YticccdaomgildaaGreatDoor.walScans
