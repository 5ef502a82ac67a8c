/- What the functions that the law WalScans calls compute over bytes, continued: the frame at the beginning, and all whole frames. Conditions: none beyond the stated premises. -/
import Derived.Test.YticccdaomgildaaGreatDoorWSa
namespace Go.Proofs.YticccdaomgildaaGreatDoor.walScans
open Go Go.Abs Go.Proofs
set_option maxRecDepth 100000
set_option linter.unusedVariables false
set_option linter.unusedSimpArgs false

section
variable {S : Sums}

theorem unf_short {l : List Nat} (h : l.length < 4) : unfE l = 5 := by unfold unfE; rw [if_pos h]
theorem unf_long {l : List Nat} (h4 : 4 ≤ l.length) (h : 1048576 < told l) : unfE l = 4 := by unfold unfE; rw [if_neg (by omega), if_pos h]
theorem unf_more {l : List Nat} (h4 : 4 ≤ l.length) (h : told l ≤ 1048576) (hm : l.length < told l + 8) : unfE l = 5 := by unfold unfE; rw [if_neg (by omega), if_neg (by omega), if_pos hm]
theorem unf_sum {l : List Nat} (h4 : 4 ≤ l.length) (h : told l ≤ 1048576) (hm : told l + 8 ≤ l.length) : unfE l = if told (l.drop (told l + 4)) = sum (l.take (told l + 4)) then 0 else 4 := by
  unfold unfE; rw [if_neg (by omega), if_neg (by omega), if_neg (by omega)]

set_option maxHeartbeats 8000000 in
theorem unf15 (hS : ∀ f args h, f ≠ 4 → S f args h = none) {h : AH} {v : AV} {l : List Nat} (hb : Bs h v l) (hl : ∀ b ∈ l, b < 256) (hn : l.length ≤ 1099511627776) :
    RnC Tryz.prog S 15 [v] h fun r h' => r = .tup [.str (upc l), .int .i64 (upn l : Nat), .int .i64 (unfE l : Nat)] ∧ Fr h h' := by
  refine RnC.enter' Tryz.f15 _ 37 [.tmp 2, .tmp 3, .tmp 4] (hS _ _ _ (by decide)) bd15 Tryz.func15 rfl rfl rfl ?_
  have hb0 := hb
  rcases hb with ⟨rfl, rfl⟩ | ⟨id, off, c, cs, o, tx, rfl, hg, hid, hlen, hc, hx⟩
  · simp (maxSteps := 1000000) -dsimp (disch := first | omega | ((repeat first | rw [AH.nx_new] | rw [AH.nx_put]); done) | ((repeat first | rw [AH.nx_new] | rw [AH.nx_put]); omega)) only [go_sem, Int.reduceEq, Int.reduceNe, Int.reduceLT, Int.reduceLE, Int.reduceAdd, Int.reduceSub, Int.reduceMul, Int.reduceNeg, Int.reduceToNat, Nat.reducePow, reduceCtorEq, Nat.reduceEqDiff, Nat.reduceAdd, Nat.reduceLT, Nat.reduceLeDiff, Nat.reduceMul, Nat.reduceSub, Nat.reduceBEq, Int.reduceToNat, Tryz.underlying22, bytes0]
    exact ⟨rfl, Fr.refl _⟩
  · by_cases c1 : (l.length : Int) < 4
    · simp (maxSteps := 1000000) -dsimp (disch := first | omega | ((repeat first | rw [AH.nx_new] | rw [AH.nx_put]); done) | ((repeat first | rw [AH.nx_new] | rw [AH.nx_put]); omega)) only [go_sem, Int.reduceEq, Int.reduceNe, Int.reduceLT, Int.reduceLE, Int.reduceAdd, Int.reduceSub, Int.reduceMul, Int.reduceNeg, Int.reduceToNat, Nat.reducePow, reduceCtorEq, Nat.reduceEqDiff, Nat.reduceAdd, Nat.reduceLT, Nat.reduceLeDiff, Nat.reduceMul, Nat.reduceSub, Nat.reduceBEq, Int.reduceToNat, Tryz.underlying22, bytes0, c1]
      have k := unf_short (l := l) (by omega)
      exact ⟨by simp only [upc, upn, k]; rfl, Fr.refl _⟩
    · have h4 : 4 ≤ l.length := by omega
      simp (maxSteps := 1000000) -dsimp (disch := first | omega | ((repeat first | rw [AH.nx_new] | rw [AH.nx_put]); done) | ((repeat first | rw [AH.nx_new] | rw [AH.nx_put]); omega)) only [go_sem, Int.reduceEq, Int.reduceNe, Int.reduceLT, Int.reduceLE, Int.reduceAdd, Int.reduceSub, Int.reduceMul, Int.reduceNeg, Int.reduceToNat, Nat.reducePow, reduceCtorEq, Nat.reduceEqDiff, Nat.reduceAdd, Nat.reduceLT, Nat.reduceLeDiff, Nat.reduceMul, Nat.reduceSub, Nat.reduceBEq, Int.reduceToNat, Tryz.underlying22, bytes0, c1]
      refine callK_of (told37 hS hb0 h4 hl) ?_
      rintro r h1 ⟨rfl, hf1⟩
      by_cases c2 : (1048576 : Int) < (told l : Nat)
      · simp (maxSteps := 1000000) -dsimp (disch := first | omega | ((repeat first | rw [AH.nx_new] | rw [AH.nx_put]); done) | ((repeat first | rw [AH.nx_new] | rw [AH.nx_put]); omega)) only [go_sem, Int.reduceEq, Int.reduceNe, Int.reduceLT, Int.reduceLE, Int.reduceAdd, Int.reduceSub, Int.reduceMul, Int.reduceNeg, Int.reduceToNat, Nat.reducePow, reduceCtorEq, Nat.reduceEqDiff, Nat.reduceAdd, Nat.reduceLT, Nat.reduceLeDiff, Nat.reduceMul, Nat.reduceSub, Nat.reduceBEq, Int.reduceToNat, c2, bytes0]
        have k := unf_long h4 (by omega)
        exact ⟨by simp only [upc, upn, k]; rfl, hf1⟩
      · by_cases c3 : (l.length : Int) < ((told l : Nat) : Int) + 8
        · simp (maxSteps := 1000000) -dsimp (disch := first | omega | ((repeat first | rw [AH.nx_new] | rw [AH.nx_put]); done) | ((repeat first | rw [AH.nx_new] | rw [AH.nx_put]); omega)) only [go_sem, Int.reduceEq, Int.reduceNe, Int.reduceLT, Int.reduceLE, Int.reduceAdd, Int.reduceSub, Int.reduceMul, Int.reduceNeg, Int.reduceToNat, Nat.reducePow, reduceCtorEq, Nat.reduceEqDiff, Nat.reduceAdd, Nat.reduceLT, Nat.reduceLeDiff, Nat.reduceMul, Nat.reduceSub, Nat.reduceBEq, Int.reduceToNat, c2, c3, bytes0, cv76, Tryz.underlying22]
          have k := unf_more h4 (by omega) (by omega)
          exact ⟨by simp only [upc, upn, k]; rfl, hf1⟩
        · simp (maxSteps := 1000000) -dsimp (disch := first | omega | ((repeat first | rw [AH.nx_new] | rw [AH.nx_put]); done) | ((repeat first | rw [AH.nx_new] | rw [AH.nx_put]); omega)) only [go_sem, Int.reduceEq, Int.reduceNe, Int.reduceLT, Int.reduceLE, Int.reduceAdd, Int.reduceSub, Int.reduceMul, Int.reduceNeg, Int.reduceToNat, Nat.reducePow, reduceCtorEq, Nat.reduceEqDiff, Nat.reduceAdd, Nat.reduceLT, Nat.reduceLeDiff, Nat.reduceMul, Nat.reduceSub, Nat.reduceBEq, Int.reduceToNat, c2, c3, bytes0, cv76, Tryz.underlying22]
          refine syDraw.go0 (by kernel_rfl) ?_
          have k := unf_sum h4 (by omega) (by omega)
          obtain ⟨v1, s1, b1, w1, _⟩ := (hb0.fr hf1).slice_from Tryz.underlying22 tz5 (lo := told l + 4) (by omega)
          obtain ⟨v2, s2, b2, w2, _⟩ := (hb0.fr hf1).slice_to Tryz.underlying22 tz5 (hi := told l + 4) (by omega)
          obtain ⟨v3, s3, b3, w3, _⟩ := (hb0.fr hf1).slice_mid Tryz.underlying22 tz5 (lo := 4) (hi := told l + 4) (by omega) (by omega)
          have e4 : ((told l + 4 : Nat) : Int) = ((told l : Nat) : Int) + 8 - 4 := by omega
          rw [e4] at s1 s2 s3
          rw [show ((4 : Nat) : Int) = 4 from rfl] at s3
          simp (maxSteps := 1000000) -dsimp (disch := first | omega | ((repeat first | rw [AH.nx_new] | rw [AH.nx_put]); done) | ((repeat first | rw [AH.nx_new] | rw [AH.nx_put]); omega)) only [go_sem, Int.reduceEq, Int.reduceNe, Int.reduceLT, Int.reduceLE, Int.reduceAdd, Int.reduceSub, Int.reduceMul, Int.reduceNeg, Int.reduceToNat, Nat.reducePow, reduceCtorEq, Nat.reduceEqDiff, Nat.reduceAdd, Nat.reduceLT, Nat.reduceLeDiff, Nat.reduceMul, Nat.reduceSub, Nat.reduceBEq, Int.reduceToNat, c2, c3, bytes0, cv76, Tryz.underlying22, s1]
          refine callK_of (told37 hS (b1.fr ((Fr.refl h1).more _ (by omega))) (by simp; omega) (fun b hm => hl b (List.mem_of_mem_drop hm))) ?_
          rintro r h2 ⟨rfl, hf2⟩
          simp (maxSteps := 1000000) -dsimp (disch := first | omega | ((repeat first | rw [AH.nx_new] | rw [AH.nx_put]); done) | ((repeat first | rw [AH.nx_new] | rw [AH.nx_put]); omega)) only [go_sem, Int.reduceEq, Int.reduceNe, Int.reduceLT, Int.reduceLE, Int.reduceAdd, Int.reduceSub, Int.reduceMul, Int.reduceNeg, Int.reduceToNat, Nat.reducePow, reduceCtorEq, Nat.reduceEqDiff, Nat.reduceAdd, Nat.reduceLT, Nat.reduceLeDiff, Nat.reduceMul, Nat.reduceSub, Nat.reduceBEq, Int.reduceToNat, c2, c3, bytes0, cv76, Tryz.underlying22, s2]
          refine callK_of (sum38 hS (b2.fr (((Fr.refl h1).more _ (by omega)).trans hf2)) (fun b hm => hl b (List.mem_of_mem_take hm)) (by simp; omega)) ?_
          rintro r h3 ⟨rfl, hf3⟩
          have hfa : Fr h h3 := ((hf1.more _ (by omega)).trans hf2).trans hf3
          by_cases c4 : told (l.drop (told l + 4)) = sum (l.take (told l + 4))
          · have c4' : ((told (l.drop (told l + 4)) : Nat) : Int) = ((sum (l.take (told l + 4)) : Nat) : Int) := by rw [c4]
            rw [if_pos c4] at k
            have tx3 := (b3.fr (((Fr.refl h1).more _ (by omega)).trans (hf2.trans hf3))).text Tryz.underlying22 Tryz.underlying5 Tryz.underlying9 (fun b hm => hl b (List.mem_of_mem_take (List.mem_of_mem_drop hm)))
            simp (maxSteps := 1000000) -dsimp (disch := first | omega | ((repeat first | rw [AH.nx_new] | rw [AH.nx_put]); done) | ((repeat first | rw [AH.nx_new] | rw [AH.nx_put]); omega)) only [go_sem, Int.reduceEq, Int.reduceNe, Int.reduceLT, Int.reduceLE, Int.reduceAdd, Int.reduceSub, Int.reduceMul, Int.reduceNeg, Int.reduceToNat, Nat.reducePow, reduceCtorEq, Nat.reduceEqDiff, Nat.reduceAdd, Nat.reduceLT, Nat.reduceLeDiff, Nat.reduceMul, Nat.reduceSub, Nat.reduceBEq, Int.reduceToNat, c4', s3, tx3, Tryz.underlying22]
            refine ⟨?_, hfa⟩
            · simp only [upc, upn, k, if_true]
              rfl
          · have c4' : ¬ ((told (l.drop (told l + 4)) : Nat) : Int) = ((sum (l.take (told l + 4)) : Nat) : Int) := by omega
            rw [if_neg c4] at k
            simp (maxSteps := 1000000) -dsimp (disch := first | omega | ((repeat first | rw [AH.nx_new] | rw [AH.nx_put]); done) | ((repeat first | rw [AH.nx_new] | rw [AH.nx_put]); omega)) only [go_sem, Int.reduceEq, Int.reduceNe, Int.reduceLT, Int.reduceLE, Int.reduceAdd, Int.reduceSub, Int.reduceMul, Int.reduceNeg, Int.reduceToNat, Nat.reducePow, reduceCtorEq, Nat.reduceEqDiff, Nat.reduceAdd, Nat.reduceLT, Nat.reduceLeDiff, Nat.reduceMul, Nat.reduceSub, Nat.reduceBEq, Int.reduceToNat, c4', bytes0]
            refine ⟨?_, hfa⟩
            · simp only [upc, upn, k]
              rfl

set_option maxHeartbeats 8000000 in
theorem unf16 (hS : ∀ f args h, f ≠ 4 → S f args h = none) {h : AH} {v : AV} {l : List Nat} (hb : Bs h v l) (hl : ∀ b ∈ l, b < 256) (hn : l.length ≤ 1099511627776) :
    RnC Tryz.prog S 16 [v] h fun r h' => r = .tup [.str (upc l), .int .i64 (upn l : Nat), .int .i64 (unfE l : Nat)] ∧ Fr h h' := by
  refine RnC.enter' Tryz.f16 _ 38 [.tmp 2, .tmp 3, .tmp 4] (hS _ _ _ (by decide)) bd16 Tryz.func16 rfl rfl rfl ?_
  have hb0 := hb
  rcases hb with ⟨rfl, rfl⟩ | ⟨id, off, c, cs, o, tx, rfl, hg, hid, hlen, hc, hx⟩
  · simp (maxSteps := 1000000) -dsimp (disch := first | omega | ((repeat first | rw [AH.nx_new] | rw [AH.nx_put]); done) | ((repeat first | rw [AH.nx_new] | rw [AH.nx_put]); omega)) only [go_sem, Int.reduceEq, Int.reduceNe, Int.reduceLT, Int.reduceLE, Int.reduceAdd, Int.reduceSub, Int.reduceMul, Int.reduceNeg, Int.reduceToNat, Nat.reducePow, reduceCtorEq, Nat.reduceEqDiff, Nat.reduceAdd, Nat.reduceLT, Nat.reduceLeDiff, Nat.reduceMul, Nat.reduceSub, Nat.reduceBEq, Int.reduceToNat, Tryz.underlying22, bytes0]
    exact ⟨rfl, Fr.refl _⟩
  · by_cases c1 : (l.length : Int) < 4
    · simp (maxSteps := 1000000) -dsimp (disch := first | omega | ((repeat first | rw [AH.nx_new] | rw [AH.nx_put]); done) | ((repeat first | rw [AH.nx_new] | rw [AH.nx_put]); omega)) only [go_sem, Int.reduceEq, Int.reduceNe, Int.reduceLT, Int.reduceLE, Int.reduceAdd, Int.reduceSub, Int.reduceMul, Int.reduceNeg, Int.reduceToNat, Nat.reducePow, reduceCtorEq, Nat.reduceEqDiff, Nat.reduceAdd, Nat.reduceLT, Nat.reduceLeDiff, Nat.reduceMul, Nat.reduceSub, Nat.reduceBEq, Int.reduceToNat, Tryz.underlying22, bytes0, c1]
      have k := unf_short (l := l) (by omega)
      exact ⟨by simp only [upc, upn, k]; rfl, Fr.refl _⟩
    · have h4 : 4 ≤ l.length := by omega
      simp (maxSteps := 1000000) -dsimp (disch := first | omega | ((repeat first | rw [AH.nx_new] | rw [AH.nx_put]); done) | ((repeat first | rw [AH.nx_new] | rw [AH.nx_put]); omega)) only [go_sem, Int.reduceEq, Int.reduceNe, Int.reduceLT, Int.reduceLE, Int.reduceAdd, Int.reduceSub, Int.reduceMul, Int.reduceNeg, Int.reduceToNat, Nat.reducePow, reduceCtorEq, Nat.reduceEqDiff, Nat.reduceAdd, Nat.reduceLT, Nat.reduceLeDiff, Nat.reduceMul, Nat.reduceSub, Nat.reduceBEq, Int.reduceToNat, Tryz.underlying22, bytes0, c1]
      refine callK_of (told39 hS hb0 h4 hl) ?_
      rintro r h1 ⟨rfl, hf1⟩
      by_cases c2 : (1048576 : Int) < (told l : Nat)
      · simp (maxSteps := 1000000) -dsimp (disch := first | omega | ((repeat first | rw [AH.nx_new] | rw [AH.nx_put]); done) | ((repeat first | rw [AH.nx_new] | rw [AH.nx_put]); omega)) only [go_sem, Int.reduceEq, Int.reduceNe, Int.reduceLT, Int.reduceLE, Int.reduceAdd, Int.reduceSub, Int.reduceMul, Int.reduceNeg, Int.reduceToNat, Nat.reducePow, reduceCtorEq, Nat.reduceEqDiff, Nat.reduceAdd, Nat.reduceLT, Nat.reduceLeDiff, Nat.reduceMul, Nat.reduceSub, Nat.reduceBEq, Int.reduceToNat, c2, bytes0]
        have k := unf_long h4 (by omega)
        exact ⟨by simp only [upc, upn, k]; rfl, hf1⟩
      · by_cases c3 : (l.length : Int) - 8 < ((told l : Nat) : Int)
        · simp (maxSteps := 1000000) -dsimp (disch := first | omega | ((repeat first | rw [AH.nx_new] | rw [AH.nx_put]); done) | ((repeat first | rw [AH.nx_new] | rw [AH.nx_put]); omega)) only [go_sem, Int.reduceEq, Int.reduceNe, Int.reduceLT, Int.reduceLE, Int.reduceAdd, Int.reduceSub, Int.reduceMul, Int.reduceNeg, Int.reduceToNat, Nat.reducePow, reduceCtorEq, Nat.reduceEqDiff, Nat.reduceAdd, Nat.reduceLT, Nat.reduceLeDiff, Nat.reduceMul, Nat.reduceSub, Nat.reduceBEq, Int.reduceToNat, c2, c3, bytes0, cv76, Tryz.underlying22]
          have k := unf_more h4 (by omega) (by omega)
          exact ⟨by simp only [upc, upn, k]; rfl, hf1⟩
        · simp (maxSteps := 1000000) -dsimp (disch := first | omega | ((repeat first | rw [AH.nx_new] | rw [AH.nx_put]); done) | ((repeat first | rw [AH.nx_new] | rw [AH.nx_put]); omega)) only [go_sem, Int.reduceEq, Int.reduceNe, Int.reduceLT, Int.reduceLE, Int.reduceAdd, Int.reduceSub, Int.reduceMul, Int.reduceNeg, Int.reduceToNat, Nat.reducePow, reduceCtorEq, Nat.reduceEqDiff, Nat.reduceAdd, Nat.reduceLT, Nat.reduceLeDiff, Nat.reduceMul, Nat.reduceSub, Nat.reduceBEq, Int.reduceToNat, c2, c3, bytes0, cv76, Tryz.underlying22]
          refine syDraw.go0 (by kernel_rfl) ?_
          have k := unf_sum h4 (by omega) (by omega)
          obtain ⟨v1, s1, b1, w1, _⟩ := (hb0.fr hf1).slice_from Tryz.underlying22 tz5 (lo := told l + 4) (by omega)
          obtain ⟨v2, s2, b2, w2, _⟩ := (hb0.fr hf1).slice_to Tryz.underlying22 tz5 (hi := told l + 4) (by omega)
          obtain ⟨v3, s3, b3, w3, _⟩ := (hb0.fr hf1).slice_mid Tryz.underlying22 tz5 (lo := 4) (hi := told l + 4) (by omega) (by omega)
          have e4 : ((told l + 4 : Nat) : Int) = 4 + ((told l : Nat) : Int) := by omega
          rw [e4] at s1 s2 s3
          rw [show ((4 : Nat) : Int) = 4 from rfl] at s3
          simp (maxSteps := 1000000) -dsimp (disch := first | omega | ((repeat first | rw [AH.nx_new] | rw [AH.nx_put]); done) | ((repeat first | rw [AH.nx_new] | rw [AH.nx_put]); omega)) only [go_sem, Int.reduceEq, Int.reduceNe, Int.reduceLT, Int.reduceLE, Int.reduceAdd, Int.reduceSub, Int.reduceMul, Int.reduceNeg, Int.reduceToNat, Nat.reducePow, reduceCtorEq, Nat.reduceEqDiff, Nat.reduceAdd, Nat.reduceLT, Nat.reduceLeDiff, Nat.reduceMul, Nat.reduceSub, Nat.reduceBEq, Int.reduceToNat, c2, c3, bytes0, cv76, Tryz.underlying22, s1]
          refine callK_of (told39 hS (b1.fr ((Fr.refl h1).more _ (by omega))) (by simp; omega) (fun b hm => hl b (List.mem_of_mem_drop hm))) ?_
          rintro r h2 ⟨rfl, hf2⟩
          simp (maxSteps := 1000000) -dsimp (disch := first | omega | ((repeat first | rw [AH.nx_new] | rw [AH.nx_put]); done) | ((repeat first | rw [AH.nx_new] | rw [AH.nx_put]); omega)) only [go_sem, Int.reduceEq, Int.reduceNe, Int.reduceLT, Int.reduceLE, Int.reduceAdd, Int.reduceSub, Int.reduceMul, Int.reduceNeg, Int.reduceToNat, Nat.reducePow, reduceCtorEq, Nat.reduceEqDiff, Nat.reduceAdd, Nat.reduceLT, Nat.reduceLeDiff, Nat.reduceMul, Nat.reduceSub, Nat.reduceBEq, Int.reduceToNat, c2, c3, bytes0, cv76, Tryz.underlying22, s2]
          refine callK_of (sum40 hS (b2.fr (((Fr.refl h1).more _ (by omega)).trans hf2)) (fun b hm => hl b (List.mem_of_mem_take hm)) (by simp; omega)) ?_
          rintro r h3 ⟨rfl, hf3⟩
          have hfa : Fr h h3 := ((hf1.more _ (by omega)).trans hf2).trans hf3
          by_cases c4 : told (l.drop (told l + 4)) = sum (l.take (told l + 4))
          · have c4' : ((told (l.drop (told l + 4)) : Nat) : Int) = ((sum (l.take (told l + 4)) : Nat) : Int) := by rw [c4]
            rw [if_pos c4] at k
            have tx3 := (b3.fr (((Fr.refl h1).more _ (by omega)).trans (hf2.trans hf3))).text Tryz.underlying22 Tryz.underlying5 Tryz.underlying9 (fun b hm => hl b (List.mem_of_mem_take (List.mem_of_mem_drop hm)))
            simp (maxSteps := 1000000) -dsimp (disch := first | omega | ((repeat first | rw [AH.nx_new] | rw [AH.nx_put]); done) | ((repeat first | rw [AH.nx_new] | rw [AH.nx_put]); omega)) only [go_sem, Int.reduceEq, Int.reduceNe, Int.reduceLT, Int.reduceLE, Int.reduceAdd, Int.reduceSub, Int.reduceMul, Int.reduceNeg, Int.reduceToNat, Nat.reducePow, reduceCtorEq, Nat.reduceEqDiff, Nat.reduceAdd, Nat.reduceLT, Nat.reduceLeDiff, Nat.reduceMul, Nat.reduceSub, Nat.reduceBEq, Int.reduceToNat, c4', s3, tx3, Tryz.underlying22]
            refine ⟨?_, hfa⟩
            · simp only [upc, upn, k, if_true]
              have : ((told l + 8 : Nat) : Int) = 4 + ((told l : Nat) : Int) + 4 := by omega
              rw [this]
              rfl
          · have c4' : ¬ ((told (l.drop (told l + 4)) : Nat) : Int) = ((sum (l.take (told l + 4)) : Nat) : Int) := by omega
            rw [if_neg c4] at k
            simp (maxSteps := 1000000) -dsimp (disch := first | omega | ((repeat first | rw [AH.nx_new] | rw [AH.nx_put]); done) | ((repeat first | rw [AH.nx_new] | rw [AH.nx_put]); omega)) only [go_sem, Int.reduceEq, Int.reduceNe, Int.reduceLT, Int.reduceLE, Int.reduceAdd, Int.reduceSub, Int.reduceMul, Int.reduceNeg, Int.reduceToNat, Nat.reducePow, reduceCtorEq, Nat.reduceEqDiff, Nat.reduceAdd, Nat.reduceLT, Nat.reduceLeDiff, Nat.reduceMul, Nat.reduceSub, Nat.reduceBEq, Int.reduceToNat, c4', bytes0]
            refine ⟨?_, hfa⟩
            · simp only [upc, upn, k]
              rfl

theorem ai9 : appI Tryz.prog 9 = some (1, 16) := by kernel_rfl
theorem ai5 : appI Tryz.prog 5 = some (1, 1) := by kernel_rfl

/-- What a scan found. -/
def tot (l : List Nat) : List (List Nat) × Nat × Nat := scn (l.length + 1) l
theorem drop_add {l : List Nat} {w k : Nat} : (l.drop w).drop k = l.drop (w + k) := by rw [List.drop_drop]

set_option maxHeartbeats 8000000 in
theorem scan5 (hS : ∀ f args h, f ≠ 4 → S f args h = none) {h : AH} {v : AV} {l : List Nat} (hb : Bs h v l) (hl : ∀ b ∈ l, b < 256) (hn : l.length ≤ 1048576) :
    RnC Tryz.prog S 5 [v] h fun r h' => ∃ sv, r = .tup [sv, .int .i64 ((tot l).2.1 : Nat), .int .i64 ((tot l).2.2 : Nat)] ∧ Ss h.nx h' sv (tot l).1 ∧ Fr h h' := by
  refine RnC.enter' Tryz.f5 _ 38 [.tmp 2, .tmp 3, .tmp 4] (hS _ _ _ (by decide)) bd5 Tryz.func5 rfl rfl rfl ?_
  have hb0 := hb
  rcases hb with ⟨rfl, rfl⟩ | ⟨id, off, c, cs, o, tx, rfl, hg, hid, hlen, hc, hx⟩
  · simp (maxSteps := 1000000) -dsimp (disch := first | omega | ((repeat first | rw [AH.nx_new] | rw [AH.nx_put]); done) | ((repeat first | rw [AH.nx_new] | rw [AH.nx_put]); omega)) only [go_sem, Int.reduceEq, Int.reduceNe, Int.reduceLT, Int.reduceLE, Int.reduceAdd, Int.reduceSub, Int.reduceMul, Int.reduceNeg, Int.reduceToNat, Nat.reducePow, reduceCtorEq, Nat.reduceEqDiff, Nat.reduceAdd, Nat.reduceLT, Nat.reduceLeDiff, Nat.reduceMul, Nat.reduceSub, Nat.reduceBEq, Int.reduceToNat]
    refine loopK_unroll ?_
    simp (maxSteps := 1000000) -dsimp (disch := first | omega | ((repeat first | rw [AH.nx_new] | rw [AH.nx_put]); done) | ((repeat first | rw [AH.nx_new] | rw [AH.nx_put]); omega)) only [go_sem, Int.reduceEq, Int.reduceNe, Int.reduceLT, Int.reduceLE, Int.reduceAdd, Int.reduceSub, Int.reduceMul, Int.reduceNeg, Int.reduceToNat, Nat.reducePow, reduceCtorEq, Nat.reduceEqDiff, Nat.reduceAdd, Nat.reduceLT, Nat.reduceLeDiff, Nat.reduceMul, Nat.reduceSub, Nat.reduceBEq, Int.reduceToNat, Tryz.underlying22]
    exact ⟨.nilsl, rfl, .inl ⟨rfl, rfl⟩, Fr.refl _⟩
  simp (maxSteps := 1000000) -dsimp (disch := first | omega | ((repeat first | rw [AH.nx_new] | rw [AH.nx_put]); done) | ((repeat first | rw [AH.nx_new] | rw [AH.nx_put]); omega)) only [go_sem, Int.reduceEq, Int.reduceNe, Int.reduceLT, Int.reduceLE, Int.reduceAdd, Int.reduceSub, Int.reduceMul, Int.reduceNeg, Int.reduceToNat, Nat.reducePow, reduceCtorEq, Nat.reduceEqDiff, Nat.reduceAdd, Nat.reduceLT, Nat.reduceLeDiff, Nat.reduceMul, Nat.reduceSub, Nat.reduceBEq, Int.reduceToNat]
  refine loopK_of (RnL.rounds (Q := fun ex s => Fr h s.h ∧ s.d = [] ∧ ∃ sv, Ss h.nx s.h sv (tot l).1 ∧ s.t.get 2 = some sv ∧ s.t.get 3 = some (.int .i64 ((tot l).2.1 : Nat)) ∧ ((ex = .exit 0 ∧ (tot l).2.2 = 0) ∨ (ex = .ret ∧ s.t.get 4 = some (.int .i64 ((tot l).2.2 : Nat)))))
    (fun m s => Fr h s.h ∧ s.d = [] ∧ s.t.get 0 = some (.sl id off l.length 1 c) ∧ ∃ (sv : AV) (w f : Nat) (acc : List (List Nat)), s.t.get 2 = some sv ∧ Ss h.nx s.h sv acc ∧ s.t.get 3 = some (.int .i64 (w : Nat)) ∧ w ≤ l.length ∧ l.length - w < f ∧
      acc ++ (scn f (l.drop w)).1 = (tot l).1 ∧ w + (scn f (l.drop w)).2.1 = (tot l).2.1 ∧ (scn f (l.drop w)).2.2 = (tot l).2.2 ∧ acc.length ≤ w ∧ m = l.length - w) ?_ l.length ?_) ?_
  · rintro m ⟨t, h1, d⟩ ⟨e1, e2, g0, sv, w, f, acc, g2, hs, g3, hw, hf, r1, r2, r3, hal, rfl⟩
    dsimp only at e1 e2 g0 g2 hs g3
    subst e2
    obtain ⟨f, rfl⟩ : ∃ f', f = f' + 1 := ⟨f - 1, by omega⟩
    by_cases c1 : (w : Int) < (l.length : Nat)
    · obtain ⟨v1, s1, b1, w1, _⟩ := (hb0.fr e1).slice_from Tryz.underlying22 tz5 (lo := w) hw
      have hl1 : ∀ b ∈ l.drop w, b < 256 := fun b hm => hl b (List.mem_of_mem_drop hm)
      simp (maxSteps := 1000000) -dsimp (disch := first | omega | ((repeat first | rw [AH.nx_new] | rw [AH.nx_put]); done) | ((repeat first | rw [AH.nx_new] | rw [AH.nx_put]); omega)) only [go_sem, Int.reduceEq, Int.reduceNe, Int.reduceLT, Int.reduceLE, Int.reduceAdd, Int.reduceSub, Int.reduceMul, Int.reduceNeg, Int.reduceToNat, Nat.reducePow, reduceCtorEq, Nat.reduceEqDiff, Nat.reduceAdd, Nat.reduceLT, Nat.reduceLeDiff, Nat.reduceMul, Nat.reduceSub, Nat.reduceBEq, Int.reduceToNat, Tryz.underlying22, c1, g0, g2, g3, s1]
      refine callK_of (unf15 hS b1 hl1 (by simp; omega)) ?_
      rintro r h2 ⟨rfl, hf2⟩
      rcases unfE_cases (l.drop w) with k | k | k
      · simp only [scn, k] at r1 r2 r3
        simp (maxSteps := 1000000) -dsimp (disch := first | omega | ((repeat first | rw [AH.nx_new] | rw [AH.nx_put]); done) | ((repeat first | rw [AH.nx_new] | rw [AH.nx_put]); omega)) only [go_sem, Int.reduceEq, Int.reduceNe, Int.reduceLT, Int.reduceLE, Int.reduceAdd, Int.reduceSub, Int.reduceMul, Int.reduceNeg, Int.reduceToNat, Nat.reducePow, reduceCtorEq, Nat.reduceEqDiff, Nat.reduceAdd, Nat.reduceLT, Nat.reduceLeDiff, Nat.reduceMul, Nat.reduceSub, Nat.reduceBEq, Int.reduceToNat, k, g0, g2, g3, upc, upn]
        refine ⟨e1.trans hf2, trivial, sv, ?_, rfl, ?_, .inr ⟨trivial, ?_⟩⟩
        · simp at r1
          rw [← r1]; exact hs.fr hf2
        · simp at r2
          rw [← r2]
        · simp at r3
          rw [← r3]; rfl
      · obtain ⟨k1, k2⟩ := unfE_ok k
        have hdl : (l.drop w).length = l.length - w := by simp
        simp only [scn, k, if_true] at r1 r2 r3
        have kc : upc (l.drop w) = piece (l.drop w) := by unfold upc; rw [if_pos k]
        have kn : upn (l.drop w) = told (l.drop w) + 8 := by unfold upn; rw [if_pos k]
        obtain ⟨v4, h4, ha, hf4, hs4, _⟩ := Ss.app (P := Tryz.prog) (h0 := h) (h := h2.new (.cells [.str (piece (l.drop w))] true false)) (id1 := h2.nx) (c := some 1) (o := true) (t := false) (p := piece (l.drop w)) Tryz.underlying24 ai9 (by decide) (hs.fr (hf2.trans (Fr.new _ _))) ((e1.trans hf2).news _) (by omega) (AH.get_new_eq rfl) (Nat.lt_succ_self _) (by
          intro id off n sz c hh
          rcases hs with ⟨hh2, _⟩ | ⟨id', hh2, _, hh4, _⟩
          · rw [hh] at hh2; cases hh2
          · rw [hh] at hh2; cases hh2
            have := hf2.nx
            omega)
        simp (maxSteps := 1000000) -dsimp (disch := first | omega | ((repeat first | rw [AH.nx_new] | rw [AH.nx_put]); done) | ((repeat first | rw [AH.nx_new] | rw [AH.nx_put]); omega)) only [go_sem, Int.reduceEq, Int.reduceNe, Int.reduceLT, Int.reduceLE, Int.reduceAdd, Int.reduceSub, Int.reduceMul, Int.reduceNeg, Int.reduceToNat, Nat.reducePow, reduceCtorEq, Nat.reduceEqDiff, Nat.reduceAdd, Nat.reduceLT, Nat.reduceLeDiff, Nat.reduceMul, Nat.reduceSub, Nat.reduceBEq, Int.reduceToNat, k, kc, kn, g0, g2, g3, Tryz.underlying24, Tryz.underlying9, tz9, zc9, ha]
        rw [drop_add] at r1 r2 r3
        refine ⟨l.length - (w + (told (l.drop w) + 8)), by omega, hf4, trivial, trivial, v4, w + (told (l.drop w) + 8), f, acc ++ [piece (l.drop w)], rfl, hs4, ?_, by omega, by omega, ?_, ?_, r3, by simp; omega, rfl⟩
        · rfl
        · simpa using r1
        · omega
      · simp only [scn, k] at r1 r2 r3
        simp (maxSteps := 1000000) -dsimp (disch := first | omega | ((repeat first | rw [AH.nx_new] | rw [AH.nx_put]); done) | ((repeat first | rw [AH.nx_new] | rw [AH.nx_put]); omega)) only [go_sem, Int.reduceEq, Int.reduceNe, Int.reduceLT, Int.reduceLE, Int.reduceAdd, Int.reduceSub, Int.reduceMul, Int.reduceNeg, Int.reduceToNat, Nat.reducePow, reduceCtorEq, Nat.reduceEqDiff, Nat.reduceAdd, Nat.reduceLT, Nat.reduceLeDiff, Nat.reduceMul, Nat.reduceSub, Nat.reduceBEq, Int.reduceToNat, k, g0, g2, g3, upc, upn]
        refine ⟨e1.trans hf2, trivial, sv, ?_, rfl, ?_, .inr ⟨trivial, ?_⟩⟩
        · simp at r1
          rw [← r1]; exact hs.fr hf2
        · simp at r2
          rw [← r2]
        · simp at r3
          rw [← r3]; rfl
    · obtain rfl : w = l.length := by omega
      simp (maxSteps := 1000000) -dsimp (disch := first | omega | ((repeat first | rw [AH.nx_new] | rw [AH.nx_put]); done) | ((repeat first | rw [AH.nx_new] | rw [AH.nx_put]); omega)) only [go_sem, Int.reduceEq, Int.reduceNe, Int.reduceLT, Int.reduceLE, Int.reduceAdd, Int.reduceSub, Int.reduceMul, Int.reduceNeg, Int.reduceToNat, Nat.reducePow, reduceCtorEq, Nat.reduceEqDiff, Nat.reduceAdd, Nat.reduceLT, Nat.reduceLeDiff, Nat.reduceMul, Nat.reduceSub, Nat.reduceBEq, Int.reduceToNat, Tryz.underlying22, c1, g0, g2, g3]
      have k : unfE (l.drop l.length) = 5 := unf_short (by simp)
      simp only [scn, k] at r1 r2 r3
      refine ⟨e1, trivial, sv, ?_, rfl, ?_, .inl ⟨trivial, ?_⟩⟩
      · simp at r1
        rw [← r1]; exact hs
      · simp at r2
        rw [← r2]
      · simp at r3
        rw [← r3]
  · simp (maxSteps := 1000000) -dsimp (disch := first | omega | ((repeat first | rw [AH.nx_new] | rw [AH.nx_put]); done) | ((repeat first | rw [AH.nx_new] | rw [AH.nx_put]); omega)) only [go_sem, Int.reduceEq, Int.reduceNe, Int.reduceLT, Int.reduceLE, Int.reduceAdd, Int.reduceSub, Int.reduceMul, Int.reduceNeg, Int.reduceToNat, Nat.reducePow, reduceCtorEq, Nat.reduceEqDiff, Nat.reduceAdd, Nat.reduceLT, Nat.reduceLeDiff, Nat.reduceMul, Nat.reduceSub, Nat.reduceBEq, Int.reduceToNat]
    exact ⟨Fr.refl _, trivial, trivial, .nilsl, 0, l.length + 1, [], rfl, .inl ⟨rfl, rfl⟩, rfl, Nat.zero_le _, by omega, rfl, by rw [Nat.zero_add]; rfl, rfl, Nat.le_refl _, rfl⟩
  · rintro ex ⟨t, h1, d⟩ ⟨e1, rfl, sv, hs, g2, g3, ⟨rfl, r3⟩ | ⟨rfl, g4⟩⟩
    · dsimp only at e1 hs g2 g3
      simp (maxSteps := 1000000) -dsimp (disch := first | omega | ((repeat first | rw [AH.nx_new] | rw [AH.nx_put]); done) | ((repeat first | rw [AH.nx_new] | rw [AH.nx_put]); omega)) only [go_sem, Int.reduceEq, Int.reduceNe, Int.reduceLT, Int.reduceLE, Int.reduceAdd, Int.reduceSub, Int.reduceMul, Int.reduceNeg, Int.reduceToNat, Nat.reducePow, reduceCtorEq, Nat.reduceEqDiff, Nat.reduceAdd, Nat.reduceLT, Nat.reduceLeDiff, Nat.reduceMul, Nat.reduceSub, Nat.reduceBEq, Int.reduceToNat, g2, g3]
      exact ⟨sv, by rw [r3]; rfl, hs, e1⟩
    · dsimp only at e1 hs g2 g3 g4
      simp (maxSteps := 1000000) -dsimp (disch := first | omega | ((repeat first | rw [AH.nx_new] | rw [AH.nx_put]); done) | ((repeat first | rw [AH.nx_new] | rw [AH.nx_put]); omega)) only [go_sem, Int.reduceEq, Int.reduceNe, Int.reduceLT, Int.reduceLE, Int.reduceAdd, Int.reduceSub, Int.reduceMul, Int.reduceNeg, Int.reduceToNat, Nat.reducePow, reduceCtorEq, Nat.reduceEqDiff, Nat.reduceAdd, Nat.reduceLT, Nat.reduceLeDiff, Nat.reduceMul, Nat.reduceSub, Nat.reduceBEq, Int.reduceToNat, g2, g3, g4]
      exact ⟨sv, rfl, hs, e1⟩

set_option maxHeartbeats 8000000 in
theorem scan7 (hS : ∀ f args h, f ≠ 4 → S f args h = none) {h : AH} {v : AV} {l : List Nat} (hb : Bs h v l) (hl : ∀ b ∈ l, b < 256) (hn : l.length ≤ 1048576) :
    RnC Tryz.prog S 7 [v] h fun r h' => ∃ sv, r = .tup [sv, .int .i64 ((tot l).2.1 : Nat), .int .i64 ((tot l).2.2 : Nat)] ∧ Ss h.nx h' sv (tot l).1 ∧ Fr h h' := by
  refine RnC.enter' Tryz.f7 _ 34 [.tmp 2, .tmp 3, .tmp 4] (hS _ _ _ (by decide)) bd7 Tryz.func7 rfl rfl rfl ?_
  simp (maxSteps := 1000000) -dsimp (disch := first | omega | ((repeat first | rw [AH.nx_new] | rw [AH.nx_put]); done) | ((repeat first | rw [AH.nx_new] | rw [AH.nx_put]); omega)) only [go_sem, Int.reduceEq, Int.reduceNe, Int.reduceLT, Int.reduceLE, Int.reduceAdd, Int.reduceSub, Int.reduceMul, Int.reduceNeg, Int.reduceToNat, Nat.reducePow, reduceCtorEq, Nat.reduceEqDiff, Nat.reduceAdd, Nat.reduceLT, Nat.reduceLeDiff, Nat.reduceMul, Nat.reduceSub, Nat.reduceBEq, Int.reduceToNat]
  refine loopK_of (RnL.rounds (Q := fun ex s => Fr h s.h ∧ s.d = [] ∧ ∃ sv, Ss h.nx s.h sv (tot l).1 ∧ s.t.get 2 = some sv ∧ s.t.get 3 = some (.int .i64 ((tot l).2.1 : Nat)) ∧ ex = .ret ∧ s.t.get 4 = some (.int .i64 ((tot l).2.2 : Nat)))
    (fun m s => Fr h s.h ∧ s.d = [] ∧ s.t.get 0 = some v ∧ ∃ (sv : AV) (w f : Nat) (acc : List (List Nat)), s.t.get 5 = some sv ∧ Ss h.nx s.h sv acc ∧ s.t.get 6 = some (.int .i64 (w : Nat)) ∧ w ≤ l.length ∧ l.length - w < f ∧
      acc ++ (scn f (l.drop w)).1 = (tot l).1 ∧ w + (scn f (l.drop w)).2.1 = (tot l).2.1 ∧ (scn f (l.drop w)).2.2 = (tot l).2.2 ∧ acc.length ≤ w ∧ m = l.length - w) ?_ l.length ?_) ?_
  · rintro m ⟨t, h1, d⟩ ⟨e1, e2, g0, sv, w, f, acc, g5, hs, g6, hw, hf, r1, r2, r3, hal, rfl⟩
    dsimp only at e1 e2 g0 g5 hs g6
    subst e2
    obtain ⟨f, rfl⟩ : ∃ f', f = f' + 1 := ⟨f - 1, by omega⟩
    obtain ⟨v1, s1, b1, w1, _⟩ := (hb.fr e1).slice_from Tryz.underlying22 tz5 (lo := w) hw
    have hl1 : ∀ b ∈ l.drop w, b < 256 := fun b hm => hl b (List.mem_of_mem_drop hm)
    simp (maxSteps := 1000000) -dsimp (disch := first | omega | ((repeat first | rw [AH.nx_new] | rw [AH.nx_put]); done) | ((repeat first | rw [AH.nx_new] | rw [AH.nx_put]); omega)) only [go_sem, Int.reduceEq, Int.reduceNe, Int.reduceLT, Int.reduceLE, Int.reduceAdd, Int.reduceSub, Int.reduceMul, Int.reduceNeg, Int.reduceToNat, Nat.reducePow, reduceCtorEq, Nat.reduceEqDiff, Nat.reduceAdd, Nat.reduceLT, Nat.reduceLeDiff, Nat.reduceMul, Nat.reduceSub, Nat.reduceBEq, Int.reduceToNat, g0, g5, g6, s1]
    refine callK_of (unf16 hS b1 hl1 (by simp; omega)) ?_
    rintro r h2 ⟨rfl, hf2⟩
    rcases unfE_cases (l.drop w) with k | k | k
    · simp only [scn, k] at r1 r2 r3
      simp (maxSteps := 1000000) -dsimp (disch := first | omega | ((repeat first | rw [AH.nx_new] | rw [AH.nx_put]); done) | ((repeat first | rw [AH.nx_new] | rw [AH.nx_put]); omega)) only [go_sem, Int.reduceEq, Int.reduceNe, Int.reduceLT, Int.reduceLE, Int.reduceAdd, Int.reduceSub, Int.reduceMul, Int.reduceNeg, Int.reduceToNat, Nat.reducePow, reduceCtorEq, Nat.reduceEqDiff, Nat.reduceAdd, Nat.reduceLT, Nat.reduceLeDiff, Nat.reduceMul, Nat.reduceSub, Nat.reduceBEq, Int.reduceToNat, k, g0, g5, g6, upc, upn]
      refine ⟨e1.trans hf2, trivial, sv, ?_, rfl, ?_, trivial, ?_⟩
      · simp at r1
        rw [← r1]; exact hs.fr hf2
      · simp at r2
        rw [← r2]
      · simp at r3
        rw [← r3]; rfl
    · obtain ⟨k1, k2⟩ := unfE_ok k
      have hdl : (l.drop w).length = l.length - w := by simp
      simp only [scn, k, if_true] at r1 r2 r3
      have kc : upc (l.drop w) = piece (l.drop w) := by unfold upc; rw [if_pos k]
      have kn : upn (l.drop w) = told (l.drop w) + 8 := by unfold upn; rw [if_pos k]
      obtain ⟨v4, h4, ha, hf4, hs4, _⟩ := Ss.app (P := Tryz.prog) (h0 := h) (h := h2.new (.cells [.str (piece (l.drop w))] true false)) (id1 := h2.nx) (c := some 1) (o := true) (t := false) (p := piece (l.drop w)) Tryz.underlying24 ai9 (by decide) (hs.fr (hf2.trans (Fr.new _ _))) ((e1.trans hf2).news _) (by omega) (AH.get_new_eq rfl) (Nat.lt_succ_self _) (by
        intro id off n sz c hh
        rcases hs with ⟨hh2, _⟩ | ⟨id', hh2, _, hh4, _⟩
        · rw [hh] at hh2; cases hh2
        · rw [hh] at hh2; cases hh2
          have := hf2.nx
          omega)
      simp (maxSteps := 1000000) -dsimp (disch := first | omega | ((repeat first | rw [AH.nx_new] | rw [AH.nx_put]); done) | ((repeat first | rw [AH.nx_new] | rw [AH.nx_put]); omega)) only [go_sem, Int.reduceEq, Int.reduceNe, Int.reduceLT, Int.reduceLE, Int.reduceAdd, Int.reduceSub, Int.reduceMul, Int.reduceNeg, Int.reduceToNat, Nat.reducePow, reduceCtorEq, Nat.reduceEqDiff, Nat.reduceAdd, Nat.reduceLT, Nat.reduceLeDiff, Nat.reduceMul, Nat.reduceSub, Nat.reduceBEq, Int.reduceToNat, k, kc, kn, g0, g5, g6, Tryz.underlying24, Tryz.underlying9, tz9, zc9, ha]
      rw [drop_add] at r1 r2 r3
      refine ⟨l.length - (w + (told (l.drop w) + 8)), by omega, hf4, trivial, trivial, v4, w + (told (l.drop w) + 8), f, acc ++ [piece (l.drop w)], rfl, hs4, ?_, by omega, by omega, ?_, ?_, r3, by simp; omega, rfl⟩
      · rfl
      · simpa using r1
      · omega
    · simp only [scn, k] at r1 r2 r3
      simp (maxSteps := 1000000) -dsimp (disch := first | omega | ((repeat first | rw [AH.nx_new] | rw [AH.nx_put]); done) | ((repeat first | rw [AH.nx_new] | rw [AH.nx_put]); omega)) only [go_sem, Int.reduceEq, Int.reduceNe, Int.reduceLT, Int.reduceLE, Int.reduceAdd, Int.reduceSub, Int.reduceMul, Int.reduceNeg, Int.reduceToNat, Nat.reducePow, reduceCtorEq, Nat.reduceEqDiff, Nat.reduceAdd, Nat.reduceLT, Nat.reduceLeDiff, Nat.reduceMul, Nat.reduceSub, Nat.reduceBEq, Int.reduceToNat, k, g0, g5, g6, upc, upn]
      refine ⟨e1.trans hf2, trivial, sv, ?_, rfl, ?_, trivial, ?_⟩
      · simp at r1
        rw [← r1]; exact hs.fr hf2
      · simp at r2
        rw [← r2]
      · simp at r3
        rw [← r3]; rfl
  · simp (maxSteps := 1000000) -dsimp (disch := first | omega | ((repeat first | rw [AH.nx_new] | rw [AH.nx_put]); done) | ((repeat first | rw [AH.nx_new] | rw [AH.nx_put]); omega)) only [go_sem, Int.reduceEq, Int.reduceNe, Int.reduceLT, Int.reduceLE, Int.reduceAdd, Int.reduceSub, Int.reduceMul, Int.reduceNeg, Int.reduceToNat, Nat.reducePow, reduceCtorEq, Nat.reduceEqDiff, Nat.reduceAdd, Nat.reduceLT, Nat.reduceLeDiff, Nat.reduceMul, Nat.reduceSub, Nat.reduceBEq, Int.reduceToNat]
    exact ⟨Fr.refl _, trivial, trivial, .nilsl, 0, l.length + 1, [], rfl, .inl ⟨rfl, rfl⟩, rfl, Nat.zero_le _, by omega, rfl, by rw [Nat.zero_add]; rfl, rfl, Nat.le_refl _, rfl⟩
  · rintro ex ⟨t, h1, d⟩ ⟨e1, rfl, sv, hs, g2, g3, rfl, g4⟩
    dsimp only at e1 hs g2 g3 g4
    simp (maxSteps := 1000000) -dsimp (disch := first | omega | ((repeat first | rw [AH.nx_new] | rw [AH.nx_put]); done) | ((repeat first | rw [AH.nx_new] | rw [AH.nx_put]); omega)) only [go_sem, Int.reduceEq, Int.reduceNe, Int.reduceLT, Int.reduceLE, Int.reduceAdd, Int.reduceSub, Int.reduceMul, Int.reduceNeg, Int.reduceToNat, Nat.reducePow, reduceCtorEq, Nat.reduceEqDiff, Nat.reduceAdd, Nat.reduceLT, Nat.reduceLeDiff, Nat.reduceMul, Nat.reduceSub, Nat.reduceBEq, Int.reduceToNat, g2, g3, g4]
    exact ⟨sv, rfl, hs, e1⟩

end
end Go.Proofs.YticccdaomgildaaGreatDoor.walScans
