/- The calls that the law StoreNil makes on no store: each returns ErrNil, or nothing; the guard LightPairs. Conditions: none beyond the stated premises. -/
import Derived.Test.YtieobkifoehanaaGreatDoorSeat
import Derived.Test.YtieobkifoehanaaGreatDoorFacts
import Derived.Test.YtieobkifoehanaaGreatDoorAbs36
namespace Go.Proofs.YtieobkifoehanaaGreatDoor.storeNil
open Go Go.Abs Go.Proofs
set_option maxRecDepth 100000
set_option linter.unusedVariables false
set_option linter.unusedSimpArgs false

section
variable {S : Sums}
/-- A slice of pairs. -/
def Sl3 (h : AH) (v : AV) (cs : List AV) (n : Nat) : Prop := (v = .nilsl ∧ cs = [] ∧ n = 0) ∨ ∃ id, v = .sl id 0 n 3 none ∧ h.get id = some (.cells cs false false) ∧ id < h.nx
theorem sl3fr {h h' : AH} {v : AV} {cs : List AV} {n : Nat} (hx : Sl3 h v cs n) (hf : Fr h h') : Sl3 h' v cs n := by
  rcases hx with h1 | ⟨id, h1, h2, h3⟩
  · exact .inl h1
  · exact .inr ⟨id, h1, (hf.get id h3).trans h2, Nat.lt_of_lt_of_le h3 hf.nx⟩
def Row3 (cs : List AV) (i : Nat) : Prop := ∃ (k v : List Nat) (g : Bool), cs[i * 3]? = some (.str k) ∧ cs[i * 3 + 1]? = some (.str v) ∧ cs[i * 3 + 2]? = some (.bool g) ∧ k.length ≤ maxLen ∧ v.length ≤ maxLen

set_option maxHeartbeats 4000000 in
/-- A list of pairs is light only if it holds at most forty. -/
theorem light (hS : ∀ f args h, f ≠ 66 → S f args h = none) {x : AV} {cs : List AV} {n : Nat} {h : AH} (hx : Sl3 h x cs n) (hr : ∀ i, i < n → Row3 cs i) (hl : n ≤ maxLen) (hcl : cs.length = n * 3) :
    RnC Tryz.prog S 67 [x, .int .i64 40, .int .i64 3000] h fun v h' => Fr h h' ∧ (v = .bool false ∨ v = .bool true ∧ n ≤ 40) := by
  refine RnC.enter' Tryz.f67 _ 55 [.tmp 6] (hS _ _ _ (by decide)) bd67 Tryz.func67 rfl rfl rfl ?_
  simp (maxSteps := 1000000) -dsimp (disch := first | omega | ((repeat first | rw [AH.nx_new] | rw [AH.nx_put]); done) | ((repeat first | rw [AH.nx_new] | rw [AH.nx_put]); omega)) only [go_sem, Int.reduceEq, Int.reduceNe, Int.reduceLT, Int.reduceLE, Int.reduceAdd, Int.reduceSub, Int.reduceMul, Int.reduceNeg, Int.reduceToNat, Nat.reducePow, reduceCtorEq, Nat.reduceEqDiff, Nat.reduceAdd, Nat.reduceLT, Nat.reduceLeDiff, Nat.reduceMul, Nat.reduceSub, Nat.reduceBEq, Int.reduceToNat]
  refine loopK_of (RnL.rounds (Q := fun ex s => ex = .exit 0 ∧ Fr h s.h ∧ s.d = [] ∧ s.t.get 0 = some x ∧ s.t.get 1 = some (.int .i64 40) ∧ s.t.get 2 = some (.int .i64 3000) ∧ ∃ k : Int, s.t.get 7 = some (.int .i64 k))
    (fun m s => Fr h s.h ∧ s.d = [] ∧ s.t.get 0 = some x ∧ s.t.get 1 = some (.int .i64 40) ∧ s.t.get 2 = some (.int .i64 3000) ∧ ∃ (i : Nat) (k : Int), s.t.get 8 = some (.int .i64 i) ∧ s.t.get 7 = some (.int .i64 k) ∧ 0 ≤ k ∧ k ≤ 10000 ∧ i ≤ 41 ∧ i ≤ n ∧ m = 41 - i) ?_ 41 ?_) ?_
  · rintro m ⟨t, h1, d⟩ ⟨e1, e2, g0, g1, g2, i, k, g8, g7, hk0, hk1, hi, hic, rfl⟩
    dsimp only at e1 e2 g0 g1 g2 g7 g8
    subst e2
    have hx1 := sl3fr hx e1
    rcases hx1 with ⟨rfl, rfl, rfl⟩ | ⟨id, rfl, hg, hid⟩
    · have c1 : ¬ (i : Int) < 0 := by omega
      simp (maxSteps := 1000000) -dsimp (disch := first | omega | ((repeat first | rw [AH.nx_new] | rw [AH.nx_put]); done) | ((repeat first | rw [AH.nx_new] | rw [AH.nx_put]); omega)) only [go_sem, Int.reduceEq, Int.reduceNe, Int.reduceLT, Int.reduceLE, Int.reduceAdd, Int.reduceSub, Int.reduceMul, Int.reduceNeg, Int.reduceToNat, Nat.reducePow, reduceCtorEq, Nat.reduceEqDiff, Nat.reduceAdd, Nat.reduceLT, Nat.reduceLeDiff, Nat.reduceMul, Nat.reduceSub, Nat.reduceBEq, Int.reduceToNat, c1, g0, g1, g2, g7, g8]
      exact ⟨trivial, e1, trivial, trivial, trivial, trivial, _, rfl⟩
    · by_cases c1 : (i : Int) < n
      · by_cases c2 : (i : Int) ≤ 40
        · by_cases c3 : k ≤ 3000
          · have hil : i < n := by omega
            obtain ⟨s, s2, s3, q1, q2, q3, q4, q5⟩ := hr i hil
            simp (maxSteps := 1000000) -dsimp (disch := first | omega | ((repeat first | rw [AH.nx_new] | rw [AH.nx_put]); done) | ((repeat first | rw [AH.nx_new] | rw [AH.nx_put]); omega)) only [go_sem, Int.reduceEq, Int.reduceNe, Int.reduceLT, Int.reduceLE, Int.reduceAdd, Int.reduceSub, Int.reduceMul, Int.reduceNeg, Int.reduceToNat, Nat.reducePow, reduceCtorEq, Nat.reduceEqDiff, Nat.reduceAdd, Nat.reduceLT, Nat.reduceLeDiff, Nat.reduceMul, Nat.reduceSub, Nat.reduceBEq, Int.reduceToNat, c1, c2, c3, g0, g1, g2, g7, g8, hg, q1, q2]
            refine syDraw.go0 (by kernel_rfl) ?_
            simp (maxSteps := 1000000) -dsimp (disch := first | omega | ((repeat first | rw [AH.nx_new] | rw [AH.nx_put]); done) | ((repeat first | rw [AH.nx_new] | rw [AH.nx_put]); omega)) only [go_sem, Int.reduceEq, Int.reduceNe, Int.reduceLT, Int.reduceLE, Int.reduceAdd, Int.reduceSub, Int.reduceMul, Int.reduceNeg, Int.reduceToNat, Nat.reducePow, reduceCtorEq, Nat.reduceEqDiff, Nat.reduceAdd, Nat.reduceLT, Nat.reduceLeDiff, Nat.reduceMul, Nat.reduceSub, Nat.reduceBEq, Int.reduceToNat, c1, c2, c3, g0, g1, g2, g7, g8, hg, q1, q2]
            have hcast : ((i : Int) + 1) = ((i + 1 : Nat) : Int) := rfl
            exact ⟨41 - (i + 1), by omega, e1.more _ (by omega), trivial, trivial, trivial, trivial, i + 1, _, rfl, rfl, by omega, by omega, by omega, by omega, rfl⟩
          · simp (maxSteps := 1000000) -dsimp (disch := first | omega | ((repeat first | rw [AH.nx_new] | rw [AH.nx_put]); done) | ((repeat first | rw [AH.nx_new] | rw [AH.nx_put]); omega)) only [go_sem, Int.reduceEq, Int.reduceNe, Int.reduceLT, Int.reduceLE, Int.reduceAdd, Int.reduceSub, Int.reduceMul, Int.reduceNeg, Int.reduceToNat, Nat.reducePow, reduceCtorEq, Nat.reduceEqDiff, Nat.reduceAdd, Nat.reduceLT, Nat.reduceLeDiff, Nat.reduceMul, Nat.reduceSub, Nat.reduceBEq, Int.reduceToNat, c1, c2, c3, g0, g1, g2, g7, g8]
            exact ⟨trivial, e1, trivial, trivial, trivial, trivial, _, rfl⟩
        · simp (maxSteps := 1000000) -dsimp (disch := first | omega | ((repeat first | rw [AH.nx_new] | rw [AH.nx_put]); done) | ((repeat first | rw [AH.nx_new] | rw [AH.nx_put]); omega)) only [go_sem, Int.reduceEq, Int.reduceNe, Int.reduceLT, Int.reduceLE, Int.reduceAdd, Int.reduceSub, Int.reduceMul, Int.reduceNeg, Int.reduceToNat, Nat.reducePow, reduceCtorEq, Nat.reduceEqDiff, Nat.reduceAdd, Nat.reduceLT, Nat.reduceLeDiff, Nat.reduceMul, Nat.reduceSub, Nat.reduceBEq, Int.reduceToNat, c1, c2, g0, g1, g2, g7, g8]
          exact ⟨trivial, e1, trivial, trivial, trivial, trivial, _, rfl⟩
      · simp (maxSteps := 1000000) -dsimp (disch := first | omega | ((repeat first | rw [AH.nx_new] | rw [AH.nx_put]); done) | ((repeat first | rw [AH.nx_new] | rw [AH.nx_put]); omega)) only [go_sem, Int.reduceEq, Int.reduceNe, Int.reduceLT, Int.reduceLE, Int.reduceAdd, Int.reduceSub, Int.reduceMul, Int.reduceNeg, Int.reduceToNat, Nat.reducePow, reduceCtorEq, Nat.reduceEqDiff, Nat.reduceAdd, Nat.reduceLT, Nat.reduceLeDiff, Nat.reduceMul, Nat.reduceSub, Nat.reduceBEq, Int.reduceToNat, c1, g0, g1, g2, g7, g8]
        exact ⟨trivial, e1, trivial, trivial, trivial, trivial, _, rfl⟩
  · simp (maxSteps := 1000000) -dsimp (disch := first | omega | ((repeat first | rw [AH.nx_new] | rw [AH.nx_put]); done) | ((repeat first | rw [AH.nx_new] | rw [AH.nx_put]); omega)) only [go_sem, Int.reduceEq, Int.reduceNe, Int.reduceLT, Int.reduceLE, Int.reduceAdd, Int.reduceSub, Int.reduceMul, Int.reduceNeg, Int.reduceToNat, Nat.reducePow, reduceCtorEq, Nat.reduceEqDiff, Nat.reduceAdd, Nat.reduceLT, Nat.reduceLeDiff, Nat.reduceMul, Nat.reduceSub, Nat.reduceBEq, Int.reduceToNat]
    exact ⟨Fr.refl _, trivial, trivial, trivial, trivial, 0, 0, rfl, rfl, by decide, by decide, by decide, Nat.zero_le _, rfl⟩
  · rintro ex ⟨t, h1, d⟩ ⟨rfl, e1, rfl, g0, g1, g2, k, g7⟩
    dsimp only at e1 g0 g1 g2 g7
    rcases hx with ⟨rfl, rfl, rfl⟩ | ⟨id, rfl, hg, hid⟩
    · simp (maxSteps := 1000000) -dsimp (disch := first | omega | ((repeat first | rw [AH.nx_new] | rw [AH.nx_put]); done) | ((repeat first | rw [AH.nx_new] | rw [AH.nx_put]); omega)) only [go_sem, Int.reduceEq, Int.reduceNe, Int.reduceLT, Int.reduceLE, Int.reduceAdd, Int.reduceSub, Int.reduceMul, Int.reduceNeg, Int.reduceToNat, Nat.reducePow, reduceCtorEq, Nat.reduceEqDiff, Nat.reduceAdd, Nat.reduceLT, Nat.reduceLeDiff, Nat.reduceMul, Nat.reduceSub, Nat.reduceBEq, Int.reduceToNat, g0, g1, g2, g7]
      refine ⟨e1, ?_⟩
      by_cases hk : k ≤ 3000
      · exact .inr ⟨by rw [decide_eq_true hk], trivial⟩
      · exact .inl (by rw [decide_eq_false hk])
    · by_cases c1 : (n : Int) ≤ 40
      · simp (maxSteps := 1000000) -dsimp (disch := first | omega | ((repeat first | rw [AH.nx_new] | rw [AH.nx_put]); done) | ((repeat first | rw [AH.nx_new] | rw [AH.nx_put]); omega)) only [go_sem, Int.reduceEq, Int.reduceNe, Int.reduceLT, Int.reduceLE, Int.reduceAdd, Int.reduceSub, Int.reduceMul, Int.reduceNeg, Int.reduceToNat, Nat.reducePow, reduceCtorEq, Nat.reduceEqDiff, Nat.reduceAdd, Nat.reduceLT, Nat.reduceLeDiff, Nat.reduceMul, Nat.reduceSub, Nat.reduceBEq, Int.reduceToNat, c1, g0, g1, g2, g7]
        refine ⟨e1, ?_⟩
        by_cases hk : k ≤ 3000
        · exact .inr ⟨by rw [decide_eq_true hk], by omega⟩
        · exact .inl (by rw [decide_eq_false hk])
      · simp (maxSteps := 1000000) -dsimp (disch := first | omega | ((repeat first | rw [AH.nx_new] | rw [AH.nx_put]); done) | ((repeat first | rw [AH.nx_new] | rw [AH.nx_put]); omega)) only [go_sem, Int.reduceEq, Int.reduceNe, Int.reduceLT, Int.reduceLE, Int.reduceAdd, Int.reduceSub, Int.reduceMul, Int.reduceNeg, Int.reduceToNat, Nat.reducePow, reduceCtorEq, Nat.reduceEqDiff, Nat.reduceAdd, Nat.reduceLT, Nat.reduceLeDiff, Nat.reduceMul, Nat.reduceSub, Nat.reduceBEq, Int.reduceToNat, c1, g0, g1, g2, g7]
        exact ⟨e1, .inl trivial⟩

theorem ai98 : appI Tryz.prog 98 = some (3, 40) := by kernel_rfl
/-- Pairs are appended to a new empty slice. -/
theorem app0 {h : AH} {x : AV} {cs cs0 : List AV} {n id : Nat} {o t : Bool} (hx : Sl3 h x cs n) (hcl : cs.length = n * 3) (hall : cs.all oneA = true) (hl : n ≤ 3000) (hid : h.get id = some (.cells cs0 o t)) :
    ∃ v h', evAppend Tryz.prog h #[99, 99] (.sl id 0 0 3 (some 0)) x = some (.val v h') ∧ Fr h h' ∧ oneA v = true := by
  have hold : firstA h 3 0 (.sl id 0 0 3 (some 0)) = some [] := by
    rw [firstA_sl hid (Nat.le_refl _) (by omega)]; simp
  have key : lenA x = some n → firstA h 3 n x = some cs → ∃ v h', evAppend Tryz.prog h #[99, 99] (.sl id 0 0 3 (some 0)) x = some (.val v h') ∧ Fr h h' ∧ oneA v = true := by
    intro hn hnew
    rw [evAppend_eq Tryz.underlying99 Tryz.underlying99 rfl ai98 hn hnew rfl hold hall (by omega) (by omega) rfl]
    by_cases h0 : n = 0
    · rw [if_pos h0]; exact ⟨_, _, rfl, Fr.refl _, rfl⟩
    · rw [if_neg h0]
      simp only
      rw [if_pos (by omega)]
      exact ⟨_, _, rfl, Fr.new _ _, rfl⟩
  rcases hx with ⟨rfl, rfl, rfl⟩ | ⟨id', rfl, hg, _⟩
  · exact key rfl (by simp [firstA])
  · exact key rfl (by rw [firstA_sl hg (Nat.le_refl _) (by omega), List.drop_zero, ← hcl, List.take_length])

theorem neqptr (P : Program) (h : AH) (t e : TypeId) (ht : P.underlying t = some (.pointer e)) : binA P h .neq t .nilptr .nilptr = some (.bool false) := by
  simp [binA, eqOk, eqA, ht]
theorem eqptr (P : Program) (h : AH) (t e : TypeId) (ht : P.underlying t = some (.pointer e)) : binA P h .eql t .nilptr .nilptr = some (.bool true) := by
  simp [binA, eqOk, eqA, ht]
theorem bytes0 : bytesOf { data := #[] } = [] := rfl
theorem eqs (h : AH) : binA Tryz.prog h .eql 9 (.str []) (.str []) = some (.bool true) := by kernel_rfl
theorem ne93 (h : AH) : binA Tryz.prog h .neq 93 .nilptr .nilptr = some (.bool false) := neqptr _ _ _ _ Tryz.underlying93
theorem eq101 (h : AH) : binA Tryz.prog h .eql 101 .nilptr .nilptr = some (.bool true) := eqptr _ _ _ _ Tryz.underlying101
theorem right (hS : ∀ f args h, f ≠ 66 → S f args h = none) (h : AH) : RnC Tryz.prog S 165 [.nilptr] h fun v h' => v = .bool false ∧ h' = h := by
  refine RnC.enter' Tryz.f165 _ 12 [.tmp 2] (hS _ _ _ (by decide)) bd165 Tryz.func165 rfl rfl rfl ?_
  simp (maxSteps := 1000000) -dsimp (disch := first | omega | ((repeat first | rw [AH.nx_new] | rw [AH.nx_put]); done) | ((repeat first | rw [AH.nx_new] | rw [AH.nx_put]); omega)) only [go_sem, Int.reduceEq, Int.reduceNe, Int.reduceLT, Int.reduceLE, Int.reduceAdd, Int.reduceSub, Int.reduceMul, Int.reduceNeg, Int.reduceToNat, Nat.reducePow, reduceCtorEq, Nat.reduceEqDiff, Nat.reduceAdd, Nat.reduceLT, Nat.reduceLeDiff, Nat.reduceMul, Nat.reduceSub, Nat.reduceBEq, Int.reduceToNat, ne93]
  exact ⟨trivial, trivial⟩
theorem get (hS : ∀ f args h, f ≠ 66 → S f args h = none) (p : List Nat) (h : AH) : RnC Tryz.prog S 80 [.nilptr, .str p] h fun v h' => v = .tup [.str [], .bool false] ∧ h' = h := by
  refine RnC.enter' Tryz.f80 _ 18 [.tmp 4, .tmp 5] (hS _ _ _ (by decide)) bd80 Tryz.func80 rfl rfl rfl ?_
  simp (maxSteps := 1000000) -dsimp (disch := first | omega | ((repeat first | rw [AH.nx_new] | rw [AH.nx_put]); done) | ((repeat first | rw [AH.nx_new] | rw [AH.nx_put]); omega)) only [go_sem, Int.reduceEq, Int.reduceNe, Int.reduceLT, Int.reduceLE, Int.reduceAdd, Int.reduceSub, Int.reduceMul, Int.reduceNeg, Int.reduceToNat, Nat.reducePow, reduceCtorEq, Nat.reduceEqDiff, Nat.reduceAdd, Nat.reduceLT, Nat.reduceLeDiff, Nat.reduceMul, Nat.reduceSub, Nat.reduceBEq, Int.reduceToNat]
  refine callK_of (right hS _) ?_
  rintro v h' ⟨rfl, rfl⟩
  simp (maxSteps := 1000000) -dsimp (disch := first | omega | ((repeat first | rw [AH.nx_new] | rw [AH.nx_put]); done) | ((repeat first | rw [AH.nx_new] | rw [AH.nx_put]); omega)) only [go_sem, Int.reduceEq, Int.reduceNe, Int.reduceLT, Int.reduceLE, Int.reduceAdd, Int.reduceSub, Int.reduceMul, Int.reduceNeg, Int.reduceToNat, Nat.reducePow, reduceCtorEq, Nat.reduceEqDiff, Nat.reduceAdd, Nat.reduceLT, Nat.reduceLeDiff, Nat.reduceMul, Nat.reduceSub, Nat.reduceBEq, Int.reduceToNat]
  exact ⟨rfl, trivial⟩
theorem batch (hS : ∀ f args h, f ≠ 66 → S f args h = none) (x : AV) (h : AH) : RnC Tryz.prog S 76 [.nilptr, x] h fun v h' => v = .int .i64 1 ∧ h' = h := by
  refine RnC.enter' Tryz.f76 _ 95 [.tmp 4] (hS _ _ _ (by decide)) bd76 Tryz.func76 rfl rfl rfl ?_
  simp (maxSteps := 1000000) -dsimp (disch := first | omega | ((repeat first | rw [AH.nx_new] | rw [AH.nx_put]); done) | ((repeat first | rw [AH.nx_new] | rw [AH.nx_put]); omega)) only [go_sem, Int.reduceEq, Int.reduceNe, Int.reduceLT, Int.reduceLE, Int.reduceAdd, Int.reduceSub, Int.reduceMul, Int.reduceNeg, Int.reduceToNat, Nat.reducePow, reduceCtorEq, Nat.reduceEqDiff, Nat.reduceAdd, Nat.reduceLT, Nat.reduceLeDiff, Nat.reduceMul, Nat.reduceSub, Nat.reduceBEq, Int.reduceToNat]
  refine callK_of (right hS _) ?_
  rintro v h' ⟨rfl, rfl⟩
  simp (maxSteps := 1000000) -dsimp (disch := first | omega | ((repeat first | rw [AH.nx_new] | rw [AH.nx_put]); done) | ((repeat first | rw [AH.nx_new] | rw [AH.nx_put]); omega)) only [go_sem, Int.reduceEq, Int.reduceNe, Int.reduceLT, Int.reduceLE, Int.reduceAdd, Int.reduceSub, Int.reduceMul, Int.reduceNeg, Int.reduceToNat, Nat.reducePow, reduceCtorEq, Nat.reduceEqDiff, Nat.reduceAdd, Nat.reduceLT, Nat.reduceLeDiff, Nat.reduceMul, Nat.reduceSub, Nat.reduceBEq, Int.reduceToNat]
  exact ⟨trivial, trivial⟩
theorem order (hS : ∀ f args h, f ≠ 66 → S f args h = none) (h : AH) : RnC Tryz.prog S 85 [.nilptr] h fun v h' => v = .int .i64 1 ∧ h' = h := by
  refine RnC.enter' Tryz.f85 _ 27 [.tmp 2] (hS _ _ _ (by decide)) bd85 Tryz.func85 rfl rfl rfl ?_
  simp (maxSteps := 1000000) -dsimp (disch := first | omega | ((repeat first | rw [AH.nx_new] | rw [AH.nx_put]); done) | ((repeat first | rw [AH.nx_new] | rw [AH.nx_put]); omega)) only [go_sem, Int.reduceEq, Int.reduceNe, Int.reduceLT, Int.reduceLE, Int.reduceAdd, Int.reduceSub, Int.reduceMul, Int.reduceNeg, Int.reduceToNat, Nat.reducePow, reduceCtorEq, Nat.reduceEqDiff, Nat.reduceAdd, Nat.reduceLT, Nat.reduceLeDiff, Nat.reduceMul, Nat.reduceSub, Nat.reduceBEq, Int.reduceToNat]
  refine callK_of (right hS _) ?_
  rintro v h' ⟨rfl, rfl⟩
  simp (maxSteps := 1000000) -dsimp (disch := first | omega | ((repeat first | rw [AH.nx_new] | rw [AH.nx_put]); done) | ((repeat first | rw [AH.nx_new] | rw [AH.nx_put]); omega)) only [go_sem, Int.reduceEq, Int.reduceNe, Int.reduceLT, Int.reduceLE, Int.reduceAdd, Int.reduceSub, Int.reduceMul, Int.reduceNeg, Int.reduceToNat, Nat.reducePow, reduceCtorEq, Nat.reduceEqDiff, Nat.reduceAdd, Nat.reduceLT, Nat.reduceLeDiff, Nat.reduceMul, Nat.reduceSub, Nat.reduceBEq, Int.reduceToNat]
  exact ⟨trivial, trivial⟩
theorem range (hS : ∀ f args h, f ≠ 66 → S f args h = none) (p q : List Nat) (k : Int) (h : AH) : RnC Tryz.prog S 82 [.nilptr, .str p, .str q, .int .i64 k] h fun v h' => v = .nilsl ∧ h' = h := by
  refine RnC.enter' Tryz.f82 _ 21 [.tmp 8] (hS _ _ _ (by decide)) bd82 Tryz.func82 rfl rfl rfl ?_
  simp (maxSteps := 1000000) -dsimp (disch := first | omega | ((repeat first | rw [AH.nx_new] | rw [AH.nx_put]); done) | ((repeat first | rw [AH.nx_new] | rw [AH.nx_put]); omega)) only [go_sem, Int.reduceEq, Int.reduceNe, Int.reduceLT, Int.reduceLE, Int.reduceAdd, Int.reduceSub, Int.reduceMul, Int.reduceNeg, Int.reduceToNat, Nat.reducePow, reduceCtorEq, Nat.reduceEqDiff, Nat.reduceAdd, Nat.reduceLT, Nat.reduceLeDiff, Nat.reduceMul, Nat.reduceSub, Nat.reduceBEq, Int.reduceToNat]
  refine callK_of (right hS _) ?_
  rintro v h' ⟨rfl, rfl⟩
  simp (maxSteps := 1000000) -dsimp (disch := first | omega | ((repeat first | rw [AH.nx_new] | rw [AH.nx_put]); done) | ((repeat first | rw [AH.nx_new] | rw [AH.nx_put]); omega)) only [go_sem, Int.reduceEq, Int.reduceNe, Int.reduceLT, Int.reduceLE, Int.reduceAdd, Int.reduceSub, Int.reduceMul, Int.reduceNeg, Int.reduceToNat, Nat.reducePow, reduceCtorEq, Nat.reduceEqDiff, Nat.reduceAdd, Nat.reduceLT, Nat.reduceLeDiff, Nat.reduceMul, Nat.reduceSub, Nat.reduceBEq, Int.reduceToNat]
  exact ⟨trivial, trivial⟩
theorem bld103 : evBuild Tryz.prog 103 [] = some (.agg [.nilptr]) := by kernel_rfl
theorem table (hS : ∀ f args h, f ≠ 66 → S f args h = none) (h : AH) : RnC Tryz.prog S 78 [.nilptr] h fun v h' => v = .agg [.nilptr] ∧ Fr h h' := by
  refine RnC.enter' Tryz.f78 _ 12 [.cell 2 103] (hS _ _ _ (by decide)) bd78 Tryz.func78 rfl rfl rfl ?_
  simp (maxSteps := 1000000) -dsimp (disch := first | omega | ((repeat first | rw [AH.nx_new] | rw [AH.nx_put]); done) | ((repeat first | rw [AH.nx_new] | rw [AH.nx_put]); omega)) only [go_sem, Int.reduceEq, Int.reduceNe, Int.reduceLT, Int.reduceLE, Int.reduceAdd, Int.reduceSub, Int.reduceMul, Int.reduceNeg, Int.reduceToNat, Nat.reducePow, reduceCtorEq, Nat.reduceEqDiff, Nat.reduceAdd, Nat.reduceLT, Nat.reduceLeDiff, Nat.reduceMul, Nat.reduceSub, Nat.reduceBEq, Int.reduceToNat]
  refine callK_of (right hS _) ?_
  rintro v h' ⟨rfl, rfl⟩
  simp (maxSteps := 1000000) -dsimp (disch := first | omega | ((repeat first | rw [AH.nx_new] | rw [AH.nx_put]); done) | ((repeat first | rw [AH.nx_new] | rw [AH.nx_put]); omega)) only [go_sem, Int.reduceEq, Int.reduceNe, Int.reduceLT, Int.reduceLE, Int.reduceAdd, Int.reduceSub, Int.reduceMul, Int.reduceNeg, Int.reduceToNat, Nat.reducePow, reduceCtorEq, Nat.reduceEqDiff, Nat.reduceAdd, Nat.reduceLT, Nat.reduceLeDiff, Nat.reduceMul, Nat.reduceSub, Nat.reduceBEq, Int.reduceToNat, bld103]
  exact ⟨trivial, ((Fr.refl h).news _).put _ (by omega)⟩
theorem count (hS : ∀ f args h, f ≠ 66 → S f args h = none) (h : AH) : RnC Tryz.prog S 169 [.nilptr] h fun v h' => v = .int .i64 0 ∧ h' = h := by
  refine RnC.enter' Tryz.f169 _ 9 [.tmp 2] (hS _ _ _ (by decide)) bd169 Tryz.func169 rfl rfl rfl ?_
  simp (maxSteps := 1000000) -dsimp (disch := first | omega | ((repeat first | rw [AH.nx_new] | rw [AH.nx_put]); done) | ((repeat first | rw [AH.nx_new] | rw [AH.nx_put]); omega)) only [go_sem, Int.reduceEq, Int.reduceNe, Int.reduceLT, Int.reduceLE, Int.reduceAdd, Int.reduceSub, Int.reduceMul, Int.reduceNeg, Int.reduceToNat, Nat.reducePow, reduceCtorEq, Nat.reduceEqDiff, Nat.reduceAdd, Nat.reduceLT, Nat.reduceLeDiff, Nat.reduceMul, Nat.reduceSub, Nat.reduceBEq, Int.reduceToNat, eq101]
  exact ⟨trivial, trivial⟩
theorem tsz (hS : ∀ f args h, f ≠ 66 → S f args h = none) (h : AH) : RnC Tryz.prog S 86 [.agg [.nilptr]] h fun v h' => v = .int .i64 0 ∧ Fr h h' := by
  refine RnC.enter' Tryz.f86 _ 6 [.tmp 2] (hS _ _ _ (by decide)) bd86 Tryz.func86 rfl rfl rfl ?_
  simp (maxSteps := 1000000) -dsimp (disch := first | omega | ((repeat first | rw [AH.nx_new] | rw [AH.nx_put]); done) | ((repeat first | rw [AH.nx_new] | rw [AH.nx_put]); omega)) only [go_sem, Int.reduceEq, Int.reduceNe, Int.reduceLT, Int.reduceLE, Int.reduceAdd, Int.reduceSub, Int.reduceMul, Int.reduceNeg, Int.reduceToNat, Nat.reducePow, reduceCtorEq, Nat.reduceEqDiff, Nat.reduceAdd, Nat.reduceLT, Nat.reduceLeDiff, Nat.reduceMul, Nat.reduceSub, Nat.reduceBEq, Int.reduceToNat]
  refine callK_of (count hS _) ?_
  rintro v h' ⟨rfl, rfl⟩
  simp (maxSteps := 1000000) -dsimp (disch := first | omega | ((repeat first | rw [AH.nx_new] | rw [AH.nx_put]); done) | ((repeat first | rw [AH.nx_new] | rw [AH.nx_put]); omega)) only [go_sem, Int.reduceEq, Int.reduceNe, Int.reduceLT, Int.reduceLE, Int.reduceAdd, Int.reduceSub, Int.reduceMul, Int.reduceNeg, Int.reduceToNat, Nat.reducePow, reduceCtorEq, Nat.reduceEqDiff, Nat.reduceAdd, Nat.reduceLT, Nat.reduceLeDiff, Nat.reduceMul, Nat.reduceSub, Nat.reduceBEq, Int.reduceToNat]
  exact ⟨trivial, Fr.new _ _⟩
theorem size (hS : ∀ f args h, f ≠ 66 → S f args h = none) (h : AH) : RnC Tryz.prog S 87 [.nilptr] h fun v h' => v = .int .i64 0 ∧ h' = h := by
  refine RnC.enter' Tryz.f87 _ 11 [.tmp 2] (hS _ _ _ (by decide)) bd87 Tryz.func87 rfl rfl rfl ?_
  simp (maxSteps := 1000000) -dsimp (disch := first | omega | ((repeat first | rw [AH.nx_new] | rw [AH.nx_put]); done) | ((repeat first | rw [AH.nx_new] | rw [AH.nx_put]); omega)) only [go_sem, Int.reduceEq, Int.reduceNe, Int.reduceLT, Int.reduceLE, Int.reduceAdd, Int.reduceSub, Int.reduceMul, Int.reduceNeg, Int.reduceToNat, Nat.reducePow, reduceCtorEq, Nat.reduceEqDiff, Nat.reduceAdd, Nat.reduceLT, Nat.reduceLeDiff, Nat.reduceMul, Nat.reduceSub, Nat.reduceBEq, Int.reduceToNat]
  refine callK_of (right hS _) ?_
  rintro v h' ⟨rfl, rfl⟩
  simp (maxSteps := 1000000) -dsimp (disch := first | omega | ((repeat first | rw [AH.nx_new] | rw [AH.nx_put]); done) | ((repeat first | rw [AH.nx_new] | rw [AH.nx_put]); omega)) only [go_sem, Int.reduceEq, Int.reduceNe, Int.reduceLT, Int.reduceLE, Int.reduceAdd, Int.reduceSub, Int.reduceMul, Int.reduceNeg, Int.reduceToNat, Nat.reducePow, reduceCtorEq, Nat.reduceEqDiff, Nat.reduceAdd, Nat.reduceLT, Nat.reduceLeDiff, Nat.reduceMul, Nat.reduceSub, Nat.reduceBEq, Int.reduceToNat]
  exact ⟨trivial, trivial⟩

set_option maxHeartbeats 4000000 in
theorem law (hS : ∀ f args h, f ≠ 66 → S f args h = none) (hL : ∀ h, S 66 [] h = some (.bool true, h)) {p : List Nat} {x : AV} {cs : List AV} {n : Nat} {h : AH} (hx : Sl3 h x cs n) (hall : cs.all oneA = true) (hr : ∀ i, i < n → Row3 cs i)
    (hp : p.length ≤ maxLen) (hl : n ≤ maxLen) (hcl : cs.length = n * 3) (ho : oneA x = true) : RnC Tryz.prog S 16 [x, .str p] h fun v _ => v = .bool true := by
  refine RnC.enter' Tryz.f16 _ 61 [.tmp 4] (hS _ _ _ (by decide)) bd16 Tryz.func16 rfl rfl rfl ?_
  simp (maxSteps := 1000000) -dsimp (disch := first | omega | ((repeat first | rw [AH.nx_new] | rw [AH.nx_put]); done) | ((repeat first | rw [AH.nx_new] | rw [AH.nx_put]); omega)) only [go_sem, Int.reduceEq, Int.reduceNe, Int.reduceLT, Int.reduceLE, Int.reduceAdd, Int.reduceSub, Int.reduceMul, Int.reduceNeg, Int.reduceToNat, Nat.reducePow, reduceCtorEq, Nat.reduceEqDiff, Nat.reduceAdd, Nat.reduceLT, Nat.reduceLeDiff, Nat.reduceMul, Nat.reduceSub, Nat.reduceBEq, Int.reduceToNat]
  refine callK_of (RnC.sum (hL _) (Q := fun v h' => v = .bool true ∧ h' = h) ⟨rfl, rfl⟩) ?_
  rintro v h' ⟨rfl, rfl⟩
  simp (maxSteps := 1000000) -dsimp (disch := first | omega | ((repeat first | rw [AH.nx_new] | rw [AH.nx_put]); done) | ((repeat first | rw [AH.nx_new] | rw [AH.nx_put]); omega)) only [go_sem, Int.reduceEq, Int.reduceNe, Int.reduceLT, Int.reduceLE, Int.reduceAdd, Int.reduceSub, Int.reduceMul, Int.reduceNeg, Int.reduceToNat, Nat.reducePow, reduceCtorEq, Nat.reduceEqDiff, Nat.reduceAdd, Nat.reduceLT, Nat.reduceLeDiff, Nat.reduceMul, Nat.reduceSub, Nat.reduceBEq, Int.reduceToNat, ho, cellsA_one ho]
  refine callK_of (light hS hx hr hl hcl) ?_
  rintro v h1 ⟨hf1, rfl | ⟨rfl, hn⟩⟩
  · simp (maxSteps := 1000000) -dsimp (disch := first | omega | ((repeat first | rw [AH.nx_new] | rw [AH.nx_put]); done) | ((repeat first | rw [AH.nx_new] | rw [AH.nx_put]); omega)) only [go_sem, Int.reduceEq, Int.reduceNe, Int.reduceLT, Int.reduceLE, Int.reduceAdd, Int.reduceSub, Int.reduceMul, Int.reduceNeg, Int.reduceToNat, Nat.reducePow, reduceCtorEq, Nat.reduceEqDiff, Nat.reduceAdd, Nat.reduceLT, Nat.reduceLeDiff, Nat.reduceMul, Nat.reduceSub, Nat.reduceBEq, Int.reduceToNat]
  · by_cases c1 : 3000 < (p.length : Int)
    · simp (maxSteps := 1000000) -dsimp (disch := first | omega | ((repeat first | rw [AH.nx_new] | rw [AH.nx_put]); done) | ((repeat first | rw [AH.nx_new] | rw [AH.nx_put]); omega)) only [go_sem, Int.reduceEq, Int.reduceNe, Int.reduceLT, Int.reduceLE, Int.reduceAdd, Int.reduceSub, Int.reduceMul, Int.reduceNeg, Int.reduceToNat, Nat.reducePow, reduceCtorEq, Nat.reduceEqDiff, Nat.reduceAdd, Nat.reduceLT, Nat.reduceLeDiff, Nat.reduceMul, Nat.reduceSub, Nat.reduceBEq, Int.reduceToNat, c1]
    · simp (maxSteps := 1000000) -dsimp (disch := first | omega | ((repeat first | rw [AH.nx_new] | rw [AH.nx_put]); done) | ((repeat first | rw [AH.nx_new] | rw [AH.nx_put]); omega)) only [go_sem, Int.reduceEq, Int.reduceNe, Int.reduceLT, Int.reduceLE, Int.reduceAdd, Int.reduceSub, Int.reduceMul, Int.reduceNeg, Int.reduceToNat, Nat.reducePow, reduceCtorEq, Nat.reduceEqDiff, Nat.reduceAdd, Nat.reduceLT, Nat.reduceLeDiff, Nat.reduceMul, Nat.reduceSub, Nat.reduceBEq, Int.reduceToNat, c1, ho, cellsA_one ho]
      refine callK_of (get hS _ _) ?_
      rintro v h2 ⟨rfl, rfl⟩
      obtain ⟨w, h4, ha, hf4, hw⟩ := app0 (h := h2.new (.cells [] true true)) (id := h2.nx) (o := true) (t := true) (cs0 := []) (sl3fr hx (hf1.trans (Fr.new _ _))) hcl hall (by omega) (AH.get_new_eq rfl)
      simp (maxSteps := 1000000) -dsimp (disch := first | omega | ((repeat first | rw [AH.nx_new] | rw [AH.nx_put]); done) | ((repeat first | rw [AH.nx_new] | rw [AH.nx_put]); omega)) only [go_sem, Int.reduceEq, Int.reduceNe, Int.reduceLT, Int.reduceLE, Int.reduceAdd, Int.reduceSub, Int.reduceMul, Int.reduceNeg, Int.reduceToNat, Nat.reducePow, reduceCtorEq, Nat.reduceEqDiff, Nat.reduceAdd, Nat.reduceLT, Nat.reduceLeDiff, Nat.reduceMul, Nat.reduceSub, Nat.reduceBEq, Int.reduceToNat, ho, cellsA_one ho, ha]
      refine callK_of (batch hS _ _) ?_
      rintro v h5 ⟨rfl, rfl⟩
      simp (maxSteps := 1000000) -dsimp (disch := first | omega | ((repeat first | rw [AH.nx_new] | rw [AH.nx_put]); done) | ((repeat first | rw [AH.nx_new] | rw [AH.nx_put]); omega)) only [go_sem, Int.reduceEq, Int.reduceNe, Int.reduceLT, Int.reduceLE, Int.reduceAdd, Int.reduceSub, Int.reduceMul, Int.reduceNeg, Int.reduceToNat, Nat.reducePow, reduceCtorEq, Nat.reduceEqDiff, Nat.reduceAdd, Nat.reduceLT, Nat.reduceLeDiff, Nat.reduceMul, Nat.reduceSub, Nat.reduceBEq, Int.reduceToNat]
      refine callK_of (order hS _) ?_
      rintro v h6 ⟨rfl, rfl⟩
      simp (maxSteps := 1000000) -dsimp (disch := first | omega | ((repeat first | rw [AH.nx_new] | rw [AH.nx_put]); done) | ((repeat first | rw [AH.nx_new] | rw [AH.nx_put]); omega)) only [go_sem, Int.reduceEq, Int.reduceNe, Int.reduceLT, Int.reduceLE, Int.reduceAdd, Int.reduceSub, Int.reduceMul, Int.reduceNeg, Int.reduceToNat, Nat.reducePow, reduceCtorEq, Nat.reduceEqDiff, Nat.reduceAdd, Nat.reduceLT, Nat.reduceLeDiff, Nat.reduceMul, Nat.reduceSub, Nat.reduceBEq, Int.reduceToNat, bytes0, eqs]
      refine callK_of (range hS _ _ _ _) ?_
      rintro v h7 ⟨rfl, rfl⟩
      simp (maxSteps := 1000000) -dsimp (disch := first | omega | ((repeat first | rw [AH.nx_new] | rw [AH.nx_put]); done) | ((repeat first | rw [AH.nx_new] | rw [AH.nx_put]); omega)) only [go_sem, Int.reduceEq, Int.reduceNe, Int.reduceLT, Int.reduceLE, Int.reduceAdd, Int.reduceSub, Int.reduceMul, Int.reduceNeg, Int.reduceToNat, Nat.reducePow, reduceCtorEq, Nat.reduceEqDiff, Nat.reduceAdd, Nat.reduceLT, Nat.reduceLeDiff, Nat.reduceMul, Nat.reduceSub, Nat.reduceBEq, Int.reduceToNat, bytes0, eqs]
      refine callK_of (table hS _) ?_
      rintro v h8 ⟨rfl, hf8⟩
      refine callK_of (tsz hS _) ?_
      rintro v h9 ⟨rfl, hf9⟩
      simp (maxSteps := 1000000) -dsimp (disch := first | omega | ((repeat first | rw [AH.nx_new] | rw [AH.nx_put]); done) | ((repeat first | rw [AH.nx_new] | rw [AH.nx_put]); omega)) only [go_sem, Int.reduceEq, Int.reduceNe, Int.reduceLT, Int.reduceLE, Int.reduceAdd, Int.reduceSub, Int.reduceMul, Int.reduceNeg, Int.reduceToNat, Nat.reducePow, reduceCtorEq, Nat.reduceEqDiff, Nat.reduceAdd, Nat.reduceLT, Nat.reduceLeDiff, Nat.reduceMul, Nat.reduceSub, Nat.reduceBEq, Int.reduceToNat, bytes0, eqs]
      refine callK_of (size hS _) ?_
      rintro v h10 ⟨rfl, rfl⟩
      simp (maxSteps := 1000000) -dsimp (disch := first | omega | ((repeat first | rw [AH.nx_new] | rw [AH.nx_put]); done) | ((repeat first | rw [AH.nx_new] | rw [AH.nx_put]); omega)) only [go_sem, Int.reduceEq, Int.reduceNe, Int.reduceLT, Int.reduceLE, Int.reduceAdd, Int.reduceSub, Int.reduceMul, Int.reduceNeg, Int.reduceToNat, Nat.reducePow, reduceCtorEq, Nat.reduceEqDiff, Nat.reduceAdd, Nat.reduceLT, Nat.reduceLeDiff, Nat.reduceMul, Nat.reduceSub, Nat.reduceBEq, Int.reduceToNat, bytes0, eqs]
end
end Go.Proofs.YtieobkifoehanaaGreatDoor.storeNil
