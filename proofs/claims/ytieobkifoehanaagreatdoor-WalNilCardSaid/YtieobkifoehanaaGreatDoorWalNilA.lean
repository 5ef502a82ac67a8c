/- The calls that the law WalNil makes on no log: each returns ErrNil, or nothing; the guard LightTexts. Conditions: none beyond the stated premises. -/
import Derived.Test.YtieobkifoehanaaGreatDoorSeat
import Derived.Test.YtieobkifoehanaaGreatDoorFacts
import Derived.Test.YtieobkifoehanaaGreatDoorAbs36
namespace Go.Proofs.YtieobkifoehanaaGreatDoor.walNil
open Go Go.Abs Go.Proofs
set_option maxRecDepth 100000
set_option linter.unusedVariables false
set_option linter.unusedSimpArgs false

section
variable {S : Sums}
theorem sl1len {h : AH} {x : AV} {cs : List AV} (hx : Sl1 h x cs) : lenA x = some cs.length := by
  rcases hx with ⟨rfl, rfl⟩ | ⟨id, rfl, _⟩ <;> rfl

set_option maxHeartbeats 4000000 in
/-- A list of texts is light only if it holds at most fifty. -/
theorem light (hS : ∀ f args h, f ≠ 21 → S f args h = none) {x : AV} {cs : List AV} {h : AH} (hx : Sl1 h x cs) (hs : ∀ (i : Nat) (c : AV), cs[i]? = some c → ∃ s : List Nat, c = .str s ∧ s.length ≤ maxLen) (hl : cs.length ≤ maxLen) :
    RnC Tryz.prog S 25 [x, .int .i64 50, .int .i64 3000] h fun v h' => h' = h ∧ (v = .bool false ∨ v = .bool true ∧ cs.length ≤ 50) := by
  refine RnC.enter' Tryz.f25 _ 44 [.tmp 6] (hS _ _ _ (by decide)) bd25 Tryz.func25 rfl rfl rfl ?_
  simp (maxSteps := 1000000) -dsimp (disch := first | omega | ((repeat first | rw [AH.nx_new] | rw [AH.nx_put]); done) | ((repeat first | rw [AH.nx_new] | rw [AH.nx_put]); omega)) only [go_sem, Int.reduceEq, Int.reduceNe, Int.reduceLT, Int.reduceLE, Int.reduceAdd, Int.reduceSub, Int.reduceMul, Int.reduceNeg, Int.reduceToNat, Nat.reducePow, reduceCtorEq, Nat.reduceEqDiff, Nat.reduceAdd, Nat.reduceLT, Nat.reduceLeDiff, Nat.reduceMul, Nat.reduceSub, Nat.reduceBEq, Int.reduceToNat]
  refine loopK_of (RnL.rounds (Q := fun ex s => ex = .exit 0 ∧ s.h = h ∧ s.d = [] ∧ s.t.get 0 = some x ∧ s.t.get 1 = some (.int .i64 50) ∧ s.t.get 2 = some (.int .i64 3000) ∧ ∃ k : Int, s.t.get 7 = some (.int .i64 k))
    (fun m s => s.h = h ∧ s.d = [] ∧ s.t.get 0 = some x ∧ s.t.get 1 = some (.int .i64 50) ∧ s.t.get 2 = some (.int .i64 3000) ∧ ∃ (i : Nat) (k : Int), s.t.get 8 = some (.int .i64 i) ∧ s.t.get 7 = some (.int .i64 k) ∧ 0 ≤ k ∧ k ≤ 10000 ∧ i ≤ 51 ∧ i ≤ cs.length ∧ m = 51 - i) ?_ 51 ?_) ?_
  · rintro m ⟨t, h1, d⟩ ⟨e1, e2, g0, g1, g2, i, k, g8, g7, hk0, hk1, hi, hic, rfl⟩
    dsimp only at e1 e2 g0 g1 g2 g7 g8
    subst e1 e2
    rcases hx with ⟨rfl, rfl⟩ | ⟨id, rfl, hg, hid⟩
    · have c1 : ¬ (i : Int) < 0 := by omega
      simp (maxSteps := 1000000) -dsimp (disch := first | omega | ((repeat first | rw [AH.nx_new] | rw [AH.nx_put]); done) | ((repeat first | rw [AH.nx_new] | rw [AH.nx_put]); omega)) only [go_sem, Int.reduceEq, Int.reduceNe, Int.reduceLT, Int.reduceLE, Int.reduceAdd, Int.reduceSub, Int.reduceMul, Int.reduceNeg, Int.reduceToNat, Nat.reducePow, reduceCtorEq, Nat.reduceEqDiff, Nat.reduceAdd, Nat.reduceLT, Nat.reduceLeDiff, Nat.reduceMul, Nat.reduceSub, Nat.reduceBEq, Int.reduceToNat, c1, g0, g1, g2, g7, g8, Tryz.underlying24]
      exact ⟨trivial, trivial, trivial, trivial, trivial, trivial, _, rfl⟩
    · by_cases c1 : (i : Int) < cs.length
      · by_cases c2 : (i : Int) ≤ 50
        · by_cases c3 : k ≤ 3000
          · have hil : i < cs.length := by omega
            obtain ⟨s, hs1, hs2⟩ := hs i _ (List.getElem?_eq_getElem hil)
            have hs3 : cs[i]? = some (.str s) := by rw [List.getElem?_eq_getElem hil, hs1]
            simp (maxSteps := 1000000) -dsimp (disch := first | omega | ((repeat first | rw [AH.nx_new] | rw [AH.nx_put]); done) | ((repeat first | rw [AH.nx_new] | rw [AH.nx_put]); omega)) only [go_sem, Int.reduceEq, Int.reduceNe, Int.reduceLT, Int.reduceLE, Int.reduceAdd, Int.reduceSub, Int.reduceMul, Int.reduceNeg, Int.reduceToNat, Nat.reducePow, reduceCtorEq, Nat.reduceEqDiff, Nat.reduceAdd, Nat.reduceLT, Nat.reduceLeDiff, Nat.reduceMul, Nat.reduceSub, Nat.reduceBEq, Int.reduceToNat, c1, c2, c3, g0, g1, g2, g7, g8, Tryz.underlying24, Tryz.underlying9, hg, tz9, Nat.mul_one, hs3]
            have hcast : ((i : Int) + 1) = ((i + 1 : Nat) : Int) := rfl
            exact ⟨51 - (i + 1), by omega, trivial, trivial, trivial, trivial, trivial, i + 1, _, rfl, rfl, by omega, by omega, by omega, by omega, rfl⟩
          · simp (maxSteps := 1000000) -dsimp (disch := first | omega | ((repeat first | rw [AH.nx_new] | rw [AH.nx_put]); done) | ((repeat first | rw [AH.nx_new] | rw [AH.nx_put]); omega)) only [go_sem, Int.reduceEq, Int.reduceNe, Int.reduceLT, Int.reduceLE, Int.reduceAdd, Int.reduceSub, Int.reduceMul, Int.reduceNeg, Int.reduceToNat, Nat.reducePow, reduceCtorEq, Nat.reduceEqDiff, Nat.reduceAdd, Nat.reduceLT, Nat.reduceLeDiff, Nat.reduceMul, Nat.reduceSub, Nat.reduceBEq, Int.reduceToNat, c1, c2, c3, g0, g1, g2, g7, g8, Tryz.underlying24]
            exact ⟨trivial, trivial, trivial, trivial, trivial, trivial, _, rfl⟩
        · simp (maxSteps := 1000000) -dsimp (disch := first | omega | ((repeat first | rw [AH.nx_new] | rw [AH.nx_put]); done) | ((repeat first | rw [AH.nx_new] | rw [AH.nx_put]); omega)) only [go_sem, Int.reduceEq, Int.reduceNe, Int.reduceLT, Int.reduceLE, Int.reduceAdd, Int.reduceSub, Int.reduceMul, Int.reduceNeg, Int.reduceToNat, Nat.reducePow, reduceCtorEq, Nat.reduceEqDiff, Nat.reduceAdd, Nat.reduceLT, Nat.reduceLeDiff, Nat.reduceMul, Nat.reduceSub, Nat.reduceBEq, Int.reduceToNat, c1, c2, g0, g1, g2, g7, g8, Tryz.underlying24]
          exact ⟨trivial, trivial, trivial, trivial, trivial, trivial, _, rfl⟩
      · simp (maxSteps := 1000000) -dsimp (disch := first | omega | ((repeat first | rw [AH.nx_new] | rw [AH.nx_put]); done) | ((repeat first | rw [AH.nx_new] | rw [AH.nx_put]); omega)) only [go_sem, Int.reduceEq, Int.reduceNe, Int.reduceLT, Int.reduceLE, Int.reduceAdd, Int.reduceSub, Int.reduceMul, Int.reduceNeg, Int.reduceToNat, Nat.reducePow, reduceCtorEq, Nat.reduceEqDiff, Nat.reduceAdd, Nat.reduceLT, Nat.reduceLeDiff, Nat.reduceMul, Nat.reduceSub, Nat.reduceBEq, Int.reduceToNat, c1, g0, g1, g2, g7, g8, Tryz.underlying24]
        exact ⟨trivial, trivial, trivial, trivial, trivial, trivial, _, rfl⟩
  · simp (maxSteps := 1000000) -dsimp (disch := first | omega | ((repeat first | rw [AH.nx_new] | rw [AH.nx_put]); done) | ((repeat first | rw [AH.nx_new] | rw [AH.nx_put]); omega)) only [go_sem, Int.reduceEq, Int.reduceNe, Int.reduceLT, Int.reduceLE, Int.reduceAdd, Int.reduceSub, Int.reduceMul, Int.reduceNeg, Int.reduceToNat, Nat.reducePow, reduceCtorEq, Nat.reduceEqDiff, Nat.reduceAdd, Nat.reduceLT, Nat.reduceLeDiff, Nat.reduceMul, Nat.reduceSub, Nat.reduceBEq, Int.reduceToNat]
    exact ⟨trivial, trivial, trivial, trivial, trivial, 0, 0, rfl, rfl, by decide, by decide, by decide, Nat.zero_le _, rfl⟩
  · rintro ex ⟨t, h1, d⟩ ⟨rfl, rfl, rfl, g0, g1, g2, k, g7⟩
    rcases hx with ⟨rfl, rfl⟩ | ⟨id, rfl, hg, hid⟩
    · simp (maxSteps := 1000000) -dsimp (disch := first | omega | ((repeat first | rw [AH.nx_new] | rw [AH.nx_put]); done) | ((repeat first | rw [AH.nx_new] | rw [AH.nx_put]); omega)) only [go_sem, Int.reduceEq, Int.reduceNe, Int.reduceLT, Int.reduceLE, Int.reduceAdd, Int.reduceSub, Int.reduceMul, Int.reduceNeg, Int.reduceToNat, Nat.reducePow, reduceCtorEq, Nat.reduceEqDiff, Nat.reduceAdd, Nat.reduceLT, Nat.reduceLeDiff, Nat.reduceMul, Nat.reduceSub, Nat.reduceBEq, Int.reduceToNat, g0, g1, g2, g7, Tryz.underlying24]
      refine ⟨trivial, ?_⟩
      by_cases hk : k ≤ 3000
      · exact .inr ⟨by rw [decide_eq_true hk], trivial⟩
      · exact .inl (by rw [decide_eq_false hk])
    · by_cases c1 : (cs.length : Int) ≤ 50
      · simp (maxSteps := 1000000) -dsimp (disch := first | omega | ((repeat first | rw [AH.nx_new] | rw [AH.nx_put]); done) | ((repeat first | rw [AH.nx_new] | rw [AH.nx_put]); omega)) only [go_sem, Int.reduceEq, Int.reduceNe, Int.reduceLT, Int.reduceLE, Int.reduceAdd, Int.reduceSub, Int.reduceMul, Int.reduceNeg, Int.reduceToNat, Nat.reducePow, reduceCtorEq, Nat.reduceEqDiff, Nat.reduceAdd, Nat.reduceLT, Nat.reduceLeDiff, Nat.reduceMul, Nat.reduceSub, Nat.reduceBEq, Int.reduceToNat, c1, g0, g1, g2, g7, Tryz.underlying24]
        refine ⟨trivial, ?_⟩
        by_cases hk : k ≤ 3000
        · exact .inr ⟨by rw [decide_eq_true hk], by omega⟩
        · exact .inl (by rw [decide_eq_false hk])
      · simp (maxSteps := 1000000) -dsimp (disch := first | omega | ((repeat first | rw [AH.nx_new] | rw [AH.nx_put]); done) | ((repeat first | rw [AH.nx_new] | rw [AH.nx_put]); omega)) only [go_sem, Int.reduceEq, Int.reduceNe, Int.reduceLT, Int.reduceLE, Int.reduceAdd, Int.reduceSub, Int.reduceMul, Int.reduceNeg, Int.reduceToNat, Nat.reducePow, reduceCtorEq, Nat.reduceEqDiff, Nat.reduceAdd, Nat.reduceLT, Nat.reduceLeDiff, Nat.reduceMul, Nat.reduceSub, Nat.reduceBEq, Int.reduceToNat, c1, g0, g1, g2, g7, Tryz.underlying24]
        exact ⟨trivial, .inl trivial⟩

theorem ai9 : appI Tryz.prog 9 = some (1, 16) := by kernel_rfl
/-- Something is appended to a new empty slice. -/
theorem app0 {st xt e : TypeId} {d : TypeDesc} {bytes : Nat} (hu : Tryz.prog.underlying st = some (.slice e)) (hd : Tryz.prog.underlying xt = some d) (hni : notInt d = true) (hi : appI Tryz.prog e = some (1, bytes)) (hby : bytes ≤ 16)
    {h : AH} {x : AV} {cs cs0 : List AV} {id : Nat} {o t : Bool} (hx : Sl1 h x cs) (hall : cs.all oneA = true) (hl : cs.length ≤ 3000) (hid : h.get id = some (.cells cs0 o t)) :
    ∃ v h', evAppend Tryz.prog h #[st, xt] (.sl id 0 0 1 (some 0)) x = some (.val v h') ∧ Fr h h' ∧ oneA v = true := by
  have hold : firstA h 1 0 (.sl id 0 0 1 (some 0)) = some [] := by
    rw [firstA_sl hid (Nat.le_refl _) (by omega)]; simp
  have key : ∀ n, lenA x = some n → n = cs.length → firstA h 1 n x = some cs → ∃ v h', evAppend Tryz.prog h #[st, xt] (.sl id 0 0 1 (some 0)) x = some (.val v h') ∧ Fr h h' ∧ oneA v = true := by
    intro n hn hnl hnew
    have hb : (2 * (0 + n) + 1000) * bytes ≤ 2 ^ 40 := by
      have h1 : (2 * (0 + n) + 1000) * bytes ≤ (2 * 3000 + 1000) * 16 := Nat.mul_le_mul (by omega) hby
      omega
    rw [evAppend_eq hu hd hni hi hn hnew rfl hold hall hb (by omega) rfl]
    by_cases h0 : n = 0
    · rw [if_pos h0]; exact ⟨_, _, rfl, Fr.refl _, rfl⟩
    · rw [if_neg h0]
      simp only
      rw [if_pos (by omega)]
      exact ⟨_, _, rfl, Fr.new _ _, rfl⟩
  rcases hx with ⟨rfl, rfl⟩ | ⟨id', rfl, hg, _⟩
  · exact key 0 rfl rfl (by simp [firstA])
  · exact key _ rfl rfl (by rw [firstA_sl hg (Nat.le_refl _) (by omega)]; simp)

theorem sl1fr {h h' : AH} {v : AV} {cs : List AV} (hx : Sl1 h v cs) (hf : Fr h h') : Sl1 h' v cs := by
  rcases hx with h1 | ⟨id, h1, h2, h3⟩
  · exact .inl h1
  · exact .inr ⟨id, h1, (hf.get id h3).trans h2, Nat.lt_of_lt_of_le h3 hf.nx⟩


theorem eqptr (P : Program) (h : AH) (t e : TypeId) (ht : P.underlying t = some (.pointer e)) : binA P h .eql t .nilptr .nilptr = some (.bool true) := by
  simp [binA, eqOk, eqA, ht]
theorem eq28 (h : AH) : binA Tryz.prog h .eql 28 .nilptr .nilptr = some (.bool true) := eqptr _ _ _ _ Tryz.underlying28
theorem append (hS : ∀ f args h, f ≠ 21 → S f args h = none) (p : List Nat) (h : AH) : RnC Tryz.prog S 27 [.nilptr, .str p] h fun v h' => v = .int .i64 1 ∧ Fr h h' := by
  refine RnC.enter' Tryz.f27 _ 69 [.tmp 4] (hS _ _ _ (by decide)) bd27 Tryz.func27 rfl rfl rfl ?_
  simp (maxSteps := 1000000) -dsimp (disch := first | omega | ((repeat first | rw [AH.nx_new] | rw [AH.nx_put]); done) | ((repeat first | rw [AH.nx_new] | rw [AH.nx_put]); omega)) only [go_sem, Int.reduceEq, Int.reduceNe, Int.reduceLT, Int.reduceLE, Int.reduceAdd, Int.reduceSub, Int.reduceMul, Int.reduceNeg, Int.reduceToNat, Nat.reducePow, reduceCtorEq, Nat.reduceEqDiff, Nat.reduceAdd, Nat.reduceLT, Nat.reduceLeDiff, Nat.reduceMul, Nat.reduceSub, Nat.reduceBEq, Int.reduceToNat, eq28]
  exact ⟨by trivial, Fr.refl _⟩
theorem sync (hS : ∀ f args h, f ≠ 21 → S f args h = none) (h : AH) : RnC Tryz.prog S 28 [.nilptr] h fun v h' => v = .int .i64 1 ∧ Fr h h' := by
  refine RnC.enter' Tryz.f28 _ 36 [.tmp 2] (hS _ _ _ (by decide)) bd28 Tryz.func28 rfl rfl rfl ?_
  simp (maxSteps := 1000000) -dsimp (disch := first | omega | ((repeat first | rw [AH.nx_new] | rw [AH.nx_put]); done) | ((repeat first | rw [AH.nx_new] | rw [AH.nx_put]); omega)) only [go_sem, Int.reduceEq, Int.reduceNe, Int.reduceLT, Int.reduceLE, Int.reduceAdd, Int.reduceSub, Int.reduceMul, Int.reduceNeg, Int.reduceToNat, Nat.reducePow, reduceCtorEq, Nat.reduceEqDiff, Nat.reduceAdd, Nat.reduceLT, Nat.reduceLeDiff, Nat.reduceMul, Nat.reduceSub, Nat.reduceBEq, Int.reduceToNat, eq28]
  exact ⟨by trivial, Fr.refl _⟩
theorem aside (hS : ∀ f args h, f ≠ 21 → S f args h = none) (v : AV) (h : AH) : RnC Tryz.prog S 30 [.nilptr, v] h fun v h' => v = .int .i64 1 ∧ Fr h h' := by
  refine RnC.enter' Tryz.f30 _ 43 [.tmp 4] (hS _ _ _ (by decide)) bd30 Tryz.func30 rfl rfl rfl ?_
  simp (maxSteps := 1000000) -dsimp (disch := first | omega | ((repeat first | rw [AH.nx_new] | rw [AH.nx_put]); done) | ((repeat first | rw [AH.nx_new] | rw [AH.nx_put]); omega)) only [go_sem, Int.reduceEq, Int.reduceNe, Int.reduceLT, Int.reduceLE, Int.reduceAdd, Int.reduceSub, Int.reduceMul, Int.reduceNeg, Int.reduceToNat, Nat.reducePow, reduceCtorEq, Nat.reduceEqDiff, Nat.reduceAdd, Nat.reduceLT, Nat.reduceLeDiff, Nat.reduceMul, Nat.reduceSub, Nat.reduceBEq, Int.reduceToNat, eq28]
  exact ⟨by trivial, Fr.refl _⟩
theorem size (hS : ∀ f args h, f ≠ 21 → S f args h = none) (h : AH) : RnC Tryz.prog S 32 [.nilptr] h fun v h' => v = .int .i64 0 ∧ Fr h h' := by
  refine RnC.enter' Tryz.f32 _ 9 [.tmp 2] (hS _ _ _ (by decide)) bd32 Tryz.func32 rfl rfl rfl ?_
  simp (maxSteps := 1000000) -dsimp (disch := first | omega | ((repeat first | rw [AH.nx_new] | rw [AH.nx_put]); done) | ((repeat first | rw [AH.nx_new] | rw [AH.nx_put]); omega)) only [go_sem, Int.reduceEq, Int.reduceNe, Int.reduceLT, Int.reduceLE, Int.reduceAdd, Int.reduceSub, Int.reduceMul, Int.reduceNeg, Int.reduceToNat, Nat.reducePow, reduceCtorEq, Nat.reduceEqDiff, Nat.reduceAdd, Nat.reduceLT, Nat.reduceLeDiff, Nat.reduceMul, Nat.reduceSub, Nat.reduceBEq, Int.reduceToNat, eq28]
  exact ⟨by trivial, Fr.refl _⟩
theorem count (hS : ∀ f args h, f ≠ 21 → S f args h = none) (h : AH) : RnC Tryz.prog S 33 [.nilptr] h fun v h' => v = .int .i64 0 ∧ Fr h h' := by
  refine RnC.enter' Tryz.f33 _ 9 [.tmp 2] (hS _ _ _ (by decide)) bd33 Tryz.func33 rfl rfl rfl ?_
  simp (maxSteps := 1000000) -dsimp (disch := first | omega | ((repeat first | rw [AH.nx_new] | rw [AH.nx_put]); done) | ((repeat first | rw [AH.nx_new] | rw [AH.nx_put]); omega)) only [go_sem, Int.reduceEq, Int.reduceNe, Int.reduceLT, Int.reduceLE, Int.reduceAdd, Int.reduceSub, Int.reduceMul, Int.reduceNeg, Int.reduceToNat, Nat.reducePow, reduceCtorEq, Nat.reduceEqDiff, Nat.reduceAdd, Nat.reduceLT, Nat.reduceLeDiff, Nat.reduceMul, Nat.reduceSub, Nat.reduceBEq, Int.reduceToNat, eq28]
  exact ⟨by trivial, Fr.refl _⟩

set_option maxHeartbeats 4000000 in
theorem law (hS : ∀ f args h, f ≠ 21 → S f args h = none) (hL : ∀ h, S 21 [] h = some (.bool true, h)) {p : List Nat} {x : AV} {cs : List AV} {h : AH} (hx : Sl1 h x cs) (hall : cs.all oneA = true) (hs : ∀ (i : Nat) (c : AV), cs[i]? = some c → ∃ s : List Nat, c = .str s ∧ s.length ≤ maxLen)
    (hp : p.length ≤ maxLen) (hl : cs.length ≤ maxLen) (ho : oneA x = true) : RnC Tryz.prog S 6 [.str p, x] h fun v _ => v = .bool true := by
  refine RnC.enter' Tryz.f6 _ 43 [.tmp 4] (hS _ _ _ (by decide)) bd6 Tryz.func6 rfl rfl rfl ?_
  simp (maxSteps := 1000000) -dsimp (disch := first | omega | ((repeat first | rw [AH.nx_new] | rw [AH.nx_put]); done) | ((repeat first | rw [AH.nx_new] | rw [AH.nx_put]); omega)) only [go_sem, Int.reduceEq, Int.reduceNe, Int.reduceLT, Int.reduceLE, Int.reduceAdd, Int.reduceSub, Int.reduceMul, Int.reduceNeg, Int.reduceToNat, Nat.reducePow, reduceCtorEq, Nat.reduceEqDiff, Nat.reduceAdd, Nat.reduceLT, Nat.reduceLeDiff, Nat.reduceMul, Nat.reduceSub, Nat.reduceBEq, Int.reduceToNat]
  refine callK_of (RnC.sum (hL _) (Q := fun v h' => v = .bool true ∧ h' = h) ⟨rfl, rfl⟩) ?_
  rintro v h' ⟨rfl, rfl⟩
  by_cases c1 : 3000 < (p.length : Int)
  · simp (maxSteps := 1000000) -dsimp (disch := first | omega | ((repeat first | rw [AH.nx_new] | rw [AH.nx_put]); done) | ((repeat first | rw [AH.nx_new] | rw [AH.nx_put]); omega)) only [go_sem, Int.reduceEq, Int.reduceNe, Int.reduceLT, Int.reduceLE, Int.reduceAdd, Int.reduceSub, Int.reduceMul, Int.reduceNeg, Int.reduceToNat, Nat.reducePow, reduceCtorEq, Nat.reduceEqDiff, Nat.reduceAdd, Nat.reduceLT, Nat.reduceLeDiff, Nat.reduceMul, Nat.reduceSub, Nat.reduceBEq, Int.reduceToNat, c1, ho, cellsA_one ho]
  · simp (maxSteps := 1000000) -dsimp (disch := first | omega | ((repeat first | rw [AH.nx_new] | rw [AH.nx_put]); done) | ((repeat first | rw [AH.nx_new] | rw [AH.nx_put]); omega)) only [go_sem, Int.reduceEq, Int.reduceNe, Int.reduceLT, Int.reduceLE, Int.reduceAdd, Int.reduceSub, Int.reduceMul, Int.reduceNeg, Int.reduceToNat, Nat.reducePow, reduceCtorEq, Nat.reduceEqDiff, Nat.reduceAdd, Nat.reduceLT, Nat.reduceLeDiff, Nat.reduceMul, Nat.reduceSub, Nat.reduceBEq, Int.reduceToNat, c1, ho, cellsA_one ho]
    refine callK_of (light hS hx hs hl) ?_
    rintro v h1 ⟨rfl, rfl | ⟨rfl, hn⟩⟩
    · simp (maxSteps := 1000000) -dsimp (disch := first | omega | ((repeat first | rw [AH.nx_new] | rw [AH.nx_put]); done) | ((repeat first | rw [AH.nx_new] | rw [AH.nx_put]); omega)) only [go_sem, Int.reduceEq, Int.reduceNe, Int.reduceLT, Int.reduceLE, Int.reduceAdd, Int.reduceSub, Int.reduceMul, Int.reduceNeg, Int.reduceToNat, Nat.reducePow, reduceCtorEq, Nat.reduceEqDiff, Nat.reduceAdd, Nat.reduceLT, Nat.reduceLeDiff, Nat.reduceMul, Nat.reduceSub, Nat.reduceBEq, Int.reduceToNat]
    · simp (maxSteps := 1000000) -dsimp (disch := first | omega | ((repeat first | rw [AH.nx_new] | rw [AH.nx_put]); done) | ((repeat first | rw [AH.nx_new] | rw [AH.nx_put]); omega)) only [go_sem, Int.reduceEq, Int.reduceNe, Int.reduceLT, Int.reduceLE, Int.reduceAdd, Int.reduceSub, Int.reduceMul, Int.reduceNeg, Int.reduceToNat, Nat.reducePow, reduceCtorEq, Nat.reduceEqDiff, Nat.reduceAdd, Nat.reduceLT, Nat.reduceLeDiff, Nat.reduceMul, Nat.reduceSub, Nat.reduceBEq, Int.reduceToNat]
      refine callK_of (append hS _ _) ?_
      rintro v h2 ⟨rfl, hf2⟩
      simp (maxSteps := 1000000) -dsimp (disch := first | omega | ((repeat first | rw [AH.nx_new] | rw [AH.nx_put]); done) | ((repeat first | rw [AH.nx_new] | rw [AH.nx_put]); omega)) only [go_sem, Int.reduceEq, Int.reduceNe, Int.reduceLT, Int.reduceLE, Int.reduceAdd, Int.reduceSub, Int.reduceMul, Int.reduceNeg, Int.reduceToNat, Nat.reducePow, reduceCtorEq, Nat.reduceEqDiff, Nat.reduceAdd, Nat.reduceLT, Nat.reduceLeDiff, Nat.reduceMul, Nat.reduceSub, Nat.reduceBEq, Int.reduceToNat]
      refine callK_of (sync hS _) ?_
      rintro v h3 ⟨rfl, hf3⟩
      obtain ⟨w, h4, ha, hf4, hw⟩ := app0 (st := 24) (xt := 24) (h := h3.new (.cells [] true true)) (id := h3.nx) (o := true) (t := true) (cs0 := []) Tryz.underlying24 Tryz.underlying24 rfl ai9 (by decide) (sl1fr hx ((hf2.trans hf3).trans (Fr.new _ _))) hall (by omega) (AH.get_new_eq rfl)
      simp (maxSteps := 1000000) -dsimp (disch := first | omega | ((repeat first | rw [AH.nx_new] | rw [AH.nx_put]); done) | ((repeat first | rw [AH.nx_new] | rw [AH.nx_put]); omega)) only [go_sem, Int.reduceEq, Int.reduceNe, Int.reduceLT, Int.reduceLE, Int.reduceAdd, Int.reduceSub, Int.reduceMul, Int.reduceNeg, Int.reduceToNat, Nat.reducePow, reduceCtorEq, Nat.reduceEqDiff, Nat.reduceAdd, Nat.reduceLT, Nat.reduceLeDiff, Nat.reduceMul, Nat.reduceSub, Nat.reduceBEq, Int.reduceToNat, ho, cellsA_one ho, ha]
      refine callK_of (aside hS _ _) ?_
      rintro v h5 ⟨rfl, hf5⟩
      simp (maxSteps := 1000000) -dsimp (disch := first | omega | ((repeat first | rw [AH.nx_new] | rw [AH.nx_put]); done) | ((repeat first | rw [AH.nx_new] | rw [AH.nx_put]); omega)) only [go_sem, Int.reduceEq, Int.reduceNe, Int.reduceLT, Int.reduceLE, Int.reduceAdd, Int.reduceSub, Int.reduceMul, Int.reduceNeg, Int.reduceToNat, Nat.reducePow, reduceCtorEq, Nat.reduceEqDiff, Nat.reduceAdd, Nat.reduceLT, Nat.reduceLeDiff, Nat.reduceMul, Nat.reduceSub, Nat.reduceBEq, Int.reduceToNat]
      refine callK_of (size hS _) ?_
      rintro v h6 ⟨rfl, hf6⟩
      simp (maxSteps := 1000000) -dsimp (disch := first | omega | ((repeat first | rw [AH.nx_new] | rw [AH.nx_put]); done) | ((repeat first | rw [AH.nx_new] | rw [AH.nx_put]); omega)) only [go_sem, Int.reduceEq, Int.reduceNe, Int.reduceLT, Int.reduceLE, Int.reduceAdd, Int.reduceSub, Int.reduceMul, Int.reduceNeg, Int.reduceToNat, Nat.reducePow, reduceCtorEq, Nat.reduceEqDiff, Nat.reduceAdd, Nat.reduceLT, Nat.reduceLeDiff, Nat.reduceMul, Nat.reduceSub, Nat.reduceBEq, Int.reduceToNat]
      refine callK_of (count hS _) ?_
      rintro v h7 ⟨rfl, hf7⟩
      simp (maxSteps := 1000000) -dsimp (disch := first | omega | ((repeat first | rw [AH.nx_new] | rw [AH.nx_put]); done) | ((repeat first | rw [AH.nx_new] | rw [AH.nx_put]); omega)) only [go_sem, Int.reduceEq, Int.reduceNe, Int.reduceLT, Int.reduceLE, Int.reduceAdd, Int.reduceSub, Int.reduceMul, Int.reduceNeg, Int.reduceToNat, Nat.reducePow, reduceCtorEq, Nat.reduceEqDiff, Nat.reduceAdd, Nat.reduceLT, Nat.reduceLeDiff, Nat.reduceMul, Nat.reduceSub, Nat.reduceBEq, Int.reduceToNat]
end
end Go.Proofs.YtieobkifoehanaaGreatDoor.walNil
