/- The document's temp: Left, Bytes. Conditions: none beyond the stated premises. -/
import Derived.Test.YtmdkibpieeiadaaTRb
namespace Go.Proofs.Ytmdkibpieeiadaa.dig
open Go Go.Abs Go.Proofs
set_option maxRecDepth 100000
set_option linter.unusedVariables false
set_option linter.unusedSimpArgs false

theorem eqN' (h : AH) : binA Try.prog h .eql 22 .nilsl .nilsl = some (.bool true) := eqN 22 (.inl rfl) h
theorem eqS' (h : AH) (i o n z : Nat) (c : Option Nat) : binA Try.prog h .eql 22 (.sl i o n z c) .nilsl = some (.bool false) := eqS 22 (.inl rfl) h i o n z c
section
variable {S : Sums}
set_option maxHeartbeats 4000000 in
theorem left20 (hS : Nv S) {h : AH} {q b : Nat} {s ln : Int} {D : List (List Nat)} {B : Int → Option (List Nat)} (hD : D.length ≤ 1024) (hp : Rt q b h s ln D B) :
    RnC Try.prog S 20 [.ptr q 0] h fun r h' => Is h.nx h' r (mis B D.length) ∧ Fr h h' := by
  refine RnC.enter' Try.f20 _ 27 [.tmp 2] (hS _ _ _ (by simp)) bd20 Try.func20 rfl rfl rfl ?_
  simp (maxSteps := 1000000) -dsimp (disch := first | omega | ((repeat first | rw [AH.nx_new] | rw [AH.nx_put]); done) | ((repeat first | rw [AH.nx_new] | rw [AH.nx_put]); omega)) only [go_sem, evLen, Int.reduceEq, Int.reduceNe, Int.reduceLT, Int.reduceLE, Int.reduceAdd, Int.reduceSub, Int.reduceMul, Int.reduceNeg, Int.reduceToNat, Nat.reducePow, reduceCtorEq, Nat.reduceEqDiff, Nat.reduceAdd, Nat.reduceLT, Nat.reduceLeDiff, Nat.reduceMul, Nat.reduceSub, Nat.reduceBEq, Int.reduceToNat]
  refine loopK_of (RnL.rounds (Q := fun ex t => ex = .exit 0 ∧ t.d = [] ∧ Fr h t.h ∧ ∃ v, t.t.get 3 = some v ∧ Is h.nx t.h v (mis B D.length))
    (fun mm t => t.d = [] ∧ Fr h t.h ∧ t.t.get 0 = some (.ptr q 0) ∧ ∃ (v : AV) (i : Nat), t.t.get 3 = some v ∧ t.t.get 4 = some (.int .i64 (i : Nat)) ∧ Is h.nx t.h v (mis B i) ∧ i ≤ D.length ∧ mm = D.length - i) ?_ D.length ?_) ?_
  · rintro mm ⟨t, g, d⟩ ⟨e2, fg, t0, v, i, t3, t4, hv, hi, rfl⟩
    dsimp only at e2 fg t0 t3 t4 hv
    subst e2
    obtain ⟨⟨dv, vs, c, tx, h1, h2, h3, h4, h5, h6⟩, h7, h8, h9⟩ := hp.fr fg
    by_cases c1 : (i : Int) < (D.length : Nat)
    · have hi2 : i < D.length := by omega
      obtain ⟨x, e1, e2⟩ := h6 i hi2
      cases hB : B (i : Nat) with
      | none =>
        rw [hB] at e2
        obtain rfl : x = .nilsl := e2
        have hmi : mis B (i + 1) = mis B i ++ [(i : Int)] := by
          show (if (B (i : Nat)).isSome then mis B i else mis B i ++ [(i : Int)]) = _
          rw [hB]
          rfl
        have hml := mis_len B i
        obtain ⟨v', h6', ha, hk6, hn6, hv6, ho6, a6, n6, rfl⟩ := Is.app (n0 := h.nx) (h := g.new (.cells [.int .i64 (i : Nat)] true false)) (k := (i : Nat)) (id1 := g.nx) (c := some 1) (hv.fr (fun j _ hj => AH.get_new_ne (by omega)) (by simp)) (by omega) (AH.get_new_eq rfl) (Nat.lt_succ_self _) (by have := fg.nx; simp; omega)
        simp (maxSteps := 1000000) -dsimp (disch := first | omega | ((repeat first | rw [AH.nx_new] | rw [AH.nx_put]); done) | ((repeat first | rw [AH.nx_new] | rw [AH.nx_put]); omega)) only [go_sem, evLen, Int.reduceEq, Int.reduceNe, Int.reduceLT, Int.reduceLE, Int.reduceAdd, Int.reduceSub, Int.reduceMul, Int.reduceNeg, Int.reduceToNat, Nat.reducePow, reduceCtorEq, Nat.reduceEqDiff, Nat.reduceAdd, Nat.reduceLT, Nat.reduceLeDiff, Nat.reduceMul, Nat.reduceSub, Nat.reduceBEq, Int.reduceToNat, c1, t0, t3, t4, h1, h2, e1, hi2, ha, zc3, Nat.mul_one, eqN', eqS', Try.underlying3, Try.underlying22, Try.underlying27, Try.underlying37, Try.underlying69, Try.underlying71, tz3, tz22, tz27, tz71, tz69, true_and]
        have hn6' : g.nx + 1 ≤ h6'.nx := hn6
        have hgn := fg.nx
        exact ⟨D.length - (i + 1), by omega, ⟨by omega, fun j hj => (hk6 j hj).trans ((AH.get_new_ne (by omega)).trans (fg.get j hj))⟩, _, i + 1, rfl, rfl, hmi ▸ hv6, by omega, rfl⟩
      | some l =>
        rw [hB] at e2
        obtain ⟨⟨a, y, n, c', rfl⟩, e3⟩ := e2
        have hmi : mis B (i + 1) = mis B i := by
          show (if (B (i : Nat)).isSome then mis B i else mis B i ++ [(i : Int)]) = _
          rw [hB]
          rfl
        simp (maxSteps := 1000000) -dsimp (disch := first | omega | ((repeat first | rw [AH.nx_new] | rw [AH.nx_put]); done) | ((repeat first | rw [AH.nx_new] | rw [AH.nx_put]); omega)) only [go_sem, evLen, Int.reduceEq, Int.reduceNe, Int.reduceLT, Int.reduceLE, Int.reduceAdd, Int.reduceSub, Int.reduceMul, Int.reduceNeg, Int.reduceToNat, Nat.reducePow, reduceCtorEq, Nat.reduceEqDiff, Nat.reduceAdd, Nat.reduceLT, Nat.reduceLeDiff, Nat.reduceMul, Nat.reduceSub, Nat.reduceBEq, Int.reduceToNat, c1, t0, t3, t4, h1, h2, e1, hi2, Nat.mul_one, eqN', eqS', Try.underlying3, Try.underlying22, Try.underlying27, Try.underlying37, Try.underlying69, Try.underlying71, tz3, tz22, tz27, tz71, tz69, true_and]
        exact ⟨D.length - (i + 1), by omega, fg, v, i + 1, rfl, rfl, hmi ▸ hv, by omega, rfl⟩
    · simp (maxSteps := 1000000) -dsimp (disch := first | omega | ((repeat first | rw [AH.nx_new] | rw [AH.nx_put]); done) | ((repeat first | rw [AH.nx_new] | rw [AH.nx_put]); omega)) only [go_sem, evLen, Int.reduceEq, Int.reduceNe, Int.reduceLT, Int.reduceLE, Int.reduceAdd, Int.reduceSub, Int.reduceMul, Int.reduceNeg, Int.reduceToNat, Nat.reducePow, reduceCtorEq, Nat.reduceEqDiff, Nat.reduceAdd, Nat.reduceLT, Nat.reduceLeDiff, Nat.reduceMul, Nat.reduceSub, Nat.reduceBEq, Int.reduceToNat, c1, t0, t3, t4, h1, h2, Nat.mul_one, eqN', eqS', Try.underlying3, Try.underlying22, Try.underlying27, Try.underlying37, Try.underlying69, Try.underlying71, tz3, tz22, tz27, tz71, tz69, true_and]
      have : i = D.length := by omega
      subst this
      exact ⟨fg, v, rfl, hv⟩
  · simp (maxSteps := 1000000) -dsimp (disch := first | omega | ((repeat first | rw [AH.nx_new] | rw [AH.nx_put]); done) | ((repeat first | rw [AH.nx_new] | rw [AH.nx_put]); omega)) only [go_sem, evLen, Int.reduceEq, Int.reduceNe, Int.reduceLT, Int.reduceLE, Int.reduceAdd, Int.reduceSub, Int.reduceMul, Int.reduceNeg, Int.reduceToNat, Nat.reducePow, reduceCtorEq, Nat.reduceEqDiff, Nat.reduceAdd, Nat.reduceLT, Nat.reduceLeDiff, Nat.reduceMul, Nat.reduceSub, Nat.reduceBEq, Int.reduceToNat]
    exact ⟨trivial, Fr.refl _, trivial, .nilsl, 0, rfl, rfl, .inl ⟨rfl, rfl⟩, Nat.zero_le _, rfl⟩
  · rintro ex ⟨t, g, d⟩ ⟨rfl, e2, fg, v, t3, hv⟩
    dsimp only at e2 fg t3 hv
    subst e2
    rcases is_one hv with rfl | ⟨a, n, rfl⟩
    · simp (maxSteps := 1000000) -dsimp (disch := first | omega | ((repeat first | rw [AH.nx_new] | rw [AH.nx_put]); done) | ((repeat first | rw [AH.nx_new] | rw [AH.nx_put]); omega)) only [go_sem, evLen, Int.reduceEq, Int.reduceNe, Int.reduceLT, Int.reduceLE, Int.reduceAdd, Int.reduceSub, Int.reduceMul, Int.reduceNeg, Int.reduceToNat, Nat.reducePow, reduceCtorEq, Nat.reduceEqDiff, Nat.reduceAdd, Nat.reduceLT, Nat.reduceLeDiff, Nat.reduceMul, Nat.reduceSub, Nat.reduceBEq, Int.reduceToNat, t3]
      exact ⟨hv, fg⟩
    · simp (maxSteps := 1000000) -dsimp (disch := first | omega | ((repeat first | rw [AH.nx_new] | rw [AH.nx_put]); done) | ((repeat first | rw [AH.nx_new] | rw [AH.nx_put]); omega)) only [go_sem, evLen, Int.reduceEq, Int.reduceNe, Int.reduceLT, Int.reduceLE, Int.reduceAdd, Int.reduceSub, Int.reduceMul, Int.reduceNeg, Int.reduceToNat, Nat.reducePow, reduceCtorEq, Nat.reduceEqDiff, Nat.reduceAdd, Nat.reduceLT, Nat.reduceLeDiff, Nat.reduceMul, Nat.reduceSub, Nat.reduceBEq, Int.reduceToNat, t3]
      exact ⟨hv, fg⟩
set_option maxHeartbeats 4000000 in
theorem bytes21 (hS : Nv S) {h : AH} {q b : Nat} {s ln : Int} {D : List (List Nat)} {B : Int → Option (List Nat)} (hD : D.length ≤ 1024) (hp : Rt q b h s ln D B) (hB : (cat B D.length).length ≤ 1000000) :
    RnC Try.prog S 21 [.ptr q 0] h fun r h' => (if mis B D.length = [] then ∃ v, r = .tup [v, .int .i64 0] ∧ Bs h' v (cat B D.length) else r = .tup [.nilsl, .int .i64 9]) ∧ Fr h h' := by
  refine RnC.enter' Try.f21 _ 33 [.tmp 2, .tmp 3] (hS _ _ _ (by simp)) bd21 Try.func21 rfl rfl rfl ?_
  simp (maxSteps := 1000000) -dsimp (disch := first | omega | ((repeat first | rw [AH.nx_new] | rw [AH.nx_put]); done) | ((repeat first | rw [AH.nx_new] | rw [AH.nx_put]); omega)) only [go_sem, evLen, Int.reduceEq, Int.reduceNe, Int.reduceLT, Int.reduceLE, Int.reduceAdd, Int.reduceSub, Int.reduceMul, Int.reduceNeg, Int.reduceToNat, Nat.reducePow, reduceCtorEq, Nat.reduceEqDiff, Nat.reduceAdd, Nat.reduceLT, Nat.reduceLeDiff, Nat.reduceMul, Nat.reduceSub, Nat.reduceBEq, Int.reduceToNat]
  refine loopK_of (RnL.rounds (Q := fun ex t => t.d = [] ∧ Fr h t.h ∧ ((ex = .exit 0 ∧ mis B D.length = [] ∧ ∃ v, t.t.get 4 = some v ∧ Bn h.nx t.h v (cat B D.length)) ∨ (ex = .ret ∧ mis B D.length ≠ [] ∧ t.t.get 2 = some .nilsl ∧ t.t.get 3 = some (.int .i64 9))))
    (fun mm t => t.d = [] ∧ Fr h t.h ∧ t.t.get 0 = some (.ptr q 0) ∧ ∃ (v : AV) (i : Nat), t.t.get 4 = some v ∧ t.t.get 5 = some (.int .i64 (i : Nat)) ∧ Bn h.nx t.h v (cat B i) ∧ mis B i = [] ∧ i ≤ D.length ∧ mm = D.length - i) ?_ D.length ?_) ?_
  · rintro mm ⟨t, g, d⟩ ⟨e2, fg, t0, v, i, t4, t5, hv, hm, hi, rfl⟩
    dsimp only at e2 fg t0 t4 t5 hv
    subst e2
    obtain ⟨⟨dv, vs, c, tx, h1, h2, h3, h4, h5, h6⟩, h7, h8, h9⟩ := hp.fr fg
    by_cases c1 : (i : Int) < (D.length : Nat)
    · have hi2 : i < D.length := by omega
      obtain ⟨x, e1, e2⟩ := h6 i hi2
      cases hBi : B (i : Nat) with
      | none =>
        rw [hBi] at e2
        obtain rfl : x = .nilsl := e2
        have hmn : mis B D.length ≠ [] := fun hh => by
          have := mis_nil hh i hi2
          rw [hBi] at this
          cases this
        simp (maxSteps := 1000000) -dsimp (disch := first | omega | ((repeat first | rw [AH.nx_new] | rw [AH.nx_put]); done) | ((repeat first | rw [AH.nx_new] | rw [AH.nx_put]); omega)) only [go_sem, evLen, Int.reduceEq, Int.reduceNe, Int.reduceLT, Int.reduceLE, Int.reduceAdd, Int.reduceSub, Int.reduceMul, Int.reduceNeg, Int.reduceToNat, Nat.reducePow, reduceCtorEq, Nat.reduceEqDiff, Nat.reduceAdd, Nat.reduceLT, Nat.reduceLeDiff, Nat.reduceMul, Nat.reduceSub, Nat.reduceBEq, Int.reduceToNat, c1, t0, t4, t5, h1, h2, e1, hi2, Nat.mul_one, eqN', eqS', Try.underlying3, Try.underlying22, Try.underlying27, Try.underlying37, Try.underlying69, Try.underlying71, tz3, tz22, tz27, tz71, tz69, true_and]
        exact ⟨fg, .inr ⟨hmn, trivial⟩⟩
      | some l =>
        rw [hBi] at e2
        obtain ⟨⟨a, y, n, c', rfl⟩, e3⟩ := e2
        have hmi : mis B (i + 1) = [] := by
          show (if (B (i : Nat)).isSome then mis B i else mis B i ++ [(i : Int)]) = _
          rw [hBi]
          exact hm
        have hcat : cat B (i + 1) = cat B i ++ l := by
          show cat B i ++ (B (i : Nat)).getD [] = _
          rw [hBi]; rfl
        have hle := cat_le B (n := D.length) (i := i + 1) (by omega)
        rw [hcat, List.length_append] at hle
        obtain ⟨v', h6', ha, hf6, hb6⟩ := Bn.app hv e3 fg (by omega)
        simp (maxSteps := 1000000) -dsimp (disch := first | omega | ((repeat first | rw [AH.nx_new] | rw [AH.nx_put]); done) | ((repeat first | rw [AH.nx_new] | rw [AH.nx_put]); omega)) only [go_sem, evLen, Int.reduceEq, Int.reduceNe, Int.reduceLT, Int.reduceLE, Int.reduceAdd, Int.reduceSub, Int.reduceMul, Int.reduceNeg, Int.reduceToNat, Nat.reducePow, reduceCtorEq, Nat.reduceEqDiff, Nat.reduceAdd, Nat.reduceLT, Nat.reduceLeDiff, Nat.reduceMul, Nat.reduceSub, Nat.reduceBEq, Int.reduceToNat, c1, t0, t4, t5, h1, h2, e1, hi2, ha, Nat.mul_one, eqN', eqS', Try.underlying3, Try.underlying22, Try.underlying27, Try.underlying37, Try.underlying69, Try.underlying71, tz3, tz22, tz27, tz71, tz69, true_and]
        exact ⟨D.length - (i + 1), by omega, hf6, v', i + 1, rfl, rfl, hcat ▸ hb6, hmi, by omega, rfl⟩
    · simp (maxSteps := 1000000) -dsimp (disch := first | omega | ((repeat first | rw [AH.nx_new] | rw [AH.nx_put]); done) | ((repeat first | rw [AH.nx_new] | rw [AH.nx_put]); omega)) only [go_sem, evLen, Int.reduceEq, Int.reduceNe, Int.reduceLT, Int.reduceLE, Int.reduceAdd, Int.reduceSub, Int.reduceMul, Int.reduceNeg, Int.reduceToNat, Nat.reducePow, reduceCtorEq, Nat.reduceEqDiff, Nat.reduceAdd, Nat.reduceLT, Nat.reduceLeDiff, Nat.reduceMul, Nat.reduceSub, Nat.reduceBEq, Int.reduceToNat, c1, t0, t4, t5, h1, h2, Nat.mul_one, eqN', eqS', Try.underlying3, Try.underlying22, Try.underlying27, Try.underlying37, Try.underlying69, Try.underlying71, tz3, tz22, tz27, tz71, tz69, true_and]
      have : i = D.length := by omega
      subst this
      exact ⟨fg, .inl ⟨hm, v, rfl, hv⟩⟩
  · simp (maxSteps := 1000000) -dsimp (disch := first | omega | ((repeat first | rw [AH.nx_new] | rw [AH.nx_put]); done) | ((repeat first | rw [AH.nx_new] | rw [AH.nx_put]); omega)) only [go_sem, evLen, Int.reduceEq, Int.reduceNe, Int.reduceLT, Int.reduceLE, Int.reduceAdd, Int.reduceSub, Int.reduceMul, Int.reduceNeg, Int.reduceToNat, Nat.reducePow, reduceCtorEq, Nat.reduceEqDiff, Nat.reduceAdd, Nat.reduceLT, Nat.reduceLeDiff, Nat.reduceMul, Nat.reduceSub, Nat.reduceBEq, Int.reduceToNat]
    exact ⟨trivial, Fr.refl _, trivial, .nilsl, 0, rfl, rfl, .inl ⟨rfl, rfl⟩, rfl, Nat.zero_le _, rfl⟩
  · rintro ex ⟨t, g, d⟩ ⟨e2, fg, hx⟩
    dsimp only at e2 fg hx
    subst e2
    rcases hx with ⟨rfl, hm, v, t4, hv⟩ | ⟨rfl, hm, t2, t3⟩
    · rcases hv.shape with rfl | ⟨ra, rn, rc, rfl⟩
      · simp (maxSteps := 1000000) -dsimp (disch := first | omega | ((repeat first | rw [AH.nx_new] | rw [AH.nx_put]); done) | ((repeat first | rw [AH.nx_new] | rw [AH.nx_put]); omega)) only [go_sem, evLen, Int.reduceEq, Int.reduceNe, Int.reduceLT, Int.reduceLE, Int.reduceAdd, Int.reduceSub, Int.reduceMul, Int.reduceNeg, Int.reduceToNat, Nat.reducePow, reduceCtorEq, Nat.reduceEqDiff, Nat.reduceAdd, Nat.reduceLT, Nat.reduceLeDiff, Nat.reduceMul, Nat.reduceSub, Nat.reduceBEq, Int.reduceToNat, t4]
        rw [if_pos hm]
        exact ⟨⟨_, rfl, hv.bs⟩, fg⟩
      · simp (maxSteps := 1000000) -dsimp (disch := first | omega | ((repeat first | rw [AH.nx_new] | rw [AH.nx_put]); done) | ((repeat first | rw [AH.nx_new] | rw [AH.nx_put]); omega)) only [go_sem, evLen, Int.reduceEq, Int.reduceNe, Int.reduceLT, Int.reduceLE, Int.reduceAdd, Int.reduceSub, Int.reduceMul, Int.reduceNeg, Int.reduceToNat, Nat.reducePow, reduceCtorEq, Nat.reduceEqDiff, Nat.reduceAdd, Nat.reduceLT, Nat.reduceLeDiff, Nat.reduceMul, Nat.reduceSub, Nat.reduceBEq, Int.reduceToNat, t4]
        rw [if_pos hm]
        exact ⟨⟨_, rfl, hv.bs⟩, fg⟩
    · simp (maxSteps := 1000000) -dsimp (disch := first | omega | ((repeat first | rw [AH.nx_new] | rw [AH.nx_put]); done) | ((repeat first | rw [AH.nx_new] | rw [AH.nx_put]); omega)) only [go_sem, evLen, Int.reduceEq, Int.reduceNe, Int.reduceLT, Int.reduceLE, Int.reduceAdd, Int.reduceSub, Int.reduceMul, Int.reduceNeg, Int.reduceToNat, Nat.reducePow, reduceCtorEq, Nat.reduceEqDiff, Nat.reduceAdd, Nat.reduceLT, Nat.reduceLeDiff, Nat.reduceMul, Nat.reduceSub, Nat.reduceBEq, Int.reduceToNat, t2, t3]
      rw [if_neg hm]
      exact ⟨trivial, fg⟩
end
end Go.Proofs.Ytmdkibpieeiadaa.dig
