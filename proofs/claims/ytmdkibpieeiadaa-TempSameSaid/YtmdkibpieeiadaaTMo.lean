/- The walk of TempSame. Conditions: the digest's constants and the check that the laws live are summaries; none else. -/
import Derived.Test.YtmdkibpieeiadaaTMn
namespace Go.Proofs.Ytmdkibpieeiadaa.dig
open Go Go.Abs Go.Proofs
set_option maxRecDepth 100000
set_option linter.unusedVariables false
set_option linter.unusedSimpArgs false

section
variable {S : Sums}
set_option maxHeartbeats 8000000 in
theorem same3 (hS : Nu S) (hN : Nt S) (hd : Dg S) (h3 : ∀ args h, S 3 args h = none) (hL : ∀ h, S 5 [] h = some (.bool true, h)) {h : AH} {v w : AV} {l wr : List Nat} {n : Int} (hb : Bs h v l) (hl : ∀ b ∈ l, b < 256)
    (hw : Bs h w wr) (hwl : ∀ b ∈ wr, b < 256) :
    RnC Try.prog S 3 [v, .int .i64 n, w] h fun r _ => r = .bool true := by
  refine RnC.enter' Try.f3 _ 194 [.tmp 6] (h3 _ _) bd3 Try.func3 rfl rfl rfl ?_
  simp (maxSteps := 1000000) -dsimp (disch := first | omega | ((repeat first | rw [AH.nx_new] | rw [AH.nx_put]); done) | ((repeat first | rw [AH.nx_new] | rw [AH.nx_put]); omega)) only [go_sem, evLen, Int.reduceEq, Int.reduceNe, Int.reduceLT, Int.reduceLE, Int.reduceAdd, Int.reduceSub, Int.reduceMul, Int.reduceNeg, Int.reduceToNat, Nat.reducePow, reduceCtorEq, Nat.reduceEqDiff, Nat.reduceAdd, Nat.reduceLT, Nat.reduceLeDiff, Nat.reduceMul, Nat.reduceSub, Nat.reduceBEq, Int.reduceToNat]
  refine callK_of (RnC.sum (hL _) (Q := fun v h' => v = .bool true ∧ h' = h) ⟨rfl, rfl⟩) ?_
  rintro r g ⟨rfl, hg0⟩
  obtain rfl : h = g := hg0.symm
  simp (maxSteps := 1000000) -dsimp (disch := first | omega | ((repeat first | rw [AH.nx_new] | rw [AH.nx_put]); done) | ((repeat first | rw [AH.nx_new] | rw [AH.nx_put]); omega)) only [go_sem, evLen, Int.reduceEq, Int.reduceNe, Int.reduceLT, Int.reduceLE, Int.reduceAdd, Int.reduceSub, Int.reduceMul, Int.reduceNeg, Int.reduceToNat, Nat.reducePow, reduceCtorEq, Nat.reduceEqDiff, Nat.reduceAdd, Nat.reduceLT, Nat.reduceLeDiff, Nat.reduceMul, Nat.reduceSub, Nat.reduceBEq, Int.reduceToNat]
  refine callK_of (pick6 hS) ?_
  rintro r g ⟨⟨k, rfl, hk1, hk2⟩, hg0⟩
  obtain rfl : h = g := hg0.symm
  obtain ⟨s, hs⟩ : ∃ s : Nat, (1 + k) = (s : Int) := ⟨(1 + k).toNat, by omega⟩
  have hs1 : 1 ≤ s := by omega
  have hs2 : s ≤ 60 := by omega
  simp (maxSteps := 1000000) -dsimp (disch := first | omega | ((repeat first | rw [AH.nx_new] | rw [AH.nx_put]); done) | ((repeat first | rw [AH.nx_new] | rw [AH.nx_put]); omega)) only [go_sem, evLen, Int.reduceEq, Int.reduceNe, Int.reduceLT, Int.reduceLE, Int.reduceAdd, Int.reduceSub, Int.reduceMul, Int.reduceNeg, Int.reduceToNat, Nat.reducePow, reduceCtorEq, Nat.reduceEqDiff, Nat.reduceAdd, Nat.reduceLT, Nat.reduceLeDiff, Nat.reduceMul, Nat.reduceSub, Nat.reduceBEq, Int.reduceToNat, hs]
  refine callK_of (cut7 hS hN hd hb hl hs1 (by omega)) ?_
  rintro r h2 ⟨hr, f2⟩
  obtain ⟨lv, ov⟩ := conv_len (hb.fr f2)
  obtain ⟨lw, ow⟩ := conv_len (hw.fr f2)
  by_cases c1 : l.length ≤ 4194304 ∧ cnt (l.length : Nat) (s : Nat) ≤ 1024
  · rw [if_pos c1] at hr
    obtain ⟨dv, rfl, hD⟩ := hr
    obtain ⟨ldv, sdv, odv⟩ := hD.len
    have odm := odv
    simp only [oneA] at odm
    by_cases c2 : (300 : Int) < (l.length : Nat)
    · simp (maxSteps := 1000000) -dsimp (disch := first | omega | ((repeat first | rw [AH.nx_new] | rw [AH.nx_put]); done) | ((repeat first | rw [AH.nx_new] | rw [AH.nx_put]); omega)) only [go_sem, Int.reduceEq, Int.reduceNe, Int.reduceLT, Int.reduceLE, Int.reduceAdd, Int.reduceSub, Int.reduceMul, Int.reduceNeg, Int.reduceToNat, Nat.reducePow, reduceCtorEq, Nat.reduceEqDiff, Nat.reduceAdd, Nat.reduceLT, Nat.reduceLeDiff, Nat.reduceMul, Nat.reduceSub, Nat.reduceBEq, Int.reduceToNat, c2, lv, lw, Try.underlying27, Try.underlying25, Try.underlying22, Try.underlying37, tz27, tz25, tz22, zc27, odm]
    by_cases c3 : (300 : Int) < (wr.length : Nat)
    · simp (maxSteps := 1000000) -dsimp (disch := first | omega | ((repeat first | rw [AH.nx_new] | rw [AH.nx_put]); done) | ((repeat first | rw [AH.nx_new] | rw [AH.nx_put]); omega)) only [go_sem, Int.reduceEq, Int.reduceNe, Int.reduceLT, Int.reduceLE, Int.reduceAdd, Int.reduceSub, Int.reduceMul, Int.reduceNeg, Int.reduceToNat, Nat.reducePow, reduceCtorEq, Nat.reduceEqDiff, Nat.reduceAdd, Nat.reduceLT, Nat.reduceLeDiff, Nat.reduceMul, Nat.reduceSub, Nat.reduceBEq, Int.reduceToNat, c2, c3, lv, lw, Try.underlying27, Try.underlying25, Try.underlying22, Try.underlying37, tz27, tz25, tz22, zc27, odm]
    have L : Lt l s (digs l s (cnt (l.length : Nat) (s : Nat)).toNat) := ⟨hl, by omega, hs1, hs2, c1.2, rfl⟩
    generalize hDD : digs l s (cnt (l.length : Nat) (s : Nat)).toNat = D at L hD ldv
    simp (maxSteps := 1000000) -dsimp (disch := first | omega | ((repeat first | rw [AH.nx_new] | rw [AH.nx_put]); done) | ((repeat first | rw [AH.nx_new] | rw [AH.nx_put]); omega)) only [go_sem, Int.reduceEq, Int.reduceNe, Int.reduceLT, Int.reduceLE, Int.reduceAdd, Int.reduceSub, Int.reduceMul, Int.reduceNeg, Int.reduceToNat, Nat.reducePow, reduceCtorEq, Nat.reduceEqDiff, Nat.reduceAdd, Nat.reduceLT, Nat.reduceLeDiff, Nat.reduceMul, Nat.reduceSub, Nat.reduceBEq, Int.reduceToNat, c2, c3, lv, lw, Try.underlying27, Try.underlying25, Try.underlying22, Try.underlying37, tz27, tz25, tz22, zc27, odm, ldv, sdv, odv, Nat.mul_one, true_and, implies_true, sv_int, sv_bool]
    refine callK_of (new8 hS hN (hD.fr ?_) L.d32) ?_
    · exact (Fr.new h2 _).put _ (Nat.le_refl _)
    · rintro r h4 ⟨f4, hr⟩
      rw [if_pos L.chkd] at hr
      obtain ⟨p, m, rfl, hp1, hm1, P1⟩ := hr
      have f24 : Fr h2 h4 := ((Fr.new h2 _).put _ (Nat.le_refl _)).trans f4
      have g4 : h4.get h2.nx = some (.cells [.int .i64 (s : Nat), .int .i64 (l.length : Nat), dv] true false) := (f4.get _ (by show h2.nx < h2.nx + 1; omega)).trans (AH.get_put_eq rfl)
      have n4 : h2.nx + 1 ≤ h4.nx := f4.nx
      simp (maxSteps := 1000000) -dsimp (disch := first | omega | ((repeat first | rw [AH.nx_new] | rw [AH.nx_put]); done) | ((repeat first | rw [AH.nx_new] | rw [AH.nx_put]); omega)) only [go_sem, Int.reduceEq, Int.reduceNe, Int.reduceLT, Int.reduceLE, Int.reduceAdd, Int.reduceSub, Int.reduceMul, Int.reduceNeg, Int.reduceToNat, Nat.reducePow, reduceCtorEq, Nat.reduceEqDiff, Nat.reduceAdd, Nat.reduceLT, Nat.reduceLeDiff, Nat.reduceMul, Nat.reduceSub, Nat.reduceBEq, Int.reduceToNat, lv, lw, Try.underlying27, Try.underlying25, Try.underlying22, Try.underlying37, tz27, tz25, tz22, zc27, odm, g4, sdv, sv_int, true_and, implies_true]
      refine callK_of (new8 hS hN (hD.fr f24) L.d32) ?_
      rintro r h5 ⟨f5, hr⟩
      rw [if_pos L.chkd] at hr
      obtain ⟨q, m2, rfl, hq1, hm2, P2⟩ := hr
      have W0 : Wd h2.nx p m q m2 v w dv l wr s D h5 (fun _ => none) (fun _ => none) := ⟨(hb.fr (f2.trans f24)).fr f5, (hw.fr (f2.trans f24)).fr f5, (f5.get _ (by omega)).trans g4, by have := f5.nx; omega, hD.fr (f24.trans f5), P1.fr f5, P2, by have := P1.m; omega⟩
      have Lc := L.len.2
      have Ln := L.n
      simp (maxSteps := 1000000) -dsimp (disch := first | omega | ((repeat first | rw [AH.nx_new] | rw [AH.nx_put]); done) | ((repeat first | rw [AH.nx_new] | rw [AH.nx_put]); omega)) only [go_sem, Int.reduceEq, Int.reduceNe, Int.reduceLT, Int.reduceLE, Int.reduceAdd, Int.reduceSub, Int.reduceMul, Int.reduceNeg, Int.reduceToNat, Nat.reducePow, reduceCtorEq, Nat.reduceEqDiff, Nat.reduceAdd, Nat.reduceLT, Nat.reduceLeDiff, Nat.reduceMul, Nat.reduceSub, Nat.reduceBEq, Int.reduceToNat, lv, lw, Try.underlying27, Try.underlying25, Try.underlying22, Try.underlying37, tz27, tz25, tz22, zc27, odm, W0.g, ldv, sdv, sv_int, true_and, implies_true]
      refine loopK_of (RnL.rounds (Q := fun ex t => ex = .exit 0 ∧ t.d = [] ∧ t.t.get 0 = some v ∧ t.t.get 2 = some w ∧ t.t.get 9 = some (.ptr p 0) ∧ t.t.get 10 = some (.ptr q 0) ∧ t.t.get 12 = some (.int .i64 (D.length : Nat)) ∧ ∃ B C, Wd h2.nx p m q m2 v w dv l wr s D t.h B C ∧ Rd l s D.length D.length B C)
        (fun mm t => t.d = [] ∧ t.t.get 0 = some v ∧ t.t.get 2 = some w ∧ t.t.get 7 = some (.ptr h2.nx 0) ∧ t.t.get 9 = some (.ptr p 0) ∧ t.t.get 10 = some (.ptr q 0) ∧ t.t.get 12 = some (.int .i64 (D.length : Nat)) ∧ ∃ (B C : Int → Option (List Nat)) (i : Nat), t.t.get 13 = some (.int .i64 (i : Nat)) ∧ Wd h2.nx p m q m2 v w dv l wr s D t.h B C ∧ Rd l s D.length i B C ∧ i ≤ D.length ∧ mm = D.length - i) ?_ D.length ?_) ?_
      · rintro mm ⟨t, g, d⟩ ⟨e2, t0, t2, t7, t9, t10, t12, B, C, i, t13, W, R, hi, rfl⟩
        dsimp only at e2 t0 t2 t7 t9 t10 t12 t13 W
        subst e2
        by_cases c5 : (i : Int) < (D.length : Nat)
        · obtain ⟨k, hk⟩ : ∃ k : Nat, (D.length : Int) - 1 - (i : Int) = (k : Int) := ⟨D.length - 1 - i, by omega⟩
          have hi2 : i < D.length := by omega
          have hk2 : k < D.length := by omega
          have hki := L.lt hk2
          have bn := R.b_next
          have cn := R.c_next (k := k) (C' := putB (putB C (k : Nat) (stre l s k)) (k : Nat) (stre l s k)) (by omega) (fun j => putB2 j)
          simp (maxSteps := 1000000) -dsimp (disch := first | omega | ((repeat first | rw [AH.nx_new] | rw [AH.nx_put]); done) | ((repeat first | rw [AH.nx_new] | rw [AH.nx_put]); omega)) only [go_sem, Int.reduceEq, Int.reduceNe, Int.reduceLT, Int.reduceLE, Int.reduceAdd, Int.reduceSub, Int.reduceMul, Int.reduceNeg, Int.reduceToNat, Nat.reducePow, reduceCtorEq, Nat.reduceEqDiff, Nat.reduceAdd, Nat.reduceLT, Nat.reduceLeDiff, Nat.reduceMul, Nat.reduceSub, Nat.reduceBEq, Int.reduceToNat, t0, t2, t7, t9, t10, t12, t13, lv, lw, ldv, sdv, sv_int, hk, true_and, implies_true, Try.underlying27, Try.underlying25, Try.underlying22, Try.underlying37, tz27, tz25, tz22, zc27, c5, W.g]
          refine callK_of (wd_at hN L W hi2) ?_
          rintro r h6 ⟨rfl, W6⟩
          obtain ⟨x, sx, bx⟩ := wd_slice W6 (L.lt hi2)
          simp (maxSteps := 1000000) -dsimp (disch := first | omega | ((repeat first | rw [AH.nx_new] | rw [AH.nx_put]); done) | ((repeat first | rw [AH.nx_new] | rw [AH.nx_put]); omega)) only [go_sem, Int.reduceEq, Int.reduceNe, Int.reduceLT, Int.reduceLE, Int.reduceAdd, Int.reduceSub, Int.reduceMul, Int.reduceNeg, Int.reduceToNat, Nat.reducePow, reduceCtorEq, Nat.reduceEqDiff, Nat.reduceAdd, Nat.reduceLT, Nat.reduceLeDiff, Nat.reduceMul, Nat.reduceSub, Nat.reduceBEq, Int.reduceToNat, t0, t2, t7, t9, t10, t12, t13, lv, lw, ldv, sdv, sv_int, hk, true_and, implies_true, Try.underlying27, Try.underlying25, Try.underlying22, Try.underlying37, tz27, tz25, tz22, zc27, sx]
          refine callK_of (wd_put1 hS hN hd L W6 hi2 bx) ?_
          rintro r h7 ⟨rfl, W7⟩
          simp (maxSteps := 1000000) -dsimp (disch := first | omega | ((repeat first | rw [AH.nx_new] | rw [AH.nx_put]); done) | ((repeat first | rw [AH.nx_new] | rw [AH.nx_put]); omega)) only [go_sem, Int.reduceEq, Int.reduceNe, Int.reduceLT, Int.reduceLE, Int.reduceAdd, Int.reduceSub, Int.reduceMul, Int.reduceNeg, Int.reduceToNat, Nat.reducePow, reduceCtorEq, Nat.reduceEqDiff, Nat.reduceAdd, Nat.reduceLT, Nat.reduceLeDiff, Nat.reduceMul, Nat.reduceSub, Nat.reduceBEq, Int.reduceToNat, t0, t2, t7, t9, t10, t12, t13, lv, lw, ldv, sdv, sv_int, hk, true_and, implies_true, Try.underlying27, Try.underlying25, Try.underlying22, Try.underlying37, tz27, tz25, tz22, zc27]
          refine callK_of (wd_left1 hS L W7) ?_
          rintro r h8 ⟨len8, W8⟩
          have hm8 : ((mis (putB B (i : Nat) (stre l s i)) D.length).length : Int) = (k : Int) := by
            rw [mis_first (k := i + 1) (fun j hj => by rw [bn.1 j hj]; rfl) bn.2 D.length (by omega)]
            omega
          simp (maxSteps := 1000000) -dsimp (disch := first | omega | ((repeat first | rw [AH.nx_new] | rw [AH.nx_put]); done) | ((repeat first | rw [AH.nx_new] | rw [AH.nx_put]); omega)) only [go_sem, Int.reduceEq, Int.reduceNe, Int.reduceLT, Int.reduceLE, Int.reduceAdd, Int.reduceSub, Int.reduceMul, Int.reduceNeg, Int.reduceToNat, Nat.reducePow, reduceCtorEq, Nat.reduceEqDiff, Nat.reduceAdd, Nat.reduceLT, Nat.reduceLeDiff, Nat.reduceMul, Nat.reduceSub, Nat.reduceBEq, Int.reduceToNat, t0, t2, t7, t9, t10, t12, t13, lv, lw, ldv, sdv, sv_int, hk, true_and, implies_true, Try.underlying27, Try.underlying25, Try.underlying22, Try.underlying37, tz27, tz25, tz22, zc27, len8, hm8, hk, W8.g]
          refine callK_of (wd_at hN L W8 hk2) ?_
          rintro r h9 ⟨rfl, W9⟩
          by_cases cw : ((wr.length : Nat) : Int) = ((min l.length (k * s + s) : Nat) : Int) - ((k * s : Nat) : Int)
          · simp (maxSteps := 1000000) -dsimp (disch := first | omega | ((repeat first | rw [AH.nx_new] | rw [AH.nx_put]); done) | ((repeat first | rw [AH.nx_new] | rw [AH.nx_put]); omega)) only [go_sem, Int.reduceEq, Int.reduceNe, Int.reduceLT, Int.reduceLE, Int.reduceAdd, Int.reduceSub, Int.reduceMul, Int.reduceNeg, Int.reduceToNat, Nat.reducePow, reduceCtorEq, Nat.reduceEqDiff, Nat.reduceAdd, Nat.reduceLT, Nat.reduceLeDiff, Nat.reduceMul, Nat.reduceSub, Nat.reduceBEq, Int.reduceToNat, t0, t2, t7, t9, t10, t12, t13, lv, lw, ldv, sdv, sv_int, hk, true_and, implies_true, Try.underlying27, Try.underlying25, Try.underlying22, Try.underlying37, tz27, tz25, tz22, zc27, cw]
            obtain ⟨y, sy, by1⟩ := wd_slice W9 (L.lt hk2)
            simp (maxSteps := 1000000) -dsimp (disch := first | omega | ((repeat first | rw [AH.nx_new] | rw [AH.nx_put]); done) | ((repeat first | rw [AH.nx_new] | rw [AH.nx_put]); omega)) only [go_sem, Int.reduceEq, Int.reduceNe, Int.reduceLT, Int.reduceLE, Int.reduceAdd, Int.reduceSub, Int.reduceMul, Int.reduceNeg, Int.reduceToNat, Nat.reducePow, reduceCtorEq, Nat.reduceEqDiff, Nat.reduceAdd, Nat.reduceLT, Nat.reduceLeDiff, Nat.reduceMul, Nat.reduceSub, Nat.reduceBEq, Int.reduceToNat, t0, t2, t7, t9, t10, t12, t13, lv, lw, ldv, sdv, sv_int, hk, true_and, implies_true, Try.underlying27, Try.underlying25, Try.underlying22, Try.underlying37, tz27, tz25, tz22, zc27, sy]
            refine callK_of (wd_put2 hS hN hd L W9 hk2 by1) ?_
            rintro r h10 ⟨rfl, W10⟩
            obtain ⟨z, sz, bz1⟩ := wd_slice W10 (L.lt hk2)
            simp (maxSteps := 1000000) -dsimp (disch := first | omega | ((repeat first | rw [AH.nx_new] | rw [AH.nx_put]); done) | ((repeat first | rw [AH.nx_new] | rw [AH.nx_put]); omega)) only [go_sem, Int.reduceEq, Int.reduceNe, Int.reduceLT, Int.reduceLE, Int.reduceAdd, Int.reduceSub, Int.reduceMul, Int.reduceNeg, Int.reduceToNat, Nat.reducePow, reduceCtorEq, Nat.reduceEqDiff, Nat.reduceAdd, Nat.reduceLT, Nat.reduceLeDiff, Nat.reduceMul, Nat.reduceSub, Nat.reduceBEq, Int.reduceToNat, t0, t2, t7, t9, t10, t12, t13, lv, lw, ldv, sdv, sv_int, hk, true_and, implies_true, Try.underlying27, Try.underlying25, Try.underlying22, Try.underlying37, tz27, tz25, tz22, zc27, sz]
            refine callK_of (wd_put2 hS hN hd L W10 hk2 bz1) ?_
            rintro r h11 ⟨rfl, W11⟩
            simp (maxSteps := 1000000) -dsimp (disch := first | omega | ((repeat first | rw [AH.nx_new] | rw [AH.nx_put]); done) | ((repeat first | rw [AH.nx_new] | rw [AH.nx_put]); omega)) only [go_sem, Int.reduceEq, Int.reduceNe, Int.reduceLT, Int.reduceLE, Int.reduceAdd, Int.reduceSub, Int.reduceMul, Int.reduceNeg, Int.reduceToNat, Nat.reducePow, reduceCtorEq, Nat.reduceEqDiff, Nat.reduceAdd, Nat.reduceLT, Nat.reduceLeDiff, Nat.reduceMul, Nat.reduceSub, Nat.reduceBEq, Int.reduceToNat, t0, t2, t7, t9, t10, t12, t13, lv, lw, ldv, sdv, sv_int, hk, true_and, implies_true, Try.underlying27, Try.underlying25, Try.underlying22, Try.underlying37, tz27, tz25, tz22, zc27]
            refine callK_of (wd_has2 hS W11) ?_
            rintro r h12 ⟨rfl, W12⟩
            have e12 : (putB (putB C (k : Nat) (stre l s k)) (k : Nat) (stre l s k) (k : Nat)).isSome = true := by rw [putB2, if_pos rfl]; rfl
            simp (maxSteps := 1000000) -dsimp (disch := first | omega | ((repeat first | rw [AH.nx_new] | rw [AH.nx_put]); done) | ((repeat first | rw [AH.nx_new] | rw [AH.nx_put]); omega)) only [go_sem, Int.reduceEq, Int.reduceNe, Int.reduceLT, Int.reduceLE, Int.reduceAdd, Int.reduceSub, Int.reduceMul, Int.reduceNeg, Int.reduceToNat, Nat.reducePow, reduceCtorEq, Nat.reduceEqDiff, Nat.reduceAdd, Nat.reduceLT, Nat.reduceLeDiff, Nat.reduceMul, Nat.reduceSub, Nat.reduceBEq, Int.reduceToNat, t0, t2, t7, t9, t10, t12, t13, lv, lw, ldv, sdv, sv_int, hk, true_and, implies_true, Try.underlying27, Try.underlying25, Try.underlying22, Try.underlying37, tz27, tz25, tz22, zc27, e12]
            refine callK_of (wd_left2 hS L W12) ?_
            rintro r h13 ⟨len13, W13⟩
            have hm13 : ((mis (putB (putB C (k : Nat) (stre l s k)) (k : Nat) (stre l s k)) D.length).length : Int) = (k : Int) := by
              rw [mis_last (k := i + 1) (c := D.length) (fun j a b => by rw [cn.1 j (by omega) b]; rfl) (fun j a => cn.2 j (by omega)) (by omega) D.length (Nat.le_refl _)]
              omega
            simp (maxSteps := 1000000) -dsimp (disch := first | omega | ((repeat first | rw [AH.nx_new] | rw [AH.nx_put]); done) | ((repeat first | rw [AH.nx_new] | rw [AH.nx_put]); omega)) only [go_sem, Int.reduceEq, Int.reduceNe, Int.reduceLT, Int.reduceLE, Int.reduceAdd, Int.reduceSub, Int.reduceMul, Int.reduceNeg, Int.reduceToNat, Nat.reducePow, reduceCtorEq, Nat.reduceEqDiff, Nat.reduceAdd, Nat.reduceLT, Nat.reduceLeDiff, Nat.reduceMul, Nat.reduceSub, Nat.reduceBEq, Int.reduceToNat, t0, t2, t7, t9, t10, t12, t13, lv, lw, ldv, sdv, sv_int, hk, true_and, implies_true, Try.underlying27, Try.underlying25, Try.underlying22, Try.underlying37, tz27, tz25, tz22, zc27, len13, hm13]
            exact ⟨D.length - (i + 1), by omega, _, _, i + 1, rfl, W13, ⟨bn.1, bn.2, cn.1, cn.2⟩, by omega, rfl⟩
          · simp (maxSteps := 1000000) -dsimp (disch := first | omega | ((repeat first | rw [AH.nx_new] | rw [AH.nx_put]); done) | ((repeat first | rw [AH.nx_new] | rw [AH.nx_put]); omega)) only [go_sem, Int.reduceEq, Int.reduceNe, Int.reduceLT, Int.reduceLE, Int.reduceAdd, Int.reduceSub, Int.reduceMul, Int.reduceNeg, Int.reduceToNat, Nat.reducePow, reduceCtorEq, Nat.reduceEqDiff, Nat.reduceAdd, Nat.reduceLT, Nat.reduceLeDiff, Nat.reduceMul, Nat.reduceSub, Nat.reduceBEq, Int.reduceToNat, t0, t2, t7, t9, t10, t12, t13, lv, lw, ldv, sdv, sv_int, hk, true_and, implies_true, Try.underlying27, Try.underlying25, Try.underlying22, Try.underlying37, tz27, tz25, tz22, zc27, cw]
            refine callK_of (wd_bad2 hS hN hd L W9 hk2 (by rw [stre_len]; omega) hwl (by omega)) ?_
            rintro r h10 ⟨rfl, W9⟩
            simp (maxSteps := 1000000) -dsimp (disch := first | omega | ((repeat first | rw [AH.nx_new] | rw [AH.nx_put]); done) | ((repeat first | rw [AH.nx_new] | rw [AH.nx_put]); omega)) only [go_sem, Int.reduceEq, Int.reduceNe, Int.reduceLT, Int.reduceLE, Int.reduceAdd, Int.reduceSub, Int.reduceMul, Int.reduceNeg, Int.reduceToNat, Nat.reducePow, reduceCtorEq, Nat.reduceEqDiff, Nat.reduceAdd, Nat.reduceLT, Nat.reduceLeDiff, Nat.reduceMul, Nat.reduceSub, Nat.reduceBEq, Int.reduceToNat, t0, t2, t7, t9, t10, t12, t13, lv, lw, ldv, sdv, sv_int, hk, true_and, implies_true, Try.underlying27, Try.underlying25, Try.underlying22, Try.underlying37, tz27, tz25, tz22, zc27]
            refine callK_of (wd_has2 hS W9) ?_
            rintro r h11 ⟨rfl, W9⟩
            have e11 : (C (k : Nat)).isSome = false := by rw [R.c2 k (by omega)]; rfl
            simp (maxSteps := 1000000) -dsimp (disch := first | omega | ((repeat first | rw [AH.nx_new] | rw [AH.nx_put]); done) | ((repeat first | rw [AH.nx_new] | rw [AH.nx_put]); omega)) only [go_sem, Int.reduceEq, Int.reduceNe, Int.reduceLT, Int.reduceLE, Int.reduceAdd, Int.reduceSub, Int.reduceMul, Int.reduceNeg, Int.reduceToNat, Nat.reducePow, reduceCtorEq, Nat.reduceEqDiff, Nat.reduceAdd, Nat.reduceLT, Nat.reduceLeDiff, Nat.reduceMul, Nat.reduceSub, Nat.reduceBEq, Int.reduceToNat, t0, t2, t7, t9, t10, t12, t13, lv, lw, ldv, sdv, sv_int, hk, true_and, implies_true, Try.underlying27, Try.underlying25, Try.underlying22, Try.underlying37, tz27, tz25, tz22, zc27, e11]
            obtain ⟨y, sy, by1⟩ := wd_slice W9 (L.lt hk2)
            simp (maxSteps := 1000000) -dsimp (disch := first | omega | ((repeat first | rw [AH.nx_new] | rw [AH.nx_put]); done) | ((repeat first | rw [AH.nx_new] | rw [AH.nx_put]); omega)) only [go_sem, Int.reduceEq, Int.reduceNe, Int.reduceLT, Int.reduceLE, Int.reduceAdd, Int.reduceSub, Int.reduceMul, Int.reduceNeg, Int.reduceToNat, Nat.reducePow, reduceCtorEq, Nat.reduceEqDiff, Nat.reduceAdd, Nat.reduceLT, Nat.reduceLeDiff, Nat.reduceMul, Nat.reduceSub, Nat.reduceBEq, Int.reduceToNat, t0, t2, t7, t9, t10, t12, t13, lv, lw, ldv, sdv, sv_int, hk, true_and, implies_true, Try.underlying27, Try.underlying25, Try.underlying22, Try.underlying37, tz27, tz25, tz22, zc27, sy]
            refine callK_of (wd_put2 hS hN hd L W9 hk2 by1) ?_
            rintro r h10 ⟨rfl, W10⟩
            obtain ⟨z, sz, bz1⟩ := wd_slice W10 (L.lt hk2)
            simp (maxSteps := 1000000) -dsimp (disch := first | omega | ((repeat first | rw [AH.nx_new] | rw [AH.nx_put]); done) | ((repeat first | rw [AH.nx_new] | rw [AH.nx_put]); omega)) only [go_sem, Int.reduceEq, Int.reduceNe, Int.reduceLT, Int.reduceLE, Int.reduceAdd, Int.reduceSub, Int.reduceMul, Int.reduceNeg, Int.reduceToNat, Nat.reducePow, reduceCtorEq, Nat.reduceEqDiff, Nat.reduceAdd, Nat.reduceLT, Nat.reduceLeDiff, Nat.reduceMul, Nat.reduceSub, Nat.reduceBEq, Int.reduceToNat, t0, t2, t7, t9, t10, t12, t13, lv, lw, ldv, sdv, sv_int, hk, true_and, implies_true, Try.underlying27, Try.underlying25, Try.underlying22, Try.underlying37, tz27, tz25, tz22, zc27, sz]
            refine callK_of (wd_put2 hS hN hd L W10 hk2 bz1) ?_
            rintro r h11 ⟨rfl, W11⟩
            simp (maxSteps := 1000000) -dsimp (disch := first | omega | ((repeat first | rw [AH.nx_new] | rw [AH.nx_put]); done) | ((repeat first | rw [AH.nx_new] | rw [AH.nx_put]); omega)) only [go_sem, Int.reduceEq, Int.reduceNe, Int.reduceLT, Int.reduceLE, Int.reduceAdd, Int.reduceSub, Int.reduceMul, Int.reduceNeg, Int.reduceToNat, Nat.reducePow, reduceCtorEq, Nat.reduceEqDiff, Nat.reduceAdd, Nat.reduceLT, Nat.reduceLeDiff, Nat.reduceMul, Nat.reduceSub, Nat.reduceBEq, Int.reduceToNat, t0, t2, t7, t9, t10, t12, t13, lv, lw, ldv, sdv, sv_int, hk, true_and, implies_true, Try.underlying27, Try.underlying25, Try.underlying22, Try.underlying37, tz27, tz25, tz22, zc27]
            refine callK_of (wd_has2 hS W11) ?_
            rintro r h12 ⟨rfl, W12⟩
            have e12 : (putB (putB C (k : Nat) (stre l s k)) (k : Nat) (stre l s k) (k : Nat)).isSome = true := by rw [putB2, if_pos rfl]; rfl
            simp (maxSteps := 1000000) -dsimp (disch := first | omega | ((repeat first | rw [AH.nx_new] | rw [AH.nx_put]); done) | ((repeat first | rw [AH.nx_new] | rw [AH.nx_put]); omega)) only [go_sem, Int.reduceEq, Int.reduceNe, Int.reduceLT, Int.reduceLE, Int.reduceAdd, Int.reduceSub, Int.reduceMul, Int.reduceNeg, Int.reduceToNat, Nat.reducePow, reduceCtorEq, Nat.reduceEqDiff, Nat.reduceAdd, Nat.reduceLT, Nat.reduceLeDiff, Nat.reduceMul, Nat.reduceSub, Nat.reduceBEq, Int.reduceToNat, t0, t2, t7, t9, t10, t12, t13, lv, lw, ldv, sdv, sv_int, hk, true_and, implies_true, Try.underlying27, Try.underlying25, Try.underlying22, Try.underlying37, tz27, tz25, tz22, zc27, e12]
            refine callK_of (wd_left2 hS L W12) ?_
            rintro r h13 ⟨len13, W13⟩
            have hm13 : ((mis (putB (putB C (k : Nat) (stre l s k)) (k : Nat) (stre l s k)) D.length).length : Int) = (k : Int) := by
              rw [mis_last (k := i + 1) (c := D.length) (fun j a b => by rw [cn.1 j (by omega) b]; rfl) (fun j a => cn.2 j (by omega)) (by omega) D.length (Nat.le_refl _)]
              omega
            simp (maxSteps := 1000000) -dsimp (disch := first | omega | ((repeat first | rw [AH.nx_new] | rw [AH.nx_put]); done) | ((repeat first | rw [AH.nx_new] | rw [AH.nx_put]); omega)) only [go_sem, Int.reduceEq, Int.reduceNe, Int.reduceLT, Int.reduceLE, Int.reduceAdd, Int.reduceSub, Int.reduceMul, Int.reduceNeg, Int.reduceToNat, Nat.reducePow, reduceCtorEq, Nat.reduceEqDiff, Nat.reduceAdd, Nat.reduceLT, Nat.reduceLeDiff, Nat.reduceMul, Nat.reduceSub, Nat.reduceBEq, Int.reduceToNat, t0, t2, t7, t9, t10, t12, t13, lv, lw, ldv, sdv, sv_int, hk, true_and, implies_true, Try.underlying27, Try.underlying25, Try.underlying22, Try.underlying37, tz27, tz25, tz22, zc27, len13, hm13]
            exact ⟨D.length - (i + 1), by omega, _, _, i + 1, rfl, W13, ⟨bn.1, bn.2, cn.1, cn.2⟩, by omega, rfl⟩
        · simp (maxSteps := 1000000) -dsimp (disch := first | omega | ((repeat first | rw [AH.nx_new] | rw [AH.nx_put]); done) | ((repeat first | rw [AH.nx_new] | rw [AH.nx_put]); omega)) only [go_sem, Int.reduceEq, Int.reduceNe, Int.reduceLT, Int.reduceLE, Int.reduceAdd, Int.reduceSub, Int.reduceMul, Int.reduceNeg, Int.reduceToNat, Nat.reducePow, reduceCtorEq, Nat.reduceEqDiff, Nat.reduceAdd, Nat.reduceLT, Nat.reduceLeDiff, Nat.reduceMul, Nat.reduceSub, Nat.reduceBEq, Int.reduceToNat, t0, t2, t7, t9, t10, t12, t13, lv, lw, ldv, sdv, sv_int, true_and, implies_true, Try.underlying27, Try.underlying25, Try.underlying22, Try.underlying37, tz27, tz25, tz22, zc27, c5]
          have : i = D.length := by omega
          subst this
          exact ⟨B, C, W, R⟩
      · simp (maxSteps := 1000000) -dsimp (disch := first | omega | ((repeat first | rw [AH.nx_new] | rw [AH.nx_put]); done) | ((repeat first | rw [AH.nx_new] | rw [AH.nx_put]); omega)) only [go_sem, Int.reduceEq, Int.reduceNe, Int.reduceLT, Int.reduceLE, Int.reduceAdd, Int.reduceSub, Int.reduceMul, Int.reduceNeg, Int.reduceToNat, Nat.reducePow, reduceCtorEq, Nat.reduceEqDiff, Nat.reduceAdd, Nat.reduceLT, Nat.reduceLeDiff, Nat.reduceMul, Nat.reduceSub, Nat.reduceBEq, Int.reduceToNat, lv]
        exact ⟨trivial, trivial, trivial, trivial, trivial, trivial, trivial, _, _, 0, rfl, W0, ⟨fun j hj => absurd hj (by omega), fun j _ => rfl, fun j a b => absurd a (by omega), fun j _ => rfl⟩, Nat.zero_le _, rfl⟩
      · rintro ex ⟨t, g, d⟩ ⟨rfl, e2, t0, t2, t9, t10, t12, B, C, W, R⟩
        dsimp only at e2 t0 t2 t9 t10 t12 W
        subst e2
        simp (maxSteps := 1000000) -dsimp (disch := first | omega | ((repeat first | rw [AH.nx_new] | rw [AH.nx_put]); done) | ((repeat first | rw [AH.nx_new] | rw [AH.nx_put]); omega)) only [go_sem, Int.reduceEq, Int.reduceNe, Int.reduceLT, Int.reduceLE, Int.reduceAdd, Int.reduceSub, Int.reduceMul, Int.reduceNeg, Int.reduceToNat, Nat.reducePow, reduceCtorEq, Nat.reduceEqDiff, Nat.reduceAdd, Nat.reduceLT, Nat.reduceLeDiff, Nat.reduceMul, Nat.reduceSub, Nat.reduceBEq, Int.reduceToNat, t0, t2, t9, t10, t12, lv, lw]
        refine callK_of (wd_bytes1 hS L W R.b1) ?_
        rintro r h6 ⟨⟨x, rfl, bx⟩, W6⟩
        simp (maxSteps := 1000000) -dsimp (disch := first | omega | ((repeat first | rw [AH.nx_new] | rw [AH.nx_put]); done) | ((repeat first | rw [AH.nx_new] | rw [AH.nx_put]); omega)) only [go_sem, Int.reduceEq, Int.reduceNe, Int.reduceLT, Int.reduceLE, Int.reduceAdd, Int.reduceSub, Int.reduceMul, Int.reduceNeg, Int.reduceToNat, Nat.reducePow, reduceCtorEq, Nat.reduceEqDiff, Nat.reduceAdd, Nat.reduceLT, Nat.reduceLeDiff, Nat.reduceMul, Nat.reduceSub, Nat.reduceBEq, Int.reduceToNat, t0, t2, t9, t10, t12, lv, lw]
        refine callK_of (wd_bytes2 hS L W6 (fun j hj => R.c1 j (by omega) hj)) ?_
        rintro r h7 ⟨⟨y, rfl, by1⟩, W7, f7⟩
        simp (maxSteps := 1000000) -dsimp (disch := first | omega | ((repeat first | rw [AH.nx_new] | rw [AH.nx_put]); done) | ((repeat first | rw [AH.nx_new] | rw [AH.nx_put]); omega)) only [go_sem, Int.reduceEq, Int.reduceNe, Int.reduceLT, Int.reduceLE, Int.reduceAdd, Int.reduceSub, Int.reduceMul, Int.reduceNeg, Int.reduceToNat, Nat.reducePow, reduceCtorEq, Nat.reduceEqDiff, Nat.reduceAdd, Nat.reduceLT, Nat.reduceLeDiff, Nat.reduceMul, Nat.reduceSub, Nat.reduceBEq, Int.reduceToNat, t0, t2, t9, t10, t12, lv, lw]
        refine callK_of (eq14 hS (bx.fr f7) by1 hl) ?_
        rintro r g8 ⟨rfl, hg8⟩
        obtain rfl : g8 = h7 := hg8
        simp (maxSteps := 1000000) -dsimp (disch := first | omega | ((repeat first | rw [AH.nx_new] | rw [AH.nx_put]); done) | ((repeat first | rw [AH.nx_new] | rw [AH.nx_put]); omega)) only [go_sem, Int.reduceEq, Int.reduceNe, Int.reduceLT, Int.reduceLE, Int.reduceAdd, Int.reduceSub, Int.reduceMul, Int.reduceNeg, Int.reduceToNat, Nat.reducePow, reduceCtorEq, Nat.reduceEqDiff, Nat.reduceAdd, Nat.reduceLT, Nat.reduceLeDiff, Nat.reduceMul, Nat.reduceSub, Nat.reduceBEq, Int.reduceToNat, t0, t2, t9, t10, t12, lv, lw]
        refine callK_of (eq14 hS (bx.fr f7) W7.v hl) ?_
        rintro r g9 ⟨rfl, hg9⟩
        obtain rfl : g9 = g8 := hg9
        simp (maxSteps := 1000000) -dsimp (disch := first | omega | ((repeat first | rw [AH.nx_new] | rw [AH.nx_put]); done) | ((repeat first | rw [AH.nx_new] | rw [AH.nx_put]); omega)) only [go_sem, Int.reduceEq, Int.reduceNe, Int.reduceLT, Int.reduceLE, Int.reduceAdd, Int.reduceSub, Int.reduceMul, Int.reduceNeg, Int.reduceToNat, Nat.reducePow, reduceCtorEq, Nat.reduceEqDiff, Nat.reduceAdd, Nat.reduceLT, Nat.reduceLeDiff, Nat.reduceMul, Nat.reduceSub, Nat.reduceBEq, Int.reduceToNat, t0, t2, t9, t10, t12, lv, lw]
        refine callK_of (wd_out1 hS hN hd L W7 (n := (D.length : Nat)) (.inr (by omega)) hwl (by omega)) ?_
        rintro r h8 ⟨rfl, W8⟩
        simp (maxSteps := 1000000) -dsimp (disch := first | omega | ((repeat first | rw [AH.nx_new] | rw [AH.nx_put]); done) | ((repeat first | rw [AH.nx_new] | rw [AH.nx_put]); omega)) only [go_sem, Int.reduceEq, Int.reduceNe, Int.reduceLT, Int.reduceLE, Int.reduceAdd, Int.reduceSub, Int.reduceMul, Int.reduceNeg, Int.reduceToNat, Nat.reducePow, reduceCtorEq, Nat.reduceEqDiff, Nat.reduceAdd, Nat.reduceLT, Nat.reduceLeDiff, Nat.reduceMul, Nat.reduceSub, Nat.reduceBEq, Int.reduceToNat, t0, t2, t9, t10, t12, lv, lw]
        refine callK_of (wd_out1 hS hN hd L W8 (n := -1) (.inl (by decide)) hwl (by omega)) ?_
        rintro r h9 ⟨rfl, W9⟩
        simp (maxSteps := 1000000) -dsimp (disch := first | omega | ((repeat first | rw [AH.nx_new] | rw [AH.nx_put]); done) | ((repeat first | rw [AH.nx_new] | rw [AH.nx_put]); omega)) only [go_sem, Int.reduceEq, Int.reduceNe, Int.reduceLT, Int.reduceLE, Int.reduceAdd, Int.reduceSub, Int.reduceMul, Int.reduceNeg, Int.reduceToNat, Nat.reducePow, reduceCtorEq, Nat.reduceEqDiff, Nat.reduceAdd, Nat.reduceLT, Nat.reduceLeDiff, Nat.reduceMul, Nat.reduceSub, Nat.reduceBEq, Int.reduceToNat, t0, t2, t9, t10, t12, lv, lw]
  · rw [if_neg c1] at hr
    subst hr
    by_cases c2 : (300 : Int) < (l.length : Nat)
    · simp (maxSteps := 1000000) -dsimp (disch := first | omega | ((repeat first | rw [AH.nx_new] | rw [AH.nx_put]); done) | ((repeat first | rw [AH.nx_new] | rw [AH.nx_put]); omega)) only [go_sem, Int.reduceEq, Int.reduceNe, Int.reduceLT, Int.reduceLE, Int.reduceAdd, Int.reduceSub, Int.reduceMul, Int.reduceNeg, Int.reduceToNat, Nat.reducePow, reduceCtorEq, Nat.reduceEqDiff, Nat.reduceAdd, Nat.reduceLT, Nat.reduceLeDiff, Nat.reduceMul, Nat.reduceSub, Nat.reduceBEq, Int.reduceToNat, c2, lv, lw, Try.underlying27, Try.underlying25, Try.underlying22, Try.underlying37, tz27, tz25, tz22, zc27]
    by_cases c3 : (300 : Int) < (wr.length : Nat)
    · simp (maxSteps := 1000000) -dsimp (disch := first | omega | ((repeat first | rw [AH.nx_new] | rw [AH.nx_put]); done) | ((repeat first | rw [AH.nx_new] | rw [AH.nx_put]); omega)) only [go_sem, Int.reduceEq, Int.reduceNe, Int.reduceLT, Int.reduceLE, Int.reduceAdd, Int.reduceSub, Int.reduceMul, Int.reduceNeg, Int.reduceToNat, Nat.reducePow, reduceCtorEq, Nat.reduceEqDiff, Nat.reduceAdd, Nat.reduceLT, Nat.reduceLeDiff, Nat.reduceMul, Nat.reduceSub, Nat.reduceBEq, Int.reduceToNat, c2, c3, lv, lw, Try.underlying27, Try.underlying25, Try.underlying22, Try.underlying37, tz27, tz25, tz22, zc27]
    · simp (maxSteps := 1000000) -dsimp (disch := first | omega | ((repeat first | rw [AH.nx_new] | rw [AH.nx_put]); done) | ((repeat first | rw [AH.nx_new] | rw [AH.nx_put]); omega)) only [go_sem, Int.reduceEq, Int.reduceNe, Int.reduceLT, Int.reduceLE, Int.reduceAdd, Int.reduceSub, Int.reduceMul, Int.reduceNeg, Int.reduceToNat, Nat.reducePow, reduceCtorEq, Nat.reduceEqDiff, Nat.reduceAdd, Nat.reduceLT, Nat.reduceLeDiff, Nat.reduceMul, Nat.reduceSub, Nat.reduceBEq, Int.reduceToNat, c2, c3, lv, lw, Try.underlying27, Try.underlying25, Try.underlying22, Try.underlying37, tz27, tz25, tz22, zc27]
end
end Go.Proofs.Ytmdkibpieeiadaa.dig
