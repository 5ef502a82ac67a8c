/- The walk of TempScript. Conditions: the digest's constants and the check that the laws live are summaries; none else. -/
import Derived.Test.YtmdkibpieeiadaaTRe
namespace Go.Proofs.Ytmdkibpieeiadaa.dig
open Go Go.Abs Go.Proofs
set_option maxRecDepth 100000
set_option linter.unusedVariables false
set_option linter.unusedSimpArgs false

theorem sv_bs {h : AH} {v : AV} {l : List Nat} (hb : Bs h v l) : sameAV 20 v v = true := by
  rcases hb with ⟨rfl, _⟩ | ⟨id, off, c, cs, o, t, rfl, _⟩
  · rfl
  · simp [sameAV]
theorem ne4 (g : AH) (x : Bool) : binA Try.prog g .neq 4 (.bool x) (.bool x) = some (.bool false) := by cases x <;> kernel_rfl
section
variable {S : Sums}
set_option maxHeartbeats 16000000 in
theorem script4 (hU : Nu S) (hV : Nv S) (hN : Nt S) (hd : Dg S) (h4 : ∀ args h, S 4 args h = none) (hL : ∀ h, S 5 [] h = some (.bool true, h)) {h : AH} {s ln : Int} {dv cv : AV} {D : List (List Nat)} {n id : Nat} {cs : List AV} {ks : Nat → Int} {bs : Nat → AV} {ls : Nat → List Nat}
    (hD : Ds h dv D) (h32 : ∀ d ∈ D, d.length = 32) (hc : Cs h cv n id cs ks bs ls) :
    RnC Try.prog S 4 [.agg [.int .i64 s, .int .i64 ln, dv], cv] h fun r _ => r = .bool true := by
  refine RnC.enter' Try.f4 _ 139 [.tmp 4] (h4 _ _) bd4 Try.func4 rfl rfl rfl ?_
  obtain ⟨ldv, sdv, odv⟩ := hD.len
  have odm := odv
  simp only [oneA] at odm
  have lc : ∀ g, evLen Try.prog g #[44] cv = some (.int .i64 (n : Nat)) := by
    rcases hc with ⟨rfl, rfl⟩ | ⟨rfl, _⟩
    · exact fun g => by simp [evLen, Try.underlying44]
    · exact fun g => by simp [evLen, Try.underlying44]
  have sag : sameAV 20 (.agg [.int .i64 s, .int .i64 ln, dv]) (.agg [.int .i64 s, .int .i64 ln, dv]) = true := by
    rcases hD with ⟨rfl, _⟩ | ⟨x1, x2, x3, x4, x5, x6, rfl, _⟩ <;> simp [sameAV, sameL]
  simp (maxSteps := 1000000) -dsimp (disch := first | omega | ((repeat first | rw [AH.nx_new] | rw [AH.nx_put]); done) | ((repeat first | rw [AH.nx_new] | rw [AH.nx_put]); omega)) only [go_sem, Int.reduceEq, Int.reduceNe, Int.reduceLT, Int.reduceLE, Int.reduceAdd, Int.reduceSub, Int.reduceMul, Int.reduceNeg, Int.reduceToNat, Nat.reducePow, reduceCtorEq, Nat.reduceEqDiff, Nat.reduceAdd, Nat.reduceLT, Nat.reduceLeDiff, Nat.reduceMul, Nat.reduceSub, Nat.reduceBEq, Int.reduceToNat, odm]
  refine callK_of (RnC.sum (hL _) (Q := fun v h' => v = .bool true ∧ h' = h.new (.cells [.int .i64 s, .int .i64 ln, dv] true false)) ⟨rfl, rfl⟩) ?_
  rintro r g ⟨rfl, hg0⟩
  have f0 : Fr h g := hg0 ▸ Fr.new h _
  have g0 : g.get h.nx = some (.cells [.int .i64 s, .int .i64 ln, dv] true false) := by rw [hg0]; exact AH.get_new_eq rfl
  have n0 : h.nx < g.nx := by rw [hg0]; exact Nat.lt_succ_self _
  clear hg0
  by_cases c1 : (300 : Int) < (D.length : Nat)
  · simp (maxSteps := 1000000) -dsimp (disch := first | omega | ((repeat first | rw [AH.nx_new] | rw [AH.nx_put]); done) | ((repeat first | rw [AH.nx_new] | rw [AH.nx_put]); omega)) only [go_sem, Int.reduceEq, Int.reduceNe, Int.reduceLT, Int.reduceLE, Int.reduceAdd, Int.reduceSub, Int.reduceMul, Int.reduceNeg, Int.reduceToNat, Nat.reducePow, reduceCtorEq, Nat.reduceEqDiff, Nat.reduceAdd, Nat.reduceLT, Nat.reduceLeDiff, Nat.reduceMul, Nat.reduceSub, Nat.reduceBEq, Int.reduceToNat, c1, ldv, lc, g0, Try.underlying3, Try.underlying22, Try.underlying25, Try.underlying27, Try.underlying44, Try.underlying46, tz3, tz22, tz25, tz27, tz44, tz46, Nat.mul_one, true_and, implies_true]
  by_cases c2 : (40 : Int) < (n : Nat)
  · simp (maxSteps := 1000000) -dsimp (disch := first | omega | ((repeat first | rw [AH.nx_new] | rw [AH.nx_put]); done) | ((repeat first | rw [AH.nx_new] | rw [AH.nx_put]); omega)) only [go_sem, Int.reduceEq, Int.reduceNe, Int.reduceLT, Int.reduceLE, Int.reduceAdd, Int.reduceSub, Int.reduceMul, Int.reduceNeg, Int.reduceToNat, Nat.reducePow, reduceCtorEq, Nat.reduceEqDiff, Nat.reduceAdd, Nat.reduceLT, Nat.reduceLeDiff, Nat.reduceMul, Nat.reduceSub, Nat.reduceBEq, Int.reduceToNat, c1, c2, ldv, lc, g0, Try.underlying3, Try.underlying22, Try.underlying25, Try.underlying27, Try.underlying44, Try.underlying46, tz3, tz22, tz25, tz27, tz44, tz46, Nat.mul_one, true_and, implies_true]
  simp (maxSteps := 1000000) -dsimp (disch := first | omega | ((repeat first | rw [AH.nx_new] | rw [AH.nx_put]); done) | ((repeat first | rw [AH.nx_new] | rw [AH.nx_put]); omega)) only [go_sem, Int.reduceEq, Int.reduceNe, Int.reduceLT, Int.reduceLE, Int.reduceAdd, Int.reduceSub, Int.reduceMul, Int.reduceNeg, Int.reduceToNat, Nat.reducePow, reduceCtorEq, Nat.reduceEqDiff, Nat.reduceAdd, Nat.reduceLT, Nat.reduceLeDiff, Nat.reduceMul, Nat.reduceSub, Nat.reduceBEq, Int.reduceToNat, c1, c2, ldv, lc, g0, Try.underlying3, Try.underlying22, Try.underlying25, Try.underlying27, Try.underlying44, Try.underlying46, tz3, tz22, tz25, tz27, tz44, tz46, Nat.mul_one, true_and, implies_true]
  refine loopK_of (RnL.rounds (Q := fun ex t => t.d = [] ∧ ((ex = .exit 0 ∧ t.h = g ∧ t.t.get 1 = some cv ∧ t.t.get 2 = some (.ptr h.nx 0) ∧ ∀ i, i < n → (ls i).length ≤ 300) ∨ (ex = .ret ∧ t.t.get 4 = some (.bool true))))
    (fun mm t => t.d = [] ∧ t.h = g ∧ t.t.get 1 = some cv ∧ t.t.get 2 = some (.ptr h.nx 0) ∧ ∃ i : Nat, t.t.get 5 = some (.int .i64 (i : Nat)) ∧ i ≤ n ∧ (∀ j, j < i → (ls j).length ≤ 300) ∧ mm = n - i) ?_ n ?_) ?_
  · rintro mm ⟨t, g', d⟩ ⟨e2, e3, t1, t2, i, t5, hi, hls, rfl⟩
    dsimp only at e2 e3 t1 t2 t5
    subst e2
    subst e3
    by_cases c3 : (i : Int) < (n : Nat)
    · have hi2 : i < n := by omega
      rcases hc.fr f0 with ⟨rfl, rfl⟩ | ⟨rfl, hg, hid, hx⟩
      · omega
      obtain ⟨x1, x2, x3, x4⟩ := hx i hi2
      obtain ⟨lb, ob⟩ := conv_len x3
      by_cases c4 : (300 : Int) < ((ls i).length : Nat)
      · simp (maxSteps := 1000000) -dsimp (disch := first | omega | ((repeat first | rw [AH.nx_new] | rw [AH.nx_put]); done) | ((repeat first | rw [AH.nx_new] | rw [AH.nx_put]); omega)) only [go_sem, Int.reduceEq, Int.reduceNe, Int.reduceLT, Int.reduceLE, Int.reduceAdd, Int.reduceSub, Int.reduceMul, Int.reduceNeg, Int.reduceToNat, Nat.reducePow, reduceCtorEq, Nat.reduceEqDiff, Nat.reduceAdd, Nat.reduceLT, Nat.reduceLeDiff, Nat.reduceMul, Nat.reduceSub, Nat.reduceBEq, Int.reduceToNat, c3, c4, hi2, t1, t2, t5, hg, x1, x2, lb, lc, Try.underlying3, Try.underlying22, Try.underlying25, Try.underlying27, Try.underlying44, Try.underlying46, tz3, tz22, tz25, tz27, tz44, tz46, Nat.mul_one, true_and, implies_true]
        first
          | trivial
          | exact .inr trivial
      · simp (maxSteps := 1000000) -dsimp (disch := first | omega | ((repeat first | rw [AH.nx_new] | rw [AH.nx_put]); done) | ((repeat first | rw [AH.nx_new] | rw [AH.nx_put]); omega)) only [go_sem, Int.reduceEq, Int.reduceNe, Int.reduceLT, Int.reduceLE, Int.reduceAdd, Int.reduceSub, Int.reduceMul, Int.reduceNeg, Int.reduceToNat, Nat.reducePow, reduceCtorEq, Nat.reduceEqDiff, Nat.reduceAdd, Nat.reduceLT, Nat.reduceLeDiff, Nat.reduceMul, Nat.reduceSub, Nat.reduceBEq, Int.reduceToNat, c3, c4, hi2, t1, t2, t5, hg, x1, x2, lb, lc, Try.underlying3, Try.underlying22, Try.underlying25, Try.underlying27, Try.underlying44, Try.underlying46, tz3, tz22, tz25, tz27, tz44, tz46, Nat.mul_one, true_and, implies_true]
        refine ⟨n - (i + 1), by omega, i + 1, rfl, by omega, fun j hj => ?_, rfl⟩
        by_cases hji : j = i
        · rw [hji]; omega
        · exact hls j (by omega)
    · simp (maxSteps := 1000000) -dsimp (disch := first | omega | ((repeat first | rw [AH.nx_new] | rw [AH.nx_put]); done) | ((repeat first | rw [AH.nx_new] | rw [AH.nx_put]); omega)) only [go_sem, Int.reduceEq, Int.reduceNe, Int.reduceLT, Int.reduceLE, Int.reduceAdd, Int.reduceSub, Int.reduceMul, Int.reduceNeg, Int.reduceToNat, Nat.reducePow, reduceCtorEq, Nat.reduceEqDiff, Nat.reduceAdd, Nat.reduceLT, Nat.reduceLeDiff, Nat.reduceMul, Nat.reduceSub, Nat.reduceBEq, Int.reduceToNat, c3, t1, t2, t5, lc, Try.underlying3, Try.underlying22, Try.underlying25, Try.underlying27, Try.underlying44, Try.underlying46, tz3, tz22, tz25, tz27, tz44, tz46, Nat.mul_one, true_and, implies_true]
      exact .inl fun j hj => hls j (by omega)
  · simp (maxSteps := 1000000) -dsimp (disch := first | omega | ((repeat first | rw [AH.nx_new] | rw [AH.nx_put]); done) | ((repeat first | rw [AH.nx_new] | rw [AH.nx_put]); omega)) only [go_sem, Int.reduceEq, Int.reduceNe, Int.reduceLT, Int.reduceLE, Int.reduceAdd, Int.reduceSub, Int.reduceMul, Int.reduceNeg, Int.reduceToNat, Nat.reducePow, reduceCtorEq, Nat.reduceEqDiff, Nat.reduceAdd, Nat.reduceLT, Nat.reduceLeDiff, Nat.reduceMul, Nat.reduceSub, Nat.reduceBEq, Int.reduceToNat]
    exact ⟨trivial, trivial, trivial, trivial, 0, rfl, Nat.zero_le _, fun j hj => absurd hj (by omega), rfl⟩
  rintro ex ⟨t, g', d⟩ ⟨e2, hq⟩
  dsimp only at e2 hq
  subst e2
  rcases hq with ⟨rfl, rfl, t1, t2, hls⟩ | ⟨rfl, t4⟩
  · simp (maxSteps := 1000000) -dsimp (disch := first | omega | ((repeat first | rw [AH.nx_new] | rw [AH.nx_put]); done) | ((repeat first | rw [AH.nx_new] | rw [AH.nx_put]); omega)) only [go_sem, Int.reduceEq, Int.reduceNe, Int.reduceLT, Int.reduceLE, Int.reduceAdd, Int.reduceSub, Int.reduceMul, Int.reduceNeg, Int.reduceToNat, Nat.reducePow, reduceCtorEq, Nat.reduceEqDiff, Nat.reduceAdd, Nat.reduceLT, Nat.reduceLeDiff, Nat.reduceMul, Nat.reduceSub, Nat.reduceBEq, Int.reduceToNat, t1, t2, g0, sdv, sv_int, Try.underlying3, Try.underlying22, Try.underlying25, Try.underlying27, Try.underlying44, Try.underlying46, tz3, tz22, tz25, tz27, tz44, tz46, Nat.mul_one, true_and, implies_true]
    refine callK_of (new8 hU hN (hD.fr f0) h32) ?_
    rintro r g2 ⟨f2, hr⟩
    have n2 := f2.nx
    have g02 := (f2.get _ n0).trans g0
    by_cases c5 : chk s ln D.length = 0
    · rw [if_pos c5] at hr
      obtain ⟨p, m, rfl, hp1, hm1, P1⟩ := hr
      simp (maxSteps := 1000000) -dsimp (disch := first | omega | ((repeat first | rw [AH.nx_new] | rw [AH.nx_put]); done) | ((repeat first | rw [AH.nx_new] | rw [AH.nx_put]); omega)) only [go_sem, Int.reduceEq, Int.reduceNe, Int.reduceLT, Int.reduceLE, Int.reduceAdd, Int.reduceSub, Int.reduceMul, Int.reduceNeg, Int.reduceToNat, Nat.reducePow, reduceCtorEq, Nat.reduceEqDiff, Nat.reduceAdd, Nat.reduceLT, Nat.reduceLeDiff, Nat.reduceMul, Nat.reduceSub, Nat.reduceBEq, Int.reduceToNat, t1, t2, g02, sdv, sv_int, Try.underlying3, Try.underlying22, Try.underlying25, Try.underlying27, Try.underlying44, Try.underlying46, tz3, tz22, tz25, tz27, tz44, tz46, Nat.mul_one, true_and, implies_true]
      refine callK_of (new15 hV hN (hD.fr (f0.trans f2)) h32) ?_
      rintro r g3 ⟨f3, hr⟩
      rw [if_pos c5] at hr
      obtain ⟨q, b, rfl, hq1, hb1, R1⟩ := hr
      have n3 := f3.nx
      have W0 : Wt h.nx p m q b n id cv dv cs ks bs ls s ln D g3 (fun _ => none) (fun _ => none) := ⟨hc.fr (f0.trans (f2.trans f3)), (f3.get _ (by omega)).trans g02, by omega, hD.fr (f0.trans (f2.trans f3)), P1.fr f3, R1, (fun _ _ hh => by cases hh), (fun _ _ hh => by cases hh), h32, by omega⟩
      simp (maxSteps := 1000000) -dsimp (disch := first | omega | ((repeat first | rw [AH.nx_new] | rw [AH.nx_put]); done) | ((repeat first | rw [AH.nx_new] | rw [AH.nx_put]); omega)) only [go_sem, Int.reduceEq, Int.reduceNe, Int.reduceLT, Int.reduceLE, Int.reduceAdd, Int.reduceSub, Int.reduceMul, Int.reduceNeg, Int.reduceToNat, Nat.reducePow, reduceCtorEq, Nat.reduceEqDiff, Nat.reduceAdd, Nat.reduceLT, Nat.reduceLeDiff, Nat.reduceMul, Nat.reduceSub, Nat.reduceBEq, Int.reduceToNat, t1, t2, Try.underlying3, Try.underlying22, Try.underlying25, Try.underlying27, Try.underlying44, Try.underlying46, tz3, tz22, tz25, tz27, tz44, tz46, Nat.mul_one, true_and, implies_true]
      refine loopK_of (RnL.rounds (Q := fun ex t => ex = .exit 2 ∧ t.d = [] ∧ t.t.get 6 = some (.ptr p 0) ∧ t.t.get 2 = some (.ptr h.nx 0) ∧ ∃ B, Wt h.nx p m q b n id cv dv cs ks bs ls s ln D t.h B B)
        (fun mm t => t.d = [] ∧ t.t.get 1 = some cv ∧ t.t.get 2 = some (.ptr h.nx 0) ∧ t.t.get 6 = some (.ptr p 0) ∧ t.t.get 8 = some (.ptr q 0) ∧ ∃ (B : Int → Option (List Nat)) (i : Nat), t.t.get 10 = some (.int .i64 (i : Nat)) ∧ Wt h.nx p m q b n id cv dv cs ks bs ls s ln D t.h B B ∧ i ≤ n ∧ mm = n - i) ?_ n ?_) ?_
      · rintro mm ⟨t, g4, d⟩ ⟨e2, t1, t2, t6, t8, B, i, t10, W, hi, rfl⟩
        dsimp only at e2 t1 t2 t6 t8 t10 W
        subst e2
        by_cases c6 : (i : Int) < (n : Nat)
        · have hi2 : i < n := by omega
          have hl3 := hls i hi2
          rcases hc with ⟨rfl, rfl⟩ | ⟨rfl, hcg, hci, hx⟩
          · omega
          have ci : ∀ {g : AH} {B C : Int → Option (List Nat)}, Wt h.nx p m q b n id (.sl id 0 n 2 none) dv cs ks bs ls s ln D g B C → g.get id = some (.cells cs false false) ∧ Bs g (bs i) (ls i) ∧ id < g.nx := fun W => by
            rcases W.c with ⟨hh, _⟩ | ⟨_, hh, hlt, hx⟩
            · cases hh
            · exact ⟨hh, (hx i hi2).2.2.1, hlt⟩
          obtain ⟨x1, x2, x3, x4⟩ := hx i hi2
          have sb := sv_bs x3
          have W5 := W.fr ((Fr.refl g4).more (g4.nx + 51) (by omega))
          simp (maxSteps := 1000000) -dsimp (disch := first | omega | ((repeat first | rw [AH.nx_new] | rw [AH.nx_put]); done) | ((repeat first | rw [AH.nx_new] | rw [AH.nx_put]); omega)) only [go_sem, Int.reduceEq, Int.reduceNe, Int.reduceLT, Int.reduceLE, Int.reduceAdd, Int.reduceSub, Int.reduceMul, Int.reduceNeg, Int.reduceToNat, Nat.reducePow, reduceCtorEq, Nat.reduceEqDiff, Nat.reduceAdd, Nat.reduceLT, Nat.reduceLeDiff, Nat.reduceMul, Nat.reduceSub, Nat.reduceBEq, Int.reduceToNat, c6, t1, t2, t6, t8, t10, lc, Try.underlying3, Try.underlying22, Try.underlying25, Try.underlying27, Try.underlying44, Try.underlying46, tz3, tz22, tz25, tz27, tz44, tz46, Nat.mul_one, true_and, implies_true]
          refine syDraw.keep (fun j => j = id) (by kernel_rfl) (by kernel_rfl) ?_
          simp (maxSteps := 1000000) -dsimp (disch := first | omega | ((repeat first | rw [AH.nx_new] | rw [AH.nx_put]); done) | ((repeat first | rw [AH.nx_new] | rw [AH.nx_put]); omega)) only [go_sem, Int.reduceEq, Int.reduceNe, Int.reduceLT, Int.reduceLE, Int.reduceAdd, Int.reduceSub, Int.reduceMul, Int.reduceNeg, Int.reduceToNat, Nat.reducePow, reduceCtorEq, Nat.reduceEqDiff, Nat.reduceAdd, Nat.reduceLT, Nat.reduceLeDiff, Nat.reduceMul, Nat.reduceSub, Nat.reduceBEq, Int.reduceToNat, hi2, (ci W).1, x1, x2, t1, t2, t6, t8, t10, sb, sv_int, sv_bool, Try.underlying3, Try.underlying22, Try.underlying25, Try.underlying27, Try.underlying44, Try.underlying46, tz3, tz22, tz25, tz27, tz44, tz46, Nat.mul_one, true_and, implies_true]
          refine callK_of (wt_own hU W5 (ci W5).2.1 hl3) ?_
          rintro r h6 ⟨hr, f6, W6⟩
          refine ⟨fun j hj => by rw [hj, (ci W6).1]; exact (ci W5).1.symm, ?_⟩
          refine callK_of (wt_put1 hU hN hd W6 hr x4 hl3) ?_
          rintro r h7 ⟨rfl, W7⟩
          refine ⟨fun j hj => by rw [hj, (ci W7).1, (ci W6).1], ?_⟩
          simp (maxSteps := 1000000) -dsimp (disch := first | omega | ((repeat first | rw [AH.nx_new] | rw [AH.nx_put]); done) | ((repeat first | rw [AH.nx_new] | rw [AH.nx_put]); omega)) only [go_sem, Int.reduceEq, Int.reduceNe, Int.reduceLT, Int.reduceLE, Int.reduceAdd, Int.reduceSub, Int.reduceMul, Int.reduceNeg, Int.reduceToNat, Nat.reducePow, reduceCtorEq, Nat.reduceEqDiff, Nat.reduceAdd, Nat.reduceLT, Nat.reduceLeDiff, Nat.reduceMul, Nat.reduceSub, Nat.reduceBEq, Int.reduceToNat, hi2, (ci W7).1, x1, x2, t1, t2, t6, t8, t10, sb, sv_int, sv_bool, Try.underlying3, Try.underlying22, Try.underlying25, Try.underlying27, Try.underlying44, Try.underlying46, tz3, tz22, tz25, tz27, tz44, tz46, Nat.mul_one, true_and, implies_true]
          refine callK_of (wt_put2 hV hN hd W7 (ci W7).2.1 x4 hl3) ?_
          rintro r h8 ⟨rfl, W8⟩
          refine ⟨fun j hj => by rw [hj, (ci W8).1, (ci W7).1], ?_⟩
          simp (maxSteps := 1000000) -dsimp (disch := first | omega | ((repeat first | rw [AH.nx_new] | rw [AH.nx_put]); done) | ((repeat first | rw [AH.nx_new] | rw [AH.nx_put]); omega)) only [go_sem, Int.reduceEq, Int.reduceNe, Int.reduceLT, Int.reduceLE, Int.reduceAdd, Int.reduceSub, Int.reduceMul, Int.reduceNeg, Int.reduceToNat, Nat.reducePow, reduceCtorEq, Nat.reduceEqDiff, Nat.reduceAdd, Nat.reduceLT, Nat.reduceLeDiff, Nat.reduceMul, Nat.reduceSub, Nat.reduceBEq, Int.reduceToNat, hi2, (ci W8).1, x1, x2, t1, t2, t6, t8, t10, sb, sv_int, sv_bool, Try.underlying3, Try.underlying22, Try.underlying25, Try.underlying27, Try.underlying44, Try.underlying46, tz3, tz22, tz25, tz27, tz44, tz46, Nat.mul_one, true_and, implies_true]
          refine callK_of (wt_has1 hU W8) ?_
          rintro r h9 ⟨rfl, W9⟩
          refine ⟨fun j hj => by rw [hj, (ci W9).1, (ci W8).1], ?_⟩
          simp (maxSteps := 1000000) -dsimp (disch := first | omega | ((repeat first | rw [AH.nx_new] | rw [AH.nx_put]); done) | ((repeat first | rw [AH.nx_new] | rw [AH.nx_put]); omega)) only [go_sem, Int.reduceEq, Int.reduceNe, Int.reduceLT, Int.reduceLE, Int.reduceAdd, Int.reduceSub, Int.reduceMul, Int.reduceNeg, Int.reduceToNat, Nat.reducePow, reduceCtorEq, Nat.reduceEqDiff, Nat.reduceAdd, Nat.reduceLT, Nat.reduceLeDiff, Nat.reduceMul, Nat.reduceSub, Nat.reduceBEq, Int.reduceToNat, hi2, (ci W9).1, x1, x2, t1, t2, t6, t8, t10, sb, sv_int, sv_bool, Try.underlying3, Try.underlying22, Try.underlying25, Try.underlying27, Try.underlying44, Try.underlying46, tz3, tz22, tz25, tz27, tz44, tz46, Nat.mul_one, true_and, implies_true]
          refine callK_of (wt_has2 hV W9) ?_
          rintro r h10 ⟨rfl, W10⟩
          refine ⟨fun j hj => by rw [hj, (ci W10).1, (ci W9).1], ?_⟩
          simp (maxSteps := 1000000) -dsimp (disch := first | omega | ((repeat first | rw [AH.nx_new] | rw [AH.nx_put]); done) | ((repeat first | rw [AH.nx_new] | rw [AH.nx_put]); omega)) only [go_sem, Int.reduceEq, Int.reduceNe, Int.reduceLT, Int.reduceLE, Int.reduceAdd, Int.reduceSub, Int.reduceMul, Int.reduceNeg, Int.reduceToNat, Nat.reducePow, reduceCtorEq, Nat.reduceEqDiff, Nat.reduceAdd, Nat.reduceLT, Nat.reduceLeDiff, Nat.reduceMul, Nat.reduceSub, Nat.reduceBEq, Int.reduceToNat, hi2, ne4, x1, x2, t1, t2, t6, t8, t10, sb, sv_int, sv_bool, Try.underlying3, Try.underlying22, Try.underlying25, Try.underlying27, Try.underlying44, Try.underlying46, tz3, tz22, tz25, tz27, tz44, tz46, Nat.mul_one, true_and, implies_true]
          refine callK_of (left11 hU (by omega) W10.p) ?_
          rintro r h11 ⟨i11, f11⟩
          have W11 := W10.fr f11
          refine ⟨fun j hj => by rw [hj]; exact f11.get _ (ci W10).2.2, ?_⟩
          refine callK_of (left20 hV (by omega) W11.q) ?_
          rintro r2 h12 ⟨i12, f12⟩
          have W12 := W11.fr f12
          refine ⟨fun j hj => by rw [hj]; exact f12.get _ (ci W11).2.2, ?_⟩
          have hml := mis_len (aft s ln D (ks i) (ls i) B) D.length
          refine callK_of (ints19 hV (i11.fr (fun j _ hj => f12.get j hj) f12.nx) i12 (by omega)) ?_
          rintro r3 h13 ⟨rfl, f13⟩
          have W13 := W12.fr f13
          refine ⟨fun j hj => by rw [hj]; exact f13.get _ (ci W12).2.2, ?_⟩
          simp (maxSteps := 1000000) -dsimp (disch := first | omega | ((repeat first | rw [AH.nx_new] | rw [AH.nx_put]); done) | ((repeat first | rw [AH.nx_new] | rw [AH.nx_put]); omega)) only [go_sem, Int.reduceEq, Int.reduceNe, Int.reduceLT, Int.reduceLE, Int.reduceAdd, Int.reduceSub, Int.reduceMul, Int.reduceNeg, Int.reduceToNat, Nat.reducePow, reduceCtorEq, Nat.reduceEqDiff, Nat.reduceAdd, Nat.reduceLT, Nat.reduceLeDiff, Nat.reduceMul, Nat.reduceSub, Nat.reduceBEq, Int.reduceToNat, t1, t2, t6, t8, t10, Try.underlying3, Try.underlying22, Try.underlying25, Try.underlying27, Try.underlying44, Try.underlying46, tz3, tz22, tz25, tz27, tz44, tz46, Nat.mul_one, true_and, implies_true]
          have hcl := cat_len W13.bl D.length
          have hcl2 : (cat (aft s ln D (ks i) (ls i) B) D.length).length ≤ 1000000 := by omega
          refine callK_of (bytes13 hU (by omega) W13.p hcl2) ?_
          rintro r h14 ⟨e14, f14⟩
          have W14 := W13.fr f14
          by_cases hm : mis (aft s ln D (ks i) (ls i) B) D.length = []
          · rw [if_pos hm] at e14
            obtain ⟨y, rfl, by1⟩ := e14
            simp (maxSteps := 1000000) -dsimp (disch := first | omega | ((repeat first | rw [AH.nx_new] | rw [AH.nx_put]); done) | ((repeat first | rw [AH.nx_new] | rw [AH.nx_put]); omega)) only [go_sem, Int.reduceEq, Int.reduceNe, Int.reduceLT, Int.reduceLE, Int.reduceAdd, Int.reduceSub, Int.reduceMul, Int.reduceNeg, Int.reduceToNat, Nat.reducePow, reduceCtorEq, Nat.reduceEqDiff, Nat.reduceAdd, Nat.reduceLT, Nat.reduceLeDiff, Nat.reduceMul, Nat.reduceSub, Nat.reduceBEq, Int.reduceToNat, t1, t2, t6, t8, t10, Try.underlying3, Try.underlying22, Try.underlying25, Try.underlying27, Try.underlying44, Try.underlying46, tz3, tz22, tz25, tz27, tz44, tz46, Nat.mul_one, true_and, implies_true]
            refine callK_of (bytes21 hV (by omega) W14.q hcl2) ?_
            rintro r h15 ⟨e15, f15⟩
            rw [if_pos hm] at e15
            obtain ⟨z, rfl, bz1⟩ := e15
            have W15 := W14.fr f15
            simp (maxSteps := 1000000) -dsimp (disch := first | omega | ((repeat first | rw [AH.nx_new] | rw [AH.nx_put]); done) | ((repeat first | rw [AH.nx_new] | rw [AH.nx_put]); omega)) only [go_sem, Int.reduceEq, Int.reduceNe, Int.reduceLT, Int.reduceLE, Int.reduceAdd, Int.reduceSub, Int.reduceMul, Int.reduceNeg, Int.reduceToNat, Nat.reducePow, reduceCtorEq, Nat.reduceEqDiff, Nat.reduceAdd, Nat.reduceLT, Nat.reduceLeDiff, Nat.reduceMul, Nat.reduceSub, Nat.reduceBEq, Int.reduceToNat, t1, t2, t6, t8, t10, Try.underlying3, Try.underlying22, Try.underlying25, Try.underlying27, Try.underlying44, Try.underlying46, tz3, tz22, tz25, tz27, tz44, tz46, Nat.mul_one, true_and, implies_true]
            refine callK_of (eq14 hU (by1.fr f15) bz1 (cat_b W13.bl D.length)) ?_
            rintro r g16 ⟨rfl, hg⟩
            obtain rfl : g16 = h15 := hg
            simp (maxSteps := 1000000) -dsimp (disch := first | omega | ((repeat first | rw [AH.nx_new] | rw [AH.nx_put]); done) | ((repeat first | rw [AH.nx_new] | rw [AH.nx_put]); omega)) only [go_sem, Int.reduceEq, Int.reduceNe, Int.reduceLT, Int.reduceLE, Int.reduceAdd, Int.reduceSub, Int.reduceMul, Int.reduceNeg, Int.reduceToNat, Nat.reducePow, reduceCtorEq, Nat.reduceEqDiff, Nat.reduceAdd, Nat.reduceLT, Nat.reduceLeDiff, Nat.reduceMul, Nat.reduceSub, Nat.reduceBEq, Int.reduceToNat, t1, t2, t6, t8, t10, Try.underlying3, Try.underlying22, Try.underlying25, Try.underlying27, Try.underlying44, Try.underlying46, tz3, tz22, tz25, tz27, tz44, tz46, Nat.mul_one, true_and, implies_true]
            exact ⟨n - (i + 1), by omega, _, i + 1, rfl, W15, by omega, rfl⟩
          · rw [if_neg hm] at e14
            subst e14
            simp (maxSteps := 1000000) -dsimp (disch := first | omega | ((repeat first | rw [AH.nx_new] | rw [AH.nx_put]); done) | ((repeat first | rw [AH.nx_new] | rw [AH.nx_put]); omega)) only [go_sem, Int.reduceEq, Int.reduceNe, Int.reduceLT, Int.reduceLE, Int.reduceAdd, Int.reduceSub, Int.reduceMul, Int.reduceNeg, Int.reduceToNat, Nat.reducePow, reduceCtorEq, Nat.reduceEqDiff, Nat.reduceAdd, Nat.reduceLT, Nat.reduceLeDiff, Nat.reduceMul, Nat.reduceSub, Nat.reduceBEq, Int.reduceToNat, t1, t2, t6, t8, t10, Try.underlying3, Try.underlying22, Try.underlying25, Try.underlying27, Try.underlying44, Try.underlying46, tz3, tz22, tz25, tz27, tz44, tz46, Nat.mul_one, true_and, implies_true]
            refine callK_of (bytes21 hV (by omega) W14.q hcl2) ?_
            rintro r h15 ⟨e15, f15⟩
            rw [if_neg hm] at e15
            subst e15
            have W15 := W14.fr f15
            simp (maxSteps := 1000000) -dsimp (disch := first | omega | ((repeat first | rw [AH.nx_new] | rw [AH.nx_put]); done) | ((repeat first | rw [AH.nx_new] | rw [AH.nx_put]); omega)) only [go_sem, Int.reduceEq, Int.reduceNe, Int.reduceLT, Int.reduceLE, Int.reduceAdd, Int.reduceSub, Int.reduceMul, Int.reduceNeg, Int.reduceToNat, Nat.reducePow, reduceCtorEq, Nat.reduceEqDiff, Nat.reduceAdd, Nat.reduceLT, Nat.reduceLeDiff, Nat.reduceMul, Nat.reduceSub, Nat.reduceBEq, Int.reduceToNat, t1, t2, t6, t8, t10, Try.underlying3, Try.underlying22, Try.underlying25, Try.underlying27, Try.underlying44, Try.underlying46, tz3, tz22, tz25, tz27, tz44, tz46, Nat.mul_one, true_and, implies_true]
            refine callK_of (eq14 (l := []) hU (.inl ⟨rfl, rfl⟩) (.inl ⟨rfl, rfl⟩) (by simp)) ?_
            rintro r g16 ⟨rfl, hg⟩
            obtain rfl : g16 = h15 := hg
            simp (maxSteps := 1000000) -dsimp (disch := first | omega | ((repeat first | rw [AH.nx_new] | rw [AH.nx_put]); done) | ((repeat first | rw [AH.nx_new] | rw [AH.nx_put]); omega)) only [go_sem, Int.reduceEq, Int.reduceNe, Int.reduceLT, Int.reduceLE, Int.reduceAdd, Int.reduceSub, Int.reduceMul, Int.reduceNeg, Int.reduceToNat, Nat.reducePow, reduceCtorEq, Nat.reduceEqDiff, Nat.reduceAdd, Nat.reduceLT, Nat.reduceLeDiff, Nat.reduceMul, Nat.reduceSub, Nat.reduceBEq, Int.reduceToNat, t1, t2, t6, t8, t10, Try.underlying3, Try.underlying22, Try.underlying25, Try.underlying27, Try.underlying44, Try.underlying46, tz3, tz22, tz25, tz27, tz44, tz46, Nat.mul_one, true_and, implies_true]
            exact ⟨n - (i + 1), by omega, _, i + 1, rfl, W15, by omega, rfl⟩
        · simp (maxSteps := 1000000) -dsimp (disch := first | omega | ((repeat first | rw [AH.nx_new] | rw [AH.nx_put]); done) | ((repeat first | rw [AH.nx_new] | rw [AH.nx_put]); omega)) only [go_sem, Int.reduceEq, Int.reduceNe, Int.reduceLT, Int.reduceLE, Int.reduceAdd, Int.reduceSub, Int.reduceMul, Int.reduceNeg, Int.reduceToNat, Nat.reducePow, reduceCtorEq, Nat.reduceEqDiff, Nat.reduceAdd, Nat.reduceLT, Nat.reduceLeDiff, Nat.reduceMul, Nat.reduceSub, Nat.reduceBEq, Int.reduceToNat, c6, t1, t2, t6, t8, t10, lc, Try.underlying3, Try.underlying22, Try.underlying25, Try.underlying27, Try.underlying44, Try.underlying46, tz3, tz22, tz25, tz27, tz44, tz46, Nat.mul_one, true_and, implies_true]
          exact ⟨B, W⟩
      · simp (maxSteps := 1000000) -dsimp (disch := first | omega | ((repeat first | rw [AH.nx_new] | rw [AH.nx_put]); done) | ((repeat first | rw [AH.nx_new] | rw [AH.nx_put]); omega)) only [go_sem, Int.reduceEq, Int.reduceNe, Int.reduceLT, Int.reduceLE, Int.reduceAdd, Int.reduceSub, Int.reduceMul, Int.reduceNeg, Int.reduceToNat, Nat.reducePow, reduceCtorEq, Nat.reduceEqDiff, Nat.reduceAdd, Nat.reduceLT, Nat.reduceLeDiff, Nat.reduceMul, Nat.reduceSub, Nat.reduceBEq, Int.reduceToNat]
        exact ⟨trivial, t1, t2, trivial, trivial, _, 0, rfl, W0, Nat.zero_le _, rfl⟩
      · rintro ex ⟨t, g4, d⟩ ⟨rfl, e2, t6, t2, B, W⟩
        dsimp only at e2 t6 t2 W
        subst e2
        have W5 := W.fr ((Fr.refl g4).more (g4.nx + 5) (by omega))
        simp (maxSteps := 1000000) -dsimp (disch := first | omega | ((repeat first | rw [AH.nx_new] | rw [AH.nx_put]); done) | ((repeat first | rw [AH.nx_new] | rw [AH.nx_put]); omega)) only [go_sem, Int.reduceEq, Int.reduceNe, Int.reduceLT, Int.reduceLE, Int.reduceAdd, Int.reduceSub, Int.reduceMul, Int.reduceNeg, Int.reduceToNat, Nat.reducePow, reduceCtorEq, Nat.reduceEqDiff, Nat.reduceAdd, Nat.reduceLT, Nat.reduceLeDiff, Nat.reduceMul, Nat.reduceSub, Nat.reduceBEq, Int.reduceToNat, t6, t2]
        refine syDraw.keep (fun j => j = h.nx) (by kernel_rfl) (by kernel_rfl) ?_
        simp (maxSteps := 1000000) -dsimp (disch := first | omega | ((repeat first | rw [AH.nx_new] | rw [AH.nx_put]); done) | ((repeat first | rw [AH.nx_new] | rw [AH.nx_put]); omega)) only [go_sem, Int.reduceEq, Int.reduceNe, Int.reduceLT, Int.reduceLE, Int.reduceAdd, Int.reduceSub, Int.reduceMul, Int.reduceNeg, Int.reduceToNat, Nat.reducePow, reduceCtorEq, Nat.reduceEqDiff, Nat.reduceAdd, Nat.reduceLT, Nat.reduceLeDiff, Nat.reduceMul, Nat.reduceSub, Nat.reduceBEq, Int.reduceToNat, t6, t2, Try.underlying3, Try.underlying22, Try.underlying25, Try.underlying27, Try.underlying44, Try.underlying46, tz3, tz22, tz25, tz27, tz44, tz46, Nat.mul_one, true_and, implies_true]
        refine callK_of (list23 hU hV W5.p h32 (by omega)) ?_
        rintro r h6 ⟨⟨dv2, rfl, hd2⟩, f6⟩
        have W6 := W5.fr f6
        refine ⟨fun j hj => by rw [hj, W6.g]; exact W5.g.symm, ?_⟩
        simp (maxSteps := 1000000) -dsimp (disch := first | omega | ((repeat first | rw [AH.nx_new] | rw [AH.nx_put]); done) | ((repeat first | rw [AH.nx_new] | rw [AH.nx_put]); omega)) only [go_sem, Int.reduceEq, Int.reduceNe, Int.reduceLT, Int.reduceLE, Int.reduceAdd, Int.reduceSub, Int.reduceMul, Int.reduceNeg, Int.reduceToNat, Nat.reducePow, reduceCtorEq, Nat.reduceEqDiff, Nat.reduceAdd, Nat.reduceLT, Nat.reduceLeDiff, Nat.reduceMul, Nat.reduceSub, Nat.reduceBEq, Int.reduceToNat, W6.g, t2, sag, sdv, sv_int, Try.underlying3, Try.underlying22, Try.underlying25, Try.underlying27, Try.underlying44, Try.underlying46, tz3, tz22, tz25, tz27, tz44, tz46, Nat.mul_one, true_and, implies_true]
        refine callK_of (list22 hV hd2 W6.d h32 (by omega)) ?_
        rintro r h7 ⟨rfl, f7⟩
        refine ⟨fun j hj => by rw [hj]; exact f7.get _ W6.a, ?_⟩
        simp (maxSteps := 1000000) -dsimp (disch := first | omega | ((repeat first | rw [AH.nx_new] | rw [AH.nx_put]); done) | ((repeat first | rw [AH.nx_new] | rw [AH.nx_put]); omega)) only [go_sem, Int.reduceEq, Int.reduceNe, Int.reduceLT, Int.reduceLE, Int.reduceAdd, Int.reduceSub, Int.reduceMul, Int.reduceNeg, Int.reduceToNat, Nat.reducePow, reduceCtorEq, Nat.reduceEqDiff, Nat.reduceAdd, Nat.reduceLT, Nat.reduceLeDiff, Nat.reduceMul, Nat.reduceSub, Nat.reduceBEq, Int.reduceToNat]
    · rw [if_neg c5] at hr
      subst hr
      simp (maxSteps := 1000000) -dsimp (disch := first | omega | ((repeat first | rw [AH.nx_new] | rw [AH.nx_put]); done) | ((repeat first | rw [AH.nx_new] | rw [AH.nx_put]); omega)) only [go_sem, Int.reduceEq, Int.reduceNe, Int.reduceLT, Int.reduceLE, Int.reduceAdd, Int.reduceSub, Int.reduceMul, Int.reduceNeg, Int.reduceToNat, Nat.reducePow, reduceCtorEq, Nat.reduceEqDiff, Nat.reduceAdd, Nat.reduceLT, Nat.reduceLeDiff, Nat.reduceMul, Nat.reduceSub, Nat.reduceBEq, Int.reduceToNat, t1, t2, g02, sdv, sv_int, Try.underlying3, Try.underlying22, Try.underlying25, Try.underlying27, Try.underlying44, Try.underlying46, tz3, tz22, tz25, tz27, tz44, tz46, Nat.mul_one, true_and, implies_true]
      refine callK_of (new15 hV hN (hD.fr (f0.trans f2)) h32) ?_
      rintro r g3 ⟨f3, hr⟩
      rw [if_neg c5] at hr
      subst hr
      have c6 : ¬ ((chk s ln D.length : Nat) : Int) = 0 := by omega
      simp (maxSteps := 1000000) -dsimp (disch := first | omega | ((repeat first | rw [AH.nx_new] | rw [AH.nx_put]); done) | ((repeat first | rw [AH.nx_new] | rw [AH.nx_put]); omega)) only [go_sem, Int.reduceEq, Int.reduceNe, Int.reduceLT, Int.reduceLE, Int.reduceAdd, Int.reduceSub, Int.reduceMul, Int.reduceNeg, Int.reduceToNat, Nat.reducePow, reduceCtorEq, Nat.reduceEqDiff, Nat.reduceAdd, Nat.reduceLT, Nat.reduceLeDiff, Nat.reduceMul, Nat.reduceSub, Nat.reduceBEq, Int.reduceToNat, t1, t2, c6, Try.underlying3, Try.underlying22, Try.underlying25, Try.underlying27, Try.underlying44, Try.underlying46, tz3, tz22, tz25, tz27, tz44, tz46, Nat.mul_one, true_and, implies_true]
  · simp (maxSteps := 1000000) -dsimp (disch := first | omega | ((repeat first | rw [AH.nx_new] | rw [AH.nx_put]); done) | ((repeat first | rw [AH.nx_new] | rw [AH.nx_put]); omega)) only [go_sem, Int.reduceEq, Int.reduceNe, Int.reduceLT, Int.reduceLE, Int.reduceAdd, Int.reduceSub, Int.reduceMul, Int.reduceNeg, Int.reduceToNat, Nat.reducePow, reduceCtorEq, Nat.reduceEqDiff, Nat.reduceAdd, Nat.reduceLT, Nat.reduceLeDiff, Nat.reduceMul, Nat.reduceSub, Nat.reduceBEq, Int.reduceToNat, t4]
end
end Go.Proofs.Ytmdkibpieeiadaa.dig
