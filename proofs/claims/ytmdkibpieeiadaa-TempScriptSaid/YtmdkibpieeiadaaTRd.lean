/- Lists compared; the program's List. Conditions: none beyond the stated premises. -/
import Derived.Test.YtmdkibpieeiadaaTRc
namespace Go.Proofs.Ytmdkibpieeiadaa.dig
open Go Go.Abs Go.Proofs
set_option maxRecDepth 100000
set_option linter.unusedVariables false
set_option linter.unusedSimpArgs false

section
variable {S : Sums}
set_option maxHeartbeats 4000000 in
theorem ints19 (hS : Nv S) {h : AH} {n0 n1 : Nat} {x y : AV} {l : List Int} (hx : Is n0 h x l) (hy : Is n1 h y l) (hn : l.length ≤ 1048576) : RnC Try.prog S 19 [x, y] h fun r h' => r = .bool true ∧ Fr h h' := by
  refine RnC.enter' Try.f19 _ 26 [.tmp 4] (hS _ _ _ (by simp)) bd19 Try.func19 rfl rfl rfl ?_
  have lx := is_len hx
  have ly := is_len hy
  simp (maxSteps := 1000000) -dsimp (disch := first | omega | ((repeat first | rw [AH.nx_new] | rw [AH.nx_put]); done) | ((repeat first | rw [AH.nx_new] | rw [AH.nx_put]); omega)) only [go_sem, Int.reduceEq, Int.reduceNe, Int.reduceLT, Int.reduceLE, Int.reduceAdd, Int.reduceSub, Int.reduceMul, Int.reduceNeg, Int.reduceToNat, Nat.reducePow, reduceCtorEq, Nat.reduceEqDiff, Nat.reduceAdd, Nat.reduceLT, Nat.reduceLeDiff, Nat.reduceMul, Nat.reduceSub, Nat.reduceBEq, Int.reduceToNat, lx, ly]
  refine loopK_of (RnL.rounds (Q := fun ex s => ex = .exit 0 ∧ Fr h s.h ∧ s.d = [])
    (fun m s => Fr h s.h ∧ s.d = [] ∧ s.t.get 0 = some x ∧ s.t.get 1 = some y ∧ ∃ i : Nat, s.t.get 5 = some (.int .i64 (i : Nat)) ∧ i ≤ l.length ∧ m = l.length - i) ?_ l.length ?_) ?_
  · rintro m ⟨t, h1, d⟩ ⟨e1, e2, g0, g1, i, g5, hi, rfl⟩
    dsimp only at e1 e2 g0 g1 g5
    subst e2
    by_cases c1 : (i : Int) < (l.length : Nat)
    · have hil : i < l.length := by omega
      rcases hx with ⟨rfl, rfl⟩ | ⟨idx, rfl, hgx, hix, _⟩
      · simp at hil
      rcases hy with ⟨rfl, rfl⟩ | ⟨idy, rfl, hgy, hiy, _⟩
      · simp at hil
      obtain ⟨p, hp⟩ : ∃ p, l[i]? = some p := ⟨_, List.getElem?_eq_getElem hil⟩
      have q : (l.map (AV.int .i64))[i]? = some (.int .i64 p) := by simp [hp]
      have hg1 : h1.get idx = some (.cells (l.map (AV.int .i64)) true false) := (e1.get idx hix).trans hgx
      have hg2 : h1.get idy = some (.cells (l.map (AV.int .i64)) true false) := (e1.get idy hiy).trans hgy
      simp (maxSteps := 1000000) -dsimp (disch := first | omega | ((repeat first | rw [AH.nx_new] | rw [AH.nx_put]); done) | ((repeat first | rw [AH.nx_new] | rw [AH.nx_put]); omega)) only [go_sem, Int.reduceEq, Int.reduceNe, Int.reduceLT, Int.reduceLE, Int.reduceAdd, Int.reduceSub, Int.reduceMul, Int.reduceNeg, Int.reduceToNat, Nat.reducePow, reduceCtorEq, Nat.reduceEqDiff, Nat.reduceAdd, Nat.reduceLT, Nat.reduceLeDiff, Nat.reduceMul, Nat.reduceSub, Nat.reduceBEq, Int.reduceToNat, c1, g0, g1, g5, lx, Try.underlying37]
      refine syDraw.go0 (by kernel_rfl) ?_
      simp (maxSteps := 1000000) -dsimp (disch := first | omega | ((repeat first | rw [AH.nx_new] | rw [AH.nx_put]); done) | ((repeat first | rw [AH.nx_new] | rw [AH.nx_put]); omega)) only [go_sem, Int.reduceEq, Int.reduceNe, Int.reduceLT, Int.reduceLE, Int.reduceAdd, Int.reduceSub, Int.reduceMul, Int.reduceNeg, Int.reduceToNat, Nat.reducePow, reduceCtorEq, Nat.reduceEqDiff, Nat.reduceAdd, Nat.reduceLT, Nat.reduceLeDiff, Nat.reduceMul, Nat.reduceSub, Nat.reduceBEq, Int.reduceToNat, c1, hil, g0, g1, g5, Try.underlying37, Try.underlying3, tz3, hg1, hg2, q, Nat.mul_one]
      exact ⟨l.length - (i + 1), by omega, e1.more _ (by omega), trivial, trivial, trivial, i + 1, rfl, by omega, rfl⟩
    · simp (maxSteps := 1000000) -dsimp (disch := first | omega | ((repeat first | rw [AH.nx_new] | rw [AH.nx_put]); done) | ((repeat first | rw [AH.nx_new] | rw [AH.nx_put]); omega)) only [go_sem, Int.reduceEq, Int.reduceNe, Int.reduceLT, Int.reduceLE, Int.reduceAdd, Int.reduceSub, Int.reduceMul, Int.reduceNeg, Int.reduceToNat, Nat.reducePow, reduceCtorEq, Nat.reduceEqDiff, Nat.reduceAdd, Nat.reduceLT, Nat.reduceLeDiff, Nat.reduceMul, Nat.reduceSub, Nat.reduceBEq, Int.reduceToNat, c1, g0, g1, g5, lx, Try.underlying37]
      exact ⟨trivial, e1, trivial⟩
  · simp (maxSteps := 1000000) -dsimp (disch := first | omega | ((repeat first | rw [AH.nx_new] | rw [AH.nx_put]); done) | ((repeat first | rw [AH.nx_new] | rw [AH.nx_put]); omega)) only [go_sem, Int.reduceEq, Int.reduceNe, Int.reduceLT, Int.reduceLE, Int.reduceAdd, Int.reduceSub, Int.reduceMul, Int.reduceNeg, Int.reduceToNat, Nat.reducePow, reduceCtorEq, Nat.reduceEqDiff, Nat.reduceAdd, Nat.reduceLT, Nat.reduceLeDiff, Nat.reduceMul, Nat.reduceSub, Nat.reduceBEq, Int.reduceToNat]
    exact ⟨Fr.refl _, trivial, trivial, trivial, 0, rfl, Nat.zero_le _, rfl⟩
  · rintro ex ⟨t, h1, d⟩ ⟨rfl, e1, rfl⟩
    dsimp only at e1
    simp (maxSteps := 1000000) -dsimp (disch := first | omega | ((repeat first | rw [AH.nx_new] | rw [AH.nx_put]); done) | ((repeat first | rw [AH.nx_new] | rw [AH.nx_put]); omega)) only [go_sem, Int.reduceEq, Int.reduceNe, Int.reduceLT, Int.reduceLE, Int.reduceAdd, Int.reduceSub, Int.reduceMul, Int.reduceNeg, Int.reduceToNat, Nat.reducePow, reduceCtorEq, Nat.reduceEqDiff, Nat.reduceAdd, Nat.reduceLT, Nat.reduceLeDiff, Nat.reduceMul, Nat.reduceSub, Nat.reduceBEq, Int.reduceToNat]
    exact ⟨trivial, e1⟩
theorem Ds.row {h : AH} {v : AV} {D : List (List Nat)} (hb : Ds h v D) {i : Nat} (hi : i < D.length) : ∃ id off c cs o t, v = .sl id off D.length 32 c ∧ h.get id = some (.cells cs o t) ∧ id < h.nx ∧ off + i * 32 + 32 ≤ cs.length ∧ (cs.drop (off + i * 32)).take 32 = byC D[i] := by
  rcases hb with ⟨rfl, rfl⟩ | ⟨id, off, c, cs, o, t, h1, h2, h3, h4, h5⟩
  · simp at hi
  · exact ⟨id, off, c, cs, o, t, h1, h2, h3, by omega, h5 i _ (List.getElem?_eq_getElem hi)⟩
set_option maxHeartbeats 4000000 in
theorem digests36 (hS : Nv S) {h : AH} {x y : AV} {D : List (List Nat)} (hx : Ds h x D) (hy : Ds h y D) (h32 : ∀ d ∈ D, d.length = 32) (hn : D.length ≤ 1048576) : RnC Try.prog S 36 [x, y] h fun r h' => r = .bool true ∧ Fr h h' := by
  refine RnC.enter' Try.f36 _ 26 [.tmp 4] (hS _ _ _ (by simp)) bd36 Try.func36 rfl rfl rfl ?_
  obtain ⟨lx, sx, ox⟩ := hx.len
  obtain ⟨ly, sy, oy⟩ := hy.len
  simp (maxSteps := 1000000) -dsimp (disch := first | omega | ((repeat first | rw [AH.nx_new] | rw [AH.nx_put]); done) | ((repeat first | rw [AH.nx_new] | rw [AH.nx_put]); omega)) only [go_sem, Int.reduceEq, Int.reduceNe, Int.reduceLT, Int.reduceLE, Int.reduceAdd, Int.reduceSub, Int.reduceMul, Int.reduceNeg, Int.reduceToNat, Nat.reducePow, reduceCtorEq, Nat.reduceEqDiff, Nat.reduceAdd, Nat.reduceLT, Nat.reduceLeDiff, Nat.reduceMul, Nat.reduceSub, Nat.reduceBEq, Int.reduceToNat, lx, ly]
  refine loopK_of (RnL.rounds (Q := fun ex s => ex = .exit 0 ∧ Fr h s.h ∧ s.d = [])
    (fun m s => Fr h s.h ∧ s.d = [] ∧ s.t.get 0 = some x ∧ s.t.get 1 = some y ∧ ∃ i : Nat, s.t.get 5 = some (.int .i64 (i : Nat)) ∧ i ≤ D.length ∧ m = D.length - i) ?_ D.length ?_) ?_
  · rintro m ⟨t, h1, d⟩ ⟨e1, e2, g0, g1, i, g5, hi, rfl⟩
    dsimp only at e1 e2 g0 g1 g5
    subst e2
    by_cases c1 : (i : Int) < (D.length : Nat)
    · have hil : i < D.length := by omega
      obtain ⟨idx, ofx, cx, csx, wx, tx, rfl, hgx, hix, hlx, hex⟩ := (hx.fr e1).row hil
      obtain ⟨idy, ofy, cy, csy, wy, ty, rfl, hgy, hiy, hly, hey⟩ := (hy.fr e1).row hil
      have hne : ∀ g, binA Try.prog g .neq 56 (.agg (byC D[i])) (.agg (byC D[i])) = some (.bool false) := fun g => by
        have hd := h32 D[i] (List.getElem_mem hil)
        rw [ne56 g hd hd]
        simp
      simp (maxSteps := 1000000) -dsimp (disch := first | omega | ((repeat first | rw [AH.nx_new] | rw [AH.nx_put]); done) | ((repeat first | rw [AH.nx_new] | rw [AH.nx_put]); omega)) only [go_sem, Int.reduceEq, Int.reduceNe, Int.reduceLT, Int.reduceLE, Int.reduceAdd, Int.reduceSub, Int.reduceMul, Int.reduceNeg, Int.reduceToNat, Nat.reducePow, reduceCtorEq, Nat.reduceEqDiff, Nat.reduceAdd, Nat.reduceLT, Nat.reduceLeDiff, Nat.reduceMul, Nat.reduceSub, Nat.reduceBEq, Int.reduceToNat, c1, g0, g1, g5, lx, Try.underlying25]
      refine syDraw.go0 (by kernel_rfl) ?_
      simp (maxSteps := 1000000) -dsimp (disch := first | omega | ((repeat first | rw [AH.nx_new] | rw [AH.nx_put]); done) | ((repeat first | rw [AH.nx_new] | rw [AH.nx_put]); omega)) only [go_sem, Int.reduceEq, Int.reduceNe, Int.reduceLT, Int.reduceLE, Int.reduceAdd, Int.reduceSub, Int.reduceMul, Int.reduceNeg, Int.reduceToNat, Nat.reducePow, reduceCtorEq, Nat.reduceEqDiff, Nat.reduceAdd, Nat.reduceLT, Nat.reduceLeDiff, Nat.reduceMul, Nat.reduceSub, Nat.reduceBEq, Int.reduceToNat, c1, hil, g0, g1, g5, Try.underlying25, Try.underlying56, tz56, hgx, hgy, hlx, hly, hex, hey, hne, sv_byC]
      exact ⟨D.length - (i + 1), by omega, e1.more _ (by omega), trivial, trivial, trivial, i + 1, rfl, by omega, rfl⟩
    · simp (maxSteps := 1000000) -dsimp (disch := first | omega | ((repeat first | rw [AH.nx_new] | rw [AH.nx_put]); done) | ((repeat first | rw [AH.nx_new] | rw [AH.nx_put]); omega)) only [go_sem, Int.reduceEq, Int.reduceNe, Int.reduceLT, Int.reduceLE, Int.reduceAdd, Int.reduceSub, Int.reduceMul, Int.reduceNeg, Int.reduceToNat, Nat.reducePow, reduceCtorEq, Nat.reduceEqDiff, Nat.reduceAdd, Nat.reduceLT, Nat.reduceLeDiff, Nat.reduceMul, Nat.reduceSub, Nat.reduceBEq, Int.reduceToNat, c1, g0, g1, g5, lx, Try.underlying25]
      exact ⟨trivial, e1, trivial⟩
  · simp (maxSteps := 1000000) -dsimp (disch := first | omega | ((repeat first | rw [AH.nx_new] | rw [AH.nx_put]); done) | ((repeat first | rw [AH.nx_new] | rw [AH.nx_put]); omega)) only [go_sem, Int.reduceEq, Int.reduceNe, Int.reduceLT, Int.reduceLE, Int.reduceAdd, Int.reduceSub, Int.reduceMul, Int.reduceNeg, Int.reduceToNat, Nat.reducePow, reduceCtorEq, Nat.reduceEqDiff, Nat.reduceAdd, Nat.reduceLT, Nat.reduceLeDiff, Nat.reduceMul, Nat.reduceSub, Nat.reduceBEq, Int.reduceToNat]
    exact ⟨Fr.refl _, trivial, trivial, trivial, 0, rfl, Nat.zero_le _, rfl⟩
  · rintro ex ⟨t, h1, d⟩ ⟨rfl, e1, rfl⟩
    dsimp only at e1
    simp (maxSteps := 1000000) -dsimp (disch := first | omega | ((repeat first | rw [AH.nx_new] | rw [AH.nx_put]); done) | ((repeat first | rw [AH.nx_new] | rw [AH.nx_put]); omega)) only [go_sem, Int.reduceEq, Int.reduceNe, Int.reduceLT, Int.reduceLE, Int.reduceAdd, Int.reduceSub, Int.reduceMul, Int.reduceNeg, Int.reduceToNat, Nat.reducePow, reduceCtorEq, Nat.reduceEqDiff, Nat.reduceAdd, Nat.reduceLT, Nat.reduceLeDiff, Nat.reduceMul, Nat.reduceSub, Nat.reduceBEq, Int.reduceToNat]
    exact ⟨trivial, e1⟩
theorem list22 (hS : Nv S) {h : AH} {s ln : Int} {x y : AV} {D : List (List Nat)} (hx : Ds h x D) (hy : Ds h y D) (h32 : ∀ d ∈ D, d.length = 32) (hn : D.length ≤ 1048576) : RnC Try.prog S 22 [.agg [.int .i64 s, .int .i64 ln, x], .agg [.int .i64 s, .int .i64 ln, y]] h fun r h' => r = .bool true ∧ Fr h h' := by
  refine RnC.enter' Try.f22 _ 24 [.tmp 4] (hS _ _ _ (by simp)) bd22 Try.func22 rfl rfl rfl ?_
  obtain ⟨lx, sx, ox⟩ := hx.len
  obtain ⟨ly, sy, oy⟩ := hy.len
  have omx := ox
  have omy := oy
  simp only [oneA] at omx omy
  simp (maxSteps := 1000000) -dsimp (disch := first | omega | ((repeat first | rw [AH.nx_new] | rw [AH.nx_put]); done) | ((repeat first | rw [AH.nx_new] | rw [AH.nx_put]); omega)) only [go_sem, Int.reduceEq, Int.reduceNe, Int.reduceLT, Int.reduceLE, Int.reduceAdd, Int.reduceSub, Int.reduceMul, Int.reduceNeg, Int.reduceToNat, Nat.reducePow, reduceCtorEq, Nat.reduceEqDiff, Nat.reduceAdd, Nat.reduceLT, Nat.reduceLeDiff, Nat.reduceMul, Nat.reduceSub, Nat.reduceBEq, Int.reduceToNat, omx, omy, Try.underlying27, Try.underlying25, Try.underlying3, tz27, tz25, tz3]
  refine callK_of (digests36 hS (hx.fr (((Fr.refl h).news _).news _)) (hy.fr (((Fr.refl h).news _).news _)) h32 hn) ?_
  rintro r h2 ⟨rfl, hf2⟩
  simp (maxSteps := 1000000) -dsimp (disch := first | omega | ((repeat first | rw [AH.nx_new] | rw [AH.nx_put]); done) | ((repeat first | rw [AH.nx_new] | rw [AH.nx_put]); omega)) only [go_sem, Int.reduceEq, Int.reduceNe, Int.reduceLT, Int.reduceLE, Int.reduceAdd, Int.reduceSub, Int.reduceMul, Int.reduceNeg, Int.reduceToNat, Nat.reducePow, reduceCtorEq, Nat.reduceEqDiff, Nat.reduceAdd, Nat.reduceLT, Nat.reduceLeDiff, Nat.reduceMul, Nat.reduceSub, Nat.reduceBEq, Int.reduceToNat]
  exact ⟨trivial, (((Fr.refl h).news _).news _).trans hf2⟩
set_option maxHeartbeats 4000000 in
theorem list23 (hU : Nu S) (hS : Nv S) {h : AH} {p m : Nat} {s ln : Int} {D : List (List Nat)} {B : Int → Option (List Nat)} (hp : Pt p m h s ln D B) (h32 : ∀ d ∈ D, d.length = 32) (hD : D.length ≤ 1024) :
    RnC Try.prog S 23 [.ptr p 0] h fun r h' => (∃ dv, r = .agg [.int .i64 s, .int .i64 ln, dv] ∧ Ds h' dv D) ∧ Fr h h' := by
  refine RnC.enter' Try.f23 _ 17 [.cell 2 27] (hS _ _ _ (by simp)) bd23 Try.func23 rfl rfl rfl ?_
  simp (maxSteps := 1000000) -dsimp (disch := first | omega | ((repeat first | rw [AH.nx_new] | rw [AH.nx_put]); done) | ((repeat first | rw [AH.nx_new] | rw [AH.nx_put]); omega)) only [go_sem, Int.reduceEq, Int.reduceNe, Int.reduceLT, Int.reduceLE, Int.reduceAdd, Int.reduceSub, Int.reduceMul, Int.reduceNeg, Int.reduceToNat, Nat.reducePow, reduceCtorEq, Nat.reduceEqDiff, Nat.reduceAdd, Nat.reduceLT, Nat.reduceLeDiff, Nat.reduceMul, Nat.reduceSub, Nat.reduceBEq, Int.reduceToNat, zc27, Try.underlying27, tz27]
  refine callK_of (made30 hU (hp.fr (Fr.new _ _))) ?_
  rintro r h2 ⟨rfl, hf2⟩
  have fr2 : Fr h h2 := (Fr.new h _).trans hf2
  have hn2 : h.nx + 1 ≤ h2.nx := hf2.nx
  have hg2 : h2.get h.nx = some (.cells [.int .i64 0, .int .i64 0, .nilsl] true false) := (hf2.get _ (by show h.nx < h.nx + 1; omega)).trans (AH.get_new_eq rfl)
  obtain ⟨⟨dv, E, bs, ck, k1, k2, k3, k4, k5⟩, k6, k7⟩ := hp.fr fr2
  obtain ⟨ldv, sdv, odv⟩ := k3.len
  have odm := odv
  simp only [oneA] at odm
  simp (maxSteps := 1000000) -dsimp (disch := first | omega | ((repeat first | rw [AH.nx_new] | rw [AH.nx_put]); done) | ((repeat first | rw [AH.nx_new] | rw [AH.nx_put]); omega)) only [go_sem, Int.reduceEq, Int.reduceNe, Int.reduceLT, Int.reduceLE, Int.reduceAdd, Int.reduceSub, Int.reduceMul, Int.reduceNeg, Int.reduceToNat, Nat.reducePow, reduceCtorEq, Nat.reduceEqDiff, Nat.reduceAdd, Nat.reduceLT, Nat.reduceLeDiff, Nat.reduceMul, Nat.reduceSub, Nat.reduceBEq, Int.reduceToNat, k1, hg2, odm, zc27, Try.underlying27, Try.underlying25, Try.underlying62, tz62, tz27, tz25]
  have fr3 : Fr h2 ((h2.new (.cells [.int .i64 0, .int .i64 0, .nilsl] true false)).put h2.nx (.cells [.int .i64 s, .int .i64 ln, dv] true false)) := (Fr.new h2 _).put _ (Nat.le_refl _)
  refine callK_of (clone28 (fun _ _ => hU _ _ _ (by simp)) (k3.fr fr3) h32 (by omega)) ?_
  rintro v h3 ⟨hv, ov, hk, hf3⟩
  have hn3 : h2.nx + 1 ≤ h3.nx := hf3.nx
  have y2 : h3.get h2.nx = some (.cells [.int .i64 s, .int .i64 ln, dv] true false) := (hf3.get _ (by show h2.nx < h2.nx + 1; omega)).trans (AH.get_put_eq rfl)
  have y0 : h3.get h.nx = some (.cells [.int .i64 0, .int .i64 0, .nilsl] true false) := (hf3.get _ (by show h.nx < h2.nx + 1; omega)).trans ((fr3.get _ (by omega)).trans hg2)
  have fr4 : Fr h h3 := (fr2.trans fr3).trans hf3
  rcases hk with rfl | ⟨kk, nn, cc, rfl, hk⟩
  · have hv2 : D = [] := by
      rcases hv with ⟨_, h9⟩ | ⟨id, off, c, cs, ow, t, h9, _⟩
      · exact h9
      · cases h9
    simp (maxSteps := 1000000) -dsimp (disch := first | omega | ((repeat first | rw [AH.nx_new] | rw [AH.nx_put]); done) | ((repeat first | rw [AH.nx_new] | rw [AH.nx_put]); omega)) only [go_sem, Int.reduceEq, Int.reduceNe, Int.reduceLT, Int.reduceLE, Int.reduceAdd, Int.reduceSub, Int.reduceMul, Int.reduceNeg, Int.reduceToNat, Nat.reducePow, reduceCtorEq, Nat.reduceEqDiff, Nat.reduceAdd, Nat.reduceLT, Nat.reduceLeDiff, Nat.reduceMul, Nat.reduceSub, Nat.reduceBEq, Int.reduceToNat, y2, y0, zc27, Try.underlying27, Try.underlying25, tz27, tz25]
    exact ⟨⟨_, rfl, .inl ⟨rfl, hv2⟩⟩, ((fr4.put _ (by omega)).put _ (by omega))⟩
  · have hki := hv.id_lt
    have hkk : h2.nx + 1 ≤ kk := hk
    simp (maxSteps := 1000000) -dsimp (disch := first | omega | ((repeat first | rw [AH.nx_new] | rw [AH.nx_put]); done) | ((repeat first | rw [AH.nx_new] | rw [AH.nx_put]); omega)) only [go_sem, Int.reduceEq, Int.reduceNe, Int.reduceLT, Int.reduceLE, Int.reduceAdd, Int.reduceSub, Int.reduceMul, Int.reduceNeg, Int.reduceToNat, Nat.reducePow, reduceCtorEq, Nat.reduceEqDiff, Nat.reduceAdd, Nat.reduceLT, Nat.reduceLeDiff, Nat.reduceMul, Nat.reduceSub, Nat.reduceBEq, Int.reduceToNat, y2, y0, zc27, Try.underlying27, Try.underlying25, tz27, tz25]
    exact ⟨⟨_, rfl, hv.at ((AH.get_put_ne (by omega)).trans (AH.get_put_ne (by omega))) (Nat.le_refl _)⟩, ((fr4.put _ (by omega)).put _ (by omega))⟩
end
end Go.Proofs.Ytmdkibpieeiadaa.dig
