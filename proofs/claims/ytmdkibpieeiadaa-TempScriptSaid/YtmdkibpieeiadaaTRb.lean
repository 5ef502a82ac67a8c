/- The document's temp: New, Put, Has. Conditions: the digest's constants are summaries; none else. -/
import Derived.Test.YtmdkibpieeiadaaTRa
namespace Go.Proofs.Ytmdkibpieeiadaa.dig
open Go Go.Abs Go.Proofs
set_option maxRecDepth 100000
set_option linter.unusedVariables false
set_option linter.unusedSimpArgs false

theorem Vb.fb {b : Nat} {h h' : AH} {v : AV} {o : Option (List Nat)} (hv : Vb h v o) (hf : Fb b h h') : Vb h' v o := by
  cases o with
  | none => exact hv
  | some l => exact ⟨hv.1, bs_fb hv.2 hf⟩
theorem Vb.int {h : AH} {v : AV} {o : Option (List Nat)} (hv : Vb h v o) : ∀ k n, v ≠ .int k n := by
  cases o with
  | none =>
    have : v = .nilsl := hv
    rw [this]
    exact fun k n hh => by cases hh
  | some l =>
    obtain ⟨⟨a, x, n, c, rfl⟩, _⟩ := hv
    exact fun k n hh => by cases hh
theorem fit_0 {s ln : Int} {D : List (List Nat)} {k : Int} {l : List Nat} (h : fit s ln D k l = 0) : chk s ln D.length = 0 ∧ ∃ i : Nat, k = (i : Int) ∧ i < D.length := by
  unfold fit at h
  by_cases c1 : chk s ln D.length = 0
  · rw [if_neg (by simp [c1])] at h
    by_cases c2 : isB s ln D.length k
    · obtain ⟨_, h1, h2⟩ := c2
      exact ⟨c1, k.toNat, by omega, by omega⟩
    · rw [if_pos c2] at h
      cases h
  · rw [if_pos c1] at h
    exact absurd h c1
theorem pc_len {vs : List AV} {i : Nat} {v : AV} (hi : i < vs.length) : (putCells vs i [v]).length = vs.length := by
  unfold putCells
  simp
  omega
theorem pc_get {vs : List AV} {i j : Nat} {v : AV} (hi : i < vs.length) : (putCells vs i [v])[j]? = if j = i then some v else vs[j]? := by
  have : putCells vs i [v] = vs.set i v := by
    unfold putCells
    rw [List.set_eq_take_append_cons_drop, if_pos hi]
    simp
  rw [this, List.getElem?_set]
  by_cases h : j = i
  · subst h
    simp [hi]
  · rw [if_neg (Ne.symm h), if_neg h]
theorem sv_sl1 (b o n z : Nat) (c : Option Nat) : sameAV 20 (.sl b o n z c) (.sl b o n z c) = true := by simp [sameAV]
theorem sv_l27 (s ln : Int) (b o n z : Nat) (c : Option Nat) : sameAV 20 (.agg [.int .i64 s, .int .i64 ln, .sl b o n z c]) (.agg [.int .i64 s, .int .i64 ln, .sl b o n z c]) = true := by simp [sameAV, sameL]
theorem bld71 (s ln : Int) (m k n n2 : Nat) (c c2 : Option Nat) : evBuild Try.prog 71 [(0, .agg [.int .i64 s, .int .i64 ln, .sl k 0 n 32 c]), (1, .sl m 0 n2 1 c2)] = some (.agg [.int .i64 s, .int .i64 ln, .sl k 0 n 32 c, .sl m 0 n2 1 c2]) := by kernel_rfl
def Nv (S : Sums) : Prop := ∀ f args h, f ∈ [15, 17, 18, 19, 20, 21, 22, 23, 36] → S f args h = none
section
variable {S : Sums}
set_option maxHeartbeats 4000000 in
theorem new15 (hS : Nv S) (hN : Nt S) {h : AH} {s ln : Int} {dv : AV} {D : List (List Nat)} (hD : Ds h dv D) (hD32 : ∀ d ∈ D, d.length = 32) :
    RnC Try.prog S 15 [.agg [.int .i64 s, .int .i64 ln, dv]] h fun r h' => Fr h h' ∧ if chk s ln D.length = 0 then ∃ q b, r = .tup [.ptr q 0, .int .i64 0] ∧ h.nx ≤ q ∧ h.nx ≤ b ∧ Rt q b h' s ln D fun _ => none
      else r = .tup [.nilptr, .int .i64 (chk s ln D.length : Nat)] := by
  refine RnC.enter' Try.f15 _ 22 [.tmp 2, .tmp 3] (hS _ _ _ (by simp)) bd15 Try.func15 rfl rfl rfl ?_
  obtain ⟨ldv, sdv, odv⟩ := hD.len
  simp (maxSteps := 1000000) -dsimp (disch := first | omega | ((repeat first | rw [AH.nx_new] | rw [AH.nx_put]); done) | ((repeat first | rw [AH.nx_new] | rw [AH.nx_put]); omega)) only [go_sem, Int.reduceEq, Int.reduceNe, Int.reduceLT, Int.reduceLE, Int.reduceAdd, Int.reduceSub, Int.reduceMul, Int.reduceNeg, Int.reduceToNat, Nat.reducePow, reduceCtorEq, Nat.reduceEqDiff, Nat.reduceAdd, Nat.reduceLT, Nat.reduceLeDiff, Nat.reduceMul, Nat.reduceSub, Nat.reduceBEq, Int.reduceToNat, Try.underlying27, Try.underlying25, tz27, tz25, sv_int, sv_bool, ldv, sdv, odv, true_and, implies_true]
  refine callK_of (check29 (fun f _ _ hf => hN _ _ _ (by rcases hf with h | h <;> simp [h])) (hD.fr (Fr.new _ _))) ?_
  rintro r h2 ⟨rfl, hf2⟩
  have hn2 : h.nx + 1 ≤ h2.nx := hf2.nx
  have hg2 : ∀ j, j < h.nx + 1 → h2.get j = (h.new (.cells [.int .i64 s, .int .i64 ln, dv] true false)).get j := hf2.get
  have g0 : h2.get h.nx = some (.cells [.int .i64 s, .int .i64 ln, dv] true false) := (hg2 _ (by omega)).trans (AH.get_new_eq rfl)
  have fr2 : Fr h h2 := (Fr.new h _).trans hf2
  by_cases c1 : ((chk s ln D.length : Nat) : Int) = 0
  · have c1' : chk s ln D.length = 0 := by omega
    have hl := (chk_0 c1').2.2.2.2.1
    obtain ⟨v2, h3, ha, hf3, hb2, ho, k, n, c', rfl, hk⟩ := Ds.own (h := h2.new (.cells [] true true)) (id := h2.nx) (hD.fr (fr2.news _)) hD32 (by omega) (AH.get_new_eq rfl) (Nat.lt_succ_self _)
    have hz : z32.length = 32 := rfl
    have hn3 : h2.nx + 1 ≤ h3.nx := hf3.nx
    have g3 : h3.get h.nx = some (.cells [.int .i64 s, .int .i64 ln, dv] true false) := (hf3.get _ (by show h.nx < h2.nx + 1; omega)).trans ((AH.get_new_ne (by omega)).trans g0)
    simp (maxSteps := 1000000) -dsimp (disch := first | omega | ((repeat first | rw [AH.nx_new] | rw [AH.nx_put]); done) | ((repeat first | rw [AH.nx_new] | rw [AH.nx_put]); omega)) only [go_sem, Int.reduceEq, Int.reduceNe, Int.reduceLT, Int.reduceLE, Int.reduceAdd, Int.reduceSub, Int.reduceMul, Int.reduceNeg, Int.reduceToNat, Nat.reducePow, reduceCtorEq, Nat.reduceEqDiff, Nat.reduceAdd, Nat.reduceLT, Nat.reduceLeDiff, Nat.reduceMul, Nat.reduceSub, Nat.reduceBEq, Int.reduceToNat, c1, g0, g3, ha, hz, zc56w, Try.underlying56, tz56, Try.underlying27, Try.underlying25, tz27, tz25, sv_int, sv_bool, ldv, sdv, odv, true_and, implies_true]
    refine syDraw.keep (fun j => j = h.nx) (by kernel_rfl) (by kernel_rfl) ?_
    obtain ⟨lv2, sv2, ov2⟩ := hb2.len
    simp (maxSteps := 1000000) -dsimp (disch := first | omega | ((repeat first | rw [AH.nx_new] | rw [AH.nx_put]); done) | ((repeat first | rw [AH.nx_new] | rw [AH.nx_put]); omega)) only [go_sem, Int.reduceEq, Int.reduceNe, Int.reduceLT, Int.reduceLE, Int.reduceAdd, Int.reduceSub, Int.reduceMul, Int.reduceNeg, Int.reduceToNat, Nat.reducePow, reduceCtorEq, Nat.reduceEqDiff, Nat.reduceAdd, Nat.reduceLT, Nat.reduceLeDiff, Nat.reduceMul, Nat.reduceSub, Nat.reduceBEq, Int.reduceToNat, ms69 hl, bld71, lv2, sv2, sv_l27, Try.underlying56, tz56, Try.underlying27, Try.underlying25, tz27, tz25, sv_int, sv_bool, true_and, implies_true]
    rw [if_pos c1']
    have fr4 : Fr h (({ tr := (h3.put h.nx (.cells [.int .i64 s, .int .i64 ln, .sl k 0 n 32 c'] true false)).tr, nx := h3.nx + 9 } : AH).put (h3.nx + 4) (.cells (List.replicate D.length .nilsl) true (D.length == 0))) :=
      ((((fr2.news _).trans hf3).put _ (Nat.le_refl _)).more (h3.nx + 9) (by rw [AH.nx_put]; omega)).put _ (by omega)
    refine ⟨fr4.put _ (by omega), _, _, rfl, by omega, by omega, ⟨⟨_, _, _, _, AH.get_put_eq rfl, (AH.get_put_ne (by omega)).trans (AH.get_put_eq rfl), List.length_replicate, hb2.at ?_ (by simp), ov2, fun i hi => ⟨.nilsl, by simp [hi], rfl⟩⟩, by simp, by simp, fun _ _ => rfl⟩⟩
    have hki := hb2.id_lt
    rw [AH.get_put_ne (by omega), AH.get_put_ne (by omega)]
    exact AH.get_put_ne (by omega)
  · simp (maxSteps := 1000000) -dsimp (disch := first | omega | ((repeat first | rw [AH.nx_new] | rw [AH.nx_put]); done) | ((repeat first | rw [AH.nx_new] | rw [AH.nx_put]); omega)) only [go_sem, Int.reduceEq, Int.reduceNe, Int.reduceLT, Int.reduceLE, Int.reduceAdd, Int.reduceSub, Int.reduceMul, Int.reduceNeg, Int.reduceToNat, Nat.reducePow, reduceCtorEq, Nat.reduceEqDiff, Nat.reduceAdd, Nat.reduceLT, Nat.reduceLeDiff, Nat.reduceMul, Nat.reduceSub, Nat.reduceBEq, Int.reduceToNat, c1, Try.underlying27, Try.underlying25, tz27, tz25]
    refine ⟨fr2, ?_⟩
    have c2 : ¬ chk s ln D.length = 0 := by omega
    simp only [c2, if_false]

set_option maxHeartbeats 4000000 in
theorem put17 (hS : Nv S) (hN : Nt S) (hd : Dg S) {h : AH} {q b : Nat} {s ln : Int} {D : List (List Nat)} {B : Int → Option (List Nat)} {k : Int} {bv : AV} {l : List Nat} (hp : Rt q b h s ln D B) (hD32 : ∀ d ∈ D, d.length = 32)
    (hb : Bs h bv l) (hl : ∀ b ∈ l, b < 256) (hln : l.length ≤ 137438953472) :
    RnC Try.prog S 17 [.ptr q 0, .int .i64 k, bv] h fun r h' => r = .int .i64 (fit s ln D k l : Nat) ∧ if fit s ln D k l = 0 then Fb b h h' ∧ Rt q b h' s ln D (putB B k l) else Fr h h' := by
  refine RnC.enter' Try.f17 _ 27 [.tmp 6] (hS _ _ _ (by simp)) bd17 Try.func17 rfl rfl rfl ?_
  obtain ⟨⟨dv, vs, c, t, h1, h2, h3, h4, h5, h6⟩, h7, h8, h9⟩ := hp
  obtain ⟨ldv, sdv, odv⟩ := h4.len
  simp (maxSteps := 1000000) -dsimp (disch := first | omega | ((repeat first | rw [AH.nx_new] | rw [AH.nx_put]); done) | ((repeat first | rw [AH.nx_new] | rw [AH.nx_put]); omega)) only [go_sem, Int.reduceEq, Int.reduceNe, Int.reduceLT, Int.reduceLE, Int.reduceAdd, Int.reduceSub, Int.reduceMul, Int.reduceNeg, Int.reduceToNat, Nat.reducePow, reduceCtorEq, Nat.reduceEqDiff, Nat.reduceAdd, Nat.reduceLT, Nat.reduceLeDiff, Nat.reduceMul, Nat.reduceSub, Nat.reduceBEq, Int.reduceToNat, h1, Try.underlying27, Try.underlying71, tz27, tz71, true_and, implies_true]
  refine callK_of (fits35 hN hd h4 hD32 hb hl hln) ?_
  rintro r h2' ⟨rfl, f2⟩
  have g1 := (f2.get _ h7).trans h1
  have g2 := (f2.get _ h8).trans h2
  have nn := f2.nx
  by_cases c1 : ((fit s ln D k l : Nat) : Int) = 0
  · have c1' : fit s ln D k l = 0 := by omega
    obtain ⟨hchk, i, rfl, hi⟩ := fit_0 c1'
    have hDl := (chk_0 hchk).2.2.2.2.1
    have hvi : i < vs.length := by omega
    have qb : q ≠ b := by
      rintro rfl
      rw [h1] at h2
      cases h2
      obtain ⟨v, e1, e2⟩ := h6 0 (by omega)
      cases e1
      exact e2.int _ _ rfl
    simp (maxSteps := 1000000) -dsimp (disch := first | omega | ((repeat first | rw [AH.nx_new] | rw [AH.nx_put]); done) | ((repeat first | rw [AH.nx_new] | rw [AH.nx_put]); omega)) only [go_sem, Int.reduceEq, Int.reduceNe, Int.reduceLT, Int.reduceLE, Int.reduceAdd, Int.reduceSub, Int.reduceMul, Int.reduceNeg, Int.reduceToNat, Nat.reducePow, reduceCtorEq, Nat.reduceEqDiff, Nat.reduceAdd, Nat.reduceLT, Nat.reduceLeDiff, Nat.reduceMul, Nat.reduceSub, Nat.reduceBEq, Int.reduceToNat, c1]
    refine syDraw.keep (fun j => j = q) (by kernel_rfl) (by kernel_rfl) ?_
    obtain ⟨v', h5', ha, hf5, hb5⟩ := Bo.app (h0 := h2') (h := ({ tr := h2'.tr, nx := h2'.nx + 10 } : AH).put (h2'.nx + 5) (.cells [] true true)) (v := .sl (h2'.nx + 5) 0 0 1 (some 0)) (l := []) Try.underlying22 ai5 ⟨h2'.nx + 5, some 0, [], true, rfl, AH.get_put_eq rfl, by rw [AH.nx_put]; show h2'.nx + 5 < h2'.nx + 10; omega, by omega, rfl, Nat.le_refl _, .inr rfl⟩ ((hb.fr f2).fr (((Fr.refl h2').more (h2'.nx + 10) (by omega)).put _ (by omega))) (((Fr.refl h2').more (h2'.nx + 10) (by omega)).put _ (by omega)) (by simp; omega)
    rw [List.nil_append] at hb5
    have hb5' := hb5
    obtain ⟨id5, c5, cs5, t5, rfl, k2, k3, k4, k5, k6, k7⟩ := hb5
    have gq5 : h5'.get q = some (.cells [.int .i64 s, .int .i64 ln, dv, .sl b 0 D.length 1 c] true false) := (hf5.get _ (by omega)).trans g1
    have gb5 : h5'.get b = some (.cells vs true t) := (hf5.get _ (by omega)).trans g2
    have n5 := hf5.nx
    simp (maxSteps := 1000000) -dsimp (disch := first | omega | ((repeat first | rw [AH.nx_new] | rw [AH.nx_put]); done) | ((repeat first | rw [AH.nx_new] | rw [AH.nx_put]); omega)) only [go_sem, Int.reduceEq, Int.reduceNe, Int.reduceLT, Int.reduceLE, Int.reduceAdd, Int.reduceSub, Int.reduceMul, Int.reduceNeg, Int.reduceToNat, Nat.reducePow, reduceCtorEq, Nat.reduceEqDiff, Nat.reduceAdd, Nat.reduceLT, Nat.reduceLeDiff, Nat.reduceMul, Nat.reduceSub, Nat.reduceBEq, Int.reduceToNat, g1, ha, zc5, Try.underlying22, Try.underlying5, tz5, Try.underlying69, Try.underlying71, tz22, tz69, tz71, sv_int, sv_sl1, true_and, implies_true]
    refine ⟨fun j hj => by rw [hj, gq5, g1], ?_⟩
    simp (maxSteps := 1000000) -dsimp (disch := first | omega | ((repeat first | rw [AH.nx_new] | rw [AH.nx_put]); done) | ((repeat first | rw [AH.nx_new] | rw [AH.nx_put]); omega)) only [go_sem, Int.reduceEq, Int.reduceNe, Int.reduceLT, Int.reduceLE, Int.reduceAdd, Int.reduceSub, Int.reduceMul, Int.reduceNeg, Int.reduceToNat, Nat.reducePow, reduceCtorEq, Nat.reduceEqDiff, Nat.reduceAdd, Nat.reduceLT, Nat.reduceLeDiff, Nat.reduceMul, Nat.reduceSub, Nat.reduceBEq, Int.reduceToNat, gb5, Nat.mul_one, hvi, Nat.succ_le_of_lt hvi, true_and, implies_true]
    have hx : putCells vs i [.sl id5 0 l.length 1 c5] = List.take i vs ++ [AV.sl id5 0 l.length 1 c5] ++ List.drop (i + 1) vs := rfl
    rw [← hx]
    have nin : ∀ (j : Nat) (v : AV), vs[j]? = some v → ∀ k n, v ≠ .int k n := fun j v hv => by
      have hj := (List.getElem?_eq_some_iff.1 hv).1
      obtain ⟨v2, e1, e2⟩ := h6 j (by omega)
      rw [hv] at e1
      cases e1
      exact e2.int
    have fb5 : Fb b h5' (h5'.put b (.cells (putCells vs i [.sl id5 0 l.length 1 c5]) true t)) := ⟨⟨Nat.le_refl _, fun j _ hj => AH.get_put_ne hj⟩, vs, _, t, gb5, AH.get_put_eq rfl, pc_len hvi, nin⟩
    have fr5 : Fr h h5' := f2.trans hf5
    refine ⟨fun j hj => by rw [hj]; exact AH.get_put_ne qb, ?_⟩
    rw [if_pos c1']
    refine ⟨⟨⟨by rw [AH.nx_put]; exact fr5.nx, fun j hj hjb => (AH.get_put_ne hjb).trans (fr5.get j hj)⟩, vs, _, t, h2, AH.get_put_eq rfl, pc_len hvi, nin⟩, ⟨⟨dv, _, c, t, (AH.get_put_ne qb).trans gq5, AH.get_put_eq rfl, (pc_len hvi).trans h3, ds_fb (h4.fr fr5) hD32 fb5, h5, fun j hj => ?_⟩, by rw [AH.nx_put]; have := fr5.nx; omega, by rw [AH.nx_put]; have := fr5.nx; omega, fun k2 hk2 => ?_⟩⟩
    · rw [pc_get hvi]
      unfold putB
      by_cases hji : j = i
      · subst hji
        rw [if_pos rfl, if_pos rfl]
        exact ⟨_, rfl, ⟨_, _, _, _, rfl⟩, bs_fb hb5'.bs fb5⟩
      · rw [if_neg hji, if_neg (by omega)]
        obtain ⟨v2, e1, e2⟩ := h6 j hj
        exact ⟨v2, e1, (e2.fr fr5).fb fb5⟩
    · unfold putB
      rw [if_neg (by omega)]
      exact h9 k2 hk2
  · simp (maxSteps := 1000000) -dsimp (disch := first | omega | ((repeat first | rw [AH.nx_new] | rw [AH.nx_put]); done) | ((repeat first | rw [AH.nx_new] | rw [AH.nx_put]); omega)) only [go_sem, Int.reduceEq, Int.reduceNe, Int.reduceLT, Int.reduceLE, Int.reduceAdd, Int.reduceSub, Int.reduceMul, Int.reduceNeg, Int.reduceToNat, Nat.reducePow, reduceCtorEq, Nat.reduceEqDiff, Nat.reduceAdd, Nat.reduceLT, Nat.reduceLeDiff, Nat.reduceMul, Nat.reduceSub, Nat.reduceBEq, Int.reduceToNat, c1]
    have c1' : ¬ fit s ln D k l = 0 := by omega
    rw [if_neg c1']
    exact ⟨trivial, f2⟩
theorem has18 (hS : Nv S) {h : AH} {q b : Nat} {s ln : Int} {D : List (List Nat)} {B : Int → Option (List Nat)} {k : Int} (hp : Rt q b h s ln D B) (hD : D.length ≤ 1024) : RnC Try.prog S 18 [.ptr q 0, .int .i64 k] h fun r h' => r = .bool (B k).isSome ∧ Fr h h' := by
  refine RnC.enter' Try.f18 _ 26 [.tmp 4] (hS _ _ _ (by simp)) bd18 Try.func18 rfl rfl rfl ?_
  obtain ⟨⟨dv, vs, c, t, h1, h2, h3, h4, h5, h6⟩, h7, h8, h9⟩ := hp
  by_cases c1 : 0 ≤ k
  · obtain ⟨i, rfl⟩ : ∃ i : Nat, k = (i : Int) := ⟨k.toNat, by omega⟩
    by_cases c2 : (i : Int) < (D.length : Nat)
    · have hi : i < D.length := by omega
      obtain ⟨v, e1, e2⟩ := h6 i hi
      cases hB : B (i : Nat) with
      | none =>
        rw [hB] at e2
        have e3 : v = .nilsl := e2
        subst e3
        simp (maxSteps := 1000000) -dsimp (disch := first | omega | ((repeat first | rw [AH.nx_new] | rw [AH.nx_put]); done) | ((repeat first | rw [AH.nx_new] | rw [AH.nx_put]); omega)) only [go_sem, evLen, Int.reduceEq, Int.reduceNe, Int.reduceLT, Int.reduceLE, Int.reduceAdd, Int.reduceSub, Int.reduceMul, Int.reduceNeg, Int.reduceToNat, Nat.reducePow, reduceCtorEq, Nat.reduceEqDiff, Nat.reduceAdd, Nat.reduceLT, Nat.reduceLeDiff, Nat.reduceMul, Nat.reduceSub, Nat.reduceBEq, Int.reduceToNat, c1, c2, h1, h2, e1, hi, Nat.mul_one, neN, neS, Try.underlying22, Try.underlying27, Try.underlying69, Try.underlying71, tz22, tz27, tz71, tz69]
        exact ⟨rfl, Fr.refl _⟩
      | some l =>
        rw [hB] at e2
        obtain ⟨⟨a, x, n, c', rfl⟩, e3⟩ := e2
        simp (maxSteps := 1000000) -dsimp (disch := first | omega | ((repeat first | rw [AH.nx_new] | rw [AH.nx_put]); done) | ((repeat first | rw [AH.nx_new] | rw [AH.nx_put]); omega)) only [go_sem, evLen, Int.reduceEq, Int.reduceNe, Int.reduceLT, Int.reduceLE, Int.reduceAdd, Int.reduceSub, Int.reduceMul, Int.reduceNeg, Int.reduceToNat, Nat.reducePow, reduceCtorEq, Nat.reduceEqDiff, Nat.reduceAdd, Nat.reduceLT, Nat.reduceLeDiff, Nat.reduceMul, Nat.reduceSub, Nat.reduceBEq, Int.reduceToNat, c1, c2, h1, h2, e1, hi, Nat.mul_one, neN, neS, Try.underlying22, Try.underlying27, Try.underlying69, Try.underlying71, tz22, tz27, tz71, tz69]
        exact ⟨rfl, Fr.refl _⟩
    · simp (maxSteps := 1000000) -dsimp (disch := first | omega | ((repeat first | rw [AH.nx_new] | rw [AH.nx_put]); done) | ((repeat first | rw [AH.nx_new] | rw [AH.nx_put]); omega)) only [go_sem, evLen, Int.reduceEq, Int.reduceNe, Int.reduceLT, Int.reduceLE, Int.reduceAdd, Int.reduceSub, Int.reduceMul, Int.reduceNeg, Int.reduceToNat, Nat.reducePow, reduceCtorEq, Nat.reduceEqDiff, Nat.reduceAdd, Nat.reduceLT, Nat.reduceLeDiff, Nat.reduceMul, Nat.reduceSub, Nat.reduceBEq, Int.reduceToNat, c1, c2, h1, h2, Nat.mul_one, neN, neS, Try.underlying22, Try.underlying27, Try.underlying69, Try.underlying71, tz22, tz27, tz71, tz69]
      rw [h9 _ (.inr (by omega))]
      exact ⟨rfl, Fr.refl _⟩
  · simp (maxSteps := 1000000) -dsimp (disch := first | omega | ((repeat first | rw [AH.nx_new] | rw [AH.nx_put]); done) | ((repeat first | rw [AH.nx_new] | rw [AH.nx_put]); omega)) only [go_sem, evLen, Int.reduceEq, Int.reduceNe, Int.reduceLT, Int.reduceLE, Int.reduceAdd, Int.reduceSub, Int.reduceMul, Int.reduceNeg, Int.reduceToNat, Nat.reducePow, reduceCtorEq, Nat.reduceEqDiff, Nat.reduceAdd, Nat.reduceLT, Nat.reduceLeDiff, Nat.reduceMul, Nat.reduceSub, Nat.reduceBEq, Int.reduceToNat, c1, h1, h2, Nat.mul_one, neN, neS, Try.underlying22, Try.underlying27, Try.underlying69, Try.underlying71, tz22, tz27, tz71, tz69]
    rw [h9 _ (.inl (by omega))]
    exact ⟨rfl, Fr.refl _⟩
end
end Go.Proofs.Ytmdkibpieeiadaa.dig
