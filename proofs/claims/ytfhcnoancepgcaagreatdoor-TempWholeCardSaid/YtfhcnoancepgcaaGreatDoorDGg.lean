/- The digest of bytes of whatever length, in the document's answer: the same thirty-two bytes. Conditions: the constants are summaries; none else. -/
import Derived.Test.YtfhcnoancepgcaaGreatDoorDGf
namespace Go.Proofs.YtfhcnoancepgcaaGreatDoor.dig
open Go Go.Abs Go.Proofs
set_option maxRecDepth 100000
set_option linter.unusedVariables false
set_option linter.unusedSimpArgs false

section
variable {S : Sums}
/-- What stays while the document goes over the blocks. -/
structure Jnv (h : AH) (l : List Nat) (w : AV) (i : Nat) (g : AH) : Prop where
  fr : Fr h g
  z : g.get h.nx = some (.cells z32 true false)
  k : g.get (h.nx + 1) = some (.cells (wrow Kc 64) true false)
  s : g.get (h.nx + 1 + 1) = some (.cells (c8 (stt l i)) true false)
  w : Bo (h.nx + 3) g w (whole l)
  top : h.nx + 3 ≤ g.nx

set_option maxHeartbeats 40000000 in
theorem of26 (hd : Dg S) {h : AH} {v : AV} {l : List Nat} (hb : Bs h v l) (hl : ∀ b ∈ l, b < 256) (hn : l.length ≤ 137438953472) : RnC Tryz.prog S 24 [v] h fun r h' => r = .agg (byC (ofS l)) ∧ Fr h h' := by
  refine RnC.enter' Tryz.f24 _ 50 [.cell 2 62] (hd.no _ _ _ (by simp)) bd24 Tryz.func24 rfl rfl rfl ?_
  obtain ⟨lv, ov⟩ := conv_len hb
  have hz32 : z32.isEmpty = false := rfl
  simp (maxSteps := 1000000) -dsimp (disch := (repeat first | rw [nxn] | rw [nxp]); try omega) only [go_sem, evLen, zc56w, hz32]
  refine callK_of (RnC.sum (hd.kR _) (Q := fun v h' => v = .agg (wrow Kc 64) ∧ h' = h.new (.cells z32 true false)) ⟨rfl, rfl⟩) ?_
  rintro r h' ⟨rfl, rfl⟩
  try simp (maxSteps := 1000000) -dsimp (disch := (repeat first | rw [nxn] | rw [nxp]); try omega) only [go_sem, evLen]
  refine callK_of (RnC.sum (hd.hR _) (Q := fun v h' => v = .agg (c8 H0) ∧ h' = h.new (.cells z32 true false)) ⟨rfl, rfl⟩) ?_
  rintro r h' ⟨rfl, rfl⟩
  have frG : Fr h (((((h.new (.cells z32 true false)).new (.cells (wrow Kc 0) true false)).new (.cells (c8 w0) true false)).put (h.nx + 1) (.cells (wrow Kc 64) true false)).put (h.nx + 1 + 1) (.cells (c8 H0) true false)) := (((((Fr.refl h).news _).news _).news _).put _ (by omega)).put _ (by omega)
  obtain ⟨v1, h1, ha1, hf1, hb1⟩ := Bo.app (P := Tryz.prog) (h0 := ((((h.new (.cells z32 true false)).new (.cells (wrow Kc 0) true false)).new (.cells (c8 w0) true false)).put (h.nx + 1) (.cells (wrow Kc 64) true false)).put (h.nx + 1 + 1) (.cells (c8 H0) true false)) (h := (((((h.new (.cells z32 true false)).new (.cells (wrow Kc 0) true false)).new (.cells (c8 w0) true false)).put (h.nx + 1) (.cells (wrow Kc 64) true false)).put (h.nx + 1 + 1) (.cells (c8 H0) true false)).new (.cells [] true true)) (v := .sl (h.nx + 1 + 1 + 1) 0 0 1 (some 0)) (l := []) Tryz.underlying22 ai5
    ⟨h.nx + 1 + 1 + 1, some 0, [], true, rfl, AH.get_new_eq rfl, Nat.lt_succ_self _, Nat.le_refl _, rfl, Nat.le_refl _, .inr rfl⟩ ((hb.fr frG).fr (Fr.new _ _)) (Fr.new _ _) (by simp only [List.length_nil]; omega)
  rw [List.nil_append] at hb1
  simp (maxSteps := 1000000) -dsimp (disch := (repeat first | rw [nxn] | rw [nxp]); try omega) only [go_sem, zc74w Kc, zc76w, wrow_all, wrow_drop, wrow_take, Nat.mul_one, lv, ha1]
  refine callK_of (pad39 (fun _ _ => hd.no _ _ _ (by simp)) (n := l.length) (by omega)) ?_
  rintro pv h2 ⟨hbo, hf2⟩
  obtain ⟨wv, h3, ha3, hf3, hbw⟩ := Bo.app (P := Tryz.prog) Tryz.underlying22 ai5 (hb1.fr hf2) hbo.bs (hf1.trans hf2) (by rw [padS_len]; have := zs_lt l.length; omega)
  obtain ⟨wi, wc, hwv⟩ := bo_ex hbw
  have hlw : (whole l).length = 64 * qs l := whole_len l
  have hn3 : h.nx + 1 + 1 + 1 ≤ h3.nx := hf3.nx
  have hg3 : ∀ j, j < h.nx + 1 + 1 + 1 → h3.get j = (((((h.new (.cells z32 true false)).new (.cells (wrow Kc 0) true false)).new (.cells (c8 w0) true false)).put (h.nx + 1) (.cells (wrow Kc 64) true false)).put (h.nx + 1 + 1) (.cells (c8 H0) true false)).get j := hf3.get
  simp (maxSteps := 1000000) -dsimp (disch := (repeat first | rw [nxn] | rw [nxp]); try omega) only [go_sem, evLen, ha3]
  refine loopK_of (RnL.rounds (Q := fun ex s => ex = .exit 0 ∧ s.d = [] ∧ s.t.get 2 = some (.ptr h.nx 0) ∧ s.t.get 4 = some (.ptr (h.nx + 1 + 1) 0) ∧ Jnv h l wv (qs l) s.h)
    (fun m s => s.d = [] ∧ s.t.get 2 = some (.ptr h.nx 0) ∧ s.t.get 3 = some (.ptr (h.nx + 1) 0) ∧ s.t.get 4 = some (.ptr (h.nx + 1 + 1) 0) ∧ s.t.get 5 = some wv ∧ ∃ i : Nat, s.t.get 6 = some (.int .i64 ((64 * i : Nat) : Int)) ∧ Jnv h l wv i s.h ∧ i ≤ qs l ∧ m = qs l - i) ?_ (qs l) ?_) ?_
  · rintro m ⟨t, g, d⟩ ⟨e2, g2, g3, g4, g5, i, g6, hI, hi, rfl⟩
    dsimp only at e2 g2 g3 g4 g5 g6 hI
    subst e2
    rw [hwv] at g5
    have hlt0 : qs l ≤ 4294967296 := by
      have h1 : (whole l).length = l.length + (9 + zs l.length) := by unfold whole; rw [List.length_append, padS_len]
      have := zs_lt l.length
      omega
    by_cases c1 : ((64 * i : Nat) : Int) < (((l ++ padS l.length).length : Nat) : Int)
    · have hlt : i < qs l := by have : (l ++ padS l.length).length = 64 * qs l := hlw; omega
      have htop := hI.top
      have gk := hI.k
      have gs := hI.s
      obtain ⟨w, s1, b1, _, _⟩ := hI.w.bs.slice_mid Tryz.underlying22 tz5 (lo := 64 * i) (hi := 64 * i + 64) (by omega) (by omega)
      rw [hwv] at s1
      have e64 : ((64 * i + 64 : Nat) : Int) = ((64 * i : Nat) : Int) + 64 := by omega
      rw [e64] at s1
      simp (maxSteps := 1000000) -dsimp (disch := (repeat first | rw [nxn] | rw [nxp]); try omega) only [go_sem, evLen, g5, g6, c1]
      refine syDraw.go0 (by kernel_rfl) ?_
      simp (maxSteps := 1000000) -dsimp (disch := (repeat first | rw [nxn] | rw [nxp]); try omega) only [go_sem, evLen, g3, g4, g5, g6, gk, gs, s1, wrow_all, wrow_drop, wrow_take, Nat.mul_one]
      refine callK_of (blkR hd.nos Kc (stt l i) (b1.fr ((Fr.refl g).more _ (by omega))) (part_lt hl i) (part_len hlt)) ?_
      rintro r g7 ⟨rfl, hf7⟩
      have hn7 : g.nx + 9 ≤ g7.nx := hf7.nx
      have hg7 : ∀ j, j < g.nx + 9 → g7.get j = g.get j := hf7.get
      simp (maxSteps := 1000000) -dsimp (disch := (repeat first | rw [nxn] | rw [nxp]); try omega) only [go_sem, evLen, g4, g6, hg7, gs, wrow_all, wrow_drop, wrow_take, Nat.mul_one]
      refine ⟨qs l - (i + 1), by omega, trivial, g2, g3, trivial, ?_, i + 1, ?_, ?_, by omega, rfl⟩
      · rw [hwv]; exact g5
      · rw [show (((64 * i : Nat) : Int) + 64) = ((64 * (i + 1) : Nat) : Int) from by omega]
      · have fr7 : Fr g g7 := ⟨by omega, fun j hj => hg7 j (by omega)⟩
        refine ⟨(hI.fr.trans fr7).put _ (by omega), ?_, ?_, ?_, bo_put (hI.w.fr fr7) (.inl (by omega)) _, by rw [AH.nx_put]; omega⟩
        · rw [AH.get_put_ne (by omega), hg7 _ (by omega)]; exact hI.z
        · rw [AH.get_put_ne (by omega), hg7 _ (by omega)]; exact hI.k
        · rw [AH.get_put_eq rfl]; rfl
    · obtain rfl : i = qs l := by have : (l ++ padS l.length).length = 64 * qs l := hlw; omega
      simp (maxSteps := 1000000) -dsimp (disch := (repeat first | rw [nxn] | rw [nxp]); try omega) only [go_sem, evLen, g5, g6, c1]
      exact ⟨trivial, trivial, g2, g4, hI⟩
  · simp (maxSteps := 1000000) -dsimp (disch := (repeat first | rw [nxn] | rw [nxp]); try omega) only [go_sem, evLen]
    refine ⟨trivial, trivial, trivial, trivial, trivial, 0, rfl, ⟨frG.trans hf3, ?_, ?_, ?_, hbw, by omega⟩, Nat.zero_le _, rfl⟩
    · rw [hg3 _ (by omega), AH.get_put_ne (by omega), AH.get_put_ne (by omega), AH.get_new_ne (by simp only [AH.nx_new]; omega), AH.get_new_ne (by simp only [AH.nx_new]; omega), AH.get_new_eq rfl]
    · rw [hg3 _ (by omega), AH.get_put_ne (by omega), AH.get_put_eq rfl]
    · rw [hg3 _ (by omega), AH.get_put_eq rfl]; rfl
  · rintro ex ⟨t, g, d⟩ ⟨rfl, rfl, g2, g4, hI⟩
    dsimp only at g2 g4 hI
    have htop := hI.top
    have gz' := hI.z
    have gs' := hI.s
    have frg := hI.fr
    have hgn0 := frg.nx
    obtain ⟨sv, hsv⟩ : ∃ s, s = stt l (qs l) := ⟨_, rfl⟩
    rw [← hsv] at gs'
    simp (maxSteps := 1000000) -dsimp (disch := (repeat first | rw [nxn] | rw [nxp]); try omega) only [go_sem, evLen, zcR sv, R32_ne]
    refine loopK_of (RnL.rounds (Q := fun ex s => ex = .exit 2 ∧ Fr h s.h ∧ s.d = [] ∧ s.t.get 2 = some (.ptr h.nx 0) ∧ s.t.get 4 = some (.ptr (h.nx + 1 + 1) 0) ∧ s.h.get h.nx = some (.cells z32 true false) ∧ s.t.get 7 = some (.ptr g.nx 0) ∧ s.h.get g.nx = some (.cells (R32 sv 32) true false))
      (fun m s => Fr h s.h ∧ s.d = [] ∧ s.t.get 2 = some (.ptr h.nx 0) ∧ s.t.get 4 = some (.ptr (h.nx + 1 + 1) 0) ∧ s.h.get h.nx = some (.cells z32 true false) ∧ s.h.get (h.nx + 1 + 1) = some (.cells (c8 sv) true false) ∧ g.nx < s.h.nx ∧ s.t.get 7 = some (.ptr g.nx 0) ∧ ∃ i : Nat, s.t.get 8 = some (.int .i64 (i : Nat)) ∧ s.h.get g.nx = some (.cells (R32 sv i) true false) ∧ i ≤ 32 ∧ m = 32 - i) ?_ 32 ?_) ?_
    · rintro m ⟨t, h5, d⟩ ⟨f1, e2, g2, g4, g0, gS, gn, g7, i, g8, gA, hi, rfl⟩
      dsimp only at f1 e2 g2 g4 g0 gS gn g7 g8 gA
      subst e2
      have hc : i = 0 ∨ i = 1 ∨ i = 2 ∨ i = 3 ∨ i = 4 ∨ i = 5 ∨ i = 6 ∨ i = 7 ∨ i = 8 ∨ i = 9 ∨ i = 10 ∨ i = 11 ∨ i = 12 ∨ i = 13 ∨ i = 14 ∨ i = 15 ∨ i = 16 ∨ i = 17 ∨ i = 18 ∨ i = 19 ∨ i = 20 ∨ i = 21 ∨ i = 22 ∨ i = 23 ∨ i = 24 ∨ i = 25 ∨ i = 26 ∨ i = 27 ∨ i = 28 ∨ i = 29 ∨ i = 30 ∨ i = 31 ∨ i = 32 := by omega
      rcases hc with rfl | rfl | rfl | rfl | rfl | rfl | rfl | rfl | rfl | rfl | rfl | rfl | rfl | rfl | rfl | rfl | rfl | rfl | rfl | rfl | rfl | rfl | rfl | rfl | rfl | rfl | rfl | rfl | rfl | rfl | rfl | rfl | rfl
      · simp (maxSteps := 1000000) -dsimp (disch := (repeat first | rw [nxn] | rw [nxp]); try omega) only [go_sem, evLen, g2, g4, g0, gS, g7, g8, gA, wrow_all, wrow_drop, wrow_take, Nat.mul_one, Int.reduceTDiv, Int.reduceTMod, cv380, u64_id, cv735, BitVec.ushiftRight_zero, R32_len, rput0]
        exact ⟨32 - 1, by omega, f1.put _ (by omega), trivial, trivial, trivial, trivial, trivial, by omega, trivial, 1, rfl, rfl, by omega, rfl⟩
      · simp (maxSteps := 1000000) -dsimp (disch := (repeat first | rw [nxn] | rw [nxp]); try omega) only [go_sem, evLen, g2, g4, g0, gS, g7, g8, gA, wrow_all, wrow_drop, wrow_take, Nat.mul_one, Int.reduceTDiv, Int.reduceTMod, cv380, u64_id, cv735, BitVec.ushiftRight_zero, R32_len, rput1]
        exact ⟨32 - 2, by omega, f1.put _ (by omega), trivial, trivial, trivial, trivial, trivial, by omega, trivial, 2, rfl, rfl, by omega, rfl⟩
      · simp (maxSteps := 1000000) -dsimp (disch := (repeat first | rw [nxn] | rw [nxp]); try omega) only [go_sem, evLen, g2, g4, g0, gS, g7, g8, gA, wrow_all, wrow_drop, wrow_take, Nat.mul_one, Int.reduceTDiv, Int.reduceTMod, cv380, u64_id, cv735, BitVec.ushiftRight_zero, R32_len, rput2]
        exact ⟨32 - 3, by omega, f1.put _ (by omega), trivial, trivial, trivial, trivial, trivial, by omega, trivial, 3, rfl, rfl, by omega, rfl⟩
      · simp (maxSteps := 1000000) -dsimp (disch := (repeat first | rw [nxn] | rw [nxp]); try omega) only [go_sem, evLen, g2, g4, g0, gS, g7, g8, gA, wrow_all, wrow_drop, wrow_take, Nat.mul_one, Int.reduceTDiv, Int.reduceTMod, cv380, u64_id, cv735, BitVec.ushiftRight_zero, R32_len, rput3]
        exact ⟨32 - 4, by omega, f1.put _ (by omega), trivial, trivial, trivial, trivial, trivial, by omega, trivial, 4, rfl, rfl, by omega, rfl⟩
      · simp (maxSteps := 1000000) -dsimp (disch := (repeat first | rw [nxn] | rw [nxp]); try omega) only [go_sem, evLen, g2, g4, g0, gS, g7, g8, gA, wrow_all, wrow_drop, wrow_take, Nat.mul_one, Int.reduceTDiv, Int.reduceTMod, cv380, u64_id, cv735, BitVec.ushiftRight_zero, R32_len, rput4]
        exact ⟨32 - 5, by omega, f1.put _ (by omega), trivial, trivial, trivial, trivial, trivial, by omega, trivial, 5, rfl, rfl, by omega, rfl⟩
      · simp (maxSteps := 1000000) -dsimp (disch := (repeat first | rw [nxn] | rw [nxp]); try omega) only [go_sem, evLen, g2, g4, g0, gS, g7, g8, gA, wrow_all, wrow_drop, wrow_take, Nat.mul_one, Int.reduceTDiv, Int.reduceTMod, cv380, u64_id, cv735, BitVec.ushiftRight_zero, R32_len, rput5]
        exact ⟨32 - 6, by omega, f1.put _ (by omega), trivial, trivial, trivial, trivial, trivial, by omega, trivial, 6, rfl, rfl, by omega, rfl⟩
      · simp (maxSteps := 1000000) -dsimp (disch := (repeat first | rw [nxn] | rw [nxp]); try omega) only [go_sem, evLen, g2, g4, g0, gS, g7, g8, gA, wrow_all, wrow_drop, wrow_take, Nat.mul_one, Int.reduceTDiv, Int.reduceTMod, cv380, u64_id, cv735, BitVec.ushiftRight_zero, R32_len, rput6]
        exact ⟨32 - 7, by omega, f1.put _ (by omega), trivial, trivial, trivial, trivial, trivial, by omega, trivial, 7, rfl, rfl, by omega, rfl⟩
      · simp (maxSteps := 1000000) -dsimp (disch := (repeat first | rw [nxn] | rw [nxp]); try omega) only [go_sem, evLen, g2, g4, g0, gS, g7, g8, gA, wrow_all, wrow_drop, wrow_take, Nat.mul_one, Int.reduceTDiv, Int.reduceTMod, cv380, u64_id, cv735, BitVec.ushiftRight_zero, R32_len, rput7]
        exact ⟨32 - 8, by omega, f1.put _ (by omega), trivial, trivial, trivial, trivial, trivial, by omega, trivial, 8, rfl, rfl, by omega, rfl⟩
      · simp (maxSteps := 1000000) -dsimp (disch := (repeat first | rw [nxn] | rw [nxp]); try omega) only [go_sem, evLen, g2, g4, g0, gS, g7, g8, gA, wrow_all, wrow_drop, wrow_take, Nat.mul_one, Int.reduceTDiv, Int.reduceTMod, cv380, u64_id, cv735, BitVec.ushiftRight_zero, R32_len, rput8]
        exact ⟨32 - 9, by omega, f1.put _ (by omega), trivial, trivial, trivial, trivial, trivial, by omega, trivial, 9, rfl, rfl, by omega, rfl⟩
      · simp (maxSteps := 1000000) -dsimp (disch := (repeat first | rw [nxn] | rw [nxp]); try omega) only [go_sem, evLen, g2, g4, g0, gS, g7, g8, gA, wrow_all, wrow_drop, wrow_take, Nat.mul_one, Int.reduceTDiv, Int.reduceTMod, cv380, u64_id, cv735, BitVec.ushiftRight_zero, R32_len, rput9]
        exact ⟨32 - 10, by omega, f1.put _ (by omega), trivial, trivial, trivial, trivial, trivial, by omega, trivial, 10, rfl, rfl, by omega, rfl⟩
      · simp (maxSteps := 1000000) -dsimp (disch := (repeat first | rw [nxn] | rw [nxp]); try omega) only [go_sem, evLen, g2, g4, g0, gS, g7, g8, gA, wrow_all, wrow_drop, wrow_take, Nat.mul_one, Int.reduceTDiv, Int.reduceTMod, cv380, u64_id, cv735, BitVec.ushiftRight_zero, R32_len, rput10]
        exact ⟨32 - 11, by omega, f1.put _ (by omega), trivial, trivial, trivial, trivial, trivial, by omega, trivial, 11, rfl, rfl, by omega, rfl⟩
      · simp (maxSteps := 1000000) -dsimp (disch := (repeat first | rw [nxn] | rw [nxp]); try omega) only [go_sem, evLen, g2, g4, g0, gS, g7, g8, gA, wrow_all, wrow_drop, wrow_take, Nat.mul_one, Int.reduceTDiv, Int.reduceTMod, cv380, u64_id, cv735, BitVec.ushiftRight_zero, R32_len, rput11]
        exact ⟨32 - 12, by omega, f1.put _ (by omega), trivial, trivial, trivial, trivial, trivial, by omega, trivial, 12, rfl, rfl, by omega, rfl⟩
      · simp (maxSteps := 1000000) -dsimp (disch := (repeat first | rw [nxn] | rw [nxp]); try omega) only [go_sem, evLen, g2, g4, g0, gS, g7, g8, gA, wrow_all, wrow_drop, wrow_take, Nat.mul_one, Int.reduceTDiv, Int.reduceTMod, cv380, u64_id, cv735, BitVec.ushiftRight_zero, R32_len, rput12]
        exact ⟨32 - 13, by omega, f1.put _ (by omega), trivial, trivial, trivial, trivial, trivial, by omega, trivial, 13, rfl, rfl, by omega, rfl⟩
      · simp (maxSteps := 1000000) -dsimp (disch := (repeat first | rw [nxn] | rw [nxp]); try omega) only [go_sem, evLen, g2, g4, g0, gS, g7, g8, gA, wrow_all, wrow_drop, wrow_take, Nat.mul_one, Int.reduceTDiv, Int.reduceTMod, cv380, u64_id, cv735, BitVec.ushiftRight_zero, R32_len, rput13]
        exact ⟨32 - 14, by omega, f1.put _ (by omega), trivial, trivial, trivial, trivial, trivial, by omega, trivial, 14, rfl, rfl, by omega, rfl⟩
      · simp (maxSteps := 1000000) -dsimp (disch := (repeat first | rw [nxn] | rw [nxp]); try omega) only [go_sem, evLen, g2, g4, g0, gS, g7, g8, gA, wrow_all, wrow_drop, wrow_take, Nat.mul_one, Int.reduceTDiv, Int.reduceTMod, cv380, u64_id, cv735, BitVec.ushiftRight_zero, R32_len, rput14]
        exact ⟨32 - 15, by omega, f1.put _ (by omega), trivial, trivial, trivial, trivial, trivial, by omega, trivial, 15, rfl, rfl, by omega, rfl⟩
      · simp (maxSteps := 1000000) -dsimp (disch := (repeat first | rw [nxn] | rw [nxp]); try omega) only [go_sem, evLen, g2, g4, g0, gS, g7, g8, gA, wrow_all, wrow_drop, wrow_take, Nat.mul_one, Int.reduceTDiv, Int.reduceTMod, cv380, u64_id, cv735, BitVec.ushiftRight_zero, R32_len, rput15]
        exact ⟨32 - 16, by omega, f1.put _ (by omega), trivial, trivial, trivial, trivial, trivial, by omega, trivial, 16, rfl, rfl, by omega, rfl⟩
      · simp (maxSteps := 1000000) -dsimp (disch := (repeat first | rw [nxn] | rw [nxp]); try omega) only [go_sem, evLen, g2, g4, g0, gS, g7, g8, gA, wrow_all, wrow_drop, wrow_take, Nat.mul_one, Int.reduceTDiv, Int.reduceTMod, cv380, u64_id, cv735, BitVec.ushiftRight_zero, R32_len, rput16]
        exact ⟨32 - 17, by omega, f1.put _ (by omega), trivial, trivial, trivial, trivial, trivial, by omega, trivial, 17, rfl, rfl, by omega, rfl⟩
      · simp (maxSteps := 1000000) -dsimp (disch := (repeat first | rw [nxn] | rw [nxp]); try omega) only [go_sem, evLen, g2, g4, g0, gS, g7, g8, gA, wrow_all, wrow_drop, wrow_take, Nat.mul_one, Int.reduceTDiv, Int.reduceTMod, cv380, u64_id, cv735, BitVec.ushiftRight_zero, R32_len, rput17]
        exact ⟨32 - 18, by omega, f1.put _ (by omega), trivial, trivial, trivial, trivial, trivial, by omega, trivial, 18, rfl, rfl, by omega, rfl⟩
      · simp (maxSteps := 1000000) -dsimp (disch := (repeat first | rw [nxn] | rw [nxp]); try omega) only [go_sem, evLen, g2, g4, g0, gS, g7, g8, gA, wrow_all, wrow_drop, wrow_take, Nat.mul_one, Int.reduceTDiv, Int.reduceTMod, cv380, u64_id, cv735, BitVec.ushiftRight_zero, R32_len, rput18]
        exact ⟨32 - 19, by omega, f1.put _ (by omega), trivial, trivial, trivial, trivial, trivial, by omega, trivial, 19, rfl, rfl, by omega, rfl⟩
      · simp (maxSteps := 1000000) -dsimp (disch := (repeat first | rw [nxn] | rw [nxp]); try omega) only [go_sem, evLen, g2, g4, g0, gS, g7, g8, gA, wrow_all, wrow_drop, wrow_take, Nat.mul_one, Int.reduceTDiv, Int.reduceTMod, cv380, u64_id, cv735, BitVec.ushiftRight_zero, R32_len, rput19]
        exact ⟨32 - 20, by omega, f1.put _ (by omega), trivial, trivial, trivial, trivial, trivial, by omega, trivial, 20, rfl, rfl, by omega, rfl⟩
      · simp (maxSteps := 1000000) -dsimp (disch := (repeat first | rw [nxn] | rw [nxp]); try omega) only [go_sem, evLen, g2, g4, g0, gS, g7, g8, gA, wrow_all, wrow_drop, wrow_take, Nat.mul_one, Int.reduceTDiv, Int.reduceTMod, cv380, u64_id, cv735, BitVec.ushiftRight_zero, R32_len, rput20]
        exact ⟨32 - 21, by omega, f1.put _ (by omega), trivial, trivial, trivial, trivial, trivial, by omega, trivial, 21, rfl, rfl, by omega, rfl⟩
      · simp (maxSteps := 1000000) -dsimp (disch := (repeat first | rw [nxn] | rw [nxp]); try omega) only [go_sem, evLen, g2, g4, g0, gS, g7, g8, gA, wrow_all, wrow_drop, wrow_take, Nat.mul_one, Int.reduceTDiv, Int.reduceTMod, cv380, u64_id, cv735, BitVec.ushiftRight_zero, R32_len, rput21]
        exact ⟨32 - 22, by omega, f1.put _ (by omega), trivial, trivial, trivial, trivial, trivial, by omega, trivial, 22, rfl, rfl, by omega, rfl⟩
      · simp (maxSteps := 1000000) -dsimp (disch := (repeat first | rw [nxn] | rw [nxp]); try omega) only [go_sem, evLen, g2, g4, g0, gS, g7, g8, gA, wrow_all, wrow_drop, wrow_take, Nat.mul_one, Int.reduceTDiv, Int.reduceTMod, cv380, u64_id, cv735, BitVec.ushiftRight_zero, R32_len, rput22]
        exact ⟨32 - 23, by omega, f1.put _ (by omega), trivial, trivial, trivial, trivial, trivial, by omega, trivial, 23, rfl, rfl, by omega, rfl⟩
      · simp (maxSteps := 1000000) -dsimp (disch := (repeat first | rw [nxn] | rw [nxp]); try omega) only [go_sem, evLen, g2, g4, g0, gS, g7, g8, gA, wrow_all, wrow_drop, wrow_take, Nat.mul_one, Int.reduceTDiv, Int.reduceTMod, cv380, u64_id, cv735, BitVec.ushiftRight_zero, R32_len, rput23]
        exact ⟨32 - 24, by omega, f1.put _ (by omega), trivial, trivial, trivial, trivial, trivial, by omega, trivial, 24, rfl, rfl, by omega, rfl⟩
      · simp (maxSteps := 1000000) -dsimp (disch := (repeat first | rw [nxn] | rw [nxp]); try omega) only [go_sem, evLen, g2, g4, g0, gS, g7, g8, gA, wrow_all, wrow_drop, wrow_take, Nat.mul_one, Int.reduceTDiv, Int.reduceTMod, cv380, u64_id, cv735, BitVec.ushiftRight_zero, R32_len, rput24]
        exact ⟨32 - 25, by omega, f1.put _ (by omega), trivial, trivial, trivial, trivial, trivial, by omega, trivial, 25, rfl, rfl, by omega, rfl⟩
      · simp (maxSteps := 1000000) -dsimp (disch := (repeat first | rw [nxn] | rw [nxp]); try omega) only [go_sem, evLen, g2, g4, g0, gS, g7, g8, gA, wrow_all, wrow_drop, wrow_take, Nat.mul_one, Int.reduceTDiv, Int.reduceTMod, cv380, u64_id, cv735, BitVec.ushiftRight_zero, R32_len, rput25]
        exact ⟨32 - 26, by omega, f1.put _ (by omega), trivial, trivial, trivial, trivial, trivial, by omega, trivial, 26, rfl, rfl, by omega, rfl⟩
      · simp (maxSteps := 1000000) -dsimp (disch := (repeat first | rw [nxn] | rw [nxp]); try omega) only [go_sem, evLen, g2, g4, g0, gS, g7, g8, gA, wrow_all, wrow_drop, wrow_take, Nat.mul_one, Int.reduceTDiv, Int.reduceTMod, cv380, u64_id, cv735, BitVec.ushiftRight_zero, R32_len, rput26]
        exact ⟨32 - 27, by omega, f1.put _ (by omega), trivial, trivial, trivial, trivial, trivial, by omega, trivial, 27, rfl, rfl, by omega, rfl⟩
      · simp (maxSteps := 1000000) -dsimp (disch := (repeat first | rw [nxn] | rw [nxp]); try omega) only [go_sem, evLen, g2, g4, g0, gS, g7, g8, gA, wrow_all, wrow_drop, wrow_take, Nat.mul_one, Int.reduceTDiv, Int.reduceTMod, cv380, u64_id, cv735, BitVec.ushiftRight_zero, R32_len, rput27]
        exact ⟨32 - 28, by omega, f1.put _ (by omega), trivial, trivial, trivial, trivial, trivial, by omega, trivial, 28, rfl, rfl, by omega, rfl⟩
      · simp (maxSteps := 1000000) -dsimp (disch := (repeat first | rw [nxn] | rw [nxp]); try omega) only [go_sem, evLen, g2, g4, g0, gS, g7, g8, gA, wrow_all, wrow_drop, wrow_take, Nat.mul_one, Int.reduceTDiv, Int.reduceTMod, cv380, u64_id, cv735, BitVec.ushiftRight_zero, R32_len, rput28]
        exact ⟨32 - 29, by omega, f1.put _ (by omega), trivial, trivial, trivial, trivial, trivial, by omega, trivial, 29, rfl, rfl, by omega, rfl⟩
      · simp (maxSteps := 1000000) -dsimp (disch := (repeat first | rw [nxn] | rw [nxp]); try omega) only [go_sem, evLen, g2, g4, g0, gS, g7, g8, gA, wrow_all, wrow_drop, wrow_take, Nat.mul_one, Int.reduceTDiv, Int.reduceTMod, cv380, u64_id, cv735, BitVec.ushiftRight_zero, R32_len, rput29]
        exact ⟨32 - 30, by omega, f1.put _ (by omega), trivial, trivial, trivial, trivial, trivial, by omega, trivial, 30, rfl, rfl, by omega, rfl⟩
      · simp (maxSteps := 1000000) -dsimp (disch := (repeat first | rw [nxn] | rw [nxp]); try omega) only [go_sem, evLen, g2, g4, g0, gS, g7, g8, gA, wrow_all, wrow_drop, wrow_take, Nat.mul_one, Int.reduceTDiv, Int.reduceTMod, cv380, u64_id, cv735, BitVec.ushiftRight_zero, R32_len, rput30]
        exact ⟨32 - 31, by omega, f1.put _ (by omega), trivial, trivial, trivial, trivial, trivial, by omega, trivial, 31, rfl, rfl, by omega, rfl⟩
      · simp (maxSteps := 1000000) -dsimp (disch := (repeat first | rw [nxn] | rw [nxp]); try omega) only [go_sem, evLen, g2, g4, g0, gS, g7, g8, gA, wrow_all, wrow_drop, wrow_take, Nat.mul_one, Int.reduceTDiv, Int.reduceTMod, cv380, u64_id, cv735, BitVec.ushiftRight_zero, R32_len, rput31]
        exact ⟨32 - 32, by omega, f1.put _ (by omega), trivial, trivial, trivial, trivial, trivial, by omega, trivial, 32, rfl, rfl, by omega, rfl⟩
      · simp (maxSteps := 1000000) -dsimp (disch := (repeat first | rw [nxn] | rw [nxp]); try omega) only [go_sem, evLen, g8]
        exact ⟨trivial, f1, trivial, g2, g4, g0, g7, gA⟩
    · simp (maxSteps := 1000000) -dsimp (disch := (repeat first | rw [nxn] | rw [nxp]); try omega) only [go_sem, evLen, gz', gs', g2, g4]
      exact ⟨frg.news _, trivial, trivial, trivial, trivial, trivial, by omega, trivial, 0, rfl, rfl, by omega, rfl⟩
    · rintro ex ⟨t, h5, d⟩ ⟨rfl, f1, rfl, g2, g4, g0, g7, gA⟩
      dsimp only at f1 g2 g4 g0 g7 gA
      simp (maxSteps := 1000000) -dsimp (disch := (repeat first | rw [nxn] | rw [nxp]); try omega) only [go_sem, evLen, wrow_all, wrow_drop, wrow_take, Nat.mul_one, g2, g7, g0, gA, R32_len, R32_take, dcs_len, dcs_all, dcs_take, z32_len, z32_drop]
      refine ⟨?_, f1.put _ (by omega)⟩
      rw [ofS, ← hsv, out8_cells]
      rfl
end
end Go.Proofs.YtfhcnoancepgcaaGreatDoor.dig
