/- The program's tree: all paths. Conditions: those of its summaries. -/
import Derived.Test.YtdpipffikgmgdaaGreatDoorWLf
namespace Go.Proofs.YtdpipffikgmgdaaGreatDoor.tre
open Go Go.Abs Go.Proofs
set_option maxRecDepth 100000
set_option linter.unusedVariables false
set_option linter.unusedSimpArgs false

theorem ssLn {n0 : Nat} {h : AH} {v : AV} {l : List Pth} (hb : Ss n0 h v l) : (∀ g, evLen Tryz.prog g #[22] v = some (.int .i64 (l.length : Nat))) ∧ sameAV 20 v v = true ∧ oneA v = true := by
  rcases hb with ⟨rfl, rfl⟩ | ⟨id, rfl, _⟩
  · exact ⟨fun g => by simp [evLen, Tryz.underlying22], rfl, rfl⟩
  · exact ⟨fun g => by simp [evLen, Tryz.underlying22], by simp [sameAV], rfl⟩
theorem neSt2 (h : AH) (a : List Nat) : binA Tryz.prog h .neq 9 (.str a) (.str a) = some (.bool false) := by
  have : eqL a a = true := by rw [eqL_eq]; simp
  simp [binA, strA, this]
section
variable {S : Sums}
structure Pw (S : Sums) : Prop extends Wl S where
  np : ∀ f args h, f ∈ [17, 39, 40, 41, 69] → S f args h = none
theorem hasC (hS : Pw S) {h : AH} {s : Pth} : RnC Tryz.prog S 41 [.str s, .str []] h fun r h' => r = .bool true ∧ h' = h := by
  refine RnC.enter' Tryz.f41 _ 8 [.tmp 4] (hS.np _ _ _ (by simp)) bd41 Tryz.func41 rfl rfl rfl ?_
  simp (maxSteps := 1000000) -dsimp (disch := (repeat first | rw [AH.nx_new] | rw [AH.nx_put]); first | done | omega) only [go_sem, evLen, Int.reduceEq, Int.reduceNe, Int.reduceLT, Int.reduceLE, Int.reduceAdd, Int.reduceSub, Int.reduceMul, Int.reduceNeg, Int.reduceToNat, Nat.reducePow, reduceCtorEq, Nat.reduceEqDiff, Nat.reduceAdd, Nat.reduceLT, Nat.reduceLeDiff, Nat.reduceMul, Nat.reduceSub, Nat.reduceBEq]
  refine callK_of (preC hS.toSp) ?_
  rintro r h2 ⟨rfl, rfl⟩
  simp (maxSteps := 1000000) -dsimp (disch := (repeat first | rw [AH.nx_new] | rw [AH.nx_put]); first | done | omega) only [go_sem, evLen, Int.reduceEq, Int.reduceNe, Int.reduceLT, Int.reduceLE, Int.reduceAdd, Int.reduceSub, Int.reduceMul, Int.reduceNeg, Int.reduceToNat, Nat.reducePow, reduceCtorEq, Nat.reduceEqDiff, Nat.reduceAdd, Nat.reduceLT, Nat.reduceLeDiff, Nat.reduceMul, Nat.reduceSub, Nat.reduceBEq]
  exact ⟨by simp [preS], trivial⟩
theorem keepC1 (hS : Pw S) {h : AH} {s : Pth} {c : Nat} (hc : h.get c = some (.cells [.str []] true false)) : RnC Tryz.prog S 40 [.str s, .ptr c 0] h fun r h' => r = .bool false ∧ h' = h := by
  refine RnC.enter' Tryz.f40 _ 8 [.tmp 3] (hS.np _ _ _ (by simp)) bd40 Tryz.func40 rfl rfl rfl ?_
  simp (maxSteps := 1000000) -dsimp (disch := (repeat first | rw [AH.nx_new] | rw [AH.nx_put]); first | done | omega) only [go_sem, evLen, Int.reduceEq, Int.reduceNe, Int.reduceLT, Int.reduceLE, Int.reduceAdd, Int.reduceSub, Int.reduceMul, Int.reduceNeg, Int.reduceToNat, Nat.reducePow, reduceCtorEq, Nat.reduceEqDiff, Nat.reduceAdd, Nat.reduceLT, Nat.reduceLeDiff, Nat.reduceMul, Nat.reduceSub, Nat.reduceBEq, hc]
  refine callK_of (hasC hS) ?_
  rintro r h2 ⟨rfl, rfl⟩
  simp (maxSteps := 1000000) -dsimp (disch := (repeat first | rw [AH.nx_new] | rw [AH.nx_put]); first | done | omega) only [go_sem, evLen, Int.reduceEq, Int.reduceNe, Int.reduceLT, Int.reduceLE, Int.reduceAdd, Int.reduceSub, Int.reduceMul, Int.reduceNeg, Int.reduceToNat, Nat.reducePow, reduceCtorEq, Nat.reduceEqDiff, Nat.reduceAdd, Nat.reduceLT, Nat.reduceLeDiff, Nat.reduceMul, Nat.reduceSub, Nat.reduceBEq]
  exact ⟨trivial, trivial⟩
set_option maxHeartbeats 8000000 in
theorem idxFC (hS : Pw S) {n0 : Nat} {h : AH} {v : AV} {l : List Pth} {c : Nat} (hv : Ss n0 h v l) (hl : l.length ≤ 16384) (hc : h.get c = some (.cells [.str []] true false)) : RnC Tryz.prog S 69 [v, .func (.func 40) [] [.ptr c 0]] h fun r h' => r = .int .i64 (-1) ∧ h' = h := by
  refine RnC.enter' Tryz.f69 _ 19 [.tmp 4] (hS.np _ _ _ (by simp)) bd69 Tryz.func69 rfl rfl rfl ?_
  obtain ⟨ln, sl, ol⟩ := ssLn hv
  simp (maxSteps := 1000000) -dsimp (disch := (repeat first | rw [AH.nx_new] | rw [AH.nx_put]); first | done | omega) only [go_sem, Int.reduceEq, Int.reduceNe, Int.reduceLT, Int.reduceLE, Int.reduceAdd, Int.reduceSub, Int.reduceMul, Int.reduceNeg, Int.reduceToNat, Nat.reducePow, reduceCtorEq, Nat.reduceEqDiff, Nat.reduceAdd, Nat.reduceLT, Nat.reduceLeDiff, Nat.reduceMul, Nat.reduceSub, Nat.reduceBEq, ln, ol]
  refine loopK_of (RnL.rounds (Q := fun ex u => ex = .exit 0 ∧ u.d = [] ∧ u.h = h)
    (fun m u => u.d = [] ∧ u.h = h ∧ u.t.get 0 = some v ∧ u.t.get 1 = some (.func (.func 40) [] [.ptr c 0]) ∧ u.t.get 7 = some (.int .i64 (l.length : Nat)) ∧ ∃ i : Nat, u.t.get 8 = some (.int .i64 (i : Nat)) ∧ i ≤ l.length ∧ m = l.length - i) ?_ l.length ?_) ?_
  · rintro m ⟨t, g, d⟩ ⟨e2, e1, g0, g1, g7, i, g8, hi, rfl⟩
    dsimp only at e1 e2 g0 g1 g7 g8
    subst e1 e2
    by_cases c4 : (i : Int) < (l.length : Nat)
    · have hil : i < l.length := by omega
      obtain ⟨a, ha⟩ : ∃ a, l[i]? = some a := ⟨_, List.getElem?_eq_getElem hil⟩
      rcases hv with ⟨_, rfl⟩ | ⟨id, rfl, hg, hid, _⟩
      · simp at hil
      have hcs : (l.map AV.str)[i]? = some (.str a) := by simp [ha]
      simp (maxSteps := 1000000) -dsimp (disch := (repeat first | rw [AH.nx_new] | rw [AH.nx_put]); first | done | omega) only [go_sem, Int.reduceEq, Int.reduceNe, Int.reduceLT, Int.reduceLE, Int.reduceAdd, Int.reduceSub, Int.reduceMul, Int.reduceNeg, Int.reduceToNat, Nat.reducePow, reduceCtorEq, Nat.reduceEqDiff, Nat.reduceAdd, Nat.reduceLT, Nat.reduceLeDiff, Nat.reduceMul, Nat.reduceSub, Nat.reduceBEq, c4, hil, hg, hcs, bd40, Nat.mul_one, g0, g1, g7, g8]
      refine callK_of (keepC1 hS hc) ?_
      rintro r h2 ⟨rfl, rfl⟩
      simp (maxSteps := 1000000) -dsimp (disch := (repeat first | rw [AH.nx_new] | rw [AH.nx_put]); first | done | omega) only [go_sem, Int.reduceEq, Int.reduceNe, Int.reduceLT, Int.reduceLE, Int.reduceAdd, Int.reduceSub, Int.reduceMul, Int.reduceNeg, Int.reduceToNat, Nat.reducePow, reduceCtorEq, Nat.reduceEqDiff, Nat.reduceAdd, Nat.reduceLT, Nat.reduceLeDiff, Nat.reduceMul, Nat.reduceSub, Nat.reduceBEq, c4, hil, hg, hcs, bd40, Nat.mul_one, g0, g1, g7, g8]
      exact ⟨l.length - (i + 1), by omega, trivial, trivial, trivial, trivial, trivial, i + 1, rfl, by omega, rfl⟩
    · simp (maxSteps := 1000000) -dsimp (disch := (repeat first | rw [AH.nx_new] | rw [AH.nx_put]); first | done | omega) only [go_sem, Int.reduceEq, Int.reduceNe, Int.reduceLT, Int.reduceLE, Int.reduceAdd, Int.reduceSub, Int.reduceMul, Int.reduceNeg, Int.reduceToNat, Nat.reducePow, reduceCtorEq, Nat.reduceEqDiff, Nat.reduceAdd, Nat.reduceLT, Nat.reduceLeDiff, Nat.reduceMul, Nat.reduceSub, Nat.reduceBEq, c4, g0, g1, g7, g8]
      exact ⟨trivial, trivial, trivial⟩
  · simp (maxSteps := 1000000) -dsimp (disch := (repeat first | rw [AH.nx_new] | rw [AH.nx_put]); first | done | omega) only [go_sem, Int.reduceEq, Int.reduceNe, Int.reduceLT, Int.reduceLE, Int.reduceAdd, Int.reduceSub, Int.reduceMul, Int.reduceNeg, Int.reduceToNat, Nat.reducePow, reduceCtorEq, Nat.reduceEqDiff, Nat.reduceAdd, Nat.reduceLT, Nat.reduceLeDiff, Nat.reduceMul, Nat.reduceSub, Nat.reduceBEq]
    exact ⟨trivial, trivial, trivial, trivial, trivial, 0, rfl, Nat.zero_le _, rfl⟩
  · rintro ex ⟨t, g, d⟩ ⟨rfl, rfl, e1⟩
    dsimp only at e1
    subst e1
    simp (maxSteps := 1000000) -dsimp (disch := (repeat first | rw [AH.nx_new] | rw [AH.nx_put]); first | done | omega) only [go_sem, Int.reduceEq, Int.reduceNe, Int.reduceLT, Int.reduceLE, Int.reduceAdd, Int.reduceSub, Int.reduceMul, Int.reduceNeg, Int.reduceToNat, Nat.reducePow, reduceCtorEq, Nat.reduceEqDiff, Nat.reduceAdd, Nat.reduceLT, Nat.reduceLeDiff, Nat.reduceMul, Nat.reduceSub, Nat.reduceBEq]
    exact ⟨trivial, trivial⟩
theorem delC (hS : Pw S) {n0 : Nat} {h : AH} {v : AV} {l : List Pth} {c : Nat} (hv : Ss n0 h v l) (hl : l.length ≤ 16384) (hc : h.get c = some (.cells [.str []] true false)) : RnC Tryz.prog S 39 [v, .func (.func 40) [] [.ptr c 0]] h fun r h' => r = v ∧ h' = h := by
  refine RnC.enter' Tryz.f39 _ 42 [.tmp 4] (hS.np _ _ _ (by simp)) bd39 Tryz.func39 rfl rfl rfl ?_
  obtain ⟨ln, sl, ol⟩ := ssLn hv
  simp (maxSteps := 1000000) -dsimp (disch := (repeat first | rw [AH.nx_new] | rw [AH.nx_put]); first | done | omega) only [go_sem, Int.reduceEq, Int.reduceNe, Int.reduceLT, Int.reduceLE, Int.reduceAdd, Int.reduceSub, Int.reduceMul, Int.reduceNeg, Int.reduceToNat, Nat.reducePow, reduceCtorEq, Nat.reduceEqDiff, Nat.reduceAdd, Nat.reduceLT, Nat.reduceLeDiff, Nat.reduceMul, Nat.reduceSub, Nat.reduceBEq, ln, ol]
  refine callK_of (idxFC hS hv hl hc) ?_
  rintro r h2 ⟨rfl, rfl⟩
  simp (maxSteps := 1000000) -dsimp (disch := (repeat first | rw [AH.nx_new] | rw [AH.nx_put]); first | done | omega) only [go_sem, Int.reduceEq, Int.reduceNe, Int.reduceLT, Int.reduceLE, Int.reduceAdd, Int.reduceSub, Int.reduceMul, Int.reduceNeg, Int.reduceToNat, Nat.reducePow, reduceCtorEq, Nat.reduceEqDiff, Nat.reduceAdd, Nat.reduceLT, Nat.reduceLeDiff, Nat.reduceMul, Nat.reduceSub, Nat.reduceBEq, ol]
  exact ⟨trivial, trivial⟩
theorem pathsC (hS : Pw S) {K p nm sm chv ρ h T} (hT : Tr K p nm sm chv ρ h T) (hm : T.now.length ≤ 16384) : RnC Tryz.prog S 17 [.ptr p 0, .str []] h fun r h' => Ss h.nx h' r (sortS (T.now.map (·.1))) ∧ Fr h h' := by
  refine RnC.enter' Tryz.f17 _ 16 [.tmp 4] (hS.np _ _ _ (by simp)) bd17 Tryz.func17 rfl rfl rfl ?_
  have hT2 := hT.fr (Fr.new h (.cells [.str []] true false))
  have hp2 := hT2.pp
  simp (maxSteps := 1000000) -dsimp (disch := (repeat first | rw [AH.nx_new] | rw [AH.nx_put]); first | done | omega) only [go_sem, Int.reduceEq, Int.reduceNe, Int.reduceLT, Int.reduceLE, Int.reduceAdd, Int.reduceSub, Int.reduceMul, Int.reduceNeg, Int.reduceToNat, Nat.reducePow, reduceCtorEq, Nat.reduceEqDiff, Nat.reduceAdd, Nat.reduceLT, Nat.reduceLeDiff, Nat.reduceMul, Nat.reduceSub, Nat.reduceBEq]
  refine callK_of (hT2.made hS.toSt) ?_
  rintro r h2 ⟨rfl, h2e⟩
  rw [← h2e] at hT2 hp2
  have hc2 : h2.get h.nx = some (.cells [.str []] true false) := by rw [h2e]; exact AH.get_new_eq rfl
  have n2 : h2.nx = h.nx + 1 := by rw [h2e]; rfl
  have f2 : Fr h h2 := by rw [h2e]; exact Fr.new _ _
  try simp (maxSteps := 1000000) -dsimp (disch := (repeat first | rw [AH.nx_new] | rw [AH.nx_put]); first | done | omega) only [go_sem, Int.reduceEq, Int.reduceNe, Int.reduceLT, Int.reduceLE, Int.reduceAdd, Int.reduceSub, Int.reduceMul, Int.reduceNeg, Int.reduceToNat, Nat.reducePow, reduceCtorEq, Nat.reduceEqDiff, Nat.reduceAdd, Nat.reduceLT, Nat.reduceLeDiff, Nat.reduceMul, Nat.reduceSub, Nat.reduceBEq, hp2]
  refine callK_of (keysC hS.toSt) ?_
  rintro r h3 ⟨rfl, h3e⟩
  have f3 : Fr h2 h3 := by rw [h3e]; exact Fr.new _ _
  have hT3 := hT2.fr f3
  refine callK_of (sortedC hS.toSt (b := h2.nx) (by rw [h3e]; exact AH.get_new_eq rfl) hT3.now hT3.wf.now hm) ?_
  rintro r h4 ⟨hss, f4⟩
  obtain ⟨ln, sl, ol⟩ := ssLn hss
  have hc4 : h4.get h.nx = some (.cells [.str []] true false) := ((f3.trans f4).get _ (by omega)).trans hc2
  try simp (maxSteps := 1000000) -dsimp (disch := (repeat first | rw [AH.nx_new] | rw [AH.nx_put]); first | done | omega) only [go_sem, Int.reduceEq, Int.reduceNe, Int.reduceLT, Int.reduceLE, Int.reduceAdd, Int.reduceSub, Int.reduceMul, Int.reduceNeg, Int.reduceToNat, Nat.reducePow, reduceCtorEq, Nat.reduceEqDiff, Nat.reduceAdd, Nat.reduceLT, Nat.reduceLeDiff, Nat.reduceMul, Nat.reduceSub, Nat.reduceBEq, ol]
  refine callK_of (delC hS hss (by rw [sortS_len, List.length_map]; exact hm) hc4) ?_
  rintro r h5 ⟨rfl, rfl⟩
  try simp (maxSteps := 1000000) -dsimp (disch := (repeat first | rw [AH.nx_new] | rw [AH.nx_put]); first | done | omega) only [go_sem, Int.reduceEq, Int.reduceNe, Int.reduceLT, Int.reduceLE, Int.reduceAdd, Int.reduceSub, Int.reduceMul, Int.reduceNeg, Int.reduceToNat, Nat.reducePow, reduceCtorEq, Nat.reduceEqDiff, Nat.reduceAdd, Nat.reduceLT, Nat.reduceLeDiff, Nat.reduceMul, Nat.reduceSub, Nat.reduceBEq, ol]
  exact ⟨hss.low (by have := f3.nx; omega), (f2.trans f3).trans f4⟩
end
end Go.Proofs.YtdpipffikgmgdaaGreatDoor.tre
