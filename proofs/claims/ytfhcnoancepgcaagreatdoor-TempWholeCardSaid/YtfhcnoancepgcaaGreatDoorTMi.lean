/- Pick, Bytes and Cut of the kit and of the document. Conditions: the digest's constants are summaries; none else. -/
import Derived.Test.YtfhcnoancepgcaaGreatDoorTMh
namespace Go.Proofs.YtfhcnoancepgcaaGreatDoor.dig
open Go Go.Abs Go.Proofs
set_option maxRecDepth 100000
set_option linter.unusedVariables false
set_option linter.unusedSimpArgs false

theorem tm60 (a : Int) : -60 < a.tmod 60 ∧ a.tmod 60 < 60 := by
  rcases Int.le_total 0 a with h | h
  · rw [Int.tmod_eq_emod_of_nonneg h]; omega
  · have h2 : a.tmod 60 = -((-a).tmod 60) := by rw [Int.neg_tmod, Int.neg_neg]
    rw [h2, Int.tmod_eq_emod_of_nonneg (by omega)]; omega

section
variable {S : Sums}
theorem pick6 (hS : Nu S) {h : AH} {a : Int} : RnC Tryz.prog S 5 [.int .i64 a, .int .i64 60] h fun r h' => (∃ q, r = .int .i64 q ∧ 0 ≤ q ∧ q < 60) ∧ h' = h := by
  refine RnC.enter' Tryz.f5 _ 14 [.tmp 4] (hS _ _ _ (by simp)) bd5 Tryz.func5 rfl rfl rfl ?_
  have hb := tm60 a
  have c0 : ¬ (60 : Int) = 0 := by decide
  by_cases c : a.tmod 60 < 0
  · simp (maxSteps := 1000000) -dsimp (disch := (repeat first | rw [nxn] | rw [nxp]); try omega) only [go_sem, evLen, c0, c]
    exact ⟨⟨_, rfl, by omega, by omega⟩, trivial⟩
  · simp (maxSteps := 1000000) -dsimp (disch := (repeat first | rw [nxn] | rw [nxp]); try omega) only [go_sem, evLen, c0, c]
    exact ⟨⟨_, rfl, by omega, by omega⟩, trivial⟩
theorem eq14 (hS : Nu S) {h : AH} {v w : AV} {l : List Nat} (hv : Bs h v l) (hw : Bs h w l) (hl : ∀ b ∈ l, b < 256) : RnC Tryz.prog S 12 [v, w] h fun r h' => r = .bool true ∧ h' = h := by
  refine RnC.enter' Tryz.f12 _ 10 [.tmp 4] (hS _ _ _ (by simp)) bd12 Tryz.func12 rfl rfl rfl ?_
  have t1 := hv.text Tryz.underlying22 Tryz.underlying5 Tryz.underlying9 hl
  have t2 := hw.text Tryz.underlying22 Tryz.underlying5 Tryz.underlying9 hl
  have e : ∀ g, binA Tryz.prog g .eql 9 (.str l) (.str l) = some (.bool true) := fun g => by
    have : eqL l l = true := by rw [eqL_eq]; simp
    simp [binA, strA, this]
  simp (maxSteps := 1000000) -dsimp (disch := (repeat first | rw [nxn] | rw [nxp]); try omega) only [go_sem, evLen, t1, t2, e]
  exact ⟨trivial, trivial⟩
end
end Go.Proofs.YtfhcnoancepgcaaGreatDoor.dig
