import Derived.Test.YtcnekpoaaihjpaaGreatDoorAbs36
import Derived.Test.YtcnekpoaaihjpaaGreatDoorProg
import Derived.KernelRfl
namespace Go.Proofs.YtcnekpoaaihjpaaGreatDoor
open Go Go.RowKit Go.Abs Go.Proofs
set_option linter.unusedVariables false

theorem ext98 : ExtOK Tryz.prog 128 Extern.BytealgCount.count := ⟨_, Tryz.func128, by kernel_rfl, by kernel_rfl, by kernel_rfl, by kernel_rfl⟩
theorem ext105 : ExtOK Tryz.prog 136 Extern.BytealgIndexByte.indexByte := ⟨_, Tryz.func136, by kernel_rfl, by kernel_rfl, by kernel_rfl, by kernel_rfl⟩

noncomputable def sums : Sums := fun f args h =>
  cond (Nat.beq f 128) (sumCount args h)
  (cond (Nat.beq f 136) (sumIndex args h) none)

theorem sums_ok : SumsOK Tryz.prog sums := by
  intro K ρ h w f args cargs v h' hR hv hs
  unfold sums at hs
  by_cases h1 : f = 128
  · subst h1; exact sumCount_ok ext98 hR hv hs
  by_cases h2 : f = 136
  · subst h2; exact sumIndex_ok ext105 hR hv hs
  simp only [nbeq, h1, h2, decide_false, cond_false] at hs
  cases hs

def isTrue : Option (AV × AH) → Bool
  | some (.bool true, _) => true
  | _ => false

theorem isTrue_eq {r : Option (AV × AH)} (h : isTrue r = true) : ∃ h', r = some (.bool true, h') := by
  unfold isTrue at h
  split at h
  · exact ⟨_, rfl⟩
  · cases h

/-- What a function without arguments answers, by the evaluator. -/
theorem closed_walk {S : Sums} (hS : SumsOK Tryz.prog S) {f : FuncId} {k : Nat} (hb : bodied Tryz.prog f = true) (hrun : isTrue ((fN Tryz.prog S k).call f [] { tr := .nil, nx := 0 }) = true) (w : World) :
    Calls Tryz.prog f #[] w fun e w' => e = .returned (.bool true) ∧ Below w.heap.size w w' := by
  rw [fN_eq] at hrun
  obtain ⟨h', hc⟩ := isTrue_eq hrun
  exact walk_of_run hS hb (rel_empty w) (avs := []) .nil ⟨k, _, _, hc, rfl⟩

end Go.Proofs.YtcnekpoaaihjpaaGreatDoor
