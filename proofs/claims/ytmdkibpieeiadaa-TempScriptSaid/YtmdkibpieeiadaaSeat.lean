/- No summaries of library functions; a function without arguments that the evaluator answers with true returns true. Conditions: none beyond the stated premises. -/
import Derived.Test.YtmdkibpieeiadaaAb6
import Derived.Test.YtmdkibpieeiadaaProg
import Derived.KernelRfl
namespace Go.Proofs.Ytmdkibpieeiadaa
open Go Go.RowKit Go.Abs Go.Proofs
set_option linter.unusedVariables false

noncomputable def sums : Sums := fun _ _ _ => none

theorem sums_ok : SumsOK Try.prog sums := by
  intro K ρ h w f args cargs v h' hR hv hs
  cases hs

def isTrue : Option (AV × AH) → Bool
  | some (.bool true, _) => true
  | _ => false

theorem isTrue_eq {r : Option (AV × AH)} (h : isTrue r = true) : ∃ h', r = some (.bool true, h') := by
  unfold isTrue at h
  split at h
  · exact ⟨_, rfl⟩
  · cases h
end Go.Proofs.Ytmdkibpieeiadaa
