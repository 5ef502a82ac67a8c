/- Facts of the card of the law DeviceNames, by the kernel. Conditions: none. -/
import Derived.Test.YtmfbcniknjecbaaGreatDoorRows
import Derived.SevenTiedAt
import Derived.Stop.Joined
import Derived.KernelRfl

section
namespace Go.Proofs.YtmfbcniknjecbaaGreatDoor.deviceNames
open Go
set_option maxRecDepth 100000
theorem xl : true = Tryz.checked.prog.looks [] := by kernel_rfl
end Go.Proofs.YtmfbcniknjecbaaGreatDoor.deviceNames
end

section
namespace Go.Proofs.YtmfbcniknjecbaaGreatDoor.deviceNames
open Go
set_option maxRecDepth 100000
theorem xw : Rows.deviceNamesRow.wfByText (OpenSpec.ofChange Rows.deviceNamesSpec) = true := by kernel_rfl
theorem xi : Tryz.f3.isInstance Tryz.checked.prog Rows.deviceNamesRow.origin Rows.deviceNamesRow.targs := of_decide_eq_true (by as_aux_lemma => kernel_rfl)
theorem xr : Tryz.f3.isWrapper Tryz.checked.prog Rows.deviceNamesRow.wrapper Rows.deviceNamesRow.mainSum := by unfold Func.isWrapper; first | (rw [if_pos (by decide +kernel)]; kernel_rfl) | (rw [if_neg (by decide +kernel)]; exact ⟨rfl, rfl⟩)
end Go.Proofs.YtmfbcniknjecbaaGreatDoor.deviceNames
end
