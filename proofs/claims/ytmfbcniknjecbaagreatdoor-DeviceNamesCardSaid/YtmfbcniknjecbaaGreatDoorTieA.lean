/- The words of the seat, by the kernel. Conditions: none. -/
import Derived.Test.YtmfbcniknjecbaaGreatDoorTieL
namespace Go.Proofs.YtmfbcniknjecbaaGreatDoor
open Go
set_option maxRecDepth 100000
theorem tieHw : Tryz.prog.worded (varsWordLater true) = true := by kernel_rfl
theorem tieHw2 : Tryz.prog.worded (varsWordLater !true) = false := by kernel_rfl
theorem tieHroot : Tryz.prog.worded rootWordLater = true := by kernel_rfl
end Go.Proofs.YtmfbcniknjecbaaGreatDoor
