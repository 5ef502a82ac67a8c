/- The names of what the seat lists, by the kernel. Conditions: none. -/
import Derived.Test.YtmfbcniknjecbaaGreatDoorTieL
namespace Go.Proofs.YtmfbcniknjecbaaGreatDoor
open Go
set_option maxRecDepth 100000
theorem tieHn : varsNamedLaterB Tryz.prog (varsId Tryz.prog) seatLaid = true := by kernel_rfl
end Go.Proofs.YtmfbcniknjecbaaGreatDoor
