/- The run of the door, by the kernel. Conditions: none. -/
import Derived.Test.YtmfbcniknjecbaaGreatDoorTieL
namespace Go.Proofs.YtmfbcniknjecbaaGreatDoor
open Go
set_option maxRecDepth 100000
theorem tieHrun (os : Os) (tape : Tape) : doorLeaves Tryz.prog 400 8 65 seatLaid os tape = some (seatLaid.filter fun x => x.2.handleName?.isNone, (funcsListed seatLaid).map (·.2.funcsOut)) := by kernel_rfl
end Go.Proofs.YtmfbcniknjecbaaGreatDoor
