/- The kinds of what the seat lists, by the kernel. Conditions: none. -/
import Derived.Test.YtmfbcniknjecbaaGreatDoorTieL
namespace Go.Proofs.YtmfbcniknjecbaaGreatDoor
open Go
set_option maxRecDepth 100000
theorem tieHk : seatLaid.map (fun x => Tryz.prog.kindOfLater x.1) = ([.data, .sentinel, .sentinel, .data, .data, .data] : List LaidKind).map some := by kernel_rfl
theorem tieHg : (Tryz.prog.funcNamed "gosem.cut.vars").isSome = true := by kernel_rfl
end Go.Proofs.YtmfbcniknjecbaaGreatDoor
