/- Facts of the card of the law DeviceNames, by the kernel. Conditions: none. -/
import Derived.Test.YtmfbcniknjecbaaGreatDoorRows
import Derived.SevenTiedAt
import Derived.Stop.Joined
import Derived.KernelRfl
namespace Go.Proofs.YtmfbcniknjecbaaGreatDoor.deviceNames
open Go
set_option maxRecDepth 100000
theorem xn : Tryz.prog.funcNamed "packtrain/packtrainlaw25.DeviceNames" = some 3 := by kernel_rfl
theorem xm : Tryz.checked.prog.mainIs = some (true, "4dfc451b2ef3bdcc1fcd4b9f478f41c65c4696a3a2877438d285a200ff618afb".toList) := by kernel_rfl
end Go.Proofs.YtmfbcniknjecbaaGreatDoor.deviceNames
