/- Calls of the law DeviceNames, by the kernel. Conditions: none. -/
import Derived.Test.YtmfbcniknjecbaaGreatDoorDeviceNamesCk1

section
namespace Go.Proofs.YtmfbcniknjecbaaGreatDoor.deviceNames
open Go Go.Abs
set_option maxRecDepth 100000
theorem k4 : okCk Tryz.prog (orS (sumCks [c1,c2,c3]) sumsAll) 3000 c4 = true := by kernel_rfl
end Go.Proofs.YtmfbcniknjecbaaGreatDoor.deviceNames
end

section
namespace Go.Proofs.YtmfbcniknjecbaaGreatDoor.deviceNames
open Go Go.Abs
set_option maxRecDepth 100000
theorem k5 : okCk Tryz.prog (orS (sumCks []) sumsAll) 3000 c5 = true := by kernel_rfl
end Go.Proofs.YtmfbcniknjecbaaGreatDoor.deviceNames
end
