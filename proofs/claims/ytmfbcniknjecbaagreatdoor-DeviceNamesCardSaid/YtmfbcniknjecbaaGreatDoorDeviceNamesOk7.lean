/- Calls of the law DeviceNames, by the kernel. Conditions: none. -/
import Derived.Test.YtmfbcniknjecbaaGreatDoorDeviceNamesCk1

section
namespace Go.Proofs.YtmfbcniknjecbaaGreatDoor.deviceNames
open Go Go.Abs
set_option maxRecDepth 100000
theorem k6 : okCk Tryz.prog (orS (sumCks []) sumsAll) 3000 c6 = true := by kernel_rfl
end Go.Proofs.YtmfbcniknjecbaaGreatDoor.deviceNames
end

section
namespace Go.Proofs.YtmfbcniknjecbaaGreatDoor.deviceNames
open Go Go.Abs
set_option maxRecDepth 100000
theorem k7 : okCk Tryz.prog (orS (sumCks [c5,c6]) sumsAll) 3000 c7 = true := by kernel_rfl
end Go.Proofs.YtmfbcniknjecbaaGreatDoor.deviceNames
end
