/- Calls of the law DeviceNames, by the kernel. Conditions: none. -/
import Derived.Test.YtmfbcniknjecbaaGreatDoorDeviceNamesCk1

section
namespace Go.Proofs.YtmfbcniknjecbaaGreatDoor.deviceNames
open Go Go.Abs
set_option maxRecDepth 100000
theorem k8 : okCk Tryz.prog (orS (sumCks [c7]) sumsAll) 3000 c8 = true := by kernel_rfl
end Go.Proofs.YtmfbcniknjecbaaGreatDoor.deviceNames
end

section
namespace Go.Proofs.YtmfbcniknjecbaaGreatDoor.deviceNames
open Go Go.Abs
set_option maxRecDepth 100000
theorem k9 : okCk Tryz.prog (orS (sumCks [c0,c4,c8]) sumsAll) 3000 c9 = true := by kernel_rfl
end Go.Proofs.YtmfbcniknjecbaaGreatDoor.deviceNames
end
