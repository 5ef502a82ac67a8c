/- Calls of the law DeviceNames, by the kernel. Conditions: none. -/
import Derived.Test.YtmfbcniknjecbaaGreatDoorDeviceNamesCk1

section
namespace Go.Proofs.YtmfbcniknjecbaaGreatDoor.deviceNames
open Go Go.Abs
set_option maxRecDepth 100000
theorem k2 : okCk Tryz.prog (orS (sumCks []) sumsAll) 3000 c2 = true := by kernel_rfl
end Go.Proofs.YtmfbcniknjecbaaGreatDoor.deviceNames
end

section
namespace Go.Proofs.YtmfbcniknjecbaaGreatDoor.deviceNames
open Go Go.Abs
set_option maxRecDepth 100000
theorem k3 : okCk Tryz.prog (orS (sumCks []) sumsAll) 3000 c3 = true := by kernel_rfl
end Go.Proofs.YtmfbcniknjecbaaGreatDoor.deviceNames
end
