/- What the law DeviceNames comes to, by the kernel. Conditions: none. -/
import Derived.Test.YtmfbcniknjecbaaGreatDoorDeviceNamesCll
namespace Go.Proofs.YtmfbcniknjecbaaGreatDoor.deviceNames
open Go
set_option maxRecDepth 100000
theorem cl : Tryz.prog.closure 3 = cla ++ (clb ++ (clc ++ (cld))) := by kernel_rfl
end Go.Proofs.YtmfbcniknjecbaaGreatDoor.deviceNames
