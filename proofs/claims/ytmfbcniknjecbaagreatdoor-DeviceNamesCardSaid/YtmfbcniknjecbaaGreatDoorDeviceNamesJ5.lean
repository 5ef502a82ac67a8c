/- Facts of the frame of the law DeviceNames, by the kernel. Conditions: none. -/
import Derived.Test.YtmfbcniknjecbaaGreatDoorRows
import Derived.JoinedOf
import Derived.KernelRfl
namespace Go.Proofs.YtmfbcniknjecbaaGreatDoor.deviceNames
open Go
set_option maxRecDepth 100000
theorem j25 : (Tryz.prog.mayEnter) = true := by kernel_rfl
theorem j26 : ((Rows.deviceNamesRow.lifted == Tryz.prog.liftsFinal)) = true := by kernel_rfl
theorem j27 : ((Tryz.prog.make == some Rows.deviceNamesRow.make)) = true := by kernel_rfl
end Go.Proofs.YtmfbcniknjecbaaGreatDoor.deviceNames
