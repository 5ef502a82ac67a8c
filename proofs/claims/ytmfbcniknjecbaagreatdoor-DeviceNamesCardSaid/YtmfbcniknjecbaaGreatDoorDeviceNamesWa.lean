/- The witness of the law DeviceNames: its variables. Conditions: none. -/
import Derived.Test.YtmfbcniknjecbaaGreatDoorDeviceNamesWl
namespace Go.Proofs.YtmfbcniknjecbaaGreatDoor.deviceNames
open Go Go.ChangeShapes Go.WideShapes Go.ChangeAt Go.RowKit
set_option maxRecDepth 100000
theorem wv (os : Os) : ((World.laidAll Tryz.prog os laid).forCall (fun _ _ => 0) ⟨#[], #[], []⟩).variablesZipB Tryz.checked.prog = true := by kernel_rfl
end Go.Proofs.YtmfbcniknjecbaaGreatDoor.deviceNames
