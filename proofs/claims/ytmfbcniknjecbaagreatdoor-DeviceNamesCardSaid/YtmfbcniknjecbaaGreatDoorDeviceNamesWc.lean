/- The witness of the law DeviceNames: its input. Conditions: none. -/
import Derived.Test.YtmfbcniknjecbaaGreatDoorDeviceNamesWl
namespace Go.Proofs.YtmfbcniknjecbaaGreatDoor.deviceNames
open Go Go.ChangeShapes Go.WideShapes Go.ChangeAt Go.RowKit
set_option maxRecDepth 100000
theorem wk (os : Os) : Input.okWideB Tryz.checked.prog ((World.laidAll Tryz.prog os laid).forCall (fun _ _ => 0) ⟨#[], #[], []⟩) 3 ⟨#[], #[], []⟩ = true := by kernel_rfl
theorem wp (os : Os) (H : Type) (enc : TypeId × Value → H) : Rows.deviceNamesSpec.preB enc Tryz.checked.prog Tryz.f3 Rows.deviceNamesRow.domain false ((World.laidAll Tryz.prog os laid).forCall (fun _ _ => 0) ⟨#[], #[], []⟩).memory #[] 8 = true := by kernel_rfl
theorem ws (os : Os) (H : Type) (enc : TypeId × Value → H) : Rows.deviceNamesSpec.sizedB enc Tryz.checked.prog Tryz.f3 false ((World.laidAll Tryz.prog os laid).forCall (fun _ _ => 0) ⟨#[], #[], []⟩).memory #[] 8 = true := by kernel_rfl
end Go.Proofs.YtmfbcniknjecbaaGreatDoor.deviceNames
