/- The witness of the law DeviceNames: its heap. Conditions: none. -/
import Derived.Test.YtmfbcniknjecbaaGreatDoorDeviceNamesWl
namespace Go.Proofs.YtmfbcniknjecbaaGreatDoor.deviceNames
open Go Go.ChangeShapes Go.WideShapes Go.ChangeAt Go.RowKit
set_option maxRecDepth 100000
theorem wr (os : Os) : (((World.laidAll Tryz.prog os laid).forCall (fun _ _ => 0) ⟨#[], #[], []⟩).heap.toList.drop Tryz.checked.prog.globals.size).take ((begin Tryz.checked.prog (fun _ _ => 0) default).world.heap.size - Tryz.checked.prog.globals.size) = (begin Tryz.checked.prog (fun _ _ => 0) default).world.heap.toList.drop Tryz.checked.prog.globals.size := by kernel_rfl
end Go.Proofs.YtmfbcniknjecbaaGreatDoor.deviceNames
