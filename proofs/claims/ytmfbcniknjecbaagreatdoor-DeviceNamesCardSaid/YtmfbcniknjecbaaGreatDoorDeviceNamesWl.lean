/- What the row of the law DeviceNames lists. Conditions: none. -/
import Derived.Test.YtmfbcniknjecbaaGreatDoorRows
import Derived.WalkKit
import Derived.ProofKit
import Derived.OpenShut
import Derived.LaidMore
import Derived.Lay
import Derived.LaidLaws
import Derived.KernelRfl
namespace Go.Proofs.YtmfbcniknjecbaaGreatDoor.deviceNames
open Go Go.ChangeShapes Go.WideShapes Go.ChangeAt Go.RowKit
set_option maxRecDepth 100000
abbrev laid : List (String × DataW Unit) := Rows.deviceNamesRow.laid
theorem own : ownKnob Tryz.prog.godebug = none := by kernel_rfl
theorem noInit : Tryz.checked.prog.inits.idxOf? 3 = none := by kernel_rfl
theorem plainL : (laid.all fun x => x.2.handleName?.isNone) = true := by kernel_rfl
end Go.Proofs.YtmfbcniknjecbaaGreatDoor.deviceNames
