/- The law TempNames, run by the evaluator: it returns true. Conditions: none. -/
import Derived.Test.YtcnekpoaaihjpaaGreatDoorDigC
namespace Go.Proofs.YtcnekpoaaihjpaaGreatDoor.tempNames
open Go Go.Abs

set_option maxRecDepth 100000 in
theorem run : isTrue ((fN Tryz.prog sDig 300).call 4 [] { tr := .nil, nx := 0 }) = true := by kernel_rfl
end Go.Proofs.YtcnekpoaaihjpaaGreatDoor.tempNames
