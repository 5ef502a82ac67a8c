/- The law ModelNames, run by the evaluator: it returns true. Conditions: none. -/
import Derived.Test.YthdnncblcgikoaaGreatDoorSeat
namespace Go.Proofs.YthdnncblcgikoaaGreatDoor.modelNames
open Go Go.Abs

set_option maxRecDepth 100000 in
theorem run : isTrue ((fN Tryz.prog sums 300).call 5 [] { tr := .nil, nx := 0 }) = true := by kernel_rfl
end Go.Proofs.YthdnncblcgikoaaGreatDoor.modelNames
