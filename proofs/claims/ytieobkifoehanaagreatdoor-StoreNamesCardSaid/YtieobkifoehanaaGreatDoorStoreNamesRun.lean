/- The law StoreNames, run by the evaluator: it returns true. Conditions: none. -/
import Derived.Test.YtieobkifoehanaaGreatDoorSeat
namespace Go.Proofs.YtieobkifoehanaaGreatDoor.storeNames
open Go Go.Abs

set_option maxRecDepth 100000 in
theorem run : isTrue ((evN Tryz.prog sums 300).call 12 [] { tr := .nil, nx := 0 }) = true := by rw [← fN_eq]; kernel_rfl
end Go.Proofs.YtieobkifoehanaaGreatDoor.storeNames
