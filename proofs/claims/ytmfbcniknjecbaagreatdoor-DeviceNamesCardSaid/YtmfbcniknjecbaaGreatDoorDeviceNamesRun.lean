/- The law DeviceNames, run by the evaluator: it returns true. Conditions: none. -/
import Derived.Test.YtmfbcniknjecbaaGreatDoorDeviceNamesSum
namespace Go.Proofs.YtmfbcniknjecbaaGreatDoor.deviceNames
open Go Go.Abs

set_option maxRecDepth 100000 in
theorem run : isTrue ((fN Tryz.prog sums 3000).call 3 [] { tr := .nil, nx := 0 }) = true := by kernel_rfl
end Go.Proofs.YtmfbcniknjecbaaGreatDoor.deviceNames
