/- Calls of the law DeviceNames as summaries. Conditions: none. -/
import Derived.Test.YtmfbcniknjecbaaGreatDoorDeviceNamesOk1
import Derived.Test.YtmfbcniknjecbaaGreatDoorDeviceNamesOk3
import Derived.Test.YtmfbcniknjecbaaGreatDoorDeviceNamesOk5
import Derived.Test.YtmfbcniknjecbaaGreatDoorDeviceNamesOk7
import Derived.Test.YtmfbcniknjecbaaGreatDoorDeviceNamesOk9
namespace Go.Proofs.YtmfbcniknjecbaaGreatDoor.deviceNames
open Go Go.Abs
theorem s0 : SumsOK Tryz.prog (sumCk c0) := sumCk_ok (orS_ok sumCks_nil sumsAll_ok) k0
theorem s1 : SumsOK Tryz.prog (sumCk c1) := sumCk_ok (orS_ok sumCks_nil sumsAll_ok) k1
theorem s2 : SumsOK Tryz.prog (sumCk c2) := sumCk_ok (orS_ok sumCks_nil sumsAll_ok) k2
theorem s3 : SumsOK Tryz.prog (sumCk c3) := sumCk_ok (orS_ok sumCks_nil sumsAll_ok) k3
theorem s4 : SumsOK Tryz.prog (sumCk c4) := sumCk_ok (orS_ok (sumCks_cons s1 (sumCks_cons s2 (sumCks_cons s3 sumCks_nil))) sumsAll_ok) k4
theorem s5 : SumsOK Tryz.prog (sumCk c5) := sumCk_ok (orS_ok sumCks_nil sumsAll_ok) k5
theorem s6 : SumsOK Tryz.prog (sumCk c6) := sumCk_ok (orS_ok sumCks_nil sumsAll_ok) k6
theorem s7 : SumsOK Tryz.prog (sumCk c7) := sumCk_ok (orS_ok (sumCks_cons s5 (sumCks_cons s6 sumCks_nil)) sumsAll_ok) k7
theorem s8 : SumsOK Tryz.prog (sumCk c8) := sumCk_ok (orS_ok (sumCks_cons s7 sumCks_nil) sumsAll_ok) k8
theorem s9 : SumsOK Tryz.prog (sumCk c9) := sumCk_ok (orS_ok (sumCks_cons s0 (sumCks_cons s4 (sumCks_cons s8 sumCks_nil))) sumsAll_ok) k9
noncomputable def sums : Sums := orS (sumCks [c9]) sumsAll
theorem sums_ok : SumsOK Tryz.prog sums := orS_ok (sumCks_cons s9 sumCks_nil) sumsAll_ok
end Go.Proofs.YtmfbcniknjecbaaGreatDoor.deviceNames
