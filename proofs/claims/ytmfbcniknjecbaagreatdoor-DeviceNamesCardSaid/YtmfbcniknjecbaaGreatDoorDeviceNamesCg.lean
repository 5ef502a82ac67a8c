/- No function of the program starts another thread of work, by the kernel. Conditions: none. -/
import Derived.Test.YtmfbcniknjecbaaGreatDoorRows
import GoSem.ClaimGoes
import Derived.JoinedOf
import Derived.KernelRfl
namespace Go.Proofs.YtmfbcniknjecbaaGreatDoor.deviceNames
open Go
set_option maxRecDepth 100000
theorem goAll : Tryz.prog.funcs.any Func.goes = false := by kernel_rfl
end Go.Proofs.YtmfbcniknjecbaaGreatDoor.deviceNames
