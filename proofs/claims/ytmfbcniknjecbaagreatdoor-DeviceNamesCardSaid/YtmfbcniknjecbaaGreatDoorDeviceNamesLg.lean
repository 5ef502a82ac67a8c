/- The variables and parameters of the program, by the kernel. Conditions: none. -/
import Derived.Test.YtmfbcniknjecbaaGreatDoorRows
import GoSem.ClaimGoes
import Derived.JoinedOf
import Derived.KernelRfl
namespace Go.Proofs.YtmfbcniknjecbaaGreatDoor.deviceNames
open Go
set_option maxRecDepth 100000
theorem tySize : Tryz.prog.types.size = 730 := by kernel_rfl
theorem tyGlob : (Tryz.prog.globals.all fun g => decide (g.type < 730)) = true := by kernel_rfl
theorem tyPar : (Tryz.prog.funcs.all fun f => f.params.all fun t => decide (t < 730)) = true := by kernel_rfl
end Go.Proofs.YtmfbcniknjecbaaGreatDoor.deviceNames
