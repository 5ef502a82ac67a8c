/- Texts joined: MLd, MLe. -/
import Derived.Test.YtihigekgnnoejaaGreatDoorG1
import Derived.Test.YtihigekgnnoejaaGreatDoorG4
set_option maxRecDepth 100000
set_option linter.unusedVariables false
set_option linter.unusedSimpArgs false
section
namespace Go.Proofs.YtihigekgnnoejaaGreatDoor.mdl
open Go Go.Abs Go.Proofs
def z17:List AV:=List.replicate 17 (.int .u64 0)
theorem zcArr:zeroC Tryz.prog 91=some z17:=by kernel_rfl
attribute [go_sem] zcArr
section
variable {S : Sums}
end
section
variable {S : Sums}
end
end Go.Proofs.YtihigekgnnoejaaGreatDoor.mdl
end