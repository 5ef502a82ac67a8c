/- The types of the program, second half, by the kernel. Conditions: none. -/
import Derived.Test.YtmfbcniknjecbaaGreatDoorRows
import GoSem.ClaimGoes
import Derived.JoinedOf
import Derived.KernelRfl

section
namespace Go.Proofs.YtmfbcniknjecbaaGreatDoor.deviceNames
open Go
set_option maxRecDepth 100000
theorem tyc : (List.range' 366 183).all (rowFine Tryz.prog) = true := by kernel_rfl
end Go.Proofs.YtmfbcniknjecbaaGreatDoor.deviceNames
end

section
namespace Go.Proofs.YtmfbcniknjecbaaGreatDoor.deviceNames
open Go
set_option maxRecDepth 100000
theorem tyd : (List.range' 549 181).all (rowFine Tryz.prog) = true := by kernel_rfl
end Go.Proofs.YtmfbcniknjecbaaGreatDoor.deviceNames
end
