/- Digests of given bytes, in the document's answer and in the program, as summaries. Conditions: none. -/
import Derived.Test.YtmfbcniknjecbaaGreatDoorDigB
namespace Go.Proofs.YtmfbcniknjecbaaGreatDoor
open Go Go.Abs Go.Proofs
set_option maxRecDepth 100000
noncomputable section
def u8s (l : List Nat) : List AV := @List.rec Nat (fun _ => List AV) [] (fun n _ ih => AV.int .u8 (.ofNat n) :: ih) l
def tOP0 : List (List Nat × AV) := [([97, 98], .agg (u8s [251, 142, 32, 252, 46, 76, 63, 36, 140, 96, 195, 155, 214, 82, 243, 193, 52, 114, 152, 187, 151, 123, 139, 77, 89, 3, 184, 80, 85, 98, 6, 3]))]
theorem okOP0 : tOP0.all (okBytes Tryz.prog sConst 300 373) = true := by kernel_rfl
def tOP1 : List (List Nat × AV) := [([99], .agg (u8s [46, 125, 44, 3, 169, 80, 122, 226, 101, 236, 245, 181, 53, 104, 133, 165, 51, 147, 162, 2, 157, 36, 19, 148, 153, 114, 101, 161, 162, 90, 239, 198]))]
theorem okOP1 : tOP1.all (okBytes Tryz.prog sConst 300 373) = true := by kernel_rfl
def sDig : Sums := orS (tableBytes 373 tOP0) (orS (tableBytes 373 tOP1) (sConst))
theorem sDig_ok : SumsOK Tryz.prog sDig := orS_ok (tableBytes_ok sConst_ok okOP0) (orS_ok (tableBytes_ok sConst_ok okOP1) (sConst_ok))
end
end Go.Proofs.YtmfbcniknjecbaaGreatDoor
