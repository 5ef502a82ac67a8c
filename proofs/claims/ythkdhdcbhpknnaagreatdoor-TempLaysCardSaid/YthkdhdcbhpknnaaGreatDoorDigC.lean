/- Digests of given bytes, in the document's answer and in the program, as summaries. Conditions: none. -/
import Derived.Test.YthkdhdcbhpknnaaGreatDoorDigB
set_option linter.unusedVariables false
set_option linter.unusedSimpArgs false
namespace Go.Proofs.YthkdhdcbhpknnaaGreatDoor
open Go Go.Abs Go.Proofs
set_option maxRecDepth 100000
noncomputable section
def u8s (l : List Nat) : List AV := @List.rec Nat (fun _ => List AV) [] (fun n _ ih => AV.int .u8 (.ofNat n) :: ih) l
def tOR0 : List (List Nat × AV) := [([97, 98], .agg (u8s [251, 142, 32, 252, 46, 76, 63, 36, 140, 96, 195, 155, 214, 82, 243, 193, 52, 114, 152, 187, 151, 123, 139, 77, 89, 3, 184, 80, 85, 98, 6, 3]))]
theorem okOR0 : tOR0.all (okBytes Tryz.prog sConst 300 43) = true := by kernel_rfl
def tOR1 : List (List Nat × AV) := [([99, 100], .agg (u8s [33, 231, 33, 195, 90, 88, 35, 253, 180, 82, 250, 47, 159, 10, 97, 44, 116, 251, 149, 46, 6, 146, 116, 137, 198, 178, 122, 67, 184, 23, 190, 212]))]
theorem okOR1 : tOR1.all (okBytes Tryz.prog sConst 300 43) = true := by kernel_rfl
def tOR2 : List (List Nat × AV) := [([101], .agg (u8s [63, 121, 187, 123, 67, 91, 5, 50, 22, 81, 218, 239, 211, 116, 205, 198, 129, 220, 6, 250, 166, 94, 55, 78, 56, 51, 123, 136, 202, 4, 109, 234]))]
theorem okOR2 : tOR2.all (okBytes Tryz.prog sConst 300 43) = true := by kernel_rfl
def tOP0 : List (List Nat × AV) := [([101], .agg (u8s [63, 121, 187, 123, 67, 91, 5, 50, 22, 81, 218, 239, 211, 116, 205, 198, 129, 220, 6, 250, 166, 94, 55, 78, 56, 51, 123, 136, 202, 4, 109, 234]))]
theorem okOP0 : tOP0.all (okBytes Tryz.prog sConst 300 97) = true := by kernel_rfl
def tOP1 : List (List Nat × AV) := [([97, 98], .agg (u8s [251, 142, 32, 252, 46, 76, 63, 36, 140, 96, 195, 155, 214, 82, 243, 193, 52, 114, 152, 187, 151, 123, 139, 77, 89, 3, 184, 80, 85, 98, 6, 3]))]
theorem okOP1 : tOP1.all (okBytes Tryz.prog sConst 300 97) = true := by kernel_rfl
def tOP2 : List (List Nat × AV) := [([120, 120], .agg (u8s [93, 222, 137, 104, 135, 246, 117, 76, 155, 21, 191, 227, 164, 65, 174, 72, 6, 223, 47, 222, 148, 0, 19, 17, 224, 139, 241, 16, 98, 46, 11, 190]))]
theorem okOP2 : tOP2.all (okBytes Tryz.prog sConst 300 97) = true := by kernel_rfl
def tOP3 : List (List Nat × AV) := [([99, 100], .agg (u8s [33, 231, 33, 195, 90, 88, 35, 253, 180, 82, 250, 47, 159, 10, 97, 44, 116, 251, 149, 46, 6, 146, 116, 137, 198, 178, 122, 67, 184, 23, 190, 212]))]
theorem okOP3 : tOP3.all (okBytes Tryz.prog sConst 300 97) = true := by kernel_rfl
def sDig : Sums := orS (tableBytes 43 tOR0) (orS (tableBytes 43 tOR1) (orS (tableBytes 43 tOR2) (orS (tableBytes 97 tOP0) (orS (tableBytes 97 tOP1) (orS (tableBytes 97 tOP2) (orS (tableBytes 97 tOP3) (sConst)))))))
theorem sDig_ok : SumsOK Tryz.prog sDig := orS_ok (tableBytes_ok sConst_ok okOR0) (orS_ok (tableBytes_ok sConst_ok okOR1) (orS_ok (tableBytes_ok sConst_ok okOR2) (orS_ok (tableBytes_ok sConst_ok okOP0) (orS_ok (tableBytes_ok sConst_ok okOP1) (orS_ok (tableBytes_ok sConst_ok okOP2) (orS_ok (tableBytes_ok sConst_ok okOP3) (sConst_ok)))))))
end
end Go.Proofs.YthkdhdcbhpknnaaGreatDoor
