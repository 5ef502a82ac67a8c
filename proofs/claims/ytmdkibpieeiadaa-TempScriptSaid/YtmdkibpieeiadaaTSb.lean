/- The law TempScript: the summaries it stands on. Conditions: none. -/
import Derived.Test.YtmdkibpieeiadaaTRf
import Derived.Test.YtmdkibpieeiadaaDigC
namespace Go.Proofs.Ytmdkibpieeiadaa.tempScript
open Go Go.Abs Go.Proofs Go.Proofs.Ytmdkibpieeiadaa Go.Proofs.Ytmdkibpieeiadaa.dig
set_option maxRecDepth 100000
set_option linter.unusedVariables false
set_option linter.unusedSimpArgs false

theorem livesRun : runsTo Try.prog sDig 300 5 [] { tr := .nil, nx := 0 } (.bool true) = true := by kernel_rfl
noncomputable def sL : Sums := orS (sumConst 5 (.bool true)) sConst
theorem sL_ok : SumsOK Try.prog sL := orS_ok (sumConst_ok sDig_ok livesRun rfl) sConst_ok
theorem sC_no {g : FuncId} {v : AV} {f : FuncId} {args : List AV} {h : AH} (hf : f ≠ g) : sumConst g v f args h = none := by
  unfold sumConst
  rw [nat_beq_dec]
  simp [hf]
theorem sC_yes {g : FuncId} {v : AV} {h : AH} : sumConst g v g [] h = some (v, h) := by
  unfold sumConst
  rw [nat_beq_dec]
  simp
theorem orS_no {a b : Sums} {f : FuncId} {args : List AV} {h : AH} (ha : a f args h = none) : orS a b f args h = b f args h := by
  unfold orS
  rw [ha]
theorem orS_yes {a b : Sums} {f : FuncId} {args : List AV} {h : AH} {r : AV × AH} (ha : a f args h = some r) : orS a b f args h = some r := by
  unfold orS
  rw [ha]
theorem sL_no (f : FuncId) (args : List AV) (h : AH) (h1 : f ≠ 5) (h2 : f ≠ 37) (h3 : f ≠ 38) (h4 : f ≠ 50) (h5 : f ≠ 51) : sL f args h = none := by
  unfold sL sConst
  rw [orS_no (sC_no h1), orS_no (sC_no h2), orS_no (sC_no h3), orS_no (sC_no h4), orS_no (sC_no h5)]
  rfl
theorem vKe : vK = .agg (wrow Kc 64) := by kernel_rfl
theorem vHe : vH = .agg (c8 H0) := by kernel_rfl
theorem sL_nu : Nu sL := fun f args h hf => sL_no f args h (by rintro rfl; simp at hf) (by rintro rfl; simp at hf) (by rintro rfl; simp at hf) (by rintro rfl; simp at hf) (by rintro rfl; simp at hf)
theorem sL_nt : Nt sL := fun f args h hf => sL_no f args h (by rintro rfl; simp at hf) (by rintro rfl; simp at hf) (by rintro rfl; simp at hf) (by rintro rfl; simp at hf) (by rintro rfl; simp at hf)
theorem sL_dg : Dg sL :=
  ⟨fun f args h hf => sL_no f args h (by rintro rfl; simp at hf) (by rintro rfl; simp at hf) (by rintro rfl; simp at hf) (by rintro rfl; simp at hf) (by rintro rfl; simp at hf),
   fun h => by rw [← vKe]; unfold sL sConst; rw [orS_no (sC_no (by decide)), orS_no (sC_no (by decide)), orS_no (sC_no (by decide)), orS_yes sC_yes],
   fun h => by rw [← vHe]; unfold sL sConst; rw [orS_no (sC_no (by decide)), orS_no (sC_no (by decide)), orS_no (sC_no (by decide)), orS_no (sC_no (by decide)), orS_yes sC_yes],
   fun h => by rw [← vKe]; unfold sL sConst; rw [orS_no (sC_no (by decide)), orS_yes sC_yes],
   fun h => by rw [← vHe]; unfold sL sConst; rw [orS_no (sC_no (by decide)), orS_no (sC_no (by decide)), orS_yes sC_yes]⟩
theorem sL_lives (h : AH) : sL 5 [] h = some (.bool true, h) := orS_yes sC_yes
end Go.Proofs.Ytmdkibpieeiadaa.tempScript
