/- What compares pairs. Conditions: those of its summaries. -/
import Derived.Test.YtmphlckolampoaaGreatDoorRAi
namespace Go.Proofs.YtmphlckolampoaaGreatDoor.tbl
open Go Go.Abs Go.Abs.Rec Go.Abs.Stb Go.Proofs
set_option maxRecDepth 100000
set_option linter.unusedVariables false
set_option linter.unusedSimpArgs false
section
variable {S : Sums}
structure Tc (S : Sums) : Prop where
 nc : ∀ f args h, f ∈ [66, 69, 67, 105] → S f args h = none
/-- -1, 0 or 1. -/
def cmpI (a b : List Nat) : Int := if lessA a b = true then -1 else if lessA b a = true then 1 else 0
theorem cmpI_neg {a b : List Nat} : cmpI a b < 0 ↔ lessA a b = true := by
 unfold cmpI
 split
 ·simp [*]
 ·split <;> simp [*]
theorem gtSt (h : AH) (a b : List Nat) : binA Tryz.prog h .gtr 9 (.str a) (.str b) = some (.bool (lessA b a)) := by
 simp only [binA, strA, eqL_eq]
 by_cases he : a = b
 ·subst he; simp [lessA_irr]
 ·cases h1 : lessA a b
  ·simp [he, lessA_tot a b he h1]
  ·simp [lessA_asym h1]
theorem nanC (hS : Tc S) (h : AH) (a : List Nat) : RnC Tryz.prog S 105 [.str a] h fun r h' => r = .bool false ∧ Fr h h' := by
 refine RnC.enter' Tryz.f105 _ 6 [.tmp 2] (hS.nc _ _ _ (by simp)) bd105 Tryz.func105 rfl rfl rfl ?_
 simp (maxSteps := 1000000) -dsimp (disch := (repeat first | rw [nxn] | rw [nxp]); try omega) only [go_sem, neSt, b0e]
 exact ⟨by first | trivial | simp, Fr.refl _⟩
set_option maxHeartbeats 4000000 in
theorem comC (hS : Tc S) (h : AH) (a b : List Nat) : RnC Tryz.prog S 67 [.str a, .str b] h fun r h' => r = .int .i64 (cmpI a b) ∧ Fr h h' := by
 refine RnC.enter' Tryz.f67 _ 20 [.tmp 4] (hS.nc _ _ _ (by simp)) bd67 Tryz.func67 rfl rfl rfl ?_
 simp (maxSteps := 1000000) -dsimp (disch := (repeat first | rw [nxn] | rw [nxp]); try omega) only [go_sem]
 refine callK_of (nanC hS h a) ?_
 rintro w g1 ⟨rfl, f1⟩
 try simp (maxSteps := 1000000) -dsimp (disch := (repeat first | rw [nxn] | rw [nxp]); try omega) only [go_sem]
 refine callK_of (nanC hS g1 b) ?_
 rintro w g2 ⟨rfl, f2⟩
 cases h1 : lessA a b
 ·cases h2 : lessA b a
  ·simp (maxSteps := 1000000) -dsimp (disch := (repeat first | rw [nxn] | rw [nxp]); try omega) only [go_sem, ltSt, gtSt, h1, h2]
   exact ⟨by simp [cmpI, h1, h2], f1.trans f2⟩
  ·simp (maxSteps := 1000000) -dsimp (disch := (repeat first | rw [nxn] | rw [nxp]); try omega) only [go_sem, ltSt, gtSt, h1, h2]
   exact ⟨by simp [cmpI, h1, h2], f1.trans f2⟩
 ·simp (maxSteps := 1000000) -dsimp (disch := (repeat first | rw [nxn] | rw [nxp]); try omega) only [go_sem, ltSt, h1]
  exact ⟨by simp [cmpI, h1], f1.trans f2⟩
/-- The function that compares. -/
def fK : AV := .func (.func 66) [] []
/-- The function that tells equals. -/
def fE : AV := .func (.func 69) [] []
set_option maxHeartbeats 4000000 in
theorem keyC (hS : Tc S) (h : AH) (p q : Pr) : RnC Tryz.prog S 66 [.agg [.str p.1, .str p.2.1, .bool p.2.2], .agg [.str q.1, .str q.2.1, .bool q.2.2]] h fun r h' => r = .int .i64 (cmpI p.1 q.1) ∧ Fr h h' := by
 refine RnC.enter' Tryz.f66 _ 10 [.tmp 4] (hS.nc _ _ _ (by simp)) bd66 Tryz.func66 rfl rfl rfl ?_
 have d1 : ∀ (o1 o2 : AO), ((h.new o1).new o2).get h.nx = some o1 := fun o1 o2 => (AH.get_new_ne (by simp <;> omega)).trans (AH.get_new_eq rfl)
 have d2 : ∀ (o1 o2 : AO), ((h.new o1).new o2).get (h.nx + 1) = some o2 := fun o1 o2 => AH.get_new_eq rfl
 simp (maxSteps := 1000000) -dsimp (disch := (repeat first | rw [nxn] | rw [nxp]); try omega) only [go_sem, d1, d2]
 refine callK_of (comC hS _ p.1 q.1) ?_
 rintro w g1 ⟨rfl, f1⟩
 simp (maxSteps := 1000000) -dsimp (disch := (repeat first | rw [nxn] | rw [nxp]); try omega) only [go_sem]
 exact ⟨by first | rfl | trivial, ((Fr.new _ _).news _).trans f1⟩
set_option maxHeartbeats 4000000 in
theorem eqlC (hS : Tc S) (h : AH) (p q : Pr) : RnC Tryz.prog S 69 [.agg [.str p.1, .str p.2.1, .bool p.2.2], .agg [.str q.1, .str q.2.1, .bool q.2.2]] h fun r h' => r = .bool (decide (p.1 = q.1)) ∧ Fr h h' := by
 refine RnC.enter' Tryz.f69 _ 10 [.tmp 4] (hS.nc _ _ _ (by simp)) bd69 Tryz.func69 rfl rfl rfl ?_
 have d1 : ∀ (o1 o2 : AO), ((h.new o1).new o2).get h.nx = some o1 := fun o1 o2 => (AH.get_new_ne (by simp <;> omega)).trans (AH.get_new_eq rfl)
 have d2 : ∀ (o1 o2 : AO), ((h.new o1).new o2).get (h.nx + 1) = some o2 := fun o1 o2 => AH.get_new_eq rfl
 simp (maxSteps := 1000000) -dsimp (disch := (repeat first | rw [nxn] | rw [nxp]); try omega) only [go_sem, d1, d2, eqSt]
 exact ⟨by first | rfl | trivial, (Fr.new _ _).news _⟩
end
end Go.Proofs.YtmphlckolampoaaGreatDoor.tbl
