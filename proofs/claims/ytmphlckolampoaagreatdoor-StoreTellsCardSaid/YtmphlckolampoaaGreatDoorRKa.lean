/- A walk in parts: code surely ends so. Conditions: those of its summaries. -/
import Derived.Test.YtmphlckolampoaaGreatDoorRBe
set_option linter.unusedVariables false
set_option linter.unusedSimpArgs false
namespace Go.Abs
open Go
section
variable (P : Program) (S : Sums)
/-- A piece of code surely ends so. -/
def RnK (r : Option Nat) (fn : FuncId) (n : Nat) (c : Code) (s : St) (Q : Ex → St → Prop) : Prop := ∃ k ex s', evCode P (evN P S k) r fn n c s = some (ex, s') ∧ Q ex s'
variable {P S} {r : Option Nat} {fn : FuncId} {n : Nat}
theorem RnK.sy {c : Code} {s : St} {Q : Ex → St → Prop} (h : syC P S r fn n c s Q) : RnK P S r fn n c s Q := syC_sound h
/-- One part after another. -/
theorem RnK.cut {a b : Code} {s : St} {Q : Ex → St → Prop} (X : St → Prop) (ha : RnK P S r fn n a s fun ex u => ex = .normal ∧ X u) (hb : ∀ u, X u → RnK P S r fn n b u Q) : RnK P S r fn n (.seq a b) s Q := by
 obtain ⟨k1, ex, s1, e1, rfl, hw1⟩ := ha
 obtain ⟨k2, ex2, s2, e2, hw2⟩ := hb s1 hw1
 refine ⟨max k1 k2, ex2, s2, ?_, hw2⟩
 unfold evCode
 rw [evCode_mono (evN_mono (Nat.le_max_left k1 k2)) e1]
 exact evCode_mono (evN_mono (Nat.le_max_right k1 k2)) e2
theorem RnK.left {a b c : Code} {s : St} {Q : Ex → St → Prop} (h : RnK P S r fn n (.seq (.seq a b) c) s Q) : RnK P S r fn n (.seq a (.seq b c)) s Q := by
 obtain ⟨k, ex, s1, e1, hw⟩ := h
 refine ⟨k, ex, s1, ?_, hw⟩
 rw [← e1]
 simp only [evCode]
 cases evCode P (evN P S k) r fn n a s with
 | none => rfl
 | some x => rcases x with ⟨_ | _ | _, _⟩ <;> rfl
theorem RnC.enterK {f : FuncId} {args : List AV} {h : AH} {Q : AV → AH → Prop} (g : Func) (c : Code) (m : Nat) (rs : List ResultVar) (hs : S f args h = none) (hb : bodied P f = true) (hf : P.funcs[f]? = some g) (hc : g.body = some c) (hn : nTmps g args = m)
  (hr : g.results.toList = rs) (hw : RnK P S none f m c { t := argsEnv args 0 .nil, h, d := [] } (syEnd P rs Q)) : RnC P S f args h Q := by
 subst hn; subst hr
 obtain ⟨k, ex, s, h1, h2⟩ := hw
 refine ⟨k + 1, ?_⟩
 show ∃ v h', evFn P S (evN P S k) f args h = some (v, h') ∧ Q v h'
 unfold evFn
 rw [hs]
 simp only
 rw [if_neg (by simp [hb]), hf]
 simp only
 rw [hc]
 simp only
 rw [h1]
 cases ex with
 | exit i => exact h2.elim
 | normal => obtain ⟨h', e1, v, e2, e3⟩ := h2; exact ⟨v, h', by simp only [e1, e2, Option.map_some], e3⟩
 | ret => obtain ⟨h', e1, v, e2, e3⟩ := h2; exact ⟨v, h', by simp only [e1, e2, Option.map_some], e3⟩
end
end Go.Abs
