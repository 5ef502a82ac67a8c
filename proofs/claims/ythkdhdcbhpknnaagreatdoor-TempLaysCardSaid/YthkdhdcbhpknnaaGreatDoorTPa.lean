/- Names and paths: what the code of path says of a text. Conditions: Count and IndexByteString are summaries; none else. -/
import Derived.Test.YthkdhdcbhpknnaaGreatDoorFacts
namespace Go.Proofs.YthkdhdcbhpknnaaGreatDoor.tre
open Go Go.Abs Go.Proofs
set_option maxRecDepth 100000
set_option linter.unusedVariables false
set_option linter.unusedSimpArgs false

def chOK (b : Nat) : Bool := (decide (97 ≤ b) && decide (b ≤ 122)) || (decide (48 ≤ b) && decide (b ≤ 57)) || decide (b = 45) || decide (b = 95) || decide (b = 46)
def nameOK (s : List Nat) : Bool := decide (1 ≤ s.length) && decide (s.length ≤ 24) && !(decide (s[0]? = some 46)) && s.all chOK
def splF : Nat → List Nat → List (List Nat)
 | 0, s => [s]
 | n + 1, s => if idxA 47 s 0 < 0 then [s] else s.take (idxA 47 s 0).toNat :: splF n (s.drop ((idxA 47 s 0).toNat + 1))
def splS (s : List Nat) : List (List Nat) := splF (cntA 47 s) s
def rightS (s : List Nat) : Bool := (splS s).all nameOK && decide ((splS s).length ≤ 4) && decide (s.length ≤ 64)
def checkS (s : List Nat) : Nat := if 64 < s.length then 3 else if rightS s = false then 2 else 0
def tmpS : List Nat := [46, 116, 109, 112, 47]
def preS (s p : List Nat) : Bool := decide (s.take p.length = p)
def tempedS (s : List Nat) : Bool := preS s tmpS && decide (checkS (s.drop 5) = 0)
def okP (s : List Nat) : Bool := decide (checkS s = 0) || tempedS s

theorem ixS {t : TypeId} (ht : Tryz.prog.underlying t = some .string) {s : List Nat} {i b : Nat} {k : IntKind} (hb : s[i]? = some b) : evIndex Tryz.prog t (.str s) (.int k (i : Nat)) = some (.int .u8 (b : Int)) := by
 have hi : i < s.length := (List.getElem?_eq_some_iff.1 hb).1
 unfold evIndex
 simp only [ht]
 rw [below_of (by omega) (by omega)]
 simp [hb]
theorem ixS0 {t : TypeId} (ht : Tryz.prog.underlying t = some .string) {s : List Nat} {b : Nat} {k : IntKind} (hb : s[0]? = some b) : evIndex Tryz.prog t (.str s) (.int k 0) = some (.int .u8 (b : Int)) := ixS (i := 0) ht hb
section
variable {S : Sums}
/-- Functions that are no summaries, and those that are. -/
structure Sp (S : Sums) : Prop where
 nu : ∀ f args h, f ∈ [140, 174, 172, 167, 166, 156, 139, 124, 100, 113, 126, 106, 66] → S f args h = none
 cnt : ∀ args h, S 171 args h = sumCount args h
 idx : ∀ args h, S 178 args h = sumIndex args h

set_option maxHeartbeats 4000000 in
theorem nameC (hS : Sp S) {h : AH} {s : List Nat} (hl : s.length ≤ 4611686018427387904) : RnC Tryz.prog S 140 [.str s] h fun r h' => r = .bool (nameOK s) ∧ h' = h := by
 refine RnC.enter' Tryz.f140 _ 54 [.tmp 2] (hS.nu _ _ _ (by simp)) bd140 Tryz.func140 rfl rfl rfl ?_
 by_cases c1 : ((s.length : Nat) : Int) < 1
 ·have e : s = [] := List.length_eq_zero_iff.1 (by omega)
  subst e
  simp (maxSteps := 1000000) -dsimp (disch := (repeat first | rw [nxn] | rw [nxp]); try omega) only [go_sem, evLen, c1]
  exact ⟨rfl, trivial⟩
 ·obtain ⟨b, hb⟩ : ∃ b, s[0]? = some b := ⟨_, List.getElem?_eq_getElem (by omega)⟩
  by_cases c2 : (24 : Int) < ((s.length : Nat) : Int)
  ·simp (maxSteps := 1000000) -dsimp (disch := (repeat first | rw [nxn] | rw [nxp]); try omega) only [go_sem, evLen, c1, c2]
   have : ¬ s.length ≤ 24 := by omega
   simp only [nameOK, this, decide_false, Bool.and_false, Bool.false_and]
   exact ⟨trivial, trivial⟩
  ·have ix := ixS0 (k := .i64) Tryz.underlying9 hb
   by_cases c3 : (b : Int) = 46
   ·simp (maxSteps := 1000000) -dsimp (disch := (repeat first | rw [nxn] | rw [nxp]); try omega) only [go_sem, evLen, c1, c2, c3, ix]
    have : b = 46 := by omega
    simp [nameOK, this, hb]
   ·have hne : ¬ b = 46 := by omega
    simp (maxSteps := 1000000) -dsimp (disch := (repeat first | rw [nxn] | rw [nxp]); try omega) only [go_sem, evLen, c1, c2, c3, ix]
    refine loopK_of (RnL.rounds (Q := fun ex u => u.h = h ∧ u.d = [] ∧ (ex = .exit 0 ∧ s.all chOK = true ∨ ex = .ret ∧ s.all chOK = false ∧ u.t.get 2 = some (.bool false)))
     (fun m u => u.h = h ∧ u.d = [] ∧ u.t.get 0 = some (.str s) ∧ u.t.get 19 = some (.int .i64 (s.length : Nat)) ∧ ∃ i : Nat, u.t.get 20 = some (.int .i64 (i : Nat)) ∧ i ≤ s.length ∧ (s.take i).all chOK = true ∧ m = s.length - i) ?_ s.length ?_) ?_
    ·rintro m ⟨t, h1, d⟩ ⟨e1, e2, g0, g19, i, g20, hi, hall, rfl⟩
     dsimp only at e1 e2 g0 g19 g20
     subst e1 e2
     by_cases c4 : (i : Int) < (s.length : Nat)
     ·have hil : i < s.length := by omega
      obtain ⟨a, ha⟩ : ∃ a, s[i]? = some a := ⟨_, List.getElem?_eq_getElem hil⟩
      have ixa := ixS (k := .i64) Tryz.underlying9 ha
      have htk : s.take (i + 1) = s.take i ++ [a] := by rw [List.take_add_one, ha]; rfl
      have hone : chOK a = true → (s.take (i + 1)).all chOK = true := fun hc => by rw [htk, List.all_append, hall]; simp [hc]
      have hnone : chOK a = false → s.all chOK = false := fun hc => by
       rw [List.all_eq_false]
       exact ⟨a, List.mem_iff_getElem?.2 ⟨i, ha⟩, by simp [hc]⟩
      by_cases q1 : (97 : Int) ≤ (a : Int) <;> by_cases q2 : (a : Int) ≤ 122 <;> by_cases q3 : (48 : Int) ≤ (a : Int) <;> by_cases q4 : (a : Int) ≤ 57 <;> by_cases q5 : (a : Int) = 45 <;> by_cases q6 : (a : Int) = 95 <;> by_cases q7 : (a : Int) = 46
      all_goals first
       | (exfalso; omega)
       | skip
      all_goals simp (maxSteps := 1000000) -dsimp (disch := (repeat first | rw [nxn] | rw [nxp]); try omega) only [go_sem, evLen, c4, g0, g19, g20, ixa, q1, q2, q3, q4, q5, q6, q7]
      all_goals first
       | exact ⟨trivial, trivial, .inr ⟨trivial, hnone (by simp [chOK]; omega), trivial⟩⟩
       | exact ⟨s.length - (i + 1), by omega, trivial, trivial, trivial, trivial, i + 1, rfl, by omega, hone (by simp [chOK]; omega), rfl⟩
     ·have : i = s.length := by omega
      subst this
      rw [List.take_length] at hall
      simp (maxSteps := 1000000) -dsimp (disch := (repeat first | rw [nxn] | rw [nxp]); try omega) only [go_sem, evLen, c4, g0, g19, g20]
      exact ⟨trivial, trivial, .inl ⟨trivial, hall⟩⟩
    ·simp (maxSteps := 1000000) -dsimp (disch := (repeat first | rw [nxn] | rw [nxp]); try omega) only [go_sem, evLen]
     exact ⟨trivial, trivial, trivial, trivial, 0, rfl, Nat.zero_le _, by simp, rfl⟩
    ·have hl1 : 1 ≤ s.length := by omega
     have hl2 : s.length ≤ 24 := by omega
     rintro ex ⟨t, h1, d⟩ ⟨e1, e2, ⟨rfl, hh⟩ | ⟨rfl, hh, g2⟩⟩
     ·dsimp only at e1 e2
      subst e1 e2
      simp (maxSteps := 1000000) -dsimp (disch := (repeat first | rw [nxn] | rw [nxp]); try omega) only [go_sem, evLen]
      simp [nameOK, hl1, hl2, hb, hne, hh]
     ·dsimp only at e1 e2 g2
      subst e1 e2
      simp (maxSteps := 1000000) -dsimp (disch := (repeat first | rw [nxn] | rw [nxp]); try omega) only [go_sem, evLen, g2]
      simp [nameOK, hh]
end
end Go.Proofs.YthkdhdcbhpknnaaGreatDoor.tre
