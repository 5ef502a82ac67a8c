/- Whether pairs may be. Conditions: those of its summaries. -/
import Derived.Test.YtmphlckolampoaaGreatDoorRAi
namespace Go.Proofs.YtmphlckolampoaaGreatDoor.tbl
open Go Go.Abs Go.Abs.Rec Go.Proofs
set_option maxRecDepth 100000
set_option linter.unusedVariables false
set_option linter.unusedSimpArgs false
section
variable {S : Sums}
structure Tq (S : Sums) : Prop where
 nq : ∀ f args h, f ∈ [23, 61, 62, 60, 103] → S f args h = none
abbrev aP (p : Pr) : AV := .agg [.str p.1, .str p.2.1, .bool p.2.2]
def badA (p : Pr) : Bool := decide (p.1 = [])
def badL (p : Pr) : Bool := decide (512 < p.1.length) || (!p.2.2 && decide (65536 < p.2.1.length))
set_option maxHeartbeats 4000000 in
theorem rightAC (hS : Tq S) (h : AH) (p : Pr) : RnC Tryz.prog S 61 [aP p] h fun r h' => r = .bool (badA p) ∧ Fr h h' := by
 refine RnC.enter' Tryz.f61 _ 6 [.tmp 2] (hS.nq _ _ _ (by simp)) bd61 Tryz.func61 rfl rfl rfl ?_
 have d1 : ∀ (o1 : AO), (h.new o1).get h.nx = some o1 := fun o1 => AH.get_new_eq rfl
 simp (maxSteps := 1000000) -dsimp (disch := (repeat first | rw [nxn] | rw [nxp]); try omega) only [go_sem, d1, eqSt, aP, b0e]
 exact ⟨by first | rfl | trivial, Fr.new _ _⟩
set_option maxHeartbeats 4000000 in
theorem rightLC (hS : Tq S) (h : AH) (p : Pr) : RnC Tryz.prog S 62 [aP p] h fun r h' => r = .bool (badL p) ∧ Fr h h' := by
 refine RnC.enter' Tryz.f62 _ 18 [.tmp 2] (hS.nq _ _ _ (by simp)) bd62 Tryz.func62 rfl rfl rfl ?_
 have d1 : ∀ (o1 : AO), (h.new o1).get h.nx = some o1 := fun o1 => AH.get_new_eq rfl
 have ls : ∀ g s, evLen Tryz.prog g #[9] (.str s) = some (.int .i64 ((s.length : Nat) : Int)) := fun g s => by simp [evLen, Tryz.underlying9]
 unfold badL
 by_cases c1 : 512 < p.1.length
 ·have c2 : (512 : Int) < ((p.1.length : Nat) : Int) := by omega
  simp (maxSteps := 1000000) -dsimp (disch := (repeat first | rw [nxn] | rw [nxp]); try omega) only [go_sem, d1, aP, ls, c2]
  exact ⟨by simp [c1], Fr.new _ _⟩
 ·have c2 : ¬ (512 : Int) < ((p.1.length : Nat) : Int) := by omega
  cases hg : p.2.2
  ·by_cases c3 : 65536 < p.2.1.length
   ·have c4 : (65536 : Int) < ((p.2.1.length : Nat) : Int) := by omega
    simp (maxSteps := 1000000) -dsimp (disch := (repeat first | rw [nxn] | rw [nxp]); try omega) only [go_sem, d1, aP, ls, c2, hg, c4]
    exact ⟨by simp [c1, c3], Fr.new _ _⟩
   ·have c4 : ¬ (65536 : Int) < ((p.2.1.length : Nat) : Int) := by omega
    simp (maxSteps := 1000000) -dsimp (disch := (repeat first | rw [nxn] | rw [nxp]); try omega) only [go_sem, d1, aP, ls, c2, hg, c4]
    exact ⟨by simp [c1, c3], Fr.new _ _⟩
  ·simp (maxSteps := 1000000) -dsimp (disch := (repeat first | rw [nxn] | rw [nxp]); try omega) only [go_sem, d1, aP, ls, c2, hg]
   exact ⟨by simp [c1], Fr.new _ _⟩
set_option maxHeartbeats 8000000 in
theorem idxC (hS : Tq S) {f : FuncId} (hbd : bodied Tryz.prog f = true) (q : Pr → Bool) (hq : ∀ h p, RnC Tryz.prog S f [aP p] h fun r h' => r = .bool (q p) ∧ Fr h h') {h : AH} {v : AV} {l : KL (List Nat × Bool)} (hv : Ps h v l) (hl : l.length ≤ 1000000) :
  RnC Tryz.prog S 103 [v, .func (.func f) [] []] h fun r h' => (∃ i : Int, r = .int .i64 i ∧ decide (0 ≤ i) = l.any q) ∧ Fr h h' := by
 refine RnC.enter' Tryz.f103 _ 19 [.tmp 4] (hS.nq _ _ _ (by simp)) bd103 Tryz.func103 rfl rfl rfl ?_
 obtain ⟨lv, sv, ov⟩ := hv.ln
 have hf : oneA (.func (.func f) [] []) = true := rfl
 simp (maxSteps := 1000000) -dsimp (disch := (repeat first | rw [nxn] | rw [nxp]); try omega) only [go_sem, lv, ov, hf]
 refine loopK_of (RnL.rounds (Q := fun ex u => u.d = [] ∧ Fr h u.h ∧ (ex = .exit 0 ∧ l.any q = false ∨ ex = .ret ∧ ∃ i : Nat, u.t.get 4 = some (.int .i64 (i : Nat)) ∧ l.any q = true))
  (fun m u => u.d = [] ∧ Fr h u.h ∧ u.t.get 0 = some v ∧ u.t.get 1 = some (.func (.func f) [] []) ∧ u.t.get 7 = some (.int .i64 (l.length : Nat)) ∧ ∃ i : Nat, u.t.get 8 = some (.int .i64 (i : Nat)) ∧ i ≤ l.length ∧ (l.take i).any q = false ∧ m = l.length - i) ?_ l.length ?_) ?_
 ·rintro m ⟨tt, g, d⟩ ⟨e2, e1, g0, g1, g7, i, g8, hi, hn, rfl⟩
  dsimp only at e1 e2 g0 g1 g7 g8
  subst e2
  by_cases c4 : (i : Int) < (l.length : Nat)
  ·have hil : i < l.length := by omega
   obtain ⟨p, hp⟩ : ∃ p, l[i]? = some p := ⟨_, List.getElem?_eq_getElem hil⟩
   obtain ⟨id, off, c, cs, o, tx, rfl, hgi, hidl, hle, hx, _⟩ := Ps.at hv hp
   have hgx := (e1.get id hidl).trans hgi
   have ht : l.take (i + 1) = l.take i ++ [p] := by rw [List.take_add_one, hp]; rfl
   simp (maxSteps := 1000000) -dsimp (disch := (repeat first | rw [nxn] | rw [nxp]); try omega) only [go_sem, lv, c4, g0, g1, g7, g8, hil, hgx, hle, hx, hbd]
   refine callK_of (hq g p) ?_
   rintro w g2 ⟨rfl, f2⟩
   cases hqp : q p
   ·simp (maxSteps := 1000000) -dsimp (disch := (repeat first | rw [nxn] | rw [nxp]); try omega) only [go_sem, lv, c4, g0, g1, g7, g8]
    exact ⟨l.length - (i + 1), by omega, trivial, e1.trans f2, trivial, trivial, trivial, i + 1, rfl, by omega, by rw [ht, List.any_append, hn]; simp [hqp], rfl⟩
   ·simp (maxSteps := 1000000) -dsimp (disch := (repeat first | rw [nxn] | rw [nxp]); try omega) only [go_sem, lv, c4, g0, g1, g7, g8]
    refine ⟨trivial, e1.trans f2, .inr ⟨trivial, i, rfl, ?_⟩⟩
    rw [List.any_eq_true]
    exact ⟨p, List.mem_iff_getElem?.2 ⟨i, hp⟩, hqp⟩
  ·have : i = l.length := by omega
   subst this
   rw [List.take_length] at hn
   simp (maxSteps := 1000000) -dsimp (disch := (repeat first | rw [nxn] | rw [nxp]); try omega) only [go_sem, lv, c4, g0, g1, g7, g8]
   exact ⟨trivial, e1, .inl ⟨trivial, hn⟩⟩
 ·simp (maxSteps := 1000000) -dsimp (disch := (repeat first | rw [nxn] | rw [nxp]); try omega) only [go_sem]
  exact ⟨trivial, Fr.refl _, trivial, trivial, trivial, 0, rfl, Nat.zero_le _, rfl, rfl⟩
 ·rintro ex ⟨tt, g, d⟩ ⟨e2, e1, ⟨rfl, hn⟩ | ⟨rfl, i, g4, hn⟩⟩
  ·dsimp only at e1 e2
   subst e2
   simp (maxSteps := 1000000) -dsimp (disch := (repeat first | rw [nxn] | rw [nxp]); try omega) only [go_sem]
   exact ⟨⟨_, rfl, by rw [hn]; rfl⟩, e1⟩
  ·dsimp only at e1 e2 g4
   subst e2
   simp (maxSteps := 1000000) -dsimp (disch := (repeat first | rw [nxn] | rw [nxp]); try omega) only [go_sem, g4]
   exact ⟨⟨_, rfl, by rw [hn]; simp⟩, e1⟩
theorem conC (hS : Tq S) {f : FuncId} (hbd : bodied Tryz.prog f = true) (q : Pr → Bool) (hq : ∀ h p, RnC Tryz.prog S f [aP p] h fun r h' => r = .bool (q p) ∧ Fr h h') {h : AH} {v : AV} {l : KL (List Nat × Bool)} (hv : Ps h v l) (hl : l.length ≤ 1000000) :
  RnC Tryz.prog S 60 [v, .func (.func f) [] []] h fun r h' => r = .bool (l.any q) ∧ Fr h h' := by
 refine RnC.enter' Tryz.f60 _ 9 [.tmp 4] (hS.nq _ _ _ (by simp)) bd60 Tryz.func60 rfl rfl rfl ?_
 obtain ⟨lv, sv, ov⟩ := hv.ln
 have hf : oneA (.func (.func f) [] []) = true := rfl
 simp (maxSteps := 1000000) -dsimp (disch := (repeat first | rw [nxn] | rw [nxp]); try omega) only [go_sem, lv, ov, hf]
 refine callK_of (idxC hS hbd q hq hv hl) ?_
 rintro w g ⟨⟨i, rfl, hi⟩, f1⟩
 simp (maxSteps := 1000000) -dsimp (disch := (repeat first | rw [nxn] | rw [nxp]); try omega) only [go_sem, hi]
 exact ⟨by first | rfl | trivial, f1⟩
/-- The error of pairs: 2, 3, or none. -/
def mayP (l : KL (List Nat × Bool)) : Nat := if l.any badA = true then 2 else if l.any badL = true then 3 else 0
theorem mayC (hS : Tq S) {h : AH} {v : AV} {l : KL (List Nat × Bool)} (hv : Ps h v l) (hl : l.length ≤ 1000000) :
  RnC Tryz.prog S 23 [v] h fun r h' => r = .int .i64 (mayP l : Nat) ∧ Fr h h' := by
 refine RnC.enter' Tryz.f23 _ 7 [.tmp 2] (hS.nq _ _ _ (by simp)) bd23 Tryz.func23 rfl rfl rfl ?_
 obtain ⟨lv, sv, ov⟩ := hv.ln
 simp (maxSteps := 1000000) -dsimp (disch := (repeat first | rw [nxn] | rw [nxp]); try omega) only [go_sem, lv, ov]
 refine callK_of (conC hS bd61 badA (rightAC hS) hv hl) ?_
 rintro w g ⟨rfl, f1⟩
 unfold mayP
 cases h1 : l.any badA
 ·simp (maxSteps := 1000000) -dsimp (disch := (repeat first | rw [nxn] | rw [nxp]); try omega) only [go_sem, lv, ov]
  refine callK_of (conC hS bd62 badL (rightLC hS) (hv.fr f1) hl) ?_
  rintro w g2 ⟨rfl, f2⟩
  cases h2 : l.any badL
  ·simp (maxSteps := 1000000) -dsimp (disch := (repeat first | rw [nxn] | rw [nxp]); try omega) only [go_sem]
   exact ⟨by first | rfl | trivial, f1.trans f2⟩
  ·simp (maxSteps := 1000000) -dsimp (disch := (repeat first | rw [nxn] | rw [nxp]); try omega) only [go_sem]
   exact ⟨by first | rfl | trivial, f1.trans f2⟩
 ·simp (maxSteps := 1000000) -dsimp (disch := (repeat first | rw [nxn] | rw [nxp]); try omega) only [go_sem]
  exact ⟨by first | rfl | trivial, f1⟩
end
end Go.Proofs.YtmphlckolampoaaGreatDoor.tbl
