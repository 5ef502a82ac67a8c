/- The program's temp: Left, Bytes. Conditions: none but the stated premises. -/
import Derived.Test.YtfhcnoancepgcaaGreatDoorTMe
namespace Go.Proofs.YtfhcnoancepgcaaGreatDoor.dig
open Go Go.Abs Go.Proofs
set_option maxRecDepth 100000
set_option linter.unusedVariables false
set_option linter.unusedSimpArgs false

section
variable {S : Sums}

set_option maxHeartbeats 8000000 in
/-- Ranging over the numbers of the missing blocks. -/
theorem left45 (hS : Nu S) {h : AH} {y cp p m : Nat} {s ln : Int} {D : List (List Nat)} {B : Int → Option (List Nat)} (I : Nat → AH → Prop) (J : AH → Prop) (hD : D.length ≤ 1024)
    (hI : ∀ i g, I i g → (∃ o t, g.get cp = some (.cells [.ptr p 0] o t)) ∧ Pt p m g s ln D B)
    (hm : ∀ i g g', I i g → Fr g g' → I i g')
    (skip : ∀ i g, i < D.length → I i g → (B i).isSome = true → I (i + 1) g)
    (step : ∀ i g, i < D.length → I i g → (B i).isSome = false → RnR Tryz.prog S y [.int .i64 (i : Nat)] g fun r g' => (r = .bool true ∧ I (i + 1) g') ∨ (r = .bool false ∧ J g')) (h0 : I 0 h) :
    RnC Tryz.prog S 66 [.yld y, .ptr cp 0] h fun r h' => I D.length h' ∨ J h' := by
  refine RnC.enter' Tryz.f66 _ 24 [] (hS _ _ _ (by simp)) bd66 Tryz.func66 rfl rfl rfl ?_
  obtain ⟨⟨o0, t0, gc0⟩, hp0⟩ := hI 0 h h0
  obtain ⟨⟨dv, E, bs, ck, k1, k2, k3, k4, k5⟩, k6, k7⟩ := hp0
  obtain ⟨ldv, sdv, odv⟩ := k3.len
  simp (maxSteps := 1000000) -dsimp (disch := (repeat first | rw [nxn] | rw [nxp]); try omega) only [go_sem, gc0, k1, ldv]
  refine loopK_of (RnL.rounds (Q := fun ex s => (ex = .exit 0 ∧ I D.length s.h ∨ ex = .ret ∧ J s.h) ∧ s.d = [])
    (fun m s => s.d = [] ∧ s.t.get 0 = some (.yld y) ∧ s.t.get 1 = some (.ptr cp 0) ∧ s.t.get 9 = some (.int .i64 (D.length : Nat)) ∧ ∃ i : Nat, I i s.h ∧ s.t.get 10 = some (.int .i64 (i : Nat)) ∧ i ≤ D.length ∧ m = D.length - i) ?_ D.length ?_) ?_
  · rintro m' ⟨t, h1, d⟩ ⟨e2, g0, g1, g9, i, hi0, g10, hiq, rfl⟩
    dsimp only at e2 g0 g1 g9 hi0 g10
    subst e2
    obtain ⟨⟨o1, t1, gb⟩, hp⟩ := hI i h1 hi0
    by_cases c1 : ((i : Nat) : Int) < (D.length : Nat)
    · have hlt : i < D.length := by omega
      simp (maxSteps := 1000000) -dsimp (disch := (repeat first | rw [nxn] | rw [nxp]); try omega) only [go_sem, g0, g1, g9, g10, gb, c1]
      refine callK_of (has12 hS hp) ?_
      rintro r h2 ⟨rfl, hf2⟩
      have hi2 := hm _ _ _ hi0 hf2
      obtain ⟨⟨o3, t3, gb3⟩, hp3⟩ := hI i h2 hi2
      by_cases c2 : (B i).isSome = true
      · simp (maxSteps := 1000000) -dsimp (disch := (repeat first | rw [nxn] | rw [nxp]); try omega) only [go_sem, g0, g1, g9, g10, gb3, c2]
        refine ⟨D.length - (i + 1), by omega, trivial, trivial, trivial, trivial, i + 1, skip i h2 hlt hi2 c2, ?_, by omega, rfl⟩
        rw [show ((i : Nat) : Int) + 1 = ((i + 1 : Nat) : Int) from by omega]
      · have c2' : (B i).isSome = false := by simpa using c2
        simp (maxSteps := 1000000) -dsimp (disch := (repeat first | rw [nxn] | rw [nxp]); try omega) only [go_sem, g0, g1, g9, g10, gb3, c2']
        refine yldK_of (step i h2 hlt hi2 c2') ?_
        rintro r h3 (⟨rfl, hi3⟩ | ⟨rfl, hj3⟩)
        · simp (maxSteps := 1000000) -dsimp (disch := (repeat first | rw [nxn] | rw [nxp]); try omega) only [go_sem, g0, g1, g9, g10]
          refine ⟨D.length - (i + 1), by omega, trivial, trivial, trivial, trivial, i + 1, hi3, ?_, by omega, rfl⟩
          rw [show ((i : Nat) : Int) + 1 = ((i + 1 : Nat) : Int) from by omega]
        · simp (maxSteps := 1000000) -dsimp (disch := (repeat first | rw [nxn] | rw [nxp]); try omega) only [go_sem, g0, g1, g9, g10]
          exact ⟨.inr ⟨trivial, hj3⟩, trivial⟩
    · obtain rfl : i = D.length := by omega
      simp (maxSteps := 1000000) -dsimp (disch := (repeat first | rw [nxn] | rw [nxp]); try omega) only [go_sem, g0, g1, g9, g10, gb, c1]
      exact ⟨.inl ⟨trivial, hi0⟩, trivial⟩
  · simp (maxSteps := 1000000) -dsimp (disch := (repeat first | rw [nxn] | rw [nxp]); try omega) only [go_sem]
    exact ⟨trivial, trivial, trivial, trivial, 0, h0, rfl, Nat.zero_le _, rfl⟩
  · rintro ex ⟨t, h1, d⟩ ⟨⟨rfl, hi⟩ | ⟨rfl, hj⟩, rfl⟩
    · simp (maxSteps := 1000000) -dsimp (disch := (repeat first | rw [nxn] | rw [nxp]); try omega) only [go_sem]
      exact .inl hi
    · simp (maxSteps := 1000000) -dsimp (disch := (repeat first | rw [nxn] | rw [nxp]); try omega) only [go_sem]
      exact .inr hj
end
end Go.Proofs.YtfhcnoancepgcaaGreatDoor.dig
