/- The document's tree: Paths. Conditions: those of its summaries. -/
import Derived.Test.YthkdhdcbhpknnaaGreatDoorTZi
namespace Go.Proofs.YthkdhdcbhpknnaaGreatDoor.tre
open Go Go.Abs Go.Abs.Wal Go.Proofs
set_option maxRecDepth 100000
set_option linter.unusedVariables false
set_option linter.unusedSimpArgs false
section
variable {S : Sums}
set_option maxHeartbeats 8000000 in
theorem pathsD (hS : Dt S) {K p lv sv nv ρ h R} (hT : Rt K p lv sv nv ρ h R) (hm : R.now.length ≤ 16384) (w : Pth) : RnC Tryz.prog S 36 [.ptr p 0, .str w] h fun r h' => Ss h.nx h' r ((R.now.map (·.1)).filter fun a => preS a w) ∧ Fr h h' := by
 refine RnC.enter' Tryz.f36 _ 43 [.tmp 4] (hS.nd _ _ _ (by simp)) bd36 Tryz.func36 rfl rfl rfl ?_
 have ls : ∀ g s, evLen Tryz.prog g #[9] (.str s) = some (.int .i64 ((s.length : Nat) : Int)) := fun g s => by simp [evLen, Tryz.underlying9]
 have a9 : appI Tryz.prog 9 = some (1, 16) := by kernel_rfl
 have hz := hT.now.ez
 have ov := hz.one.2
 have lvl := hz.len (n := R.now.length) Tryz.underlying121 (by decide) (entC_len ρ _)
 have hpl : p < h.nx := hT.lt (by rw [hT.kp]; decide)
 simp (maxSteps := 1000000) -dsimp (disch := (repeat first | rw [nxn] | rw [nxp]); try omega) only [go_sem]
 refine loopK_of (RnL.rounds (Q := fun ex u => ex = .exit 0 ∧ u.d = [] ∧ Fr h u.h ∧ ∃ v, u.t.get 5 = some v ∧ Ss h.nx u.h v ((R.now.map (·.1)).filter fun a => preS a w))
  (fun m u => u.d = [] ∧ Fr h u.h ∧ u.t.get 0 = some (.ptr p 0) ∧ u.t.get 1 = some (.str w) ∧ ∃ (i : Nat) (v : AV), u.t.get 6 = some (.int .i64 (i : Nat)) ∧ u.t.get 5 = some v ∧ Ss h.nx u.h v (((R.now.map (·.1)).take i).filter fun a => preS a w) ∧ i ≤ R.now.length ∧ m = R.now.length - i) ?_ R.now.length ?_) ?_
 ·rintro m ⟨t, g, d⟩ ⟨e2, e1, g0, g1, i, v, g6, g5, hs, hi, rfl⟩
  dsimp only at e1 e2 g0 g1 g6 g5 hs
  subst e2
  have hpg := (e1.get p hpl).trans hT.pp
  by_cases c4 : (i : Int) < (R.now.length : Nat)
  ·have hil : i < R.now.length := by omega
   obtain ⟨e, he⟩ : ∃ e, R.now[i]? = some e := ⟨_, List.getElem?_eq_getElem hil⟩
   have hme : (R.now.map (·.1))[i]? = some e.1 := by simp [he]
   obtain ⟨id, c, rfl, hg, hid, _⟩ := hz.at (n := R.now.length) (i := i) (entC_len ρ _) hil (by decide)
   obtain ⟨x1, _, _⟩ := flat2_get (fun e : Pth × Nat => AV.str e.1) (fun e => AV.ptr (ρ e.2) 0) he
   change (entC ρ R.now)[i * 2]? = _ at x1
   have hgg := (e1.get id hid).trans hg
   have hft := filt_take (f := fun a => preS a w) hme
   have hsl : (((R.now.map (·.1)).take i).filter fun a => preS a w).length ≤ i := Nat.le_trans (List.length_filter_le _ _) (by rw [List.length_take]; exact Nat.min_le_left _ _)
   have ovv := hs.cs.one.1
   by_cases c6 : ((w.length : Nat) : Int) ≤ ((e.1.length : Nat) : Int)
   ·have hle : w.length ≤ e.1.length := by omega
    have hto := slSto (t := 9) (k := .i64) Tryz.underlying9 g (s := e.1) (m := w.length) hle
    by_cases hp : e.1.take w.length = w
    ·have hpd : decide (e.1.take w.length = w) = true := by simpa using hp
     have hpr : preS e.1 w = true := by simp [preS, hp]
     rw [hpr, if_pos rfl] at hft
     have nid : ∀ id' off n sz c', v = .sl id' off n sz c' → id' ≠ g.nx := fun id' off n sz c' hv => by
      rcases hs with ⟨h1, _⟩ | ⟨id2, h1, _, h3, _⟩
      ·rw [hv] at h1; cases h1
      ·rw [hv] at h1; cases h1; omega
     obtain ⟨v', h', ha, hf', hs', ov'⟩ := Ss.app (P := Tryz.prog) (h0 := h) (h := g.new (.cells [.str e.1] true false)) (id1 := g.nx) (c := some 1) (o := true) (t := false) (p := e.1) Tryz.underlying55 a9 (by decide) (hs.fr (Fr.new _ _)) (e1.news _) (by omega) (AH.get_new_eq rfl) (Nat.lt_succ_self _) nid
     simp (maxSteps := 1000000) -dsimp (disch := (repeat first | rw [nxn] | rw [nxp]); try omega) only [go_sem, ls, lvl, c4, hil, hpg, hgg, x1, g0, g1, g5, g6, c6, hto, eqSt, hpd, ovv, ha, ov']
     exact ⟨R.now.length - (i + 1), by omega, trivial, hf', trivial, trivial, i + 1, v', rfl, rfl, by rw [hft]; exact hs', by omega, rfl⟩
    ·have hpd : decide (e.1.take w.length = w) = false := by simpa using hp
     have hpr : preS e.1 w = false := by simp [preS, hp]
     rw [hpr] at hft
     simp only [Bool.false_eq_true, if_false, List.append_nil] at hft
     simp (maxSteps := 1000000) -dsimp (disch := (repeat first | rw [nxn] | rw [nxp]); try omega) only [go_sem, ls, lvl, c4, hil, hpg, hgg, x1, g0, g1, g5, g6, c6, hto, eqSt, hpd]
     exact ⟨R.now.length - (i + 1), by omega, trivial, e1, trivial, trivial, i + 1, v, rfl, rfl, by rw [hft]; exact hs, by omega, rfl⟩
   ·have hpr : preS e.1 w = false := by
     have : ¬ e.1.take w.length = w := fun hh => by
      have := congrArg List.length hh
      rw [List.length_take] at this
      omega
     simp [preS, this]
    rw [hpr] at hft
    simp only [Bool.false_eq_true, if_false, List.append_nil] at hft
    simp (maxSteps := 1000000) -dsimp (disch := (repeat first | rw [nxn] | rw [nxp]); try omega) only [go_sem, ls, lvl, c4, hil, hpg, hgg, x1, g0, g1, g5, g6, c6]
    exact ⟨R.now.length - (i + 1), by omega, trivial, e1, trivial, trivial, i + 1, v, rfl, rfl, by rw [hft]; exact hs, by omega, rfl⟩
  ·have : i = R.now.length := by omega
   subst this
   rw [show R.now.length = (R.now.map (·.1)).length by simp, List.take_length] at hs
   simp (maxSteps := 1000000) -dsimp (disch := (repeat first | rw [nxn] | rw [nxp]); try omega) only [go_sem, lvl, c4, hpg, ov, g0, g1, g5, g6]
   exact ⟨trivial, trivial, e1, v, rfl, hs⟩
 ·simp (maxSteps := 1000000) -dsimp (disch := (repeat first | rw [nxn] | rw [nxp]); try omega) only [go_sem]
  exact ⟨trivial, Fr.refl _, trivial, trivial, 0, .nilsl, rfl, rfl, .inl ⟨rfl, rfl⟩, Nat.zero_le _, rfl⟩
 ·rintro ex ⟨t, g, d⟩ ⟨rfl, rfl, e1, v, g5, hs⟩
  dsimp only at e1 g5 hs
  have ovv := hs.cs.one.1
  simp (maxSteps := 1000000) -dsimp (disch := (repeat first | rw [nxn] | rw [nxp]); try omega) only [go_sem, g5, ovv]
  exact ⟨hs, e1⟩
end
end Go.Proofs.YthkdhdcbhpknnaaGreatDoor.tre
