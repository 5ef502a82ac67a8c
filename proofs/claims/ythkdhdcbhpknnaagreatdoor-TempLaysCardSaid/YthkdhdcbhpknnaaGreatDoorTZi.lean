/- The document's tree: Sync. Conditions: those of its summaries. -/
import Derived.Test.YthkdhdcbhpknnaaGreatDoorTZh
namespace Go.Proofs.YthkdhdcbhpknnaaGreatDoor.tre
open Go Go.Abs Go.Abs.Wal Go.Proofs
set_option maxRecDepth 100000
set_option linter.unusedVariables false
set_option linter.unusedSimpArgs false
/-- A file is written. -/
theorem Rt.file {K K' : Nat → Nat} {p : Nat} {lv sv nv : AV} {ρ : Nat → Nat} {h h' : AH} {R : TT} (hT : Rt K p lv sv nv ρ h R) {i : Nat} (hi : i < R.files.length) {f : Fil} (hk : ∀ j, K j ≠ 0 → K' j = K j ∧ (j ≠ ρ i → h'.get j = h.get j)) (hf : FilA K' h' (ρ i) f) (hn : h.nx ≤ h'.nx) (top : ∀ j, h'.nx ≤ j → K' j = 0) : Rt K' p lv sv nv ρ h' { R with files := R.files.set i f } := by
 have kf : ∀ i, i < R.files.length → K (ρ i) = 4 := fun i hi => by obtain ⟨_, _, _, _, _, q⟩ := hT.fl i hi; exact q
 have ne : ∀ j, K j ≠ 0 → K j ≠ 4 → h'.get j = h.get j := fun j h0 h4 => (hk j h0).2 fun hh => h4 (by rw [hh]; exact kf i hi)
 have k5 : ∀ j, K j = 5 → K' j = 5 ∧ h'.get j = h.get j := fun j hj => ⟨(hk j (by omega)).1.trans hj, ne j (by omega) (by omega)⟩
 have k6 : ∀ j, K j = 6 → K' j = 6 ∧ h'.get j = h.get j := fun j hj => ⟨(hk j (by omega)).1.trans hj, ne j (by omega) (by omega)⟩
 have hp : K p = 1 := hT.kp
 refine ⟨(ne p (by omega) (by omega)).trans hT.pp, hT.now.mono k5 hn, hT.safe.mono k5 hn, hT.nts.mono k6 hn, fun j hj => ?_, fun a b ha hb => hT.inj a b (by simpa using ha) (by simpa using hb), (hk p (by omega)).1.trans hp, top⟩
 have hjl : j < R.files.length := by simpa using hj
 by_cases hji : j = i
 ·subst hji
  have e : ({ R with files := R.files.set j f } : TT).fil j = f := by unfold TT.fil; simp [hjl]
  rw [e]; exact hf
 ·have e : ({ R with files := R.files.set i f } : TT).fil j = R.fil j := by unfold TT.fil; simp [List.getElem?_set_ne (Ne.symm hji)]
  rw [e]
  exact (hT.fl j hjl).mono k5 ⟨(hk _ (by rw [kf j hjl]; decide)).1.trans (kf j hjl), (hk _ (by rw [kf j hjl]; decide)).2 fun hh => hji (hT.inj _ _ hjl hi hh)⟩ hn
section
variable {S : Sums}
set_option maxHeartbeats 16000000 in
theorem syncD (hS : Dt S) {K p lv sv nv ρ h R} (hT : Rt K p lv sv nv ρ h R) (hw : Wf R) (hm : Sm R) (s : Pth) :
  RnC Tryz.prog S 78 [.ptr p 0, .str s] h fun r h' => r = .int .i64 ((syncT R (okP s) s).1 : Nat) ∧ ResD K p h h' (syncT R (okP s) s).2 := by
 refine RnC.enter' Tryz.f78 _ 31 [.tmp 4] (hS.nd _ _ _ (by simp)) bd78 Tryz.func78 rfl rfl rfl ?_
 have hpl : p < h.nx := hT.lt (by rw [hT.kp]; decide)
 have f1 : Fr h (h.new (.cells [.str s] true false)) := Fr.new _ _
 simp (maxSteps := 1000000) -dsimp (disch := (repeat first | rw [nxn] | rw [nxp]); try omega) only [go_sem]
 refine callK_of (opD hS (hT.fr f1) hw (l := [s]) (avOne s (AH.get_new_eq rfl) (Nat.lt_succ_self _)) (by simp)) ?_
 have eall : [s].all okP = okP s := by simp
 rw [eall]
 rintro r h2 ⟨rfl, hT2, hn2, ho2⟩
 have gr2 : Gr K h K h2 := (frGr f1 K).trans ((hT.fr f1).grp hn2 ho2)
 unfold syncT
 dsimp only
 have e1 := opT_eq R (okP s)
 have hw2 := hw.op (okP s)
 have hnl : (opT R (okP s)).2.now.length ≤ 16384 := by rw [e1.2.1]; exact hm.now
 by_cases c1 : (((opT R (okP s)).1 : Nat) : Int) = 0
 ·have c1n : ¬ ((opT R (okP s)).1 ≠ 0) := by omega
  rw [if_neg c1n]
  clear e1
  generalize (opT R (okP s)).2 = R2 at hT2 hw2 hnl ⊢
  have hp2 := hT2.pp
  have ov := hT2.now.ez.one.2
  simp (maxSteps := 1000000) -dsimp (disch := (repeat first | rw [nxn] | rw [nxp]); try omega) only [go_sem, c1, hp2, ov]
  refine callK_of (findC hS hT2.now.ez hnl s) ?_
  rintro r h3 ⟨rfl, rfl⟩
  cases hv : valS R2.now s with
  | none =>
   simp (maxSteps := 1000000) -dsimp (disch := (repeat first | rw [nxn] | rw [nxp]); try omega) only [go_sem, nilPd]
   exact ⟨by first | trivial | rfl, K, lv, sv, nv, ρ, hT2, gr2⟩
  | some i =>
   have hi : i < R2.files.length := (hw2.now.2 s i hv).1
   obtain ⟨bv, sv', q1, q2, q3, q4⟩ := hT2.fl i hi
   have fo := fil_ok hw2 i
   have hri : ρ i < h3.nx := hT2.lt (by rw [q4]; decide)
   have ob := (bsLn q2.bs).2.2
   obtain ⟨v2, h4, ha, hf, hb2⟩ := Bo.app (h0 := h3) (h := h3.new (.cells [] true true)) (v := .sl h3.nx 0 0 1 (some 0)) (l := []) Tryz.underlying22 ai5 ⟨h3.nx, some 0, [], true, rfl, AH.get_new_eq rfl, Nat.lt_succ_self _, Nat.le_refl _, rfl, Nat.le_refl _, .inr rfl⟩ (q2.bs.fr (Fr.new _ _)) (Fr.new _ _) (by have := fo.2.2.1; simp; omega)
   have q14 := (hf.get _ hri).trans q1
   have hbn : Bn h3.nx h4 v2 (R2.fil i).b := .inr (by simpa using hb2)
   have hb3 := hbn
   rcases hb3.shape with rfl | ⟨a, n, c, rfl⟩
   ·rcases hb2 with ⟨id, c, cs, tx, h9, _⟩
    cases h9
   simp (maxSteps := 1000000) -dsimp (disch := (repeat first | rw [nxn] | rw [nxp]); try omega) only [go_sem, nilQd, q1, ob, ha, q14]
   have hfn := hf.nx
   have kc : ∀ j, K j ≠ 0 → ¬ (h3.nx ≤ j ∧ j < h4.nx) := fun j hj hh => by have := hT2.lt hj; omega
   have ge : ∀ (o : AO) j, j < h3.nx → j ≠ ρ i → (h4.put (ρ i) o).get j = h3.get j := fun o j hj hjp => (AH.get_put_ne hjp).trans (hf.get j hj)
   refine ⟨trivial, fun j => if h3.nx ≤ j ∧ j < h4.nx then 5 else K j, lv, sv, nv, ρ, hT2.file hi (fun j hj => ⟨if_neg (kc j hj), fun hjr => ge _ j (hT2.lt hj) hjr⟩) ⟨bv, _, AH.get_put_eq rfl, ?_, ?_, ?_⟩ hfn (fun j hj => ?_), gr2.trans ⟨hfn, fun j hj hk => ⟨ge _ j hj (fun hh => by rw [hh, q4] at hk; cases hk), ?_⟩⟩⟩
   ·refine q2.mono (fun j hj => ⟨by show (if h3.nx ≤ j ∧ j < h4.nx then 5 else K j) = 5; rw [if_neg (kc j (by omega))]; exact hj, ge _ j (hT2.lt (by omega)) (fun hh => by rw [hh, q4] at hj; cases hj)⟩) hfn
   ·have e7 := hbn.by (K := fun j => if h3.nx ≤ j ∧ j < h4.nx then 5 else K j) (fun j hj hjl => if_pos ⟨hj, hjl⟩)
    refine e7.mono (fun j hj => ⟨hj, AH.get_put_ne (fun hh => ?_)⟩) (Nat.le_refl _)
    have hj' : (if h3.nx ≤ j ∧ j < h4.nx then 5 else K j) = 5 := hj
    rw [hh, if_neg (by omega), q4] at hj'
    cases hj'
   ·show (if h3.nx ≤ ρ i ∧ ρ i < h4.nx then 5 else K (ρ i)) = 4
    rw [if_neg (by omega)]; exact q4
   ·have hj' : h4.nx ≤ j := hj
    show (if h3.nx ≤ j ∧ j < h4.nx then 5 else K j) = 0
    rw [if_neg (by omega)]; exact hT2.top j (by omega)
   ·show (if h3.nx ≤ j ∧ j < h4.nx then 5 else K j) = 0
    rw [if_neg (by omega)]; exact hk
 ·have c1n : (opT R (okP s)).1 ≠ 0 := by omega
  rw [if_pos c1n]
  simp (maxSteps := 1000000) -dsimp (disch := (repeat first | rw [nxn] | rw [nxp]); try omega) only [go_sem, c1]
  exact ⟨by first | trivial | rfl, K, lv, sv, nv, ρ, hT2, gr2⟩
end
end Go.Proofs.YthkdhdcbhpknnaaGreatDoor.tre
