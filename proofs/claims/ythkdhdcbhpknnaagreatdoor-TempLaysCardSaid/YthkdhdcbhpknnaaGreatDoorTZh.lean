/- The document's tree: SyncPaths. Conditions: those of its summaries. -/
import Derived.Test.YthkdhdcbhpknnaaGreatDoorTZg
namespace Go.Proofs.YthkdhdcbhpknnaaGreatDoor.tre
open Go Go.Abs Go.Abs.Wal Go.Proofs
set_option maxRecDepth 100000
set_option linter.unusedVariables false
set_option linter.unusedSimpArgs false
theorem ezFirst {z n0 n : Nat} {h : AH} {v : AV} {l : List AV} (hb : Ez z n0 h v l) (hl : l.length = n * z) (hz : 0 < z) : lenA v = some n ∧ firstA h z n v = some l := by
 rcases hb with ⟨rfl, rfl⟩ | ⟨id, m, c, tx, rfl, h2, h3, h4, h5, h6, h7⟩
 ·have : n = 0 := by
   rcases Nat.mul_eq_zero.1 hl.symm with h | h
   ·exact h
   ·omega
  subst this
  exact ⟨rfl, rfl⟩
 ·have : m = n := Nat.eq_of_mul_eq_mul_right hz (h5.symm.trans hl)
  subst this
  exact ⟨rfl, by rw [firstA_sl h2 (Nat.le_refl _) (by omega), List.drop_zero, ← h5, List.take_length]⟩
section
variable {S : Sums}
set_option maxHeartbeats 8000000 in
theorem syncPD (hS : Dt S) {K p lv sv nv ρ h R} (hT : Rt K p lv sv nv ρ h R) (hw : Wf R) (hm : Sm R) :
  RnC Tryz.prog S 79 [.ptr p 0] h fun r h' => r = .int .i64 ((syncPL R).1 : Nat) ∧ ResD K p h h' (syncPL R).2 := by
 refine RnC.enter' Tryz.f79 _ 21 [.tmp 2] (hS.nd _ _ _ (by simp)) bd79 Tryz.func79 rfl rfl rfl ?_
 have hpl : p < h.nx := hT.lt (by rw [hT.kp]; decide)
 simp (maxSteps := 1000000) -dsimp (disch := (repeat first | rw [nxn] | rw [nxp]); try omega) only [go_sem]
 refine callK_of (opD hS hT hw (l := []) (.inl ⟨rfl, rfl⟩) (by simp)) ?_
 have eall : ([] : List Pth).all okP = true := rfl
 rw [eall]
 rintro r h2 ⟨rfl, hT2, hn2, ho2⟩
 have gr2 : Gr K h K h2 := hT.grp hn2 ho2
 unfold syncPL
 dsimp only
 have e1 := opT_eq R true
 have hnl : (opT R true).2.now.length ≤ 16384 := by rw [e1.2.1]; exact hm.now
 by_cases c1 : (((opT R true).1 : Nat) : Int) = 0
 ·have c1n : ¬ ((opT R true).1 ≠ 0) := by omega
  rw [if_neg c1n]
  clear e1
  generalize (opT R true).2 = R2 at hT2 hnl ⊢
  have hp2 := hT2.pp
  have ov := hT2.now.ez.one.2
  have hpx : p < h2.nx := hT2.lt (by rw [hT2.kp]; decide)
  obtain ⟨q1, q2⟩ := ezFirst (hT2.now.ez.fr (Fr.new h2 (.cells [] true true))) (entC_len ρ R2.now) (by decide)
  have all1 : (entC ρ R2.now).all oneA = true := flat2_one (fun _ => rfl) (fun _ => rfl) _
  obtain ⟨v', h', ha, hf', hz', ov', hn', hk', _⟩ := Ez.app (P := Tryz.prog) (z := 2) (h0 := h2) (h := h2.new (.cells [] true true)) (v := .sl h2.nx 0 0 2 (some 0)) (l := []) (x := lv) (k := R2.now.length) (m := entC ρ R2.now) Tryz.underlying121 Tryz.underlying121 rfl aiE (by decide) (by decide) (.inr ⟨h2.nx, 0, some 0, true, rfl, AH.get_new_eq rfl, Nat.lt_succ_self _, Nat.le_refl _, rfl, .inr rfl, .inr ⟨rfl, rfl⟩⟩) q1 q2 (entC_len ρ R2.now) all1 (Fr.new _ _) (by rw [entC_len]; simp; omega)
  rw [List.nil_append] at hz'
  have hp' := (hf'.get p hpx).trans hp2
  have n2 : (h2.new (.cells [] true true)).nx = h2.nx + 1 := rfl
  have hn2' : h2.nx + 1 ≤ h'.nx := hn'
  have fin : ∀ hh : AH, hh.nx = h'.nx → (∀ j, j ≠ p → hh.get j = h'.get j) → hh.get p = some (.cells [.int .i64 R2.room, lv, v', .nilsl, .int .u64 (R2.clock : Nat), .bool R2.off, .int .i64 R2.fuse] true false) → ResD K p h hh { R2 with safe := R2.now, notes := [] } := fun hh hhn hho hhp => by
   have kc : ∀ j, K j ≠ 0 → ¬ (h2.nx ≤ j ∧ j < h'.nx) := fun j hj hh => by have := hT2.lt hj; omega
   have ge : ∀ j, j < h2.nx → j ≠ p → hh.get j = h2.get j := fun j hj hjp => (hho j hjp).trans (hf'.get j hj)
   have k5 : ∀ j, K j = 5 → (if h2.nx ≤ j ∧ j < h'.nx then 5 else K j) = 5 ∧ hh.get j = h2.get j := fun j hj =>
    ⟨by rw [if_neg (kc j (by omega))]; exact hj, ge j (hT2.lt (by omega)) (fun h9 => by rw [h9, hT2.kp] at hj; omega)⟩
   refine ⟨fun j => if h2.nx ≤ j ∧ j < h'.nx then 5 else K j, lv, v', .nilsl, ρ, hT2.setL (fun j hj => ?_) (by omega) rfl ?_ (fun j hj => ?_) hhp (hT2.now.mono k5 (by omega)) ?_ (.inl ⟨rfl, rfl⟩), gr2.trans ⟨by omega, fun j hj hk => ⟨ge j hj (fun h9 => by rw [h9, hT2.kp] at hk; omega), ?_⟩⟩⟩
   ·refine ⟨if_neg (kc j (by omega)), ge j (hT2.lt (by omega)) (fun h9 => by rw [h9, hT2.kp] at hj; omega)⟩
   ·show (if h2.nx ≤ p ∧ p < h'.nx then 5 else K p) = 1
    rw [if_neg (by omega)]; exact hT2.kp
   ·show (if h2.nx ≤ j ∧ j < h'.nx then 5 else K j) = 0
    rw [if_neg (by omega)]; exact hT2.top j (by omega)
   ·have e7 := Ez.en (K := fun j => if h2.nx ≤ j ∧ j < h'.nx then 5 else K j) hz' (fun j hj hjl => if_pos ⟨hj, hjl⟩)
    refine e7.mono (fun j hj => ⟨hj, hho j (fun h9 => ?_)⟩) (by omega)
    have hj' : (if h2.nx ≤ j ∧ j < h'.nx then 5 else K j) = 5 := hj
    rw [h9, if_neg (by omega), hT2.kp] at hj'
    cases hj'
   ·show (if h2.nx ≤ j ∧ j < h'.nx then 5 else K j) = 0
    rw [if_neg (by omega)]; exact hk
  have shp : v' = .nilsl ∨ ∃ id n c, v' = .sl id 0 n 2 c := by
   rcases hz' with ⟨h9, _⟩ | ⟨id, n, c, tx, h9, _⟩
   ·exact .inl h9
   ·exact .inr ⟨id, n, c, h9⟩
  rcases shp with rfl | ⟨rid, rn, rc, rfl⟩
  ·simp (maxSteps := 1000000) -dsimp (disch := (repeat first | rw [nxn] | rw [nxp]); try omega) only [go_sem, c1, hp2, ov, ha, hp']
   exact ⟨trivial, fin _ rfl (fun j hj => (AH.get_put_ne hj).trans (AH.get_put_ne hj)) (AH.get_put_eq rfl)⟩
  ·simp (maxSteps := 1000000) -dsimp (disch := (repeat first | rw [nxn] | rw [nxp]); try omega) only [go_sem, c1, hp2, ov, ha, hp']
   exact ⟨trivial, fin _ rfl (fun j hj => (AH.get_put_ne hj).trans (AH.get_put_ne hj)) (AH.get_put_eq rfl)⟩
 ·have c1n : (opT R true).1 ≠ 0 := by omega
  rw [if_pos c1n]
  simp (maxSteps := 1000000) -dsimp (disch := (repeat first | rw [nxn] | rw [nxp]); try omega) only [go_sem, c1]
  exact ⟨by first | trivial | rfl, K, lv, sv, nv, ρ, hT2, gr2⟩
end
end Go.Proofs.YthkdhdcbhpknnaaGreatDoor.tre
