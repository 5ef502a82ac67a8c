/- The program's tree: the other operations. Conditions: those of its summaries. -/
import Derived.Test.YthkdhdcbhpknnaaGreatDoorTCf
namespace Go.Proofs.YthkdhdcbhpknnaaGreatDoor.tre
open Go Go.Abs Go.Proofs
set_option maxRecDepth 100000
set_option linter.unusedVariables false
set_option linter.unusedSimpArgs false

theorem Tr.recolor {K K' : Nat → Nat} {p nm sm chv ρ h T} (hT : Tr K p nm sm chv ρ h T) (hk : ∀ j, K j ≠ 0 → K' j = K j) (top : ∀ j, h.nx ≤ j → K' j = 0) : Tr K' p nm sm chv ρ h T := by
 have ne : ∀ {j n}, K j = n → n ≠ 0 → K' j = n := fun {j n} hj h0 => (hk j (by omega)).trans hj
 have k5 : ∀ j, K j = 5 → K' j = 5 ∧ h.get j = h.get j := fun j hj => ⟨ne hj (by omega), rfl⟩
 have k6 : ∀ j, K j = 6 → K' j = 6 ∧ h.get j = h.get j := fun j hj => ⟨ne hj (by omega), rfl⟩
 obtain ⟨h1, h2, h3, h4, h5, h6, h7, h8, h9, h10, w⟩ := hT
 refine ⟨h1, h2, h3, h4.mono (n := T.files.length) k5 k6 (Nat.le_refl _) (fun _ _ => rfl) w.notes, fun i hi => ?_, h6, ne h7 (by omega), ne h8 (by omega), ne h9 (by omega), top, w⟩
 obtain ⟨bv, sv, q1, q2, q3, q4⟩ := h5 i hi
 exact ⟨bv, sv, q1, q2.mono k5 (Nat.le_refl _), q3.mono k5 (Nat.le_refl _), ne q4 (by omega)⟩
section
variable {S : Sums}
set_option maxHeartbeats 8000000 in
theorem syncC (hS : St S) {K p nm sm chv ρ h T} (hT : Tr K p nm sm chv ρ h T) (s : Pth) :
  RnC Tryz.prog S 59 [.ptr p 0, .str s] h fun r h' => r = .int .i64 ((syncT T (okP s) s).1 : Nat) ∧ Res K p h h' (syncT T (okP s) s).2 := by
 refine RnC.enter' Tryz.f59 _ 30 [.tmp 4] (hS.nt _ _ _ (by simp)) bd59 Tryz.func59 rfl rfl rfl ?_
 have hpl : p < h.nx := hT.lt (by rw [hT.kp]; decide)
 simp (maxSteps := 1000000) -dsimp (disch := (repeat first | rw [nxn] | rw [nxp]); try omega) only [go_sem, evLen]
 refine callK_of (opC hS (hT.fr (Fr.new h (.cells [.str s] true false))) (l := [s]) (avOne s (AH.get_new_eq rfl) (Nat.lt_succ_self _)) (by simp)) ?_
 have eall : [s].all okP = okP s := by simp
 rw [eall]
 rintro r h2 ⟨rfl, hT2, hn2, ho2⟩
 have hn2' : h.nx + 1 ≤ h2.nx := hn2
 have ho2' : ∀ j, j < h.nx → j ≠ p → h2.get j = h.get j := fun j hj hjp => (ho2 j (by simp; omega) hjp).trans (AH.get_new_ne (by omega))
 have gr2 : Gr K h K h2 := ⟨by omega, fun j hj hk => ⟨ho2' j hj (fun hh => by rw [hh, hT.kp] at hk; cases hk), hk⟩⟩
 have w2 := Wf.sync hT.wf (okP s) s
 unfold syncT at w2 ⊢
 dsimp only at w2 ⊢
 by_cases c1 : (((opT T (okP s)).1 : Nat) : Int) = 0
 ·have c1n : ¬ ((opT T (okP s)).1 ≠ 0) := by omega
  rw [if_neg c1n] at w2 ⊢
  have hp2 := hT2.pp
  have lk := lookN hT2.now s
  cases hvs : valS (opT T (okP s)).2.now s with
  | none =>
   rw [hvs] at lk
   simp (maxSteps := 1000000) -dsimp (disch := (repeat first | rw [nxn] | rw [nxp]); try omega) only [go_sem, evLen, c1, hp2, lk, nilP]
   exact ⟨trivial, K, nm, sm, chv, ρ, hT2, gr2⟩
  | some i =>
   rw [hvs] at lk w2
   dsimp only at w2 ⊢
   have hi : i < (opT T (okP s)).2.files.length := (hT2.wf.now.2 s i hvs).1
   obtain ⟨bv, sv, q1, q2, q3, q4⟩ := hT2.fl i hi
   have fo := fil_ok hT2.wf i
   simp (maxSteps := 1000000) -dsimp (disch := (repeat first | rw [nxn] | rw [nxp]); try omega) only [go_sem, evLen, c1, hp2, lk, nilQ, q1]
   refine callK_of (cloneC hS q2.bs (by have := fo.2.2.1; omega)) ?_
   rintro r h3 ⟨hbn, hf3⟩
   have hT3 := hT2.fr hf3
   have hri : ρ i < h2.nx := hT2.lt (by omega)
   have q1' : h3.get (ρ i) = _ := (hf3.get _ hri).trans q1
   rcases hbn.shape with rfl | ⟨ra, rn, rc, rfl⟩
   all_goals
    simp (maxSteps := 1000000) -dsimp (disch := (repeat first | rw [nxn] | rw [nxp]); try omega) only [go_sem, q1']
    refine ⟨trivial, fun j => if h2.nx ≤ j ∧ j < h3.nx then 5 else K j, nm, sm, chv, ρ, hT3.file (i := i) (f := ⟨((opT T (okP s)).2.fil i).b, ((opT T (okP s)).2.fil i).b, ((opT T (okP s)).2.fil i).st⟩) hi (fun j hj => ?_) ⟨bv, _, AH.get_put_eq rfl, q2.mono (fun j hj => ⟨?_, ?_⟩) hf3.nx, (hbn.by (n0 := h2.nx) (K := fun j => if h2.nx ≤ j ∧ j < h3.nx then 5 else K j) (fun j h1 h2 => if_pos ⟨h1, h2⟩)).mono (fun j hj => ⟨hj, ?_⟩) (Nat.le_refl _), ?_⟩ (Nat.le_refl _) (fun j hj => ?_) w2, ?_, fun j hj hk => ⟨?_, ?_⟩⟩
    ·have := hT2.lt hj
     exact ⟨if_neg (by omega), fun hji => AH.get_put_ne hji⟩
    ·have hjl := hT2.lt (j := j) (by omega)
     exact (if_neg (by omega)).trans hj
    ·have hjl := hT2.lt (j := j) (by omega)
     exact (AH.get_put_ne (fun h9 => by rw [h9, q4] at hj; cases hj)).trans (hf3.get j hjl)
    ·try dsimp only at hj
     by_cases hh : h2.nx ≤ j ∧ j < h3.nx
     ·exact AH.get_put_ne (by omega)
     ·rw [if_neg hh] at hj
      exact AH.get_put_ne (fun h9 => by rw [h9, q4] at hj; cases hj)
    ·exact (if_neg (by omega)).trans q4
    ·have : h3.nx ≤ j := hj
     show (if h2.nx ≤ j ∧ j < h3.nx then 5 else K j) = 0
     rw [if_neg (by omega)]
     exact hT2.top j (by have := hf3.nx; omega)
    ·show h.nx ≤ h3.nx
     have := hf3.nx
     omega
    ·exact (AH.get_put_ne (fun h9 => by rw [h9, q4] at hk; cases hk)).trans ((hf3.get j (by omega)).trans (gr2.get j hj hk).1)
    ·show (if h2.nx ≤ j ∧ j < h3.nx then 5 else K j) = 0
     rw [if_neg (by omega)]
     exact hk
 ·have c1n : (opT T (okP s)).1 ≠ 0 := by omega
  rw [if_pos c1n]
  simp (maxSteps := 1000000) -dsimp (disch := (repeat first | rw [nxn] | rw [nxp]); try omega) only [go_sem, evLen, c1]
  exact ⟨trivial, K, nm, sm, chv, ρ, hT2, gr2⟩
set_option maxHeartbeats 8000000 in
theorem syncPC (hS : St S) {K p nm sm chv ρ h T} (hT : Tr K p nm sm chv ρ h T) (hm : Sm T) :
  RnC Tryz.prog S 61 [.ptr p 0] h fun r h' => r = .int .i64 ((syncPT T).1 : Nat) ∧ Res K p h h' (syncPT T).2 := by
 refine RnC.enter' Tryz.f61 _ 16 [.tmp 2] (hS.nt _ _ _ (by simp)) bd61 Tryz.func61 rfl rfl rfl ?_
 have hpl : p < h.nx := hT.lt (by rw [hT.kp]; decide)
 simp (maxSteps := 1000000) -dsimp (disch := (repeat first | rw [nxn] | rw [nxp]); try omega) only [go_sem, evLen]
 refine callK_of (opC hS hT (l := []) (.inl ⟨rfl, rfl⟩) (by simp)) ?_
 have eall : ([] : List Pth).all okP = true := rfl
 rw [eall]
 rintro r h2 ⟨rfl, hT2, hn2, ho2⟩
 have gr2 : Gr K h K h2 := ⟨by omega, fun j hj hk => ⟨ho2 j hj (fun hh => by rw [hh, hT.kp] at hk; cases hk), hk⟩⟩
 have e1 := (opT_eq T true)
 unfold syncPT
 dsimp only
 by_cases c1 : (((opT T true).1 : Nat) : Int) = 0
 ·have c1n : ¬ ((opT T true).1 ≠ 0) := by omega
  rw [if_neg c1n]
  have hp2 := hT2.pp
  obtain ⟨lc, _, oc⟩ := hT2.ch.shape
  simp (maxSteps := 1000000) -dsimp (disch := (repeat first | rw [nxn] | rw [nxp]); try omega) only [go_sem, c1, hp2, lc, oc]
  refine callK_of (keepC hS hT2 (Nat.le_refl _) (by rw [e1.2.2.2.1]; exact hm.notes)) ?_
  rintro r h3 ⟨rfl, hT3, hn3, ho3⟩
  exact ⟨trivial, K, nm, sm, .nilsl, ρ, hT3, gr2.trans ⟨by omega, fun j hj hk => ⟨ho3 j hk, hk⟩⟩⟩
 ·have c1n : (opT T true).1 ≠ 0 := by omega
  rw [if_pos c1n]
  simp (maxSteps := 1000000) -dsimp (disch := (repeat first | rw [nxn] | rw [nxp]); try omega) only [go_sem, evLen, c1]
  exact ⟨trivial, K, nm, sm, chv, ρ, hT2, gr2⟩
set_option maxHeartbeats 8000000 in
theorem rmC (hS : St S) {K p nm sm chv ρ h T} (hT : Tr K p nm sm chv ρ h T) (hm : Sm T) (s : Pth) :
  RnC Tryz.prog S 31 [.ptr p 0, .str s] h fun r h' => r = .int .i64 ((rmT T (okP s) s).1 : Nat) ∧ Res K p h h' (rmT T (okP s) s).2 := by
 refine RnC.enter' Tryz.f31 _ 25 [.tmp 4] (hS.nt _ _ _ (by simp)) bd31 Tryz.func31 rfl rfl rfl ?_
 have hpl : p < h.nx := hT.lt (by rw [hT.kp]; decide)
 simp (maxSteps := 1000000) -dsimp (disch := (repeat first | rw [nxn] | rw [nxp]); try omega) only [go_sem, evLen]
 refine callK_of (opC hS (hT.fr ((Fr.new h (.cells [.str s] true false)).news (.cells [.str s] true false))) (l := [s]) (avOne s (AH.get_new_eq rfl) (Nat.lt_succ_self _)) (by simp)) ?_
 have eall : [s].all okP = okP s := by simp
 rw [eall]
 rintro r h2 ⟨rfl, hT2, hn2, ho2⟩
 have hn2' : h.nx + 2 ≤ h2.nx := hn2
 have ca : h2.get h.nx = some (.cells [.str s] true false) := (ho2 h.nx (by simp; omega) (by omega)).trans ((AH.get_new_ne (by simp)).trans (AH.get_new_eq rfl))
 have gr2 : Gr K h K h2 := ⟨by omega, fun j hj hk => ⟨(ho2 j (by simp; omega) (fun hh => by rw [hh, hT.kp] at hk; cases hk)).trans ((AH.get_new_ne (by simp; omega)).trans (AH.get_new_ne (by omega))), hk⟩⟩
 unfold rmT
 dsimp only
 have e1 := (opT_eq T (okP s))
 by_cases c1 : (((opT T (okP s)).1 : Nat) : Int) = 0
 ·have c1n : ¬ ((opT T (okP s)).1 ≠ 0) := by omega
  rw [if_neg c1n]
  have hp2 := hT2.pp
  have lk : ∀ n, _ := fun n => lookN (h := { tr := h2.tr, nx := n }) hT2.now s
  simp (maxSteps := 1000000) -dsimp (disch := (repeat first | rw [nxn] | rw [nxp]); try omega) only [go_sem, evLen, c1]
  refine syDraw.go0 (by kernel_rfl) ?_
  have f3 : Fr h2 { tr := h2.tr, nx := h2.nx + 7 } := (Fr.refl h2).more _ (by omega)
  cases hv : valS (opT T (okP s)).2.now s with
  | none =>
   rw [hv] at lk
   simp (maxSteps := 1000000) -dsimp (disch := (repeat first | rw [nxn] | rw [nxp]); try omega) only [go_sem, evLen, hp2, ca, lk, nilP]
   exact ⟨trivial, K, nm, sm, chv, ρ, hT2.fr f3, gr2.trans (frGr f3 K)⟩
  | some i =>
   rw [hv] at lk
   simp (maxSteps := 1000000) -dsimp (disch := (repeat first | rw [nxn] | rw [nxp]); try omega) only [go_sem, evLen, hp2, ca, lk, nilQ]
   refine callK_of (tickC hS (hT2.fr f3) (by rw [e1.2.2.2.2.1]; exact hm.clock)) ?_
   rintro r h3 ⟨rfl, hT3, hn3, ho3⟩
   have hn3' : h3.nx = h2.nx + 7 := hn3
   try simp (maxSteps := 1000000) -dsimp (disch := (repeat first | rw [nxn] | rw [nxp]); try omega) only [go_sem, evLen]
   have hT4 := hT3.recolor (K' := fun j => if j = h.nx then 5 else K j) (fun j hj => by
    have := hT.lt hj
    rw [if_neg (by omega)]) (fun j hj => by
    rw [if_neg (by omega)]
    exact hT3.top j hj)
   have hcl : Clo (fun j => if j = h.nx then 5 else K j) h3 ρ (.func (.func 88) [] [.ptr h.nx 0]) (.rm s) := ⟨h.nx, rfl, (ho3 _ (by omega)).trans ca, if_pos rfl⟩
   refine callK_of (changeC hS hT4 hcl trivial (by show (opT T (okP s)).2.notes.length ≤ _; rw [e1.2.2.2.1]; exact hm.notes)) ?_
   rintro r h5 ⟨rfl, K5, chv5, hT5, gr5, _⟩
   refine ⟨trivial, K5, nm, sm, chv5, _, hT5, Gr.trans (K' := fun j => if j = h.nx then 5 else K j) ⟨by omega, fun j hj hk => ⟨?_, ?_⟩⟩ gr5⟩
   ·exact (ho3 j (fun hh => by rw [hh, hT.kp] at hk; cases hk)).trans (gr2.get j hj hk).1
   ·exact (if_neg (by omega)).trans hk
 ·have c1n : (opT T (okP s)).1 ≠ 0 := by omega
  rw [if_pos c1n]
  simp (maxSteps := 1000000) -dsimp (disch := (repeat first | rw [nxn] | rw [nxp]); try omega) only [go_sem, evLen, c1]
  exact ⟨trivial, K, nm, sm, chv, ρ, hT2, gr2⟩
end
end Go.Proofs.YthkdhdcbhpknnaaGreatDoor.tre
