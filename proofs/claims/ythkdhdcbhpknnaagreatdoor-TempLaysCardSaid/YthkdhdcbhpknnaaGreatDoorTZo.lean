/- The document's temporary files: laid, told, cleaned. Conditions: those of its summaries. -/
import Derived.Test.YthkdhdcbhpknnaaGreatDoorTZl
import Derived.Test.YthkdhdcbhpknnaaGreatDoorTZn
namespace Go.Proofs.YthkdhdcbhpknnaaGreatDoor.tre
open Go Go.Abs Go.Abs.Wal Go.Proofs
set_option maxRecDepth 100000
set_option linter.unusedVariables false
set_option linter.unusedSimpArgs false
/-- The document's tree beside the program's, as plain data. -/
structure Ds (d m c : Nat) (R T : TT) : Prop where
 dr : DRt R T
 wf : Wf T
 lv : Lv okP d m c R
theorem Ds.sm {d m c : Nat} {R T : TT} (h : Ds d m c R T) (h1 : d + m ≤ 16000) (h2 : c < 1152921504606000000) : Sm R := Bm.sm h.lv.bm (by omega) (by omega)
theorem Ds.wfR {d m c : Nat} {R T : TT} (h : Ds d m c R T) : Wf R := h.dr.wf h.wf
theorem Ds.mono {d m c d' m' c' : Nat} {R T : TT} (h : Ds d m c R T) (h1 : d ≤ d') (h2 : m ≤ m') (h3 : c ≤ c') : Ds d' m' c' R T := ⟨h.dr, h.wf, h.lv.mono h1 h2 h3⟩
theorem Ds.rm {d m c : Nat} {R T : TT} (h : Ds d m c R T) (b : Bool) (q : Pth) : Ds d m (c + 1) (Go.Abs.rmL R b q).2 (rmT T b q).2 := ⟨(h.dr.rm b q).2, h.wf.rm b q, h.lv.rm b q⟩
theorem Ds.make {d m c : Nat} {R T : TT} (h : Ds d m c R T) (q : Pth) : Ds (d + 1) (m + 2) (c + 1) (makeL R (okP q) q).2 (makeT T (okP q) q).2 := ⟨(h.dr.make _ q).2, h.wf.make _ q fun hh => okP_len hh, h.lv.make q⟩
theorem Ds.put {d m c : Nat} {R T : TT} (h : Ds d m c R T) (b : Bool) (q : Pth) (l : List Nat) (hl : ∀ x ∈ l, x < 256) : Ds d m (c + 1) (putT R b q fun _ => l).2 (putT T b q fun _ => l).2 := ⟨(h.dr.put b q _).2, h.wf.put b q fun _ _ => hl, h.lv.put b q _⟩
theorem Ds.sync {d m c : Nat} {R T : TT} (h : Ds d m c R T) (b : Bool) (q : Pth) : Ds d m c (syncT R b q).2 (syncT T b q).2 := ⟨(h.dr.sync b q).2, h.wf.sync b q, h.lv.sync b q⟩
theorem Ds.syncP {d m c : Nat} {R T : TT} (h : Ds d m c R T) : Ds d m c (syncPL R).2 (syncPT T).2 := ⟨h.dr.syncP.2, h.wf.syncP, h.lv.syncP⟩
theorem layP_eq (q : Pth) (b : List Nat) (R1 : TT) : stepsT ((layP q b).map (·.1)) R1 = if (makeL R1 true q).1 ≠ 0 then makeL R1 true q else if (putT (makeL R1 true q).2 true q fun _ => b).1 ≠ 0 then putT (makeL R1 true q).2 true q fun _ => b else if (syncT (putT (makeL R1 true q).2 true q fun _ => b).2 true q).1 ≠ 0 then syncT (putT (makeL R1 true q).2 true q fun _ => b).2 true q else (0, (syncT (putT (makeL R1 true q).2 true q fun _ => b).2 true q).2) := rfl
theorem ResD.go {K K' : Nat → Nat} {p : Nat} {h h1 h2 : AH} {R : TT} {lv sv nv : AV} {ρ : Nat → Nat} (g : Gr K h K' h1) (hT : Rt K' p lv sv nv ρ h1 R) (f : Fr h1 h2) : ResD K p h h2 R := ⟨K', lv, sv, nv, ρ, hT.fr f, g.trans (frGr f K')⟩
theorem nilPt (h : AH) (a : Nat) : binA Tryz.prog h .eql 60 (.ptr a 0) .nilptr = some (.bool false) := by kernel_rfl
section
variable {S : Sums}
/-- What the document's temporary files ask. -/
structure Du (S : Sums) : Prop extends Dt S where
 nu9 : ∀ f args h, f ∈ [24, 34, 25] → S f args h = none
set_option maxHeartbeats 16000000 in
theorem layDC (hS : Du S) {K p lv sv nv ρ h R T} (hT : Rt K p lv sv nv ρ h R) {d m c : Nat} (hd : Ds d m c R T) (hdm : d + m ≤ 15000) (hc : c < 1152921504605000000) {s : Pth} {bv : AV} {b : List Nat} (hbz : Bz K h bv b) (hby : ∀ x ∈ b, x < 256) (hbl : b.length ≤ 67108864) :
  RnC Tryz.prog S 24 [.ptr p 0, .str s, bv] h fun r h' => r = .tup [.str (layD s b R).1.1, .int .i64 ((layD s b R).1.2 : Nat)] ∧ ResD K p h h' (layD s b R).2 := by
 refine RnC.enter' Tryz.f24 _ 52 [.tmp 6, .tmp 7] (hS.nu9 _ _ _ (by simp)) bd24 Tryz.func24 rfl rfl rfl ?_
 have ob := (bsLn hbz.1).2.2
 have b0 : bytesOf { data := #[] } = [] := rfl
 simp (maxSteps := 1000000) -dsimp (disch := (repeat first | rw [nxn] | rw [nxp]); try omega) only [go_sem, b0]
 refine callK_of (rTempC hS.toRp) ?_
 rintro r g ⟨hr, fg⟩
 unfold layD
 by_cases cs : checkS s = 0
 ·rw [if_pos cs] at hr
  subst hr
  rw [if_neg (by omega)]
  have oq := okP_tmp cs
  generalize tmpS ++ s = q at oq ⊢
  have hT1 := hT.fr fg
  have g1 : Gr K h K g := frGr fg K
  have hbz1 := hbz.gr g1
  simp (maxSteps := 1000000) -dsimp (disch := (repeat first | rw [nxn] | rw [nxp]); try omega) only [go_sem]
  refine callK_of (statD hS.toDt hT1 hd.wfR (hd.sm (by omega) (by omega)).now q) ?_
  rintro r g2 ⟨rfl, f2⟩
  have hT2 := hT1.fr f2
  have g2' : Gr K h K g2 := g1.trans (frGr f2 K)
  have hbz2 := hbz1.gr (frGr f2 K)
  cases hst : (statT R q).2.2
  ·have er : remD q R = (0, R) := by unfold remD; rw [if_neg (by rw [hst]; decide)]
   have er1 : (remD q R).1 = 0 := by rw [er]
   have er2 : (remD q R).2 = R := by rw [er]
   rw [er1, er2, if_neg (fun hh => hh rfl)]
   have hd1 := hd.mono (Nat.le_refl d) (Nat.le_refl m) (Nat.le_succ c)
   rw [layP_eq]
   simp (maxSteps := 1000000) -dsimp (disch := (repeat first | rw [nxn] | rw [nxp]); try omega) only [go_sem, b0]
   refine callK_of (makeD hS.toDt hT2 hd1.wfR ⟨hd1.dr.now.rise, hd1.dr.safe.rise⟩ (hd1.sm (by omega) (by omega)) q) ?_
   rw [oq]
   rintro r6 g6 ⟨rfl, K6, lv6, sv6, nv6, ρ6, hT6, gr6⟩
   have hd6 := hd1.make q
   rw [oq] at hd6
   have g6' := g2'.trans gr6
   have hbz6 := hbz2.gr gr6
   by_cases c6 : (((makeL R true q).1 : Nat) : Int) = 0
   ·rw [if_neg (show ¬ (makeL R true q).1 ≠ 0 by omega)]
    generalize (makeL R true q).2 = R6 at hT6 hd6 ⊢
    generalize (makeT T true q).2 = T6 at hd6
    simp (maxSteps := 1000000) -dsimp (disch := (repeat first | rw [nxn] | rw [nxp]); try omega) only [go_sem, c6, b0]
    refine callK_of (writeD hS.toDt hT6 hd6.wfR hd6.dr.now.rise (hd6.sm (by omega) (by omega)) q hbz6 hby hbl) ?_
    rw [oq]
    rintro r7 g7 ⟨rfl, K7, lv7, sv7, nv7, ρ7, hT7, gr7⟩
    have hd7 := hd6.put true q b hby
    have g7' := g6'.trans gr7
    by_cases c7 : (((putT R6 true q fun _ => b).1 : Nat) : Int) = 0
    ·rw [if_neg (show ¬ (putT R6 true q fun _ => b).1 ≠ 0 by omega)]
     generalize (putT R6 true q fun _ => b).2 = R7 at hT7 hd7 ⊢
     generalize (putT T6 true q fun _ => b).2 = T7 at hd7
     simp (maxSteps := 1000000) -dsimp (disch := (repeat first | rw [nxn] | rw [nxp]); try omega) only [go_sem, c6, c7, b0]
     refine callK_of (syncD hS.toDt hT7 hd7.wfR (hd7.sm (by omega) (by omega)) q) ?_
     rw [oq]
     rintro r8 g8 ⟨rfl, K8, lv8, sv8, nv8, ρ8, hT8, gr8⟩
     have g8' := g7'.trans gr8
     by_cases c8 : (((syncT R7 true q).1 : Nat) : Int) = 0
     ·rw [if_neg (show ¬ (syncT R7 true q).1 ≠ 0 by omega)]
      rw [if_neg (fun hh => hh rfl)]
      simp (maxSteps := 1000000) -dsimp (disch := (repeat first | rw [nxn] | rw [nxp]); try omega) only [go_sem, c6, c7, c8, b0, b0]
      exact ⟨by first | trivial | rfl, K8, lv8, sv8, nv8, ρ8, hT8, g8'⟩
     ·rw [if_pos (show (syncT R7 true q).1 ≠ 0 by omega)]
      rw [if_pos (show (syncT R7 true q).1 ≠ 0 by omega)]
      simp (maxSteps := 1000000) -dsimp (disch := (repeat first | rw [nxn] | rw [nxp]); try omega) only [go_sem, c6, c7, c8, b0, b0]
      exact ⟨by first | trivial | rfl, K8, lv8, sv8, nv8, ρ8, hT8, g8'⟩
    ·rw [if_pos (show (putT R6 true q fun _ => b).1 ≠ 0 by omega)]
     rw [if_pos (show (putT R6 true q fun _ => b).1 ≠ 0 by omega)]
     simp (maxSteps := 1000000) -dsimp (disch := (repeat first | rw [nxn] | rw [nxp]); try omega) only [go_sem, c6, c7, b0, b0]
     exact ⟨by first | trivial | rfl, K7, lv7, sv7, nv7, ρ7, hT7, g7'⟩
   ·rw [if_pos (show (makeL R true q).1 ≠ 0 by omega)]
    rw [if_pos (show (makeL R true q).1 ≠ 0 by omega)]
    simp (maxSteps := 1000000) -dsimp (disch := (repeat first | rw [nxn] | rw [nxp]); try omega) only [go_sem, c6, b0, b0]
    exact ⟨by first | trivial | rfl, K6, lv6, sv6, nv6, ρ6, hT6, g6'⟩
  ·have er : remD q R = Go.Abs.rmL R true q := by unfold remD; rw [if_pos hst]
   rw [er]
   simp (maxSteps := 1000000) -dsimp (disch := (repeat first | rw [nxn] | rw [nxp]); try omega) only [go_sem]
   refine callK_of (rmD hS.toDt hT2 hd.wfR hd.dr.now.rise (hd.sm (by omega) (by omega)) q) ?_
   rw [oq]
   rintro r g5 ⟨rfl, K5, lv5, sv5, nv5, ρ5, hT5, gr5⟩
   have hd5 := hd.rm true q
   have g5' := g2'.trans gr5
   have hbz5 := hbz2.gr gr5
   by_cases c5 : (((Go.Abs.rmL R true q).1 : Nat) : Int) = 0
   ·rw [if_neg (by omega)]
    generalize (Go.Abs.rmL R true q).2 = R5 at hT5 hd5 ⊢
    generalize (rmT T true q).2 = T5 at hd5
    rw [layP_eq]
    simp (maxSteps := 1000000) -dsimp (disch := (repeat first | rw [nxn] | rw [nxp]); try omega) only [go_sem, c5]
    refine callK_of (makeD hS.toDt hT5 hd5.wfR ⟨hd5.dr.now.rise, hd5.dr.safe.rise⟩ (hd5.sm (by omega) (by omega)) q) ?_
    rw [oq]
    rintro r6 g6 ⟨rfl, K6, lv6, sv6, nv6, ρ6, hT6, gr6⟩
    have hd6 := hd5.make q
    rw [oq] at hd6
    have g6' := g5'.trans gr6
    have hbz6 := hbz5.gr gr6
    by_cases c6 : (((makeL R5 true q).1 : Nat) : Int) = 0
    ·rw [if_neg (show ¬ (makeL R5 true q).1 ≠ 0 by omega)]
     generalize (makeL R5 true q).2 = R6 at hT6 hd6 ⊢
     generalize (makeT T5 true q).2 = T6 at hd6
     simp (maxSteps := 1000000) -dsimp (disch := (repeat first | rw [nxn] | rw [nxp]); try omega) only [go_sem, c6, c5]
     refine callK_of (writeD hS.toDt hT6 hd6.wfR hd6.dr.now.rise (hd6.sm (by omega) (by omega)) q hbz6 hby hbl) ?_
     rw [oq]
     rintro r7 g7 ⟨rfl, K7, lv7, sv7, nv7, ρ7, hT7, gr7⟩
     have hd7 := hd6.put true q b hby
     have g7' := g6'.trans gr7
     by_cases c7 : (((putT R6 true q fun _ => b).1 : Nat) : Int) = 0
     ·rw [if_neg (show ¬ (putT R6 true q fun _ => b).1 ≠ 0 by omega)]
      generalize (putT R6 true q fun _ => b).2 = R7 at hT7 hd7 ⊢
      generalize (putT T6 true q fun _ => b).2 = T7 at hd7
      simp (maxSteps := 1000000) -dsimp (disch := (repeat first | rw [nxn] | rw [nxp]); try omega) only [go_sem, c6, c7, c5]
      refine callK_of (syncD hS.toDt hT7 hd7.wfR (hd7.sm (by omega) (by omega)) q) ?_
      rw [oq]
      rintro r8 g8 ⟨rfl, K8, lv8, sv8, nv8, ρ8, hT8, gr8⟩
      have g8' := g7'.trans gr8
      by_cases c8 : (((syncT R7 true q).1 : Nat) : Int) = 0
      ·rw [if_neg (show ¬ (syncT R7 true q).1 ≠ 0 by omega)]
       rw [if_neg (fun hh => hh rfl)]
       simp (maxSteps := 1000000) -dsimp (disch := (repeat first | rw [nxn] | rw [nxp]); try omega) only [go_sem, c6, c7, c8, c5, b0]
       exact ⟨by first | trivial | rfl, K8, lv8, sv8, nv8, ρ8, hT8, g8'⟩
      ·rw [if_pos (show (syncT R7 true q).1 ≠ 0 by omega)]
       rw [if_pos (show (syncT R7 true q).1 ≠ 0 by omega)]
       simp (maxSteps := 1000000) -dsimp (disch := (repeat first | rw [nxn] | rw [nxp]); try omega) only [go_sem, c6, c7, c8, c5, b0]
       exact ⟨by first | trivial | rfl, K8, lv8, sv8, nv8, ρ8, hT8, g8'⟩
     ·rw [if_pos (show (putT R6 true q fun _ => b).1 ≠ 0 by omega)]
      rw [if_pos (show (putT R6 true q fun _ => b).1 ≠ 0 by omega)]
      simp (maxSteps := 1000000) -dsimp (disch := (repeat first | rw [nxn] | rw [nxp]); try omega) only [go_sem, c6, c7, c5, b0]
      exact ⟨by first | trivial | rfl, K7, lv7, sv7, nv7, ρ7, hT7, g7'⟩
    ·rw [if_pos (show (makeL R5 true q).1 ≠ 0 by omega)]
     rw [if_pos (show (makeL R5 true q).1 ≠ 0 by omega)]
     simp (maxSteps := 1000000) -dsimp (disch := (repeat first | rw [nxn] | rw [nxp]); try omega) only [go_sem, c6, c5, b0]
     exact ⟨by first | trivial | rfl, K6, lv6, sv6, nv6, ρ6, hT6, g6'⟩
   ·rw [if_pos (by omega)]
    simp (maxSteps := 1000000) -dsimp (disch := (repeat first | rw [nxn] | rw [nxp]); try omega) only [go_sem, c5, b0]
    exact ⟨by first | trivial | rfl, K5, lv5, sv5, nv5, ρ5, hT5, g5'⟩
 ·rw [if_neg cs] at hr
  subst hr
  rw [if_pos cs]
  have cs' : ¬ ((checkS s : Nat) : Int) = 0 := by omega
  simp (maxSteps := 1000000) -dsimp (disch := (repeat first | rw [nxn] | rw [nxp]); try omega) only [go_sem, cs', b0]
  exact ⟨trivial, K, lv, sv, nv, ρ, hT.fr fg, frGr fg K⟩
theorem allDC (hS : Du S) {K p lv sv nv ρ h R} (hT : Rt K p lv sv nv ρ h R) (hm : R.now.length ≤ 16384) : RnC Tryz.prog S 34 [.ptr p 0] h fun r h' => Ss h.nx h' r ((R.now.map (·.1)).filter fun a => preS a tmpS) ∧ Fr h h' := by
 refine RnC.enter' Tryz.f34 _ 7 [.tmp 2] (hS.nu9 _ _ _ (by simp)) bd34 Tryz.func34 rfl rfl rfl ?_
 have tm : bytesOf { data := #[46, 116, 109, 112, 47] } = tmpS := by decide +kernel
 simp (maxSteps := 1000000) -dsimp (disch := (repeat first | rw [nxn] | rw [nxp]); try omega) only [go_sem, nilPt, tm]
 refine callK_of (pathsD hS.toDt hT hm tmpS) ?_
 rintro r h2 ⟨hs, f2⟩
 have os := (ssLn hs).2.2
 try simp (maxSteps := 1000000) -dsimp (disch := (repeat first | rw [nxn] | rw [nxp]); try omega) only [go_sem, os]
 exact ⟨hs, f2⟩
set_option maxHeartbeats 16000000 in
theorem cleanDC (hS : Du S) {K p lv sv nv ρ h R T} (hT : Rt K p lv sv nv ρ h R) {d m c : Nat} (hd : Ds d m c R T) (hdm : d + m ≤ 15000) (hc : c < 1152921504605000000) :
  RnC Tryz.prog S 25 [.ptr p 0] h fun r h' => r = .tup [.int .i64 ((cleanD ((R.now.map (·.1)).filter fun a => preS a tmpS) R).1.1 : Nat), .int .i64 ((cleanD ((R.now.map (·.1)).filter fun a => preS a tmpS) R).1.2 : Nat)] ∧ ResD K p h h' (cleanD ((R.now.map (·.1)).filter fun a => preS a tmpS) R).2 := by
 refine RnC.enter' Tryz.f25 _ 35 [.tmp 2, .tmp 3] (hS.nu9 _ _ _ (by simp)) bd25 Tryz.func25 rfl rfl rfl ?_
 have hsm := hd.sm (by omega) (by omega)
 have hnow := hd.lv.bm.now
 simp (maxSteps := 1000000) -dsimp (disch := (repeat first | rw [nxn] | rw [nxp]); try omega) only [go_sem]
 refine callK_of (allDC hS hT hsm.now) ?_
 rintro r h2 ⟨hs, f2⟩
 obtain ⟨ln, sl, ol⟩ := ssLn hs
 have hT2 := hT.fr f2
 have hlen : ((R.now.map (·.1)).filter fun a => preS a tmpS).length ≤ R.now.length := by
  have := List.length_filter_le (fun a => preS a tmpS) (R.now.map (·.1))
  rwa [List.length_map] at this
 have tx2 : Tx K h2 r ((R.now.map (·.1)).filter fun a => preS a tmpS) := Tx.of hs fun j hj => hT.top j hj
 have ht : ∀ s ∈ (R.now.map (·.1)).filter fun a => preS a tmpS, okP s = true := fun s hs => by
  obtain ⟨e, he, rfl⟩ := List.mem_map.1 (List.mem_filter.1 hs).1
  exact hd.lv.key e he
 unfold cleanD
 generalize (R.now.map (·.1)).filter (fun a => preS a tmpS) = l at hs ht ln hlen tx2 ⊢
 try simp (maxSteps := 1000000) -dsimp (disch := (repeat first | rw [nxn] | rw [nxp]); try omega) only [go_sem, ol, ln]
 refine loopK_of (RnL.rounds (Q := fun ex u => u.d = [] ∧ u.t.get 0 = some (.ptr p 0) ∧ u.t.get 4 = some r ∧ ResD K p h2 u.h (rmsD l R).2 ∧ (∃ T', Ds d m (c + l.length) (rmsD l R).2 T') ∧ (ex = .exit 0 ∧ (rmsD l R).1 = 0 ∨ ex = .ret ∧ (rmsD l R).1 ≠ 0 ∧ u.t.get 2 = some (.int .i64 0) ∧ u.t.get 3 = some (.int .i64 ((rmsD l R).1 : Nat))))
  (fun k u => u.d = [] ∧ u.t.get 0 = some (.ptr p 0) ∧ u.t.get 4 = some r ∧ ∃ (i : Nat) (Ri Ti : TT), u.t.get 5 = some (.int .i64 (i : Nat)) ∧ ResD K p h2 u.h Ri ∧ Ds d m (c + i) Ri Ti ∧ rmsD l R = rmsD (l.drop i) Ri ∧ i ≤ l.length ∧ k = l.length - i) ?_ l.length ?_) ?_
 ·rintro k ⟨t, g, dd⟩ ⟨e2, g0, g4, i, Ri, Ti, g5, hr, hdi, he, hi, rfl⟩
  dsimp only at e2 g0 g4 g5 hr
  subst e2
  by_cases c1 : (i : Int) < (l.length : Nat)
  ·have hil : i < l.length := by omega
   obtain ⟨q, hq⟩ : ∃ q, l[i]? = some q := ⟨_, List.getElem?_eq_getElem hil⟩
   have oq := ht q (List.mem_iff_getElem?.2 ⟨i, hq⟩)
   have hdr : l.drop i = q :: l.drop (i + 1) := by rw [List.drop_eq_getElem_cons hil, (List.getElem?_eq_some_iff.1 hq).2]
   obtain ⟨K', lv', sv', nv', ρ', hT', gr'⟩ := hr
   have txg : Tx K' g r l := txGr tx2 gr'
   obtain ⟨id, off, cp, cs, o, tx, rfl, hg, hid, hcs⟩ := Tx.get txg hq
   have he2 : rmsD (q :: l.drop (i + 1)) Ri = if (Go.Abs.rmL Ri true q).1 ≠ 0 then Go.Abs.rmL Ri true q else rmsD (l.drop (i + 1)) (Go.Abs.rmL Ri true q).2 := rfl
   rw [hdr, he2] at he
   simp (maxSteps := 1000000) -dsimp (disch := (repeat first | rw [nxn] | rw [nxp]); try omega) only [go_sem, ln, c1, g0, g4, g5, hil, hg, hcs, Nat.mul_one]
   refine callK_of (rmD hS.toDt hT' hdi.wfR hdi.dr.now.rise (hdi.sm (by omega) (by omega)) q) ?_
   rw [oq]
   rintro r2 h4 ⟨rfl, hr4⟩
   have hr5 := ResD.tr gr' hr4
   have hd4 := hdi.rm true q
   by_cases c2 : (((Go.Abs.rmL Ri true q).1 : Nat) : Int) = 0
   ·rw [if_neg (by omega)] at he
    simp (maxSteps := 1000000) -dsimp (disch := (repeat first | rw [nxn] | rw [nxp]); try omega) only [go_sem, ln, c1, c2, g0, g4, g5]
    exact ⟨l.length - (i + 1), by omega, trivial, trivial, trivial, i + 1, _, _, rfl, hr5, hd4, he, by omega, rfl⟩
   ·rw [if_pos (by omega)] at he
    simp (maxSteps := 1000000) -dsimp (disch := (repeat first | rw [nxn] | rw [nxp]); try omega) only [go_sem, ln, c1, c2, g0, g4, g5]
    rw [he]
    exact ⟨trivial, trivial, trivial, hr5, ⟨_, hd4.mono (Nat.le_refl _) (Nat.le_refl _) (by omega)⟩, .inr ⟨trivial, by omega, trivial, rfl⟩⟩
  ·have : i = l.length := by omega
   subst this
   rw [List.drop_length] at he
   simp (maxSteps := 1000000) -dsimp (disch := (repeat first | rw [nxn] | rw [nxp]); try omega) only [go_sem, ln, c1, g0, g4, g5]
   rw [he]
   exact ⟨trivial, trivial, trivial, hr, ⟨_, hdi⟩, .inl ⟨trivial, rfl⟩⟩
 ·simp (maxSteps := 1000000) -dsimp (disch := (repeat first | rw [nxn] | rw [nxp]); try omega) only [go_sem]
  exact ⟨trivial, trivial, trivial, 0, R, T, rfl, ⟨K, lv, sv, nv, ρ, hT2, Gr.refl _ _⟩, hd, rfl, Nat.zero_le _, rfl⟩
 ·rintro ex ⟨t, g, dd⟩ ⟨rfl, g0, g4, hr, ⟨T', hd'⟩, ⟨rfl, e0⟩ | ⟨rfl, e0, g2, g3⟩⟩
  ·dsimp only at hr g0 g4
   rw [if_neg (by omega)]
   by_cases c3 : l.length = 0
   ·have c3' : ¬ (0 : Int) < ((l.length : Nat) : Int) := by omega
    rw [if_pos c3]
    simp (maxSteps := 1000000) -dsimp (disch := (repeat first | rw [nxn] | rw [nxp]); try omega) only [go_sem, g0, g4, ln, c3']
    exact ⟨by rw [c3]; rfl, ResD.tr (frGr f2 K) hr⟩
   ·have c3' : (0 : Int) < ((l.length : Nat) : Int) := by omega
    rw [if_neg c3]
    simp (maxSteps := 1000000) -dsimp (disch := (repeat first | rw [nxn] | rw [nxp]); try omega) only [go_sem, g0, g4, ln, c3']
    obtain ⟨K', lv', sv', nv', ρ', hT', gr'⟩ := hr
    refine callK_of (syncPD hS.toDt hT' hd'.wfR (hd'.sm (by omega) (by omega))) ?_
    rintro r2 h4 ⟨rfl, hr4⟩
    have hr5 := ResD.tr (frGr f2 K) (ResD.tr gr' hr4)
    by_cases c4 : (((syncPL (rmsD l R).2).1 : Nat) : Int) = 0
    ·rw [if_neg (by omega)]
     simp (maxSteps := 1000000) -dsimp (disch := (repeat first | rw [nxn] | rw [nxp]); try omega) only [go_sem, g0, g4, ln, c3', c4]
     exact ⟨by first | trivial | rfl, hr5⟩
    ·rw [if_pos (by omega)]
     simp (maxSteps := 1000000) -dsimp (disch := (repeat first | rw [nxn] | rw [nxp]); try omega) only [go_sem, g0, g4, ln, c3', c4]
     exact ⟨by first | trivial | rfl, hr5⟩
  ·dsimp only at hr g2 g3
   rw [if_pos e0]
   simp (maxSteps := 1000000) -dsimp (disch := (repeat first | rw [nxn] | rw [nxp]); try omega) only [go_sem, g2, g3]
   exact ⟨by first | trivial | rfl, ResD.tr (frGr f2 K) hr⟩
end
end Go.Proofs.YthkdhdcbhpknnaaGreatDoor.tre
