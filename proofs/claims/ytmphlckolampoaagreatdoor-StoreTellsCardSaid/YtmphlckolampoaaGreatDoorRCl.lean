/- What the document's reader reads. Conditions: those of its summaries. -/
import Derived.Test.YtmphlckolampoaaGreatDoorRCk
namespace Go.Proofs.YtmphlckolampoaaGreatDoor.tbl
open Go Go.Abs Go.Abs.Rec Go.Proofs
set_option maxRecDepth 100000
set_option linter.unusedVariables false
set_option linter.unusedSimpArgs false
def RdD (R : Nat) (h : AH) (s : Rd) : Prop := ∃ B I, RdB R h B I s.e ∧ s.b = B.drop I
theorem RdD.lo {R n0 : Nat} {h h' : AH} {s : Rd} (hr : RdD R h s) (hR : R < n0) (hn : n0 ≤ h'.nx) (ho : ∀ j, j < n0 → h'.get j = h.get j) : RdD R h' s :=
 let ⟨B, I, h1, h2⟩ := hr; ⟨B, I, h1.lo hR hn ho, h2⟩
theorem RdD.fr {R : Nat} {h h' : AH} {s : Rd} (hr : RdD R h s) (f : Fr h h') : RdD R h' s :=
 let ⟨B, I, h1, h2⟩ := hr; ⟨B, I, h1.fr f, h2⟩
theorem RdD.rn {R : Nat} {h : AH} {s : Rd} (hr : RdD R h s) : R < h.nx := let ⟨B, I, h1, h2⟩ := hr; h1.Rn
section
variable {S : Sums}
set_option maxHeartbeats 8000000 in
theorem dnumC (hS : Tx S) {R : Nat} {h : AH} {s : Rd} (hr : RdD R h s) : RnC Tryz.prog S 36 [.ptr R 0] h fun r h' => r = .int .u64 (s.num.1 : Nat) ∧ RdD R h' s.num.2 ∧ Fx R h h' := by
 obtain ⟨B, I, hr, hs⟩ := hr
 obtain ⟨bv, hR, hb, hnb⟩ := hr.hR
 have nr := nextC hS hr
 have hI := hr.i
 rcases hrd : rdN (B.drop I) with ⟨x, n, e⟩
 rw [hrd] at nr
 dsimp only at nr
 rw [← hs] at hrd
 by_cases he : s.e = 0
 ·by_cases hx : e = 0
  ·rw [if_pos hx] at nr
   have hnum : s.num = (x, ⟨s.b.drop n, 0⟩) := by unfold Rd.num; rw [hrd, if_neg (fun hh => hh he), if_neg (fun hh => hh hx)]
   have hle : n ≤ B.length - I := by have := (rdN_len (l := s.b) (by rw [hrd]; exact hx)).2; rw [hrd, hs, List.length_drop] at this; exact this
   rw [hnum]
   refine RnC.enter' Tryz.f36 _ 28 [.tmp 2] (hS.nx _ _ _ (by simp)) bd36 Tryz.func36 rfl rfl rfl ?_
   have c1 : ((s.e : Nat) : Int) = 0 := by omega
   rw [he] at hR
   simp (maxSteps := 1000000) -dsimp (disch := (repeat first | rw [nxn] | rw [nxp]); try omega) only [go_sem, hR]
   refine callK_of nr ?_
   rintro w g ⟨rfl, rfl⟩
   have c2 : ((e : Nat) : Int) = 0 := by omega
   simp (maxSteps := 1000000) -dsimp (disch := (repeat first | rw [nxn] | rw [nxp]); try omega) only [go_sem, c2, hR]
   exact ⟨by first | trivial | rfl, ⟨B, I + n, hr.set hb hnb (AH.get_put_eq rfl) (Fx.put _ _ _) (by omega), by rw [hs, List.drop_drop]⟩, Fx.put _ _ _⟩
  ·have hnum : s.num = (0, ⟨s.b, e⟩) := by unfold Rd.num; rw [hrd, if_neg (fun hh => hh he), if_pos hx]
   rw [hnum]
   refine RnC.enter' Tryz.f36 _ 28 [.tmp 2] (hS.nx _ _ _ (by simp)) bd36 Tryz.func36 rfl rfl rfl ?_
   rw [he] at hR
   simp (maxSteps := 1000000) -dsimp (disch := (repeat first | rw [nxn] | rw [nxp]); try omega) only [go_sem, hR]
   refine callK_of nr ?_
   rintro w g ⟨rfl, rfl⟩
   have c2 : ¬ ((e : Nat) : Int) = 0 := by omega
   simp (maxSteps := 1000000) -dsimp (disch := (repeat first | rw [nxn] | rw [nxp]); try omega) only [go_sem, c2, hR]
   exact ⟨by first | trivial | rfl, ⟨B, I, hr.set hb hnb (AH.get_put_eq rfl) (Fx.put _ _ _) hI, hs⟩, Fx.put _ _ _⟩
 ·have hnum : s.num = (0, s) := Rd.num_err he
  rw [hnum]
  refine RnC.enter' Tryz.f36 _ 28 [.tmp 2] (hS.nx _ _ _ (by simp)) bd36 Tryz.func36 rfl rfl rfl ?_
  have c1 : ¬ ((s.e : Nat) : Int) = 0 := by omega
  simp (maxSteps := 1000000) -dsimp (disch := (repeat first | rw [nxn] | rw [nxp]); try omega) only [go_sem, hR, c1]
  exact ⟨by first | trivial | rfl, ⟨B, I, hr, hs⟩, Fx.refl _ _⟩
set_option maxHeartbeats 8000000 in
theorem dcountC (hS : Tx S) {R : Nat} {h : AH} {s : Rd} {most : Nat} (hr : RdD R h s) (hm : most ≤ 1000000000000) : RnC Tryz.prog S 37 [.ptr R 0, .int .i64 (most : Nat)] h fun r h' => r = .int .i64 ((s.count most).1 : Nat) ∧ RdD R h' (s.count most).2 ∧ Fx R h h' := by
 obtain ⟨B, I, hr, hs⟩ := hr
 obtain ⟨bv, hR, hb, hnb⟩ := hr.hR
 have nr := nextC hS hr
 have hI := hr.i
 have mx : max (0 : Int) ((most : Nat) : Int) = ((most : Nat) : Int) := by omega
 have cm := fun h => cv64 h most (by omega)
 rcases hrd : rdN (B.drop I) with ⟨x, n, e⟩
 rw [hrd] at nr
 dsimp only at nr
 rw [← hs] at hrd
 by_cases he : s.e = 0
 ·have hR' := hR
  rw [he] at hR'
  by_cases hx : e = 0
  ·rw [if_pos hx] at nr
   have c2 : ((e : Nat) : Int) = 0 := by omega
   by_cases hq : most < x
   ·have hcnt : s.count most = (0, ⟨s.b, 3⟩) := by unfold Rd.count; rw [hrd, if_neg (fun hh => hh he), if_neg (fun hh => hh hx), if_pos hq]
    rw [hcnt]
    refine RnC.enter' Tryz.f37 _ 40 [.tmp 4] (hS.nx _ _ _ (by simp)) bd37 Tryz.func37 rfl rfl rfl ?_
    simp (maxSteps := 1000000) -dsimp (disch := (repeat first | rw [nxn] | rw [nxp]); try omega) only [go_sem, hR']
    refine callK_of nr ?_
    rintro w g ⟨rfl, rfl⟩
    have c3 : ((most : Nat) : Int) < ((x : Nat) : Int) := by omega
    simp (maxSteps := 1000000) -dsimp (disch := (repeat first | rw [nxn] | rw [nxp]); try omega) only [go_sem, c2, c3, mx, cm, hR']
    exact ⟨by first | trivial | rfl, ⟨B, I, hr.set hb hnb (AH.get_put_eq rfl) (Fx.put _ _ _) hI, hs⟩, Fx.put _ _ _⟩
   ·have hcnt : s.count most = (x, ⟨s.b.drop n, 0⟩) := by unfold Rd.count; rw [hrd, if_neg (fun hh => hh he), if_neg (fun hh => hh hx), if_neg hq]
    have hle : n ≤ B.length - I := by have := (rdN_len (l := s.b) (by rw [hrd]; exact hx)).2; rw [hrd, hs, List.length_drop] at this; exact this
    rw [hcnt]
    refine RnC.enter' Tryz.f37 _ 40 [.tmp 4] (hS.nx _ _ _ (by simp)) bd37 Tryz.func37 rfl rfl rfl ?_
    simp (maxSteps := 1000000) -dsimp (disch := (repeat first | rw [nxn] | rw [nxp]); try omega) only [go_sem, hR']
    refine callK_of nr ?_
    rintro w g ⟨rfl, rfl⟩
    have c3 : ¬ ((most : Nat) : Int) < ((x : Nat) : Int) := by omega
    have cx := fun h => cvUI h x (by omega)
    simp (maxSteps := 1000000) -dsimp (disch := (repeat first | rw [nxn] | rw [nxp]); try omega) only [go_sem, c2, c3, mx, cm, hR', cx]
    exact ⟨by first | trivial | rfl, ⟨B, I + n, hr.set hb hnb (AH.get_put_eq rfl) (Fx.put _ _ _) (by omega), by rw [hs, List.drop_drop]⟩, Fx.put _ _ _⟩
  ·have hcnt : s.count most = (0, ⟨s.b, e⟩) := by unfold Rd.count; rw [hrd, if_neg (fun hh => hh he), if_pos hx]
   rw [hcnt]
   refine RnC.enter' Tryz.f37 _ 40 [.tmp 4] (hS.nx _ _ _ (by simp)) bd37 Tryz.func37 rfl rfl rfl ?_
   simp (maxSteps := 1000000) -dsimp (disch := (repeat first | rw [nxn] | rw [nxp]); try omega) only [go_sem, hR']
   refine callK_of nr ?_
   rintro w g ⟨rfl, rfl⟩
   have c2 : ¬ ((e : Nat) : Int) = 0 := by omega
   simp (maxSteps := 1000000) -dsimp (disch := (repeat first | rw [nxn] | rw [nxp]); try omega) only [go_sem, c2, hR']
   exact ⟨by first | trivial | rfl, ⟨B, I, hr.set hb hnb (AH.get_put_eq rfl) (Fx.put _ _ _) hI, hs⟩, Fx.put _ _ _⟩
 ·have hcnt : s.count most = (0, s) := by unfold Rd.count; rw [if_pos he]
  rw [hcnt]
  refine RnC.enter' Tryz.f37 _ 40 [.tmp 4] (hS.nx _ _ _ (by simp)) bd37 Tryz.func37 rfl rfl rfl ?_
  have c1 : ¬ ((s.e : Nat) : Int) = 0 := by omega
  simp (maxSteps := 1000000) -dsimp (disch := (repeat first | rw [nxn] | rw [nxp]); try omega) only [go_sem, hR, c1]
  exact ⟨by first | trivial | rfl, ⟨B, I, hr, hs⟩, Fx.refl _ _⟩
set_option maxHeartbeats 8000000 in
theorem dpieceC (hS : Tx S) {R : Nat} {h : AH} {s : Rd} (hr : RdD R h s) : RnC Tryz.prog S 38 [.ptr R 0] h fun r h' => r = .str s.piece.1 ∧ RdD R h' s.piece.2 ∧ Fx R h h' := by
 obtain ⟨B, I, hr, hs⟩ := hr
 obtain ⟨bv, hR, hb, hnb⟩ := hr.hR
 have nr := nextC hS hr
 have hI := hr.i
 have hBl := hr.l
 have lv := bsLn hb
 have ov := (bsOne hb).1
 have hsl : s.b.length = B.length - I := by rw [hs, List.length_drop]
 rcases hrd : rdN (B.drop I) with ⟨x, n, e⟩
 rw [hrd] at nr
 dsimp only at nr
 rw [← hs] at hrd
 by_cases he : s.e = 0
 ·have hR' := hR
  rw [he] at hR'
  by_cases hx : e = 0
  ·rw [if_pos hx] at nr
   have c2 : ((e : Nat) : Int) = 0 := by omega
   have hle : n ≤ B.length - I := by have := (rdN_len (l := s.b) (by rw [hrd]; exact hx)).2; rw [hrd, hs, List.length_drop] at this; exact this
   by_cases hq : 1048576 < x
   ·have hpc : s.piece = ([], ⟨s.b, 3⟩) := by unfold Rd.piece; rw [hrd, if_neg (fun hh => hh he), if_neg (fun hh => hh hx), if_pos hq]
    rw [hpc]
    refine RnC.enter' Tryz.f38 _ 62 [.tmp 2] (hS.nx _ _ _ (by simp)) bd38 Tryz.func38 rfl rfl rfl ?_
    simp (maxSteps := 1000000) -dsimp (disch := (repeat first | rw [nxn] | rw [nxp]); try omega) only [go_sem, hR']
    refine callK_of nr ?_
    rintro w g ⟨rfl, rfl⟩
    have c3 : (1048576 : Int) < ((x : Nat) : Int) := by omega
    simp (maxSteps := 1000000) -dsimp (disch := (repeat first | rw [nxn] | rw [nxp]); try omega) only [go_sem, c2, c3, hR']
    exact ⟨by first | trivial | rfl, ⟨B, I, hr.set hb hnb (AH.get_put_eq rfl) (Fx.put _ _ _) hI, hs⟩, Fx.put _ _ _⟩
   ·have c3 : ¬ (1048576 : Int) < ((x : Nat) : Int) := by omega
    have sb : ((B.length : Nat) : Int) - ((I + n : Nat) : Int) = ((B.length - (I + n) : Nat) : Int) := by omega
    have c6 := fun h => cv64 h (B.length - (I + n)) (by omega)
    by_cases hq2 : s.b.length - n < x
    ·have hpc : s.piece = ([], ⟨s.b, 5⟩) := by unfold Rd.piece; rw [hrd, if_neg (fun hh => hh he), if_neg (fun hh => hh hx), if_neg hq, if_pos hq2]
     rw [hpc]
     refine RnC.enter' Tryz.f38 _ 62 [.tmp 2] (hS.nx _ _ _ (by simp)) bd38 Tryz.func38 rfl rfl rfl ?_
     simp (maxSteps := 1000000) -dsimp (disch := (repeat first | rw [nxn] | rw [nxp]); try omega) only [go_sem, hR']
     refine callK_of nr ?_
     rintro w g ⟨rfl, rfl⟩
     have c4 : ((B.length - (I + n) : Nat) : Int) < ((x : Nat) : Int) := by omega
     simp (maxSteps := 1000000) -dsimp (disch := (repeat first | rw [nxn] | rw [nxp]); try omega) only [go_sem, c2, c3, c4, hR', ov, lv, sb, c6]
     exact ⟨by first | trivial | rfl, ⟨B, I, hr.set hb hnb (AH.get_put_eq rfl) (Fx.put _ _ _) hI, hs⟩, Fx.put _ _ _⟩
    ·have hpc : s.piece = ((s.b.drop n).take x, ⟨s.b.drop (n + x), 0⟩) := by unfold Rd.piece; rw [hrd, if_neg (fun hh => hh he), if_neg (fun hh => hh hx), if_neg hq, if_neg hq2]
     rw [hpc]
     refine RnC.enter' Tryz.f38 _ 62 [.tmp 2] (hS.nx _ _ _ (by simp)) bd38 Tryz.func38 rfl rfl rfl ?_
     simp (maxSteps := 1000000) -dsimp (disch := (repeat first | rw [nxn] | rw [nxp]); try omega) only [go_sem, hR']
     refine callK_of nr ?_
     rintro w g ⟨rfl, rfl⟩
     have c4 : ¬ ((B.length - (I + n) : Nat) : Int) < ((x : Nat) : Int) := by omega
     have cx := fun h => cvUI h x (by omega)
     have ad : ((I + n : Nat) : Int) + ((x : Nat) : Int) = ((I + n + x : Nat) : Int) := by omega
     obtain ⟨gp, hgp⟩ : ∃ gp, gp = g.put R (.cells [bv, .int .i64 ((I + n + x : Nat) : Int), .int .i64 0] true false) := ⟨_, rfl⟩
     have xf : Fx R g gp := by rw [hgp]; exact Fx.put _ _ _
     have gR : gp.get R = some (.cells [bv, .int .i64 ((I + n + x : Nat) : Int), .int .i64 0] true false) := by rw [hgp]; exact AH.get_put_eq rfl
     have hb1 : Bs gp bv B := bsFx hb hnb xf
     obtain ⟨v2, hs2, hb2, _, ov2⟩ := hb1.slice_mid Tryz.underlying58 tz5 (lo := I + n) (hi := I + n + x) (by omega) (by omega)
     have hb3 : Bs ({ tr := gp.tr, nx := gp.nx + 12 } : AH) v2 _ := hb2.fr ((Fr.refl _).more _ (by omega))
     have tx := hb3.text (d := 9) Tryz.underlying58 Tryz.underlying5 Tryz.underlying9 (fun b hb3 => hr.b b (List.mem_of_mem_take (List.mem_of_mem_drop hb3)))
     have et : (B.take (I + n + x)).drop (I + n) = (s.b.drop n).take x := by rw [hs, List.drop_drop, List.drop_take]; congr 1; omega
     rw [et] at tx
     simp (maxSteps := 1000000) -dsimp (disch := (repeat first | rw [nxn] | rw [nxp]); try omega) only [go_sem, c2, c3, c4, hR', ov, lv, sb, c6, cx, ad]
     rw [← hgp]
     refine syDraw.keepN 0 (fun _ => True) (by kernel_rfl) (by kernel_rfl) rfl ?_
     simp (maxSteps := 1000000) -dsimp (disch := (repeat first | rw [nxn] | rw [nxp]); try omega) only [go_sem, gR, ov, hs2, ov2, tx]
     exact ⟨by first | trivial | rfl, ⟨B, I + n + x, (hr.set hb hnb gR xf (by omega)).fr ((Fr.refl _).more _ (by omega)), by rw [hs, List.drop_drop, Nat.add_assoc]⟩, xf.trans (Fx.of ((Fr.refl _).more _ (by omega)))⟩
  ·have hpc : s.piece = ([], ⟨s.b, e⟩) := by unfold Rd.piece; rw [hrd, if_neg (fun hh => hh he), if_pos hx]
   rw [hpc]
   refine RnC.enter' Tryz.f38 _ 62 [.tmp 2] (hS.nx _ _ _ (by simp)) bd38 Tryz.func38 rfl rfl rfl ?_
   simp (maxSteps := 1000000) -dsimp (disch := (repeat first | rw [nxn] | rw [nxp]); try omega) only [go_sem, hR']
   refine callK_of nr ?_
   rintro w g ⟨rfl, rfl⟩
   have c2 : ¬ ((e : Nat) : Int) = 0 := by omega
   simp (maxSteps := 1000000) -dsimp (disch := (repeat first | rw [nxn] | rw [nxp]); try omega) only [go_sem, c2, hR']
   exact ⟨by first | trivial | rfl, ⟨B, I, hr.set hb hnb (AH.get_put_eq rfl) (Fx.put _ _ _) hI, hs⟩, Fx.put _ _ _⟩
 ·rw [Rd.piece_err he]
  refine RnC.enter' Tryz.f38 _ 62 [.tmp 2] (hS.nx _ _ _ (by simp)) bd38 Tryz.func38 rfl rfl rfl ?_
  have c1 : ¬ ((s.e : Nat) : Int) = 0 := by omega
  simp (maxSteps := 1000000) -dsimp (disch := (repeat first | rw [nxn] | rw [nxp]); try omega) only [go_sem, hR, c1]
  exact ⟨by first | trivial | rfl, ⟨B, I, hr, hs⟩, Fx.refl _ _⟩
set_option maxHeartbeats 4000000 in
theorem dendC (hS : Tx S) {R : Nat} {h : AH} {s : Rd} (hr : RdD R h s) : RnC Tryz.prog S 39 [.ptr R 0] h fun r h' => (∃ k : Nat, r = .int .i64 (k : Nat) ∧ (k = 0 ↔ s.e = 0 ∧ s.b = [])) ∧ Fr h h' := by
 obtain ⟨B, I, hr, hs⟩ := hr
 obtain ⟨bv, hR, hb, hnb⟩ := hr.hR
 have hI := hr.i
 have lv := bsLn hb
 have ov := (bsOne hb).1
 refine RnC.enter' Tryz.f39 _ 24 [.tmp 2] (hS.nx _ _ _ (by simp)) bd39 Tryz.func39 rfl rfl rfl ?_
 simp (maxSteps := 1000000) -dsimp (disch := (repeat first | rw [nxn] | rw [nxp]); try omega) only [go_sem]
 refine syDraw.keepN 0 (fun _ => True) (by kernel_rfl) (by kernel_rfl) rfl ?_
 by_cases he : s.e = 0
 ·have hR' := hR
  rw [he] at hR'
  by_cases hl : I < B.length
  ·have c2 : ((I : Nat) : Int) < ((B.length : Nat) : Int) := by omega
   simp (maxSteps := 1000000) -dsimp (disch := (repeat first | rw [nxn] | rw [nxp]); try omega) only [go_sem, hR', ov, lv, c2]
   refine ⟨⟨4, rfl, ?_⟩, (Fr.refl h).more _ (by omega)⟩
   have : s.b.length ≠ 0 := by rw [hs, List.length_drop]; omega
   simp only [he, true_and]
   constructor
   ·intro hh; cases hh
   ·intro hh; rw [hh] at this; exact absurd rfl this
  ·have c2 : ¬ ((I : Nat) : Int) < ((B.length : Nat) : Int) := by omega
   simp (maxSteps := 1000000) -dsimp (disch := (repeat first | rw [nxn] | rw [nxp]); try omega) only [go_sem, hR', ov, lv, c2]
   refine ⟨⟨0, rfl, ?_⟩, (Fr.refl h).more _ (by omega)⟩
   have : s.b = [] := by rw [hs]; exact List.drop_of_length_le (by omega)
   simp [he, this]
 ·have c1 : ¬ ((s.e : Nat) : Int) = 0 := by omega
  simp (maxSteps := 1000000) -dsimp (disch := (repeat first | rw [nxn] | rw [nxp]); try omega) only [go_sem, hR, ov, lv, c1]
  exact ⟨⟨s.e, rfl, by simp [he]⟩, (Fr.refl h).more _ (by omega)⟩
end
end Go.Proofs.YtmphlckolampoaaGreatDoor.tbl
