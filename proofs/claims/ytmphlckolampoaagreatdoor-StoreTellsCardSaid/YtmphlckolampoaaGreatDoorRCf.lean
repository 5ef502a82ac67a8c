/- What the program's reader reads: counts, pieces, the end. Conditions: those of its summaries. -/
import Derived.Test.YtmphlckolampoaaGreatDoorRCe
namespace Go.Proofs.YtmphlckolampoaaGreatDoor.tbl
open Go Go.Abs Go.Abs.Rec Go.Proofs
set_option maxRecDepth 100000
set_option linter.unusedVariables false
set_option linter.unusedSimpArgs false
section
variable {S : Sums}
set_option maxHeartbeats 8000000 in
theorem rcountC (hS : Tr2 S) {R p : Nat} {h : AH} {s : Rd} {most : Nat} (hr : RdA R p h s) (hm : most ≤ 1000000000000) : RnC Tryz.prog S 78 [.ptr R 0, .int .i64 (most : Nat)] h fun r h' => r = .int .i64 ((s.count most).1 : Nat) ∧ RdA R p h' (s.count most).2 ∧ Fx p h h' := by
 obtain ⟨bv, hp, hb, hn⟩ := hr.hp
 have hR := hr.hR
 have nr := numR hS hb hr.b (by have := hr.l; omega)
 have ov := (bsOne hb).1
 have mx : max (0 : Int) ((most : Nat) : Int) = ((most : Nat) : Int) := by omega
 have cm := fun h => cv64 h most (by omega)
 rcases hrd : rdN s.b with ⟨x, n, e⟩
 rw [hrd] at nr
 dsimp only at nr
 by_cases he : s.e = 0
 ·by_cases hx : e = 0
  ·by_cases hq : most < x
   ·have hcnt : s.count most = (0, ⟨s.b, 3⟩) := by unfold Rd.count; rw [hrd, if_neg (fun hh => hh he), if_neg (fun hh => hh hx), if_pos hq]
    rw [hcnt]
    refine RnC.enter' Tryz.f78 _ 57 [.tmp 4] (hS.nr _ _ _ (by simp)) bd78 Tryz.func78 rfl rfl rfl ?_
    simp (maxSteps := 1000000) -dsimp (disch := (repeat first | rw [nxn] | rw [nxp]); try omega) only [go_sem]
    refine callK_of (rightR hS hr) ?_
    rintro w g ⟨rfl, rfl⟩
    simp (maxSteps := 1000000) -dsimp (disch := (repeat first | rw [nxn] | rw [nxp]); try omega) only [go_sem, he, hR, hp, ov]
    refine callK_of nr ?_
    rintro w g ⟨rfl, rfl⟩
    have c2 : ((e : Nat) : Int) = 0 := by omega
    have c3 : ((most : Nat) : Int) < ((x : Nat) : Int) := by omega
    simp (maxSteps := 1000000) -dsimp (disch := (repeat first | rw [nxn] | rw [nxp]); try omega) only [go_sem, c2, c3, mx, cm, hR]
    refine callK_of (failR hS (e := 3) hr) ?_
    rintro w g2 ⟨k1, k2⟩
    try simp (maxSteps := 1000000) -dsimp (disch := (repeat first | rw [nxn] | rw [nxp]); try omega) only [go_sem]
    exact ⟨by first | trivial | rfl, k1, k2⟩
   ·have hcnt : s.count most = (x, ⟨s.b.drop n, 0⟩) := by unfold Rd.count; rw [hrd, if_neg (fun hh => hh he), if_neg (fun hh => hh hx), if_neg hq]
    have hle : n ≤ s.b.length := by have := (rdN_len (l := s.b) (by rw [hrd]; exact hx)).2; rw [hrd] at this; exact this
    rw [hcnt]
    refine RnC.enter' Tryz.f78 _ 57 [.tmp 4] (hS.nr _ _ _ (by simp)) bd78 Tryz.func78 rfl rfl rfl ?_
    simp (maxSteps := 1000000) -dsimp (disch := (repeat first | rw [nxn] | rw [nxp]); try omega) only [go_sem]
    refine callK_of (rightR hS hr) ?_
    rintro w g ⟨rfl, rfl⟩
    simp (maxSteps := 1000000) -dsimp (disch := (repeat first | rw [nxn] | rw [nxp]); try omega) only [go_sem, he, hR, hp, ov]
    refine callK_of nr ?_
    rintro w g ⟨rfl, rfl⟩
    have c2 : ((e : Nat) : Int) = 0 := by omega
    have c3 : ¬ ((most : Nat) : Int) < ((x : Nat) : Int) := by omega
    have cx := fun h => cvUI h x (by omega)
    simp (maxSteps := 1000000) -dsimp (disch := (repeat first | rw [nxn] | rw [nxp]); try omega) only [go_sem, c2, c3, mx, cm]
    refine syDraw.keepN 0 (fun _ => True) (by kernel_rfl) (by kernel_rfl) rfl ?_
    have hp0 := hp
    rw [he] at hp0
    obtain ⟨v', hs', hb', hn'⟩ := bsFrom hb hn hle
    have hl' : (s.b.drop n).length ≤ 100000000 := by have := hr.l; rw [List.length_drop]; omega
    rcases (bsSh hb') with rfl | ⟨i5, o5, n5, z5, c5, rfl⟩
    all_goals
     simp (maxSteps := 1000000) -dsimp (disch := (repeat first | rw [nxn] | rw [nxp]); try omega) only [go_sem, hR, hp0, hs', ov, cx]
     exact ⟨by first | trivial | rfl, hr.set (Fx.draw _ _ _ _) (AH.get_put_eq rfl) hb' hn' (fun b hb2 => hr.b b (List.mem_of_mem_drop hb2)) hl', Fx.draw _ _ _ _⟩
  ·have hcnt : s.count most = (0, ⟨s.b, e⟩) := by unfold Rd.count; rw [hrd, if_neg (fun hh => hh he), if_pos hx]
   rw [hcnt]
   refine RnC.enter' Tryz.f78 _ 57 [.tmp 4] (hS.nr _ _ _ (by simp)) bd78 Tryz.func78 rfl rfl rfl ?_
   simp (maxSteps := 1000000) -dsimp (disch := (repeat first | rw [nxn] | rw [nxp]); try omega) only [go_sem]
   refine callK_of (rightR hS hr) ?_
   rintro w g ⟨rfl, rfl⟩
   simp (maxSteps := 1000000) -dsimp (disch := (repeat first | rw [nxn] | rw [nxp]); try omega) only [go_sem, he, hR, hp, ov]
   refine callK_of nr ?_
   rintro w g ⟨rfl, rfl⟩
   have c2 : ¬ ((e : Nat) : Int) = 0 := by omega
   simp (maxSteps := 1000000) -dsimp (disch := (repeat first | rw [nxn] | rw [nxp]); try omega) only [go_sem, c2, hR]
   refine callK_of (failR hS hr) ?_
   rintro w g2 ⟨k1, k2⟩
   try simp (maxSteps := 1000000) -dsimp (disch := (repeat first | rw [nxn] | rw [nxp]); try omega) only [go_sem]
   exact ⟨by first | trivial | rfl, k1, k2⟩
 ·have hcnt : s.count most = (0, s) := by unfold Rd.count; rw [if_pos he]
  rw [hcnt]
  refine RnC.enter' Tryz.f78 _ 57 [.tmp 4] (hS.nr _ _ _ (by simp)) bd78 Tryz.func78 rfl rfl rfl ?_
  simp (maxSteps := 1000000) -dsimp (disch := (repeat first | rw [nxn] | rw [nxp]); try omega) only [go_sem]
  refine callK_of (rightR hS hr) ?_
  rintro w g ⟨rfl, rfl⟩
  simp (maxSteps := 1000000) -dsimp (disch := (repeat first | rw [nxn] | rw [nxp]); try omega) only [go_sem, he]
  exact ⟨by first | trivial | rfl, hr, Fx.refl _ _⟩
set_option maxHeartbeats 8000000 in
theorem rpieceC (hS : Tr2 S) {R p : Nat} {h : AH} {s : Rd} (hr : RdA R p h s) : RnC Tryz.prog S 80 [.ptr R 0] h fun r h' => r = .str s.piece.1 ∧ RdA R p h' s.piece.2 ∧ Fx p h h' := by
 obtain ⟨bv, hp, hb, hn⟩ := hr.hp
 have hR := hr.hR
 have nr := numR hS hb hr.b (by have := hr.l; omega)
 have ov := (bsOne hb).1
 have lv := (bsLn hb)
 have hlen := hr.l
 rcases hrd : rdN s.b with ⟨x, n, e⟩
 rw [hrd] at nr
 dsimp only at nr
 have start : ∀ {Q : AV → AH → Prop}, (s.e = 0 → RnC Tryz.prog S 80 [.ptr R 0] h Q) → (s.e ≠ 0 → RnC Tryz.prog S 80 [.ptr R 0] h Q) → RnC Tryz.prog S 80 [.ptr R 0] h Q := fun a b => by
  by_cases he : s.e = 0
  ·exact a he
  ·exact b he
 refine start (fun he => ?_) (fun he => ?_)
 ·by_cases hx : e = 0
  ·have hle : n ≤ s.b.length := by have := (rdN_len (l := s.b) (by rw [hrd]; exact hx)).2; rw [hrd] at this; exact this
   have c2 : ((e : Nat) : Int) = 0 := by omega
   by_cases hq : 1048576 < x
   ·have hpc : s.piece = ([], ⟨s.b, 3⟩) := by unfold Rd.piece; rw [hrd, if_neg (fun hh => hh he), if_neg (fun hh => hh hx), if_pos hq]
    rw [hpc]
    refine RnC.enter' Tryz.f80 _ 83 [.tmp 2] (hS.nr _ _ _ (by simp)) bd80 Tryz.func80 rfl rfl rfl ?_
    simp (maxSteps := 1000000) -dsimp (disch := (repeat first | rw [nxn] | rw [nxp]); try omega) only [go_sem]
    refine callK_of (rightR hS hr) ?_
    rintro w g ⟨rfl, rfl⟩
    simp (maxSteps := 1000000) -dsimp (disch := (repeat first | rw [nxn] | rw [nxp]); try omega) only [go_sem, he, hR, hp, ov]
    refine callK_of nr ?_
    rintro w g ⟨rfl, rfl⟩
    have c3 : (1048576 : Int) < ((x : Nat) : Int) := by omega
    simp (maxSteps := 1000000) -dsimp (disch := (repeat first | rw [nxn] | rw [nxp]); try omega) only [go_sem, c2, c3, hR]
    refine callK_of (failR hS (e := 3) hr) ?_
    rintro w g2 ⟨k1, k2⟩
    try simp (maxSteps := 1000000) -dsimp (disch := (repeat first | rw [nxn] | rw [nxp]); try omega) only [go_sem]
    exact ⟨by first | trivial | rfl, k1, k2⟩
   ·have c3 : ¬ (1048576 : Int) < ((x : Nat) : Int) := by omega
    have sb : ((s.b.length : Nat) : Int) - ((n : Nat) : Int) = ((s.b.length - n : Nat) : Int) := by omega
    have c6 := fun h => cv64 h (s.b.length - n) (by omega)
    by_cases hq2 : s.b.length - n < x
    ·have hpc : s.piece = ([], ⟨s.b, 5⟩) := by unfold Rd.piece; rw [hrd, if_neg (fun hh => hh he), if_neg (fun hh => hh hx), if_neg hq, if_pos hq2]
     rw [hpc]
     refine RnC.enter' Tryz.f80 _ 83 [.tmp 2] (hS.nr _ _ _ (by simp)) bd80 Tryz.func80 rfl rfl rfl ?_
     simp (maxSteps := 1000000) -dsimp (disch := (repeat first | rw [nxn] | rw [nxp]); try omega) only [go_sem]
     refine callK_of (rightR hS hr) ?_
     rintro w g ⟨rfl, rfl⟩
     simp (maxSteps := 1000000) -dsimp (disch := (repeat first | rw [nxn] | rw [nxp]); try omega) only [go_sem, he, hR, hp, ov]
     refine callK_of nr ?_
     rintro w g ⟨rfl, rfl⟩
     have c4 : ((s.b.length - n : Nat) : Int) < ((x : Nat) : Int) := by omega
     simp (maxSteps := 1000000) -dsimp (disch := (repeat first | rw [nxn] | rw [nxp]); try omega) only [go_sem, c2, c3, c4, hR, hp, ov, lv, sb, c6]
     refine callK_of (failR hS (e := 5) hr) ?_
     rintro w g2 ⟨k1, k2⟩
     try simp (maxSteps := 1000000) -dsimp (disch := (repeat first | rw [nxn] | rw [nxp]); try omega) only [go_sem]
     exact ⟨by first | trivial | rfl, k1, k2⟩
    ·have hpc : s.piece = ((s.b.drop n).take x, ⟨s.b.drop (n + x), 0⟩) := by unfold Rd.piece; rw [hrd, if_neg (fun hh => hh he), if_neg (fun hh => hh hx), if_neg hq, if_neg hq2]
     rw [hpc]
     refine RnC.enter' Tryz.f80 _ 83 [.tmp 2] (hS.nr _ _ _ (by simp)) bd80 Tryz.func80 rfl rfl rfl ?_
     simp (maxSteps := 1000000) -dsimp (disch := (repeat first | rw [nxn] | rw [nxp]); try omega) only [go_sem]
     refine callK_of (rightR hS hr) ?_
     rintro w g ⟨rfl, rfl⟩
     simp (maxSteps := 1000000) -dsimp (disch := (repeat first | rw [nxn] | rw [nxp]); try omega) only [go_sem, he, hR, hp, ov]
     refine callK_of nr ?_
     rintro w g ⟨rfl, rfl⟩
     have c4 : ¬ ((s.b.length - n : Nat) : Int) < ((x : Nat) : Int) := by omega
     have cx := fun h => cvUI h x (by omega)
     have ad : ((n : Nat) : Int) + ((x : Nat) : Int) = ((n + x : Nat) : Int) := by omega
     obtain ⟨v2, hs2, hb2, _, ov2⟩ := hb.slice_mid Tryz.underlying58 tz5 (lo := n) (hi := n + x) (by omega) (by omega)
     have tx := hb2.text (d := 9) Tryz.underlying58 Tryz.underlying5 Tryz.underlying9 (fun b hb3 => hr.b b (List.mem_of_mem_take (List.mem_of_mem_drop hb3)))
     have et : (s.b.take (n + x)).drop n = (s.b.drop n).take x := by rw [List.drop_take]; congr 1; omega
     rw [et] at tx
     simp (maxSteps := 1000000) -dsimp (disch := (repeat first | rw [nxn] | rw [nxp]); try omega) only [go_sem, c2, c3, c4, hR, hp, ov, lv, sb, c6, cx, ad, hs2, ov2, tx]
     refine syDraw.keepN 0 (fun _ => True) (by kernel_rfl) (by kernel_rfl) rfl ?_
     have hp0 := hp
     rw [he] at hp0
     obtain ⟨v', hs', hb', hn'⟩ := bsFrom hb hn (show n + x ≤ s.b.length by omega)
     have hl' : (s.b.drop (n + x)).length ≤ 100000000 := by rw [List.length_drop]; omega
     rcases (bsSh hb') with rfl | ⟨i5, o5, n5, z5, c5, rfl⟩
     all_goals
      simp (maxSteps := 1000000) -dsimp (disch := (repeat first | rw [nxn] | rw [nxp]); try omega) only [go_sem, hR, hp0, hs', ov, cx, ad]
      exact ⟨by first | trivial | rfl, hr.set (Fx.draw _ _ _ _) (AH.get_put_eq rfl) hb' hn' (fun b hb2 => hr.b b (List.mem_of_mem_drop hb2)) hl', Fx.draw _ _ _ _⟩
  ·have hpc : s.piece = ([], ⟨s.b, e⟩) := by unfold Rd.piece; rw [hrd, if_neg (fun hh => hh he), if_pos hx]
   rw [hpc]
   refine RnC.enter' Tryz.f80 _ 83 [.tmp 2] (hS.nr _ _ _ (by simp)) bd80 Tryz.func80 rfl rfl rfl ?_
   simp (maxSteps := 1000000) -dsimp (disch := (repeat first | rw [nxn] | rw [nxp]); try omega) only [go_sem]
   refine callK_of (rightR hS hr) ?_
   rintro w g ⟨rfl, rfl⟩
   simp (maxSteps := 1000000) -dsimp (disch := (repeat first | rw [nxn] | rw [nxp]); try omega) only [go_sem, he, hR, hp, ov]
   refine callK_of nr ?_
   rintro w g ⟨rfl, rfl⟩
   have c2 : ¬ ((e : Nat) : Int) = 0 := by omega
   simp (maxSteps := 1000000) -dsimp (disch := (repeat first | rw [nxn] | rw [nxp]); try omega) only [go_sem, c2, hR]
   refine callK_of (failR hS hr) ?_
   rintro w g2 ⟨k1, k2⟩
   try simp (maxSteps := 1000000) -dsimp (disch := (repeat first | rw [nxn] | rw [nxp]); try omega) only [go_sem]
   exact ⟨by first | trivial | rfl, k1, k2⟩
 ·rw [Rd.piece_err he]
  refine RnC.enter' Tryz.f80 _ 83 [.tmp 2] (hS.nr _ _ _ (by simp)) bd80 Tryz.func80 rfl rfl rfl ?_
  simp (maxSteps := 1000000) -dsimp (disch := (repeat first | rw [nxn] | rw [nxp]); try omega) only [go_sem]
  refine callK_of (rightR hS hr) ?_
  rintro w g ⟨rfl, rfl⟩
  simp (maxSteps := 1000000) -dsimp (disch := (repeat first | rw [nxn] | rw [nxp]); try omega) only [go_sem, he]
  exact ⟨by first | trivial | rfl, hr, Fx.refl _ _⟩
set_option maxHeartbeats 4000000 in
theorem rerrC (hS : Tr2 S) {R p : Nat} {h : AH} {s : Rd} (hr : RdA R p h s) : RnC Tryz.prog S 79 [.ptr R 0] h fun r h' => r = .int .i64 (s.e : Nat) ∧ h' = h := by
 refine RnC.enter' Tryz.f79 _ 19 [.tmp 2] (hS.nr _ _ _ (by simp)) bd79 Tryz.func79 rfl rfl rfl ?_
 obtain ⟨bv, hp, hb, hn⟩ := hr.hp
 have hR := hr.hR
 simp (maxSteps := 1000000) -dsimp (disch := (repeat first | rw [nxn] | rw [nxp]); try omega) only [go_sem, eqRd, eqPl, hR, hp]
 exact ⟨by first | trivial | rfl, by first | trivial | rfl⟩
set_option maxHeartbeats 4000000 in
theorem pleftC (hS : Tr2 S) {R p : Nat} {h : AH} {s : Rd} (hr : RdA R p h s) : RnC Tryz.prog S 137 [.ptr p 0] h fun r h' => r = .int .i64 (s.b.length : Nat) ∧ h' = h := by
 refine RnC.enter' Tryz.f137 _ 10 [.tmp 2] (hS.nr _ _ _ (by simp)) bd137 Tryz.func137 rfl rfl rfl ?_
 obtain ⟨bv, hp, hb, hn⟩ := hr.hp
 have ov := (bsOne hb).1
 have lv := (bsLn hb)
 simp (maxSteps := 1000000) -dsimp (disch := (repeat first | rw [nxn] | rw [nxp]); try omega) only [go_sem, eqPl, hp, ov, lv]
 exact ⟨by first | trivial | rfl, by first | trivial | rfl⟩
set_option maxHeartbeats 4000000 in
theorem rleftC (hS : Tr2 S) {R p : Nat} {h : AH} {s : Rd} (hr : RdA R p h s) : RnC Tryz.prog S 109 [.ptr R 0] h fun r h' => r = .int .i64 (s.b.length : Nat) ∧ h' = h := by
 refine RnC.enter' Tryz.f109 _ 10 [.tmp 2] (hS.nr _ _ _ (by simp)) bd109 Tryz.func109 rfl rfl rfl ?_
 have hR := hr.hR
 simp (maxSteps := 1000000) -dsimp (disch := (repeat first | rw [nxn] | rw [nxp]); try omega) only [go_sem, eqRd, hR]
 refine callK_of (pleftC hS hr) ?_
 rintro w g ⟨rfl, rfl⟩
 simp (maxSteps := 1000000) -dsimp (disch := (repeat first | rw [nxn] | rw [nxp]); try omega) only [go_sem]
 exact ⟨by first | trivial | rfl, by first | trivial | rfl⟩
set_option maxHeartbeats 4000000 in
theorem rendC (hS : Tr2 S) {R p : Nat} {h : AH} {s : Rd} (hr : RdA R p h s) : RnC Tryz.prog S 81 [.ptr R 0] h fun r h' => (∃ k : Nat, r = .int .i64 (k : Nat) ∧ (k = 0 ↔ s.e = 0 ∧ s.b = [])) ∧ h' = h := by
 refine RnC.enter' Tryz.f81 _ 12 [.tmp 2] (hS.nr _ _ _ (by simp)) bd81 Tryz.func81 rfl rfl rfl ?_
 simp (maxSteps := 1000000) -dsimp (disch := (repeat first | rw [nxn] | rw [nxp]); try omega) only [go_sem]
 refine callK_of (rerrC hS hr) ?_
 rintro w g ⟨rfl, rfl⟩
 by_cases he : s.e = 0
 ·have c1 : ((s.e : Nat) : Int) = 0 := by omega
  simp (maxSteps := 1000000) -dsimp (disch := (repeat first | rw [nxn] | rw [nxp]); try omega) only [go_sem, c1]
  refine callK_of (rleftC hS hr) ?_
  rintro w g ⟨rfl, rfl⟩
  by_cases hl : s.b = []
  ·have c2 : ¬ (0 : Int) < ((s.b.length : Nat) : Int) := by rw [hl]; decide
   simp (maxSteps := 1000000) -dsimp (disch := (repeat first | rw [nxn] | rw [nxp]); try omega) only [go_sem, c2]
   exact ⟨⟨0, rfl, by simp [he, hl]⟩, by first | trivial | rfl⟩
  ·have c2 : (0 : Int) < ((s.b.length : Nat) : Int) := by have := List.length_pos_iff.2 hl; omega
   simp (maxSteps := 1000000) -dsimp (disch := (repeat first | rw [nxn] | rw [nxp]); try omega) only [go_sem, c2]
   exact ⟨⟨4, rfl, by simp [hl]⟩, by first | trivial | rfl⟩
 ·have c1 : ¬ ((s.e : Nat) : Int) = 0 := by omega
  simp (maxSteps := 1000000) -dsimp (disch := (repeat first | rw [nxn] | rw [nxp]); try omega) only [go_sem, c1]
  exact ⟨⟨s.e, rfl, by simp [he]⟩, by first | trivial | rfl⟩
end
end Go.Proofs.YtmphlckolampoaaGreatDoor.tbl
