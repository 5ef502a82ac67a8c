/- The law StoreTells, walked: the last part. Conditions: those of its summaries. -/
import Derived.Test.YtmphlckolampoaaGreatDoorRDa
namespace Go.Proofs.YtmphlckolampoaaGreatDoor.tbl
open Go Go.Abs Go.Abs.Rec Go.Proofs
set_option maxRecDepth 100000
set_option linter.unusedVariables false
set_option linter.unusedSimpArgs false
theorem eqI (h : AH) (t : TypeId) (n : Nat) : binA Tryz.prog h .eql t (.int .i64 (n : Nat)) (.int .i64 (n : Nat)) = some (.bool true) := by
 rw [binA_eql]; simp
theorem tellP_len {L : KL (List Nat)} {s : List Nat} (hr : riseP L) (hl : L.length ≤ 50000) (fp : Fit s) : (tellP L s).1.length ≤ 100000 := by
 unfold tellP
 split
 ·exact Nat.zero_le _
 ·rename_i l he
  have h1 := (fp.a l he).1
  have h2 := ofP_len l
  split
  ·show (ofP l).length ≤ _
   omega
  ·exact Nat.zero_le _
 ·rename_i l he
  have h1 := (fp.r l he).1
  have h2 := (done_rise l hr).2
  split
  ·show (doneP L l).length ≤ _
   omega
  ·exact Nat.zero_le _
section
variable {S : Sums}
set_option maxHeartbeats 16000000 in
theorem tells (hS : Tf S) (hN : ∀ args h, S 3 args h = none) (hL : ∀ h, S 4 [] h = some (.bool true, h)) {h : AH} {x0 x1 : AV} {l all : KL (List Nat × Bool)} {s : List Nat}
  (hx0 : Ps h x0 l) (hx1 : Ps h x1 all) (hb0 : ∀ p ∈ l, byL p.1 ∧ byL p.2.1) (hb1 : ∀ p ∈ all, byL p.1 ∧ byL p.2.1) (hbs : byL s) : RnC Tryz.prog S 3 [x0, x1, .str s] h fun r _ => r = .bool true := by
 refine RnC.enter' Tryz.f3 _ 104 [.tmp 6] (hN _ _) bd3 Tryz.func3 rfl rfl rfl ?_
 obtain ⟨lv0, s0, o0⟩ := hx0.ln
 obtain ⟨lv1, s1, o1⟩ := hx1.ln
 have ls : ∀ g, evLen Tryz.prog g #[9] (.str s) = some (.int .i64 ((s.length : Nat) : Int)) := fun g => by simp [evLen, Tryz.underlying9]
 simp (maxSteps := 1000000) -dsimp (disch := (repeat first | rw [nxn] | rw [nxp]); try omega) only [go_sem]
 refine callK_of (RnC.sum (hL _) (Q := fun v h' => v = .bool true ∧ h' = h) ⟨rfl, rfl⟩) ?_
 rintro r g ⟨rfl, rfl⟩
 simp (maxSteps := 1000000) -dsimp (disch := (repeat first | rw [nxn] | rw [nxp]); try omega) only [go_sem, o0, o1]
 refine callK_of (lightC hS.toTd hx0) ?_
 rintro w g1 ⟨f1, b1, rfl, hl1⟩
 cases b1
 ·simp (maxSteps := 1000000) -dsimp (disch := (repeat first | rw [nxn] | rw [nxp]); try omega) only [go_sem, o0, o1]
 simp (maxSteps := 1000000) -dsimp (disch := (repeat first | rw [nxn] | rw [nxp]); try omega) only [go_sem, o0, o1]
 refine callK_of (lightC hS.toTd (hx1.fr f1)) ?_
 rintro w g2 ⟨f2, b2, rfl, hl2⟩
 cases b2
 ·simp (maxSteps := 1000000) -dsimp (disch := (repeat first | rw [nxn] | rw [nxp]); try omega) only [go_sem, o0, o1]
 by_cases hs' : 3000 < s.length
 ·have cs : (3000 : Int) < ((s.length : Nat) : Int) := by omega
  simp (maxSteps := 1000000) -dsimp (disch := (repeat first | rw [nxn] | rw [nxp]); try omega) only [go_sem, ls, cs]
 have hs : s.length ≤ 3000 := Nat.le_of_not_lt hs'
 have cs : ¬ (3000 : Int) < ((s.length : Nat) : Int) := by omega
 obtain ⟨nl, wl⟩ := hl1 rfl
 obtain ⟨na, wa⟩ := hl2 rfl
 obtain ⟨wl1, _⟩ := wP_eq wl
 obtain ⟨wa1, _⟩ := wP_eq wa
 obtain ⟨fl1, fl2, fl3, fl4, fl5, fl6⟩ := fit_of (by omega) (by omega) hb0
 obtain ⟨fa1, fa2, fa3, fa4, fa5, fa6⟩ := fit_of (by omega) (by omega) hb1
 have f12 := f1.trans f2
 obtain ⟨v3, g3, ha3, f3, hz3, ov3⟩ := appP (h0 := g2) (h := g2.new (.cells [] true true)) (m := all) (ez0 g2) ((hx1.fr f12).fr (Fr.new _ _)) (Fr.new _ _) (by simp; omega)
 rw [List.nil_append] at hz3
 have hol := ofP_len all
 rcases ezShape hz3 with hsh | ⟨i3, n3, c3, hsh⟩
 all_goals
  subst hsh
  simp (maxSteps := 1000000) -dsimp (disch := (repeat first | rw [nxn] | rw [nxp]); try omega) only [go_sem, ls, cs, o0, o1, ha3, ov3]
  refine callK_of (ofC hS.toTb (K := fun _ => 0) (Ps.of hz3) (by omega) (fun p hp => by have := (fa1 p hp).1; omega) (fun _ _ => rfl)) ?_
  rintro w4 g4 ⟨⟨a, t, rfl, hta, hit⟩, f4⟩
  have oa := hta.one.1
  have om := oa
  unfold oneA at om
  have hts : t.size ≤ 40 := by rw [Tp.size_eq, hit]; omega
  try simp (maxSteps := 1000000) -dsimp (disch := (repeat first | rw [nxn] | rw [nxp]); try omega) only [go_sem, oa, o1]
  have f14 := (f12.trans f3).trans f4
  refine callK_of (ofDC hS.toTd (hx1.fr f14) (by omega)) ?_
  rintro w5 g5 ⟨⟨v', rfl, hv', _⟩, f5⟩
  rw [ofD_eq, ← hit] at hv'
  have o5 := hv'.ln.2.2
  have om5 := o5
  unfold oneA at om5
  try simp (maxSteps := 1000000) -dsimp (disch := (repeat first | rw [nxn] | rw [nxp]); try omega) only [go_sem, oa, om, o5, om5]
  generalize hg6 : ((((g5.new (.cells [.nilptr] true false)).new (.cells [.nilsl] true false)).put g5.nx (.cells [a] true false)).put (g5.nx + 1) (.cells [v'] true false)) = g6
  have n6 : g6.nx = g5.nx + 2 := by rw [← hg6]; rfl
  have f6 : Fr g5 g6 := by rw [← hg6]; exact (((Fr.new _ _).news _).put _ (Nat.le_refl _)).put _ (Nat.le_succ _)
  have c6 : g6.get g5.nx = some (.cells [a] true false) := by rw [← hg6]; exact (AH.get_put_ne (by omega)).trans (AH.get_put_eq rfl)
  have d6 : g6.get (g5.nx + 1) = some (.cells [v'] true false) := by rw [← hg6]; exact AH.get_put_eq rfl
  have e6 : g5.nx + 1 + 1 = g6.nx := by omega
  rw [e6]
  have f16 := (f14.trans f5).trans f6
  have ht6 := (hta.fr f5).fr f6
  have hv6 := hv'.fr f6
  obtain ⟨v7, g7, ha7, f7, hz7, ov7⟩ := appP (h0 := g6) (h := g6.new (.cells [] true true)) (m := l) (ez0 g6) ((hx0.fr f16).fr (Fr.new _ _)) (Fr.new _ _) (by simp; omega)
  rw [List.nil_append] at hz7
  have hp7 := Ps.of hz7
  have o7 := hp7.ln.2.2
  simp (maxSteps := 1000000) -dsimp (disch := (repeat first | rw [nxn] | rw [nxp]); try omega) only [go_sem, ha7, o7]
  refine callK_of (recoC hS.toTo hp7 (by omega) fl1 fl3 fl4) ?_
  rintro w8 g8 ⟨rfl, f8⟩
  try simp (maxSteps := 1000000) -dsimp (disch := (repeat first | rw [nxn] | rw [nxp]); try omega) only [go_sem, o0]
  refine callK_of (recoDC hS.toTe (hx0.fr ((f16.trans f7).trans f8)) (by omega) fl1 fl3 fl4) ?_
  rintro w9 g9 ⟨rfl, f9⟩
  have f69 := (f7.trans f8).trans f9
  have c9 : g9.get g5.nx = _ := (f69.get _ (by omega)).trans c6
  have d9 : g9.get (g5.nx + 1) = _ := (f69.get _ (by omega)).trans d6
  simp (maxSteps := 1000000) -dsimp (disch := (repeat first | rw [nxn] | rw [nxp]); try omega) only [go_sem, c9, oa]
  refine callK_of (allC hS.toTo (ht6.fr f69) (by omega) (by rw [hit]; exact fa2) (by rw [hit]; exact fa5) (by rw [hit]; exact fa6)) ?_
  rintro w10 g10 ⟨rfl, f10⟩
  have d10 : g10.get (g5.nx + 1) = _ := (f10.get _ (by have := f69.nx; omega)).trans d9
  simp (maxSteps := 1000000) -dsimp (disch := (repeat first | rw [nxn] | rw [nxp]); try omega) only [go_sem, d10, o5]
  refine callK_of (allDC hS.toTe (hv6.fr (f69.trans f10)) (by rw [hit]; omega) (by rw [hit]; exact fa2) (by rw [hit]; exact fa5) (by rw [hit]; exact fa6)) ?_
  rintro w11 g11 ⟨rfl, f11⟩
  have f611 := (f69.trans f10).trans f11
  have c11 : g11.get g5.nx = _ := (f611.get _ (by omega)).trans c6
  simp (maxSteps := 1000000) -dsimp (disch := (repeat first | rw [nxn] | rw [nxp]); try omega) only [go_sem, c11, oa]
  have hri : riseP (ino t) := by rw [hit, ofP_last]; exact riseP_last _
  refine callK_of (tellC hS.toTo (K := fun _ => 0) (ht6.fr f611) hri (by omega) (fitP hs hbs) (fun _ _ => rfl)) ?_
  rintro w12 g12 ⟨⟨a2, t2, rfl, ht2, hi2⟩, f12'⟩
  have oa2 := ht2.one.1
  have om2 := oa2
  unfold oneA at om2
  try simp (maxSteps := 1000000) -dsimp (disch := (repeat first | rw [nxn] | rw [nxp]); try omega) only [go_sem, oa2, om2]
  have hlen2 : t2.size ≤ 100000 := by
   rw [Tp.size_eq, hi2]
   exact tellP_len hri (by rw [hit]; omega) (fitP hs hbs)
  generalize hg13 : ((g12.new (.cells [.nilptr] true false)).put g12.nx (.cells [a2] true false)) = g13
  have n13 : g13.nx = g12.nx + 1 := by rw [← hg13]; rfl
  have f13 : Fr g12 g13 := by rw [← hg13]; exact (Fr.new _ _).put _ (Nat.le_refl _)
  have c13 : g13.get g12.nx = some (.cells [a2] true false) := by rw [← hg13]; exact AH.get_put_eq rfl
  have f613 := (f611.trans f12').trans f13
  have d13 : g13.get (g5.nx + 1) = _ := (f613.get _ (by omega)).trans d6
  have ht13 := ht2.fr f13
  simp (maxSteps := 1000000) -dsimp (disch := (repeat first | rw [nxn] | rw [nxp]); try omega) only [go_sem, d13, o5]
  refine callK_of (tellDC hS.toTe (hv6.fr f613) (by rw [hit]; omega) hri (fitD hs hbs)) ?_
  rintro w14 g14 ⟨⟨a3, rfl, ha3'⟩, f14'⟩
  rw [← tell_eq (ino t) (show s.length ≤ 16000 by omega)] at ha3' ⊢
  rw [← hi2] at ha3'
  have o3 := ha3'.ln.2.2
  have om3 := o3
  unfold oneA at om3
  have c14 : g14.get g12.nx = _ := (f14'.get _ (by omega)).trans c13
  have n14 := f14'.nx
  generalize (tellP (ino t) s).2 = eT
  generalize (recP l).2 = eR
  generalize (recP l).1 = bR
  generalize (allP (ino t)).2 = eA
  generalize (allP (ino t)).1 = bA
  try simp (maxSteps := 1000000) -dsimp (disch := (repeat first | rw [nxn] | rw [nxp]); try omega) only [go_sem, o3, om3]
  generalize hg15 : ((g14.new (.cells [.nilsl] true false)).put g14.nx (.cells [a3] true false)) = g15
  have n15 : g15.nx = g14.nx + 1 := by rw [← hg15]; rfl
  have f15 : Fr g14 g15 := by rw [← hg15]; exact (Fr.new _ _).put _ (Nat.le_refl _)
  have c15 : g15.get g12.nx = _ := (f15.get _ (by omega)).trans c14
  have d15 : g15.get g14.nx = some (.cells [a3] true false) := by rw [← hg15]; exact AH.get_put_eq rfl
  simp (maxSteps := 1000000) -dsimp (disch := (repeat first | rw [nxn] | rw [nxp]); try omega) only [go_sem, eqSt, eqI, c15, d15, oa2, o3]
  refine callK_of (sameC hS (ht13.fr (f14'.trans f15)) (ha3'.fr f15) hlen2) ?_
  rintro w16 g16 ⟨rfl, f16'⟩
  simp (maxSteps := 1000000) -dsimp (disch := (repeat first | rw [nxn] | rw [nxp]); try omega) only [go_sem, eqI]
end
end Go.Proofs.YtmphlckolampoaaGreatDoor.tbl
