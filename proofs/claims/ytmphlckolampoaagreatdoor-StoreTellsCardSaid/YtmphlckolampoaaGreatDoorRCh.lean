/- The record of all, by the program. Conditions: those of its summaries. -/
import Derived.Test.YtmphlckolampoaaGreatDoorRCg
namespace Go.Proofs.YtmphlckolampoaaGreatDoor.tbl
open Go Go.Abs Go.Abs.Rec Go.Abs.Stb Go.Proofs
set_option maxRecDepth 100000
set_option linter.unusedVariables false
set_option linter.unusedSimpArgs false
theorem svT {v : AV} (hv : v = .nilptr ∨ ∃ id, v = .ptr id 0) : sameAV 20 (.agg [v]) (.agg [v]) = true := by
 rcases hv with rfl | ⟨id, rfl⟩ <;> simp [sameAV, sameL]
theorem any_pfA (L : KL (List Nat)) : (pf L).any badA = L.any (fun p => decide (p.1 = [])) := by
 unfold pf
 rw [List.any_map]; rfl
theorem any_pfL (L : KL (List Nat)) : (pf L).any badL = L.any (fun p => decide (512 < p.1.length) || decide (65536 < p.2.length)) := by
 unfold pf
 rw [List.any_map]
 congr 1
theorem allP_eq (L : KL (List Nat)) : allP L = if mayP (pf L) = 0 then (allE L, 0) else ([], mayP (pf L)) := by
 unfold allP mayP
 rw [any_pfA, any_pfL]
 split
 ·rfl
 ·split <;> rfl
abbrev pE2 (p : Pr) : List Nat := pieceE p.1 ++ pieceE p.2.1
theorem allE_eq (L : KL (List Nat)) : allE L = ([] ++ numE 2) ++ numE (pf L).length ++ (pf L).flatMap pE2 := by
 unfold allE pf
 rw [List.length_map, List.flatMap_map]
 simp [numE]
section
variable {S : Sums}
set_option maxHeartbeats 16000000 in
theorem allC (hS : To S) {K : Nat → Nat} {h : AH} {tv : AV} {t : Tp} (htv : TpA K h tv t) (hl : t.size ≤ 16000) (hpl : ∀ p ∈ ino t, p.1.length < 16384 ∧ p.2.length < 16384) (ht : (allE (ino t)).length ≤ 1048576) (hby : ∀ b ∈ allE (ino t), b < 256) :
  RnC Tryz.prog S 10 [.agg [tv]] h fun r h' => r = .tup [.str (allP (ino t)).1, .int .i64 ((allP (ino t)).2 : Nat)] ∧ Fr h h' := by
 refine RnC.enter' Tryz.f10 _ 42 [.tmp 2, .tmp 3] (hS.no _ _ _ (by simp)) bd10 Tryz.func10 rfl rfl rfl ?_
 have otv := htv.one.1
 have om := otv
 unfold oneA at om
 simp (maxSteps := 1000000) -dsimp (disch := (repeat first | rw [nxn] | rw [nxp]); try omega) only [go_sem, otv, om]
 generalize hg : (h.new (.cells [tv] true false)) = g
 have ng : g.nx = h.nx + 1 := by rw [← hg]; rfl
 have fg : Fr h g := by rw [← hg]; exact Fr.new _ _
 have c0 : g.get h.nx = some (.cells [tv] true false) := by rw [← hg]; exact AH.get_new_eq rfl
 refine syDraw.keep (fun j => j = h.nx) (by kernel_rfl) (by kernel_rfl) ?_
 have fx : Fr g { tr := g.tr, nx := g.nx + 5 } := (Fr.refl g).more _ (by omega)
 have sT := svT htv.shape
 simp (maxSteps := 1000000) -dsimp (disch := (repeat first | rw [nxn] | rw [nxp]); try omega) only [go_sem, c0, otv, om, sT, true_and, implies_true, svi, svb, svs]
 refine callK_of (sizeC hS.toTb ((htv.fr fg).fr fx)) ?_
 rintro w1 g1 ⟨rfl, f1⟩
 refine ⟨fun j hj => by subst hj; exact f1.get _ (by show h.nx < g.nx + 5; omega), ?_⟩
 try simp (maxSteps := 1000000) -dsimp (disch := (repeat first | rw [nxn] | rw [nxp]); try omega) only [go_sem, otv, om, true_and, implies_true, svi, svb, svs]
 refine callK_of (rangeC hS.toTb (((htv.fr fg).fr fx).fr f1) rfl (by omega)) ?_
 rintro w2 g2 ⟨hp2, f2⟩
 have f12 := ((fg.trans fx).trans f1).trans f2
 refine ⟨fun j hj => by subst hj; exact f2.get _ (by have := f1.nx; have : g.nx + 5 ≤ g1.nx := this; omega), ?_⟩
 have lm0 : (pf (ino t)).length = t.size := by rw [Tp.size_eq]; simp [pf]
 have hmp : ∀ p ∈ pf (ino t), p.1.length < 16384 ∧ p.2.1.length < 16384 := fun p hp => by
  unfold pf at hp
  obtain ⟨q, hq, rfl⟩ := List.mem_map.1 hp
  exact hpl q hq
 have e1 := allE_eq (ino t)
 have e2 := allP_eq (ino t)
 generalize pf (ino t) = m at hp2 lm0 hmp e1 e2
 generalize allE (ino t) = E at e1 e2 ht hby
 have hml : m.length ≤ 16000 := by omega
 obtain ⟨lm, sm, om2⟩ := hp2.ln
 have cvm := fun h => cv64 h m.length (by omega)
 rw [e2]
 rcases psShape hp2 with rfl | ⟨i5, o5, n5', c5, rfl⟩
 all_goals
  try simp (maxSteps := 1000000) -dsimp (disch := (repeat first | rw [nxn] | rw [nxp]); try omega) only [go_sem, om2, true_and, implies_true, svi, svb, svs]
  refine callK_of (mayC hS.toTq hp2 (by omega)) ?_
  rintro w3 g3 ⟨rfl, f3⟩
  by_cases hm : mayP m = 0
  ·rw [if_pos hm]
   have c1 : ((mayP m : Nat) : Int) = 0 := by omega
   try simp (maxSteps := 1000000) -dsimp (disch := (repeat first | rw [nxn] | rw [nxp]); try omega) only [go_sem, c1, om2]
   refine callK_of (numC hS.toTw (n := 2) (l := []) (.inl ⟨rfl, rfl⟩) (by simp) (by omega)) ?_
   rintro w3 g4 ⟨hb3, f4⟩
   have o3 := hb3.one
   try simp (maxSteps := 1000000) -dsimp (disch := (repeat first | rw [nxn] | rw [nxp]); try omega) only [go_sem, lm, cvm, om2, o3]
   refine callK_of (numC hS.toTw (n := m.length) hb3.bs (by simp [numE]) (by omega)) ?_
   rintro w4 g5 ⟨hb4, f5⟩
   have o4 := hb4.one
   have hb4' := hb4.bs
   have f35 := f3.trans (f4.trans f5)
   rcases (bsSh hb4') with rfl | ⟨i6, o6, n6, z6, c6, rfl⟩
   all_goals
    try simp (maxSteps := 1000000) -dsimp (disch := (repeat first | rw [nxn] | rw [nxp]); try omega) only [go_sem, lm, om2, o4]
    refine loopK_of (RnL.rounds (Q := fun ex u => ex = .exit 0 ∧ u.d = [] ∧ Fr g2 u.h ∧ ∃ w, u.t.get 6 = some w ∧ Bs u.h w E)
     (fun k u => u.d = [] ∧ Fr g2 u.h ∧ (∃ w2', u.t.get 23 = some w2' ∧ Ps g2 w2' m) ∧ u.t.get 24 = some (.int .i64 (m.length : Nat)) ∧ ∃ (i : Nat) (w : AV), u.t.get 25 = some (.int .i64 (i : Nat)) ∧ u.t.get 6 = some w ∧ Bs u.h w (([] ++ numE 2) ++ numE m.length ++ (m.take i).flatMap pE2) ∧ i ≤ m.length ∧ k = m.length - i) ?_ m.length ?_) ?_
    ·rintro k ⟨tt, g5, d⟩ ⟨e9, e5, ⟨w2', g23, hp2'⟩, g24, i, w, g25, g6', hb, hi, rfl⟩
     dsimp only at e9 e5 g23 g24 g25 g6' hb
     subst e9
     by_cases c4 : (i : Int) < (m.length : Nat)
     ·have hil : i < m.length := by omega
      obtain ⟨p, hp⟩ : ∃ p, m[i]? = some p := ⟨_, List.getElem?_eq_getElem hil⟩
      have hpl' := hmp p (List.mem_iff_getElem?.2 ⟨i, hp⟩)
      obtain ⟨id, off, c, cs, o, tx, rfl, hgi, hidl, hle, hx, _⟩ := Ps.at hp2' hp
      have hgx := (e5.get id hidl).trans hgi
      have ow := (bsOne hb).1
      have tot : (([] ++ numE 2) ++ numE m.length ++ (m.take (i + 1)).flatMap pE2).length ≤ 1048576 := by
       rw [e1] at ht
       have := flat_le pE2 m (i + 1)
       simp only [List.length_append] at ht ⊢
       omega
      have etk := flat_take pE2 hp
      rw [etk] at tot
      have tot2 := tot
      simp only [List.length_append] at tot2
      have topl : (([] ++ numE 2) ++ numE m.length ++ (m.take i).flatMap pE2).length ≤ 1048576 := by
       simp only [List.length_append]; omega
      have pl1 := piece_len p.1
      simp (maxSteps := 1000000) -dsimp (disch := (repeat first | rw [nxn] | rw [nxp]); try omega) only [go_sem, c4, g23, g24, g25, g6', hil, hgx, hle, hx, ow]
      generalize hg4 : ((g5.new (.cells [.str [], .str [], .bool false] true false)).put g5.nx (.cells [.str p.1, .str p.2.1, .bool p.2.2] true false)) = g4'
      have n4 : g4'.nx = g5.nx + 1 := by rw [← hg4]; rfl
      have f4' : Fr g5 g4' := by rw [← hg4]; exact (Fr.new _ _).put _ (Nat.le_refl _)
      have c4' : g4'.get g5.nx = some (.cells [.str p.1, .str p.2.1, .bool p.2.2] true false) := by rw [← hg4]; exact AH.get_put_eq rfl
      refine syDraw.keep (fun j => j = g5.nx) (by kernel_rfl) (by kernel_rfl) ?_
      have fx : Fr g4' { tr := g4'.tr, nx := g4'.nx + 8 } := (Fr.refl g4').more _ (by omega)
      simp (maxSteps := 1000000) -dsimp (disch := (repeat first | rw [nxn] | rw [nxp]); try omega) only [go_sem, c4', g6', ow, true_and, implies_true, svi, svb, svs]
      refine callK_of (spiC hS.toTw (s := p.1) ((hb.fr f4').fr fx) (Nat.le_trans topl (by decide)) hpl'.1) ?_
      rintro w7 g7 ⟨hb7, f7⟩
      have o7 := hb7.one
      have c7' : g7.get g5.nx = _ := (f7.get _ (by show g5.nx < g4'.nx + 8; omega)).trans c4'
      refine ⟨fun j hj => by subst hj; exact f7.get _ (by show g5.nx < g4'.nx + 8; omega), ?_⟩
      rcases hb7.shape with rfl | ⟨i8, n8, c8, rfl⟩
      all_goals
       simp (maxSteps := 1000000) -dsimp (disch := (repeat first | rw [nxn] | rw [nxp]); try omega) only [go_sem, c7', o7, true_and, implies_true, svi, svb, svs]
       refine callK_of (spiC hS.toTw (s := p.2.1) hb7.bs (by rw [List.length_append]; omega) hpl'.2) ?_
       rintro w8 g8 ⟨hb8, f8⟩
       have o8 := hb8.one
       refine ⟨fun j hj => by subst hj; exact f8.get _ (by have := f7.nx; have h9 : g4'.nx + 8 ≤ g7.nx := this; omega), ?_⟩
       have hb8' := hb8.bs
       have e8 : (([] ++ numE 2) ++ numE m.length ++ (m.take i).flatMap pE2) ++ pieceE p.1 ++ pieceE p.2.1 = ([] ++ numE 2) ++ numE m.length ++ ((m.take i).flatMap pE2 ++ pE2 p) := by simp [pE2]
       rw [e8] at hb8'
       obtain ⟨n8, hn8, l8⟩ : ∃ n8 : Nat, n8 ≤ 1048576 ∧ ∀ g, evLen Tryz.prog g #[58] w8 = some (.int .i64 (n8 : Nat)) := ⟨_, tot, bsLn hb8'⟩
       have c9 : ¬ (1048576 : Int) < ((n8 : Nat) : Int) := by omega
       have ff := (((f4'.trans fx).trans f7).trans f8)
       rw [← etk] at hb8'
       rcases hb8.shape with rfl | ⟨i9, n9, c9', rfl⟩
       all_goals
        simp (maxSteps := 1000000) -dsimp (disch := (repeat first | rw [nxn] | rw [nxp]); try omega) only [go_sem, l8, o8, c9, g23, g24, g25]
        exact ⟨m.length - (i + 1), by omega, trivial, e5.trans ff, ⟨_, rfl, hp2'⟩, trivial, i + 1, _, rfl, rfl, hb8', by omega, rfl⟩
     ·have : i = m.length := by omega
      subst this
      rw [List.take_length] at hb
      simp (maxSteps := 1000000) -dsimp (disch := (repeat first | rw [nxn] | rw [nxp]); try omega) only [go_sem, c4, g23, g24, g25, g6']
      exact ⟨trivial, trivial, e5, w, rfl, by rw [e1]; exact hb⟩
    ·simp (maxSteps := 1000000) -dsimp (disch := (repeat first | rw [nxn] | rw [nxp]); try omega) only [go_sem]
     exact ⟨trivial, f35, ⟨_, rfl, hp2⟩, trivial, 0, _, rfl, rfl, by simpa using hb4', Nat.zero_le _, rfl⟩
    ·rintro ex ⟨tt, g5, d⟩ ⟨rfl, rfl, e5, w, g6', hb⟩
     dsimp only at e5 g6' hb
     have tx := hb.text (d := 9) Tryz.underlying58 Tryz.underlying5 Tryz.underlying9 hby
     simp (maxSteps := 1000000) -dsimp (disch := (repeat first | rw [nxn] | rw [nxp]); try omega) only [go_sem, g6', tx]
     exact ⟨by first | trivial | rfl, f12.trans e5⟩
  ·rw [if_neg hm]
   have c1 : ¬ ((mayP m : Nat) : Int) = 0 := by omega
   simp (maxSteps := 1000000) -dsimp (disch := (repeat first | rw [nxn] | rw [nxp]); try omega) only [go_sem, c1]
   exact ⟨by first | trivial | rfl, f12.trans f3⟩
end
end Go.Proofs.YtmphlckolampoaaGreatDoor.tbl
