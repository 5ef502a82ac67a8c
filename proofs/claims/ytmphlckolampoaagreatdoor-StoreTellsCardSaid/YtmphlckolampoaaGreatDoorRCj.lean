/- What there is behind a record, by the program. Conditions: those of its summaries. -/
import Derived.Test.YtmphlckolampoaaGreatDoorRCi
namespace Go.Proofs.YtmphlckolampoaaGreatDoor.tbl
open Go Go.Abs Go.Abs.Rec Go.Abs.Stb Go.Proofs
set_option maxRecDepth 100000
set_option linter.unusedVariables false
set_option linter.unusedSimpArgs false
theorem bldT0 : evBuild Tryz.prog 27 [] = some (.agg [.nilptr]) := by kernel_rfl
theorem tellP_no {L : KL (List Nat)} {s : List Nat} (h : readP s = none) : tellP L s = ([], 4) := by unfold tellP; rw [h]
theorem tellP_all {L : KL (List Nat)} {s : List Nat} {l : KL (List Nat × Bool)} (h : readP s = some (l, true)) : tellP L s = if allP (ofP l) = (s, 0) then (ofP l, 0) else ([], 4) := by unfold tellP; rw [h]
theorem tellP_rec {L : KL (List Nat)} {s : List Nat} {l : KL (List Nat × Bool)} (h : readP s = some (l, false)) : tellP L s = if recP l = (s, 0) then (doneP L l, 0) else ([], 4) := by unfold tellP; rw [h]
/-- What a record that is read may be. -/
structure Fit (s : List Nat) : Prop where
 len : s.length ≤ 900000
 by256 : ∀ b ∈ s, b < 256
 r : ∀ l, readP s = some (l, false) → l.length ≤ 4096 ∧ (∀ p ∈ l, p.1.length < 16384 ∧ p.2.1.length < 16384) ∧ (recE (lastD l)).length ≤ 1048576 ∧ ∀ b ∈ recE (lastD l), b < 256
 a : ∀ l, readP s = some (l, true) → l.length ≤ 16000 ∧ (∀ p ∈ l, p.1.length < 16384 ∧ p.2.1.length < 16384) ∧ (∀ p ∈ ofP l, p.1.length < 16384 ∧ p.2.length < 16384) ∧ (allE (ofP l)).length ≤ 1048576 ∧ ∀ b ∈ allE (ofP l), b < 256
theorem ofP_len (l : KL (List Nat × Bool)) : (ofP l).length ≤ l.length := by
 have h := ofD_len l
 rw [ofD_eq] at h
 simpa [pf] using h
section
variable {S : Sums}
set_option maxHeartbeats 16000000 in
theorem tellC (hS : To S) {K : Nat → Nat} {h : AH} {tv : AV} {t : Tp} {s : List Nat} (htv : TpA K h tv t) (hrt : riseP (ino t)) (hts : t.size ≤ 100000) (fit : Fit s) (top : ∀ j, h.nx ≤ j → K j = 0) :
  RnC Tryz.prog S 12 [.agg [tv], .str s] h fun r h' => (∃ a t', r = .tup [.agg [a], .int .i64 ((tellP (ino t) s).2 : Nat)] ∧ TpA K h' a t' ∧ ino t' = (tellP (ino t) s).1) ∧ Fr h h' := by
 refine RnC.enter' Tryz.f12 _ 56 [.cell 4 27, .tmp 5] (hS.no _ _ _ (by simp)) bd12 Tryz.func12 rfl rfl rfl ?_
 have otv := htv.one.1
 have om := otv
 unfold oneA at om
 simp (maxSteps := 1000000) -dsimp (disch := (repeat first | rw [nxn] | rw [nxp]); try omega) only [go_sem, otv, om]
 generalize hg : ((h.new (.cells [tv] true false)).new (.cells [.nilptr] true false)) = g
 have ng : g.nx = h.nx + 2 := by rw [← hg]; rfl
 have fg : Fr h g := by rw [← hg]; exact (Fr.new _ _).news _
 have c0 : g.get h.nx = some (.cells [tv] true false) := by rw [← hg]; exact (AH.get_new_ne (by simp)).trans (AH.get_new_eq rfl)
 have c1 : g.get (h.nx + 1) = some (.cells [.nilptr] true false) := by rw [← hg]; exact AH.get_new_eq rfl
 have ht0 : TpA (K2 K h.nx) g tv t := (htv.col fun j hj hk => (K2.ne hj).trans hk).fr fg
 refine callK_of (readC hS fit.len fit.by256) ?_
 rintro w g1 ⟨f1, hcase⟩
 have n1 := f1.nx
 have topx : ∀ j, g.nx ≤ j → K2 K h.nx j = 0 := fun j hj => (if_neg (by omega)).trans (top j (by omega))
 have fin : ∀ (gg gk : AH) (a : AV) (t' : Tp), Fr g gg → TpA (K2 K h.nx) gg a t' → gk.nx = gg.nx → (∀ j, j ≠ h.nx + 1 → gk.get j = gg.get j) → TpA K gk a t' ∧ Fr h gk := fun gg gk a t' fgg ht hn ho =>
  ⟨(ht.keep (by omega) fun j hj hk => ho j (K2.zero hk).2.2).col fun j hj hk => (K2.zero hk).1, by have := fgg.nx; have := fg.nx; exact ⟨by omega, fun j hj => (ho j (by omega)).trans ((fgg.get j (by omega)).trans (fg.get j hj))⟩⟩
 have nilT : ∀ gg : AH, TpA (K2 K h.nx) gg .nilptr .nil := fun gg => rfl
 rcases hcase with ⟨hr, rfl⟩ | ⟨l, al, w, hr, rfl, hw⟩
 ·rw [tellP_no hr]
  have c11 : g1.get (h.nx + 1) = _ := (f1.get _ (by omega)).trans c1
  obtain ⟨k1, k2⟩ := fin g1 (g1.put (h.nx + 1) (.cells [.nilptr] true false)) .nilptr .nil f1 (nilT _) rfl fun j hj => AH.get_put_ne hj
  simp (maxSteps := 1000000) -dsimp (disch := (repeat first | rw [nxn] | rw [nxp]); try omega) only [go_sem, c11, bldT0]
  exact ⟨⟨_, _, by first | trivial | rfl, k1, rfl⟩, k2⟩
 ·obtain ⟨lw, sw, ow⟩ := hw.ln
  have c11 : g1.get (h.nx + 1) = _ := (f1.get _ (by omega)).trans c1
  have c01 : g1.get h.nx = _ := (f1.get _ (by omega)).trans c0
  cases al with
  | true =>
   rw [tellP_all hr]
   obtain ⟨fl, fp, fo, fe, fb⟩ := fit.a l hr
   have hol := ofP_len l
   simp (maxSteps := 1000000) -dsimp (disch := (repeat first | rw [nxn] | rw [nxp]); try omega) only [go_sem, c11, ow]
   refine callK_of (ofC hS.toTb hw (by omega) (fun p hp => by have := (fp p hp).1; omega) (K := K2 K h.nx) fun j hj => topx j (by omega)) ?_
   rintro w2 g2 ⟨⟨a, t', rfl, ht', hino⟩, f2⟩
   have n2 := f2.nx
   have hsz : t'.size ≤ 16000 := by rw [Tp.size_eq, hino]; omega
   generalize hg3 : ((g2.new (.cells [.nilptr] true false)).put g2.nx (.cells [a] true false)) = g3
   have n3 : g3.nx = g2.nx + 1 := by rw [← hg3]; rfl
   have f3 : Fr g2 g3 := by rw [← hg3]; exact (Fr.new _ _).put _ (Nat.le_refl _)
   have c3 : g3.get g2.nx = some (.cells [a] true false) := by rw [← hg3]; exact AH.get_put_eq rfl
   have oa := ht'.one.1
   have hall := allC hS (ht'.fr f3) hsz (by rw [hino]; exact fo) (by rw [hino]; exact fe) (by rw [hino]; exact fb)
   rw [hino] at hall
   rcases ht'.shape with hsh | ⟨ia, hsh⟩
   all_goals
    subst hsh
    try simp (maxSteps := 1000000) -dsimp (disch := (repeat first | rw [nxn] | rw [nxp]); try omega) only [go_sem]
    rw [hg3]
    try simp (maxSteps := 1000000) -dsimp (disch := (repeat first | rw [nxn] | rw [nxp]); try omega) only [go_sem, c3]
    refine callK_of hall ?_
    rintro w4 g4 ⟨rfl, f4⟩
    have n4 := f4.nx
    have c34 : g4.get g2.nx = _ := (f4.get _ (by omega)).trans c3
    have c14 : g4.get (h.nx + 1) = _ := (f4.get _ (by omega)).trans ((f3.get _ (by omega)).trans ((f2.get _ (by omega)).trans c11))
    have fg4 : Fr g g4 := ((f1.trans f2).trans f3).trans f4
    by_cases he : (allP (ofP l)).2 = 0
    ·have ce : (((allP (ofP l)).2 : Nat) : Int) = 0 := by omega
     by_cases hs : (allP (ofP l)).1 = s
     ·have hs' : decide ((allP (ofP l)).1 = s) = true := decide_eq_true hs
      rw [if_pos (Prod.ext hs he)]
      simp (maxSteps := 1000000) -dsimp (disch := (repeat first | rw [nxn] | rw [nxp]); try omega) only [go_sem, ce, neSt, hs', c34, c14]
      obtain ⟨k1, k2⟩ := fin g4 (g4.put (h.nx + 1) (.cells [_] true false)) _ _ fg4 ((ht'.fr f3).fr f4) rfl fun j hj => AH.get_put_ne hj
      exact ⟨⟨_, _, by first | trivial | rfl, k1, hino⟩, k2⟩
     ·have hs' : decide ((allP (ofP l)).1 = s) = false := decide_eq_false hs
      rw [if_neg (fun hh => hs (congrArg Prod.fst hh))]
      simp (maxSteps := 1000000) -dsimp (disch := (repeat first | rw [nxn] | rw [nxp]); try omega) only [go_sem, ce, neSt, hs', c34, c14, bldT0]
      obtain ⟨k1, k2⟩ := fin g4 (g4.put (h.nx + 1) (.cells [.nilptr] true false)) .nilptr .nil fg4 (nilT _) rfl fun j hj => AH.get_put_ne hj
      exact ⟨⟨_, _, by first | trivial | rfl, k1, rfl⟩, k2⟩
    ·have ce : ¬ (((allP (ofP l)).2 : Nat) : Int) = 0 := by omega
     rw [if_neg (fun hh => he (congrArg Prod.snd hh))]
     simp (maxSteps := 1000000) -dsimp (disch := (repeat first | rw [nxn] | rw [nxp]); try omega) only [go_sem, ce, c34, c14, bldT0]
     obtain ⟨k1, k2⟩ := fin g4 (g4.put (h.nx + 1) (.cells [.nilptr] true false)) .nilptr .nil fg4 (nilT _) rfl fun j hj => AH.get_put_ne hj
     exact ⟨⟨_, _, by first | trivial | rfl, k1, rfl⟩, k2⟩
  | false =>
   rw [tellP_rec hr]
   obtain ⟨fl, fp, fe, fb⟩ := fit.r l hr
   have hd := done_rise l hrt
   simp (maxSteps := 1000000) -dsimp (disch := (repeat first | rw [nxn] | rw [nxp]); try omega) only [go_sem, c11, ow]
   refine callK_of (recoC hS hw fl fp fe fb) ?_
   rintro w4 g4 ⟨rfl, f4⟩
   have n4 := f4.nx
   have c14 : g4.get (h.nx + 1) = _ := (f4.get _ (by omega)).trans c11
   have c04 : g4.get h.nx = _ := (f4.get _ (by omega)).trans c01
   have fg4 : Fr g g4 := f1.trans f4
   by_cases he : (recP l).2 = 0
   ·have ce : (((recP l).2 : Nat) : Int) = 0 := by omega
    by_cases hs : (recP l).1 = s
    ·have hs' : decide ((recP l).1 = s) = true := decide_eq_true hs
     rw [if_pos (Prod.ext hs he)]
     simp (maxSteps := 1000000) -dsimp (disch := (repeat first | rw [nxn] | rw [nxp]); try omega) only [go_sem, ce, neSt, hs', c04, ow, otv]
     refine callK_of (doneC hS.toTb (K := K2 K h.nx) (ht0.fr fg4) hrt hts (hw.fr f4) (by omega) (fun p hp => by have := (fp p hp).1; omega) fun j hj => topx j (by omega)) ?_
     rintro w5 g5 ⟨⟨a, t', rfl, ht', hino⟩, f5⟩
     have n5 := f5.nx
     have c15 : g5.get (h.nx + 1) = _ := (f5.get _ (by omega)).trans c14
     obtain ⟨k1, k2⟩ := fin g5 (g5.put (h.nx + 1) (.cells [a] true false)) a t' (fg4.trans f5) ht' rfl fun j hj => AH.get_put_ne hj
     rcases ht'.shape with hsh | ⟨ia, hsh⟩
     all_goals
      subst hsh
      simp (maxSteps := 1000000) -dsimp (disch := (repeat first | rw [nxn] | rw [nxp]); try omega) only [go_sem, c15]
      exact ⟨⟨_, _, by first | trivial | rfl, k1, hino⟩, k2⟩
    ·have hs' : decide ((recP l).1 = s) = false := decide_eq_false hs
     rw [if_neg (fun hh => hs (congrArg Prod.fst hh))]
     simp (maxSteps := 1000000) -dsimp (disch := (repeat first | rw [nxn] | rw [nxp]); try omega) only [go_sem, ce, neSt, hs', c14, bldT0]
     obtain ⟨k1, k2⟩ := fin g4 (g4.put (h.nx + 1) (.cells [.nilptr] true false)) .nilptr .nil fg4 (nilT _) rfl fun j hj => AH.get_put_ne hj
     exact ⟨⟨_, _, by first | trivial | rfl, k1, rfl⟩, k2⟩
   ·have ce : ¬ (((recP l).2 : Nat) : Int) = 0 := by omega
    rw [if_neg (fun hh => he (congrArg Prod.snd hh))]
    simp (maxSteps := 1000000) -dsimp (disch := (repeat first | rw [nxn] | rw [nxp]); try omega) only [go_sem, ce, c14, bldT0]
    obtain ⟨k1, k2⟩ := fin g4 (g4.put (h.nx + 1) (.cells [.nilptr] true false)) .nilptr .nil fg4 (nilT _) rfl fun j hj => AH.get_put_ne hj
    exact ⟨⟨_, _, by first | trivial | rfl, k1, rfl⟩, k2⟩
end
end Go.Proofs.YtmphlckolampoaaGreatDoor.tbl
