/- The record of all, by the document. Conditions: those of its summaries. -/
import Derived.Test.YtmphlckolampoaaGreatDoorRCn
namespace Go.Proofs.YtmphlckolampoaaGreatDoor.tbl
open Go Go.Abs Go.Abs.Rec Go.Proofs
set_option maxRecDepth 100000
set_option linter.unusedVariables false
set_option linter.unusedSimpArgs false
section
variable {S : Sums}
set_option maxHeartbeats 16000000 in
theorem allDC (hS : Te S) {h : AH} {v : AV} {L : KL (List Nat)} (hv : Ps h v (pf L)) (hl : L.length ≤ 16000) (hpl : ∀ p ∈ L, p.1.length < 16384 ∧ p.2.length < 16384) (ht : (allE L).length ≤ 1048576) (hby : ∀ b ∈ allE L, b < 256) :
  RnC Tryz.prog S 11 [.agg [v]] h fun r h' => r = .tup [.str (allP L).1, .int .i64 ((allP L).2 : Nat)] ∧ Fr h h' := by
 refine RnC.enter' Tryz.f11 _ 64 [.tmp 2, .tmp 3] (hS.ne _ _ _ (by simp)) bd11 Tryz.func11 rfl rfl rfl ?_
 have hmp : ∀ p ∈ pf L, p.1.length < 16384 ∧ p.2.1.length < 16384 := fun p hp => by
  unfold pf at hp
  obtain ⟨q, hq, rfl⟩ := List.mem_map.1 hp
  exact hpl q hq
 have hml : (pf L).length ≤ 16000 := by simpa [pf] using hl
 have e1 : allE L = [2] ++ numE (pf L).length ++ (pf L).flatMap pE2 := by rw [allE_eq]; simp [numE]
 have e2 : allP L = if (pf L).any badA = true then ([], 2) else if (pf L).any badL = true then ([], 3) else (allE L, 0) := by
  rw [allP_eq]
  unfold mayP
  split
  ·rfl
  ·split <;> rfl
 rw [e2]
 generalize allE L = E at e1 ht hby ⊢
 generalize pf L = m at hv hmp hml e1 ⊢
 obtain ⟨lm, sm, om⟩ := hv.ln
 have om' := om
 unfold oneA at om'
 have cvm := fun h => cv64 h m.length (by omega)
 have hc0 : ∀ o2 : AO, ((h.new (.cells [v] true false)).new o2).get h.nx = some (.cells [v] true false) := fun o2 => (AH.get_new_ne (by simp)).trans (AH.get_new_eq rfl)
 simp (maxSteps := 1000000) -dsimp (disch := (repeat first | rw [nxn] | rw [nxp]); try omega) only [go_sem, om, om', lm, cvm, hc0]
 generalize hg : (h.new (.cells [v] true false)) = g
 have ng : g.nx = h.nx + 1 := by rw [← hg]; rfl
 have fg : Fr h g := by rw [← hg]; exact Fr.new _ _
 have c0 : g.get h.nx = some (.cells [v] true false) := by rw [← hg]; exact AH.get_new_eq rfl
 rw [← ng]
 refine callK_of (numDC hS.toTw (n := m.length) (h0 := g) (l := [2]) (ey1 g [2] (by simp)) (Fr.new _ _) (by simp) (by omega)) ?_
 rintro w4 g4 ⟨hb4, f4, _⟩
 have o4 := hb4.one
 have n4 := f4.nx
 have c4 : g4.get h.nx = _ := (f4.get _ (by omega)).trans c0
 rcases hb4.shape with rfl | ⟨i6, n6, c6, rfl⟩
 all_goals
  try simp (maxSteps := 1000000) -dsimp (disch := (repeat first | rw [nxn] | rw [nxp]); try omega) only [go_sem, o4]
  refine loopK_of (RnL.rounds (Q := fun ex u => u.d = [] ∧ u.h = g4 ∧ (ex = .exit 0 ∧ u.t.get 1 = some (.ptr h.nx 0) ∧ (∃ w, u.t.get 4 = some w ∧ Ey g.nx g4 w ([2] ++ numE m.length)) ∧ m.any badA = false ∨ ex = .ret ∧ u.t.get 2 = some (.str []) ∧ u.t.get 3 = some (.int .i64 2) ∧ m.any badA = true))
   (fun k u => u.d = [] ∧ u.h = g4 ∧ u.t.get 1 = some (.ptr h.nx 0) ∧ (∃ w, u.t.get 4 = some w ∧ Ey g.nx g4 w ([2] ++ numE m.length)) ∧ ∃ i : Nat, u.t.get 5 = some (.int .i64 (i : Nat)) ∧ i ≤ m.length ∧ (m.take i).any badA = false ∧ k = m.length - i) ?_ m.length ?_) ?_
  ·rintro k ⟨tt, g', d⟩ ⟨e9, e1, g1, ⟨w, gw, hbw⟩, i, g5, hi, hn, rfl⟩
   dsimp only at e9 e1 g1 gw g5
   subst e9 e1
   by_cases c5 : (i : Int) < (m.length : Nat)
   ·have hil : i < m.length := by omega
    obtain ⟨p, hp⟩ : ∃ p, m[i]? = some p := ⟨_, List.getElem?_eq_getElem hil⟩
    obtain ⟨id, off, c, cs, o, tx, rfl, hgi, hidl, hle, hx, x0, x1, x2⟩ := Ps.at hv hp
    have hgx : g'.get id = _ := (f4.get id (by omega)).trans ((fg.get id hidl).trans hgi)
    have ht : m.take (i + 1) = m.take i ++ [p] := by rw [List.take_add_one, hp]; rfl
    cases hpk : badA p
    ·have hd : decide (p.1 = []) = false := hpk
     simp (maxSteps := 1000000) -dsimp (disch := (repeat first | rw [nxn] | rw [nxp]); try omega) only [go_sem, lm, c4, c5, g1, g5, hil, hgx, x0, eqSt, hd, b0e]
     exact ⟨m.length - (i + 1), by omega, trivial, trivial, trivial, ⟨w, gw, hbw⟩, i + 1, rfl, by omega, by rw [ht, List.any_append, hn]; simp [hpk], rfl⟩
    ·have hd : decide (p.1 = []) = true := hpk
     simp (maxSteps := 1000000) -dsimp (disch := (repeat first | rw [nxn] | rw [nxp]); try omega) only [go_sem, lm, c4, c5, g1, g5, hil, hgx, x0, eqSt, hd, b0e]
     refine ⟨trivial, trivial, .inr ⟨trivial, trivial, trivial, ?_⟩⟩
     rw [List.any_eq_true]
     exact ⟨p, List.mem_iff_getElem?.2 ⟨i, hp⟩, hpk⟩
   ·have : i = m.length := by omega
    subst this
    rw [List.take_length] at hn
    simp (maxSteps := 1000000) -dsimp (disch := (repeat first | rw [nxn] | rw [nxp]); try omega) only [go_sem, lm, c4, c5, g1, g5, om]
    exact ⟨trivial, trivial, .inl ⟨trivial, trivial, ⟨w, gw, hbw⟩, hn⟩⟩
  ·simp (maxSteps := 1000000) -dsimp (disch := (repeat first | rw [nxn] | rw [nxp]); try omega) only [go_sem]
   exact ⟨trivial, trivial, trivial, ⟨_, rfl, hb4⟩, 0, rfl, Nat.zero_le _, rfl, rfl⟩
  ·rintro ex ⟨tt, g', d⟩ ⟨e9, e3, ⟨rfl, g1, ⟨w, gw, hbw⟩, hn⟩ | ⟨rfl, g2, g3, hn⟩⟩
   ·dsimp only at e9 e3 g1 gw
    subst e9 e3
    rw [hn, if_neg (by decide)]
    simp (maxSteps := 1000000) -dsimp (disch := (repeat first | rw [nxn] | rw [nxp]); try omega) only [go_sem, g1, gw]
    refine loopK_of (RnL.rounds (Q := fun ex u => u.d = [] ∧ Fr g u.h ∧ (ex = .exit 2 ∧ (∃ w, u.t.get 4 = some w ∧ Bs u.h w E) ∧ m.any badL = false ∨ ex = .ret ∧ u.t.get 2 = some (.str []) ∧ u.t.get 3 = some (.int .i64 3) ∧ m.any badL = true))
     (fun k u => u.d = [] ∧ Fr g u.h ∧ u.t.get 1 = some (.ptr h.nx 0) ∧ ∃ (i : Nat) (w : AV), u.t.get 6 = some (.int .i64 (i : Nat)) ∧ u.t.get 4 = some w ∧ Ey g.nx u.h w ([2] ++ numE m.length ++ (m.take i).flatMap pE2) ∧ i ≤ m.length ∧ (m.take i).any badL = false ∧ k = m.length - i) ?_ m.length ?_) ?_
    ·rintro k ⟨tt, g', d⟩ ⟨e9, f5, g1, i, w, g6, gw, hb, hi, hn, rfl⟩
     dsimp only at e9 f5 g1 g6 gw hb
     subst e9
     have c4' : g'.get h.nx = _ := (f5.get _ (by omega)).trans c0
     have ow := hb.one
     by_cases c5 : (i : Int) < (m.length : Nat)
     ·have hil : i < m.length := by omega
      obtain ⟨p, hp⟩ : ∃ p, m[i]? = some p := ⟨_, List.getElem?_eq_getElem hil⟩
      have hpl' := hmp p (List.mem_iff_getElem?.2 ⟨i, hp⟩)
      obtain ⟨id, off, c, cs, o, tx, rfl, hgi, hidl, hle, hx, x0, x1, x2⟩ := Ps.at hv hp
      have hidg : id < g.nx := by omega
      have hgx : g'.get id = _ := (f5.get id hidg).trans ((fg.get id hidl).trans hgi)
      have hta : m.take (i + 1) = m.take i ++ [p] := by rw [List.take_add_one, hp]; rfl
      have tot : ([2] ++ numE m.length ++ (m.take (i + 1)).flatMap pE2).length ≤ 1048576 := by
       rw [e1] at ht
       have := flat_le pE2 m (i + 1)
       simp only [List.length_append] at ht ⊢
       omega
      have etk := flat_take pE2 hp
      rw [etk] at tot
      have tot2 := tot
      simp only [List.length_append] at tot2
      have topl : ([2] ++ numE m.length ++ (m.take i).flatMap pE2).length ≤ 1048576 := by
       simp only [List.length_append]; omega
      simp (maxSteps := 1000000) -dsimp (disch := (repeat first | rw [nxn] | rw [nxp]); try omega) only [go_sem, lm, c4', c5, g1, g6, hil, hgx, hle, hx]
      refine callK_of (fineC hS g' p) ?_
      rintro w1 g1' ⟨rfl, f1⟩
      cases hpk : badL p
      ·have hb1 := hb.fr f1
       have f6 := f5.trans f1
       have c41 : g1'.get h.nx = _ := (f6.get _ (by omega)).trans c0
       have hgx1 : g1'.get id = _ := (f6.get id hidg).trans ((fg.get id hidl).trans hgi)
       have hlt : ∀ id o n z c, w = .sl id o n z c → id ≠ g1'.nx + 13 := fun id o n z c hh => by have := eyLt hb1 hh; omega
       have fX : Fr g1' (({ tr := g1'.tr, nx := g1'.nx + 16 } : AH).put (g1'.nx + 13) (.cells [.str p.1, .str p.2.1] true false)) := ((Fr.refl g1').more _ (by omega)).put _ (by omega)
       have hbx : Ey g.nx (({ tr := g1'.tr, nx := g1'.nx + 16 } : AH).put (g1'.nx + 13) (.cells [.str p.1, .str p.2.1] true false)) w ([2] ++ numE m.length ++ (m.take i).flatMap pE2) := hb1.fr fX
       simp (maxSteps := 1000000) -dsimp (disch := (repeat first | rw [nxn] | rw [nxp]); try omega) only [go_sem, g1, g6, gw]
       refine syDraw.keepN 0 (fun _ => True) (by kernel_rfl) (by kernel_rfl) rfl ?_
       simp (maxSteps := 1000000) -dsimp (disch := (repeat first | rw [nxn] | rw [nxp]); try omega) only [go_sem, c41, g1, g6, gw, hil, hgx1, x0, x1, ow]
       refine callK_of (piesDC hS.toTw (ts := [p.1, p.2.1]) hbx (f6.trans fX) (AH.get_put_eq rfl) (by show g1'.nx + 13 < g1'.nx + 16; omega) (fun i o n c hh => (hlt _ _ _ _ _ hh).symm) rfl (by simp) (Nat.le_trans topl (by decide)) (fun s hs => by simp at hs; rcases hs with rfl | rfl; exact hpl'.1; exact hpl'.2)) ?_
       rintro w8 g8' ⟨hb8, f8⟩
       have o8 := hb8.one
       have e8 : ([2] ++ numE m.length ++ (m.take i).flatMap pE2) ++ ([p.1, p.2.1].flatMap pieceE) = [2] ++ numE m.length ++ ((m.take i).flatMap pE2 ++ pE2 p) := by simp [pE2]
       rw [e8] at hb8
       obtain ⟨n8, hn8, l8⟩ : ∃ n8 : Nat, n8 ≤ 1048576 ∧ ∀ g, evLen Tryz.prog g #[58] w8 = some (.int .i64 (n8 : Nat)) := ⟨_, tot, bsLn hb8.bs⟩
       have c9 : ¬ (1048576 : Int) < ((n8 : Nat) : Int) := by omega
       rw [← etk] at hb8
       rcases hb8.shape with rfl | ⟨i9, n9, c9', rfl⟩
       all_goals
        simp (maxSteps := 1000000) -dsimp (disch := (repeat first | rw [nxn] | rw [nxp]); try omega) only [go_sem, l8, o8, c9, g1, g6]
        exact ⟨m.length - (i + 1), by omega, trivial, f8, trivial, i + 1, _, rfl, rfl, hb8, by omega, by rw [hta, List.any_append, hn]; simp [hpk], rfl⟩
      ·simp (maxSteps := 1000000) -dsimp (disch := (repeat first | rw [nxn] | rw [nxp]); try omega) only [go_sem, g1, g6, b0e]
       refine ⟨trivial, f5.trans f1, .inr ⟨trivial, trivial, trivial, ?_⟩⟩
       rw [List.any_eq_true]
       exact ⟨p, List.mem_iff_getElem?.2 ⟨i, hp⟩, hpk⟩
     ·have : i = m.length := by omega
      subst this
      rw [List.take_length] at hn hb
      simp (maxSteps := 1000000) -dsimp (disch := (repeat first | rw [nxn] | rw [nxp]); try omega) only [go_sem, lm, c4', c5, g1, g6, gw, om]
      exact ⟨trivial, f5, .inl ⟨trivial, ⟨w, rfl, by rw [e1]; exact hb.bs⟩, hn⟩⟩
    ·simp (maxSteps := 1000000) -dsimp (disch := (repeat first | rw [nxn] | rw [nxp]); try omega) only [go_sem, g1, gw]
     exact ⟨trivial, f4, trivial, 0, w, rfl, rfl, by simpa using hbw, Nat.zero_le _, rfl, rfl⟩
    ·rintro ex ⟨tt, g', d⟩ ⟨e9, f5, ⟨rfl, ⟨w, gw, hb⟩, hn⟩ | ⟨rfl, g2, g3, hn⟩⟩
     ·dsimp only at e9 f5 gw hb
      subst e9
      rw [hn, if_neg (by decide)]
      have tx := hb.text (d := 9) Tryz.underlying58 Tryz.underlying5 Tryz.underlying9 hby
      simp (maxSteps := 1000000) -dsimp (disch := (repeat first | rw [nxn] | rw [nxp]); try omega) only [go_sem, gw, tx]
      exact ⟨by first | trivial | rfl, fg.trans f5⟩
     ·dsimp only at e9 f5 g2 g3
      subst e9
      rw [hn, if_pos rfl]
      simp (maxSteps := 1000000) -dsimp (disch := (repeat first | rw [nxn] | rw [nxp]); try omega) only [go_sem, g2, g3]
      exact ⟨by first | trivial | rfl, fg.trans f5⟩
   ·dsimp only at e9 e3 g2 g3
    subst e9 e3
    rw [hn, if_pos rfl]
    simp (maxSteps := 1000000) -dsimp (disch := (repeat first | rw [nxn] | rw [nxp]); try omega) only [go_sem, g2, g3]
    exact ⟨by first | trivial | rfl, fg.trans f4⟩
end
end Go.Proofs.YtmphlckolampoaaGreatDoor.tbl
