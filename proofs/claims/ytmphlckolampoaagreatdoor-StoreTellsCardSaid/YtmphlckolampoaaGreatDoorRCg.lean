/- A batch's record, by the program. Conditions: those of its summaries. -/
import Derived.Test.YtmphlckolampoaaGreatDoorRCf
import Derived.Test.YtmphlckolampoaaGreatDoorRBj
import Derived.Test.YtmphlckolampoaaGreatDoorRCb
namespace Go.Proofs.YtmphlckolampoaaGreatDoor.tbl
open Go Go.Abs Go.Abs.Rec Go.Abs.Stb Go.Proofs
set_option maxRecDepth 100000
set_option linter.unusedVariables false
set_option linter.unusedSimpArgs false
theorem flat_le {α : Type} (f : α → List Nat) (m : List α) (i : Nat) : ((m.take i).flatMap f).length ≤ (m.flatMap f).length := by
 have e : m.flatMap f = (m.take i).flatMap f ++ (m.drop i).flatMap f := by rw [← List.flatMap_append, List.take_append_drop]
 rw [e, List.length_append]; omega
theorem flat_take {α : Type} (f : α → List Nat) {m : List α} {i : Nat} {p : α} (h : m[i]? = some p) : (m.take (i + 1)).flatMap f = (m.take i).flatMap f ++ f p := by
 rw [List.take_add_one, h]; simp
theorem svs (l : List Nat) : sameAV 20 (.str l) (.str l) = true := by simp [sameAV]
theorem piece_len (s : List Nat) : (pieceE s).length ≤ s.length + 2 := by
 unfold pieceE numE
 split <;> simp <;> omega
theorem recP_eq (l : KL (List Nat × Bool)) : recP l = if l.any badA = true then ([], 2) else if l.any badL = true then ([], 3) else (recE (lastD l), 0) := rfl
theorem recP_ok {l : KL (List Nat × Bool)} (h : mayP l = 0) : recP l = (recE (lastD l), 0) := by
 unfold mayP at h
 rw [recP_eq]
 split at h
 ·cases h
 ·rename_i h1
  split at h
  ·cases h
  ·rename_i h2
   rw [if_neg h1, if_neg h2]
theorem recP_no {l : KL (List Nat × Bool)} (h : mayP l ≠ 0) : recP l = ([], mayP l) := by
 unfold mayP at h ⊢
 rw [recP_eq]
 split at h
 ·rename_i h1
  rw [if_pos h1, if_pos h1]
 ·rename_i h1
  rw [if_neg h1, if_neg h1]
  split at h
  ·rename_i h2
   rw [if_pos h2, if_pos h2]
  ·exact absurd rfl h
section
variable {S : Sums}
structure To (S : Sums) : Prop extends Tr2 S, Tq S, Ts S, Tb S where
 no : ∀ f args h, f ∈ [8, 10, 33, 12] → S f args h = none
set_option maxHeartbeats 16000000 in
theorem recoC (hS : To S) {h : AH} {v : AV} {l : KL (List Nat × Bool)} (hv : Ps h v l) (hl : l.length ≤ 4096) (hpl : ∀ p ∈ l, p.1.length < 16384 ∧ p.2.1.length < 16384) (ht : (recE (lastD l)).length ≤ 1048576) (hby : ∀ b ∈ recE (lastD l), b < 256) :
  RnC Tryz.prog S 8 [v] h fun r h' => r = .tup [.str (recP l).1, .int .i64 ((recP l).2 : Nat)] ∧ Fr h h' := by
 refine RnC.enter' Tryz.f8 _ 50 [.tmp 2, .tmp 3] (hS.no _ _ _ (by simp)) bd8 Tryz.func8 rfl rfl rfl ?_
 obtain ⟨lv, sv, ov⟩ := hv.ln
 simp (maxSteps := 1000000) -dsimp (disch := (repeat first | rw [nxn] | rw [nxp]); try omega) only [go_sem, ov]
 refine callK_of (mayC hS.toTq hv (by omega)) ?_
 rintro w g ⟨rfl, f1⟩
 by_cases hm : mayP l = 0
 ·rw [recP_ok hm]
  have c1 : ((mayP l : Nat) : Int) = 0 := by omega
  have c2 : ¬ (4096 : Int) < ((l.length : Nat) : Int) := by omega
  simp (maxSteps := 1000000) -dsimp (disch := (repeat first | rw [nxn] | rw [nxp]); try omega) only [go_sem, c1, lv, c2, ov]
  refine callK_of (lastC hS.toTs (hv.fr f1) (by omega)) ?_
  rintro w2 g2 ⟨hp2, f2⟩
  have hmp : ∀ p ∈ lastD l, p.1.length < 16384 ∧ p.2.1.length < 16384 := fun p hp => hpl p (last_mem hp)
  have hml := last_len l
  generalize hmd : lastD l = m at hp2 hmp hml ht hby
  obtain ⟨lm, sm, om⟩ := hp2.ln
  have hpsh := psShape hp2
  have e1 : recE m = ([] ++ numE 1) ++ numE m.length ++ m.flatMap pairE := by simp [recE, numE]
  have cvm := fun h => cv64 h m.length (by omega)
  have go : ∀ v, w2 = v → True := fun _ _ => trivial
  have step : ∀ u : St, True := fun _ => trivial
  have hfr12 := f1.trans f2
  clear go step
  rcases hpsh with rfl | ⟨i5, o5, n5', c5, rfl⟩
  all_goals
   try simp (maxSteps := 1000000) -dsimp (disch := (repeat first | rw [nxn] | rw [nxp]); try omega) only [go_sem, om]
   refine callK_of (numC hS.toTw (n := 1) (l := []) (.inl ⟨rfl, rfl⟩) (by simp) (by omega)) ?_
   rintro w3 g3 ⟨hb3, f3⟩
   have o3 := hb3.one
   simp (maxSteps := 1000000) -dsimp (disch := (repeat first | rw [nxn] | rw [nxp]); try omega) only [go_sem, lm, cvm, om, o3]
   refine callK_of (numC hS.toTw (n := m.length) hb3.bs (by simp [numE]) (by omega)) ?_
   rintro w4 g4 ⟨hb4, f4⟩
   have o4 := hb4.one
   have hb4' := hb4.bs
   have f24 := f3.trans f4
   rcases (bsSh hb4') with rfl | ⟨i6, o6, n6, z6, c6, rfl⟩
   all_goals
    try simp (maxSteps := 1000000) -dsimp (disch := (repeat first | rw [nxn] | rw [nxp]); try omega) only [go_sem, lm, om, o4]
    refine loopK_of (RnL.rounds (Q := fun ex u => ex = .exit 0 ∧ u.d = [] ∧ Fr g2 u.h ∧ ∃ w, u.t.get 5 = some w ∧ Bs u.h w (recE m))
     (fun k u => u.d = [] ∧ Fr g2 u.h ∧ (∃ w2', u.t.get 23 = some w2' ∧ Ps g2 w2' m) ∧ u.t.get 24 = some (.int .i64 (m.length : Nat)) ∧ ∃ (i : Nat) (w : AV), u.t.get 25 = some (.int .i64 (i : Nat)) ∧ u.t.get 5 = some w ∧ Bs u.h w (([] ++ numE 1) ++ numE m.length ++ (m.take i).flatMap pairE) ∧ i ≤ m.length ∧ k = m.length - i) ?_ m.length ?_) ?_
    ·rintro k ⟨tt, g5, d⟩ ⟨e9, e5, ⟨w2', g23, hp2'⟩, g24, i, w, g25, g5', hb, hi, rfl⟩
     dsimp only at e9 e5 g23 g24 g25 g5' hb
     subst e9
     by_cases c4 : (i : Int) < (m.length : Nat)
     ·have hil : i < m.length := by omega
      obtain ⟨p, hp⟩ : ∃ p, m[i]? = some p := ⟨_, List.getElem?_eq_getElem hil⟩
      have hpl' := hmp p (List.mem_iff_getElem?.2 ⟨i, hp⟩)
      obtain ⟨id, off, c, cs, o, tx, rfl, hgi, hidl, hle, hx, _⟩ := Ps.at hp2' hp
      have hgx := (e5.get id hidl).trans hgi
      have ow := (bsOne hb).1
      have tot : (([] ++ numE 1) ++ numE m.length ++ (m.take (i + 1)).flatMap pairE).length ≤ 1048576 := by
       rw [e1] at ht
       have := flat_le pairE m (i + 1)
       simp only [List.length_append] at ht ⊢
       omega
      have etk := flat_take pairE hp
      rw [etk] at tot
      have tot2 := tot
      simp only [List.length_append] at tot2
      have topl : (([] ++ numE 1) ++ numE m.length ++ (m.take i).flatMap pairE).length ≤ 1048576 := by
       simp only [List.length_append]; omega
      have pl1 := piece_len p.1
      cases hgn : p.2.2
      ·have epp : pairE p = numE 1 ++ (pieceE p.1 ++ pieceE p.2.1) := by unfold pairE; rw [if_neg (by rw [hgn]; decide)]; simp [numE]
       rw [hgn] at hx
       simp (maxSteps := 1000000) -dsimp (disch := (repeat first | rw [nxn] | rw [nxp]); try omega) only [go_sem, c4, g23, g24, g25, g5', hil, hgx, hle, hx, ow]
       generalize hg4 : ((g5.new (.cells [.str [], .str [], .bool false] true false)).put g5.nx (.cells [.str p.1, .str p.2.1, .bool false] true false)) = g4'
       have n4 : g4'.nx = g5.nx + 1 := by rw [← hg4]; rfl
       have f4' : Fr g5 g4' := by rw [← hg4]; exact (Fr.new _ _).put _ (Nat.le_refl _)
       have c4' : g4'.get g5.nx = some (.cells [.str p.1, .str p.2.1, .bool false] true false) := by rw [← hg4]; exact AH.get_put_eq rfl
       refine syDraw.keep (fun j => j = g5.nx) (by kernel_rfl) (by kernel_rfl) ?_
       have fx : Fr g4' { tr := g4'.tr, nx := g4'.nx + 9 } := (Fr.refl g4').more _ (by omega)
       simp (maxSteps := 1000000) -dsimp (disch := (repeat first | rw [nxn] | rw [nxp]); try omega) only [go_sem, g5', ow, true_and, implies_true, svi, svb, svs]
       refine callK_of (numC hS.toTw (n := 1) ((hb.fr f4').fr fx) (Nat.le_trans topl (by decide)) (by omega)) ?_
       rintro w6 g6 ⟨hb6, f6⟩
       have o6' := hb6.one
       have c6' : g6.get g5.nx = _ := (f6.get _ (by show g5.nx < g4'.nx + 9; omega)).trans c4'
       refine ⟨fun j hj => by subst hj; exact f6.get _ (by show g5.nx < g4'.nx + 9; omega), ?_⟩
       rcases hb6.shape with rfl | ⟨i7, n7, c7, rfl⟩
       all_goals
        simp (maxSteps := 1000000) -dsimp (disch := (repeat first | rw [nxn] | rw [nxp]); try omega) only [go_sem, c6', o6', true_and, implies_true, svi, svb, svs]
        refine callK_of (spiC hS.toTw (s := p.1) hb6.bs (by rw [List.length_append]; have : (numE 1).length = 1 := rfl; omega) hpl'.1) ?_
        rintro w7 g7 ⟨hb7, f7⟩
        have o7 := hb7.one
        have c7' : g7.get g5.nx = _ := (f7.get _ (by have := f6.nx; have h9 : g4'.nx + 9 ≤ g6.nx := this; omega)).trans c6'
        refine ⟨fun j hj => by subst hj; exact f7.get _ (by have := f6.nx; have h9 : g4'.nx + 9 ≤ g6.nx := this; omega), ?_⟩
        rcases hb7.shape with rfl | ⟨i8, n8, c8, rfl⟩
        all_goals
         simp (maxSteps := 1000000) -dsimp (disch := (repeat first | rw [nxn] | rw [nxp]); try omega) only [go_sem, c7', o7, true_and, implies_true, svi, svb, svs]
         refine callK_of (spiC hS.toTw (s := p.2.1) hb7.bs (by rw [List.length_append, List.length_append]; have : (numE 1).length = 1 := rfl; omega) hpl'.2) ?_
         rintro w8 g8 ⟨hb8, f8⟩
         have o8 := hb8.one
         refine ⟨fun j hj => by subst hj; exact f8.get _ (by have := f6.nx; have h9 : g4'.nx + 9 ≤ g6.nx := this; have := f7.nx; omega), ?_⟩
         have hb8' := hb8.bs
         have e8 : (([] ++ numE 1) ++ numE m.length ++ (m.take i).flatMap pairE) ++ numE 1 ++ pieceE p.1 ++ pieceE p.2.1 = ([] ++ numE 1) ++ numE m.length ++ ((m.take i).flatMap pairE ++ pairE p) := by rw [epp]; simp
         rw [e8] at hb8'
         obtain ⟨n8, hn8, l8⟩ : ∃ n8 : Nat, n8 ≤ 1048576 ∧ ∀ g, evLen Tryz.prog g #[58] w8 = some (.int .i64 (n8 : Nat)) := ⟨_, tot, bsLn hb8'⟩
         have c9 : ¬ (1048576 : Int) < ((n8 : Nat) : Int) := by omega
         have ff := ((((f4'.trans fx).trans f6).trans f7).trans f8)
         rw [← etk] at hb8'
         rcases hb8.shape with rfl | ⟨i9, n9, c9', rfl⟩
         all_goals
          simp (maxSteps := 1000000) -dsimp (disch := (repeat first | rw [nxn] | rw [nxp]); try omega) only [go_sem, l8, o8, c9, g23, g24, g25]
          exact ⟨m.length - (i + 1), by omega, trivial, e5.trans ff, ⟨_, rfl, hp2'⟩, trivial, i + 1, _, rfl, rfl, hb8', by omega, rfl⟩
      ·have epp : pairE p = numE 0 ++ pieceE p.1 := by unfold pairE; rw [if_pos hgn]; simp [numE]
       rw [hgn] at hx
       simp (maxSteps := 1000000) -dsimp (disch := (repeat first | rw [nxn] | rw [nxp]); try omega) only [go_sem, c4, g23, g24, g25, g5', hil, hgx, hle, hx, ow]
       generalize hg4 : ((g5.new (.cells [.str [], .str [], .bool false] true false)).put g5.nx (.cells [.str p.1, .str p.2.1, .bool true] true false)) = g4'
       have n4 : g4'.nx = g5.nx + 1 := by rw [← hg4]; rfl
       have f4' : Fr g5 g4' := by rw [← hg4]; exact (Fr.new _ _).put _ (Nat.le_refl _)
       have c4' : g4'.get g5.nx = some (.cells [.str p.1, .str p.2.1, .bool true] true false) := by rw [← hg4]; exact AH.get_put_eq rfl
       refine syDraw.keep (fun j => j = g5.nx) (by kernel_rfl) (by kernel_rfl) ?_
       have fx : Fr g4' { tr := g4'.tr, nx := g4'.nx + 6 } := (Fr.refl g4').more _ (by omega)
       simp (maxSteps := 1000000) -dsimp (disch := (repeat first | rw [nxn] | rw [nxp]); try omega) only [go_sem, g5', ow, true_and, implies_true, svi, svb, svs]
       refine callK_of (numC hS.toTw (n := 0) ((hb.fr f4').fr fx) (Nat.le_trans topl (by decide)) (by omega)) ?_
       rintro w6 g6 ⟨hb6, f6⟩
       have o6' := hb6.one
       have c6' : g6.get g5.nx = _ := (f6.get _ (by show g5.nx < g4'.nx + 6; omega)).trans c4'
       refine ⟨fun j hj => by subst hj; exact f6.get _ (by show g5.nx < g4'.nx + 6; omega), ?_⟩
       rcases hb6.shape with rfl | ⟨i7, n7, c7, rfl⟩
       all_goals
        simp (maxSteps := 1000000) -dsimp (disch := (repeat first | rw [nxn] | rw [nxp]); try omega) only [go_sem, c6', o6', true_and, implies_true, svi, svb, svs]
        refine callK_of (spiC hS.toTw (s := p.1) hb6.bs (by rw [List.length_append]; have : (numE 0).length = 1 := rfl; omega) hpl'.1) ?_
        rintro w8 g8 ⟨hb8, f8⟩
        have o8 := hb8.one
        refine ⟨fun j hj => by subst hj; exact f8.get _ (by have := f6.nx; have h9 : g4'.nx + 6 ≤ g6.nx := this; omega), ?_⟩
        have hb8' := hb8.bs
        have e8 : (([] ++ numE 1) ++ numE m.length ++ (m.take i).flatMap pairE) ++ numE 0 ++ pieceE p.1 = ([] ++ numE 1) ++ numE m.length ++ ((m.take i).flatMap pairE ++ pairE p) := by rw [epp]; simp
        rw [e8] at hb8'
        obtain ⟨n8, hn8, l8⟩ : ∃ n8 : Nat, n8 ≤ 1048576 ∧ ∀ g, evLen Tryz.prog g #[58] w8 = some (.int .i64 (n8 : Nat)) := ⟨_, tot, bsLn hb8'⟩
        have c9 : ¬ (1048576 : Int) < ((n8 : Nat) : Int) := by omega
        have ff := (((f4'.trans fx).trans f6).trans f8)
        rw [← etk] at hb8'
        rcases hb8.shape with rfl | ⟨i9, n9, c9', rfl⟩
        all_goals
         simp (maxSteps := 1000000) -dsimp (disch := (repeat first | rw [nxn] | rw [nxp]); try omega) only [go_sem, l8, o8, c9, g23, g24, g25]
         exact ⟨m.length - (i + 1), by omega, trivial, e5.trans ff, ⟨_, rfl, hp2'⟩, trivial, i + 1, _, rfl, rfl, hb8', by omega, rfl⟩
     ·have : i = m.length := by omega
      subst this
      rw [List.take_length] at hb
      simp (maxSteps := 1000000) -dsimp (disch := (repeat first | rw [nxn] | rw [nxp]); try omega) only [go_sem, c4, g23, g24, g25, g5']
      exact ⟨trivial, trivial, e5, w, rfl, by rw [e1]; exact hb⟩
    ·simp (maxSteps := 1000000) -dsimp (disch := (repeat first | rw [nxn] | rw [nxp]); try omega) only [go_sem]
     exact ⟨trivial, f24, ⟨_, rfl, hp2⟩, trivial, 0, _, rfl, rfl, by simpa using hb4', Nat.zero_le _, rfl⟩
    ·rintro ex ⟨tt, g5, d⟩ ⟨rfl, rfl, e5, w, g5', hb⟩
     dsimp only at e5 g5' hb
     have tx := hb.text (d := 9) Tryz.underlying58 Tryz.underlying5 Tryz.underlying9 hby
     simp (maxSteps := 1000000) -dsimp (disch := (repeat first | rw [nxn] | rw [nxp]); try omega) only [go_sem, g5', tx]
     exact ⟨by first | trivial | rfl, hfr12.trans e5⟩
 ·rw [recP_no hm]
  have c1 : ¬ ((mayP l : Nat) : Int) = 0 := by omega
  simp (maxSteps := 1000000) -dsimp (disch := (repeat first | rw [nxn] | rw [nxp]); try omega) only [go_sem, c1]
  exact ⟨by first | trivial | rfl, f1⟩
end
end Go.Proofs.YtmphlckolampoaaGreatDoor.tbl
