/- Pairs sorted in place, equals in their order. Conditions: those of its summaries. -/
import Derived.Test.YtmphlckolampoaaGreatDoorRBf
namespace Go.Proofs.YtmphlckolampoaaGreatDoor.tbl
open Go Go.Abs Go.Abs.Rec Go.Abs.Stb Go.Proofs
set_option maxRecDepth 100000
set_option linter.unusedVariables false
set_option linter.unusedSimpArgs false
/-- Sorted block by block. -/
inductive Fl (w : Nat) : PL → PL → Prop
 | last {D : PL} : D.length ≤ w → Fl w D (isort ltK D)
 | more {D L : PL} : w ≤ D.length → Fl w (D.drop w) L → Fl w D (isort ltK (D.take w) ++ L)
theorem Fl.short {w : Nat} {D T : PL} (hf : Fl w D T) (hw : 0 < w) (hl : D.length ≤ w) : T = isort ltK D := by
 cases hf with
 | last _ => rfl
 | more h1 h2 =>
  have e : D.drop w = [] := List.drop_eq_nil_of_le hl
  rw [e] at h2
  rw [List.take_of_length_le hl]
  cases h2 with
  | last _ => simp [isort]
  | more h3 _ => simp at h3; omega
theorem Fl.cut {w : Nat} {D T : PL} (hf : Fl w D T) (hw : 0 < w) (hl : w ≤ D.length) : ∃ T1, T = isort ltK (D.take w) ++ T1 ∧ Fl w (D.drop w) T1 := by
 cases hf with
 | last h1 =>
  refine ⟨[], by rw [List.take_of_length_le h1, List.append_nil], ?_⟩
  rw [List.drop_eq_nil_of_le h1]
  exact Fl.last (D := []) (by simp)
 | more h1 h2 => exact ⟨_, rfl, h2⟩
theorem Fl.len {w : Nat} {D T : PL} (hf : Fl w D T) : T.length = D.length := by
 induction hf with
 | last _ => rw [isort_len]
 | more h1 h2 ih => rw [List.length_append, isort_len, ih, List.length_take, List.length_drop]; omega
theorem take_cat {D : PL} {w : Nat} (h : 2 * w ≤ D.length) : D.take w ++ (D.drop w).take w = D.take (2 * w) := by
 rw [show 2 * w = w + w by omega, List.take_add]
section
variable {S : Sums}
set_option maxHeartbeats 16000000 in
theorem stabC (hS : Ts S) {h : AH} {id : Nat} {v : AV} {D : PL} (hm : Mt id v h D) (hb : D.length ≤ 100000) {n : Nat} (hn : n = D.length) :
  RnC Tryz.prog S 104 [v, .int .i64 (n : Nat), fK] h fun r h' => Mr id v h h' (isort ltK D) := by
 refine RnC.enter' Tryz.f104 _ 63 [] (hS.ns _ _ _ (by simp)) bd104 Tryz.func104 rfl rfl rfl ?_
 have ov : oneA v = true := by obtain ⟨⟨c, hv, _⟩, _⟩ := hm; rw [hv]; rfl
 have hf : oneA fK = true := rfl
 simp (maxSteps := 1000000) -dsimp (disch := (repeat first | rw [nxn] | rw [nxp]); try omega) only [go_sem, ov]
 refine loopK_of (RnL.rounds (Q := fun ex u => ex = .exit 0 ∧ u.d = [] ∧ u.t.get 0 = some v ∧ u.t.get 1 = some (.int .i64 (n : Nat)) ∧ u.t.get 2 = some fK ∧ u.t.get 6 = some (.int .i64 20) ∧ ∃ (a : Nat) (P : PL), u.t.get 7 = some (.int .i64 (a : Nat)) ∧ a ≤ n ∧ n < a + 20 ∧ P.length = a ∧ (∀ L, Fl 20 (D.drop a) L → Fl 20 D (P ++ L)) ∧ Mr id v h u.h (P ++ D.drop a))
  (fun m u => u.d = [] ∧ u.t.get 0 = some v ∧ u.t.get 1 = some (.int .i64 (n : Nat)) ∧ u.t.get 2 = some fK ∧ u.t.get 6 = some (.int .i64 20) ∧ ∃ (a : Nat) (P : PL), u.t.get 7 = some (.int .i64 (a : Nat)) ∧ u.t.get 8 = some (.int .i64 ((a + 20 : Nat) : Int)) ∧ a ≤ n ∧ P.length = a ∧ (∀ L, Fl 20 (D.drop a) L → Fl 20 D (P ++ L)) ∧ Mr id v h u.h (P ++ D.drop a) ∧ m = n - a) ?_ n ?_) ?_
 ·rintro m ⟨tt, g, d⟩ ⟨e9, g0, g1, g2, g6, a, P, g7, g8, ha, hP, hfl, hmr, rfl⟩
  dsimp only at e9 g0 g1 g2 g6 g7 g8 hmr
  subst e9
  by_cases c1 : a + 20 ≤ n
  ·have c2 : ((a + 20 : Nat) : Int) ≤ ((n : Nat) : Int) := by omega
   have hdl : (D.drop a).length = n - a := by rw [List.length_drop]; omega
   have hd : D.drop a = (D.drop a).take 20 ++ D.drop (a + 20) := by rw [← List.drop_drop, List.take_append_drop]
   simp (maxSteps := 1000000) -dsimp (disch := (repeat first | rw [nxn] | rw [nxp]); try omega) only [go_sem, c2, g0, g1, g2, g6, g7, g8, ov, hf]
   refine callK_of (insC hS (A := P) (Q := (D.drop a).take 20) (B := D.drop (a + 20)) (by have := hmr.m; rw [hd] at this; simpa only [List.append_assoc] using this) (by rw [List.append_assoc, ← hd, List.length_append]; omega) hP.symm (by rw [List.length_take]; omega)) ?_
   intro w g5 hr
   have e20 : ((a + 20 : Nat) : Int) + 20 = ((a + 20 + 20 : Nat) : Int) := by omega
   simp (maxSteps := 1000000) -dsimp (disch := (repeat first | rw [nxn] | rw [nxp]); try omega) only [go_sem, g0, g1, g2, g6, g7, g8, e20]
   refine ⟨n - (a + 20), by omega, trivial, trivial, trivial, trivial, trivial, a + 20, P ++ isort ltK ((D.drop a).take 20), rfl, rfl, by omega, by rw [List.length_append, isort_len, List.length_take]; omega, fun L hL => ?_, hmr.trans (hr.eqL (by simp)), rfl⟩
   rw [List.append_assoc]
   exact hfl _ (Fl.more (by omega) (by rw [List.drop_drop]; exact hL))
  ·have c2 : ¬ ((a + 20 : Nat) : Int) ≤ ((n : Nat) : Int) := by omega
   simp (maxSteps := 1000000) -dsimp (disch := (repeat first | rw [nxn] | rw [nxp]); try omega) only [go_sem, c2, g0, g1, g2, g6, g7, g8]
   exact ⟨trivial, trivial, trivial, trivial, trivial, trivial, a, P, rfl, ha, by omega, hP, hfl, hmr⟩
 ·simp (maxSteps := 1000000) -dsimp (disch := (repeat first | rw [nxn] | rw [nxp]); try omega) only [go_sem]
  exact ⟨trivial, trivial, trivial, trivial, trivial, 0, [], rfl, rfl, Nat.zero_le _, rfl, fun L hL => hL, Mr.refl hm, rfl⟩
 ·rintro ex ⟨tt, g, d⟩ ⟨rfl, rfl, g0, g1, g2, g6, a, P, g7, ha, hn20, hP, hfl, hmr⟩
  dsimp only at g0 g1 g2 g6 g7 hmr
  have hdl : (D.drop a).length = n - a := by rw [List.length_drop]; omega
  simp (maxSteps := 1000000) -dsimp (disch := (repeat first | rw [nxn] | rw [nxp]); try omega) only [go_sem, g0, g1, g2, g6, g7, ov, hf]
  refine callK_of (insC hS (A := P) (Q := D.drop a) (B := []) (by simpa only [List.append_nil] using hmr.m) (by rw [List.append_nil, List.length_append]; omega) hP.symm (by omega)) ?_
  intro w g5 hr
  have hmr5 : Mr id v h g5 (P ++ isort ltK (D.drop a)) := hmr.trans (by simpa only [List.append_nil] using hr)
  have hF := hfl _ (Fl.last (w := 20) (D := D.drop a) (by omega))
  generalize P ++ isort ltK (D.drop a) = T0 at hF hmr5
  clear hr hfl hmr
  try simp (maxSteps := 1000000) -dsimp (disch := (repeat first | rw [nxn] | rw [nxp]); try omega) only [go_sem, g0, g1, g2, g6, g7]
  refine loopK_of (RnL.rounds (Q := fun ex u => ex = .exit 2 ∧ u.d = [] ∧ Mr id v h u.h (isort ltK D))
   (fun m u => u.d = [] ∧ u.t.get 0 = some v ∧ u.t.get 1 = some (.int .i64 (n : Nat)) ∧ u.t.get 2 = some fK ∧ ∃ (w : Nat) (T : PL), u.t.get 6 = some (.int .i64 (w : Nat)) ∧ 0 < w ∧ w ≤ 20 + 2 * n ∧ Fl w D T ∧ Mr id v h u.h T ∧ m = n - w) ?_ (n - 20) ?_) ?_
  ·rintro m ⟨tt2, g', d2⟩ ⟨e9, g0, g1, g2, w, T, g6, hw, hw2, hT, hmr, rfl⟩
   dsimp only at e9 g0 g1 g2 g6 hmr
   subst e9
   by_cases c1 : w < n
   ·have c2 : ((w : Nat) : Int) < ((n : Nat) : Int) := by omega
    have e2 : (2 : Int) * ((w : Nat) : Int) = ((2 * w : Nat) : Int) := by omega
    simp (maxSteps := 1000000) -dsimp (disch := (repeat first | rw [nxn] | rw [nxp]); try omega) only [go_sem, c2, g0, g1, g2, g6, e2]
    refine loopK_of (RnL.rounds (Q := fun ex u => ex = .exit 4 ∧ u.d = [] ∧ u.t.get 0 = some v ∧ u.t.get 1 = some (.int .i64 (n : Nat)) ∧ u.t.get 2 = some fK ∧ u.t.get 6 = some (.int .i64 (w : Nat)) ∧ ∃ (a : Nat) (P T : PL), u.t.get 7 = some (.int .i64 (a : Nat)) ∧ a ≤ n ∧ n < a + 2 * w ∧ P.length = a ∧ (∀ L, Fl (2 * w) (D.drop a) L → Fl (2 * w) D (P ++ L)) ∧ Fl w (D.drop a) T ∧ Mr id v h u.h (P ++ T))
     (fun m u => u.d = [] ∧ u.t.get 0 = some v ∧ u.t.get 1 = some (.int .i64 (n : Nat)) ∧ u.t.get 2 = some fK ∧ u.t.get 6 = some (.int .i64 (w : Nat)) ∧ ∃ (a : Nat) (P T : PL), u.t.get 7 = some (.int .i64 (a : Nat)) ∧ u.t.get 8 = some (.int .i64 ((a + 2 * w : Nat) : Int)) ∧ a ≤ n ∧ P.length = a ∧ (∀ L, Fl (2 * w) (D.drop a) L → Fl (2 * w) D (P ++ L)) ∧ Fl w (D.drop a) T ∧ Mr id v h u.h (P ++ T) ∧ m = n - a) ?_ n ?_) ?_
    ·rintro m ⟨tt3, g7', d3⟩ ⟨e9, g0, g1, g2, g6, a, P, T1, g7, g8, ha, hP, hfl, hT1, hmr, rfl⟩
     dsimp only at e9 g0 g1 g2 g6 g7 g8 hmr
     subst e9
     by_cases c3 : a + 2 * w ≤ n
     ·have c4 : ((a + 2 * w : Nat) : Int) ≤ ((n : Nat) : Int) := by omega
      have hdl : (D.drop a).length = n - a := by rw [List.length_drop]; omega
      obtain ⟨T2, rfl, hT2⟩ := hT1.cut hw (by omega)
      obtain ⟨T3, rfl, hT3⟩ := hT2.cut hw (by rw [List.length_drop]; omega)
      have l1 : (isort ltK ((D.drop a).take w)).length = w := by rw [isort_len, List.length_take]; omega
      have l2 : (isort ltK (((D.drop a).drop w).take w)).length = w := by rw [isort_len, List.length_take, List.length_drop]; omega
      have e3 : ((a : Nat) : Int) + ((w : Nat) : Int) = ((a + w : Nat) : Int) := by omega
      have e4 : ((a + 2 * w : Nat) : Int) + ((2 * w : Nat) : Int) = ((a + 2 * w + 2 * w : Nat) : Int) := by omega
      have hb3 : (P ++ isort ltK ((D.drop a).take w) ++ isort ltK (((D.drop a).drop w).take w) ++ T3).length ≤ 1000000 := by
       have q3 := hT3.len
       simp only [List.length_append, List.length_drop] at q3 ⊢
       omega
      simp (maxSteps := 1000000) -dsimp (disch := (repeat first | rw [nxn] | rw [nxp]); try omega) only [go_sem, c4, g0, g1, g2, g6, g7, g8, ov, hf, e3]
      refine callK_of (symC hS _ (A := P) (L := isort ltK ((D.drop a).take w)) (R := isort ltK (((D.drop a).drop w).take w)) (B := T3) (Nat.le_refl _) (by simpa only [List.append_assoc] using hmr.m) hb3 (srt_isort woK _) (srt_isort woK _) (by omega) (by omega) hP.symm (by omega) (by omega)) ?_
      intro w5 g5 hr
      rw [isort_mg woK, take_cat (by omega)] at hr
      simp (maxSteps := 1000000) -dsimp (disch := (repeat first | rw [nxn] | rw [nxp]); try omega) only [go_sem, g0, g1, g2, g6, g7, g8, e2, e4]
      refine ⟨n - (a + 2 * w), by omega, trivial, trivial, trivial, trivial, trivial, a + 2 * w, P ++ isort ltK ((D.drop a).take (2 * w)), T3, rfl, rfl, by omega, by rw [List.length_append, isort_len, List.length_take]; omega, fun L hL => ?_, ?_, hmr.trans (by simpa only [List.append_assoc] using hr), rfl⟩
      ·rw [List.append_assoc]
       exact hfl _ (Fl.more (by omega) (by rw [List.drop_drop]; exact hL))
      ·rw [List.drop_drop, List.drop_drop, show a + (w + w) = a + 2 * w by omega] at hT3
       exact hT3
     ·have c4 : ¬ ((a + 2 * w : Nat) : Int) ≤ ((n : Nat) : Int) := by omega
      simp (maxSteps := 1000000) -dsimp (disch := (repeat first | rw [nxn] | rw [nxp]); try omega) only [go_sem, c4, g0, g1, g2, g6, g7, g8]
      exact ⟨trivial, trivial, trivial, trivial, trivial, trivial, a, P, T1, rfl, ha, by omega, hP, hfl, hT1, hmr⟩
    ·simp (maxSteps := 1000000) -dsimp (disch := (repeat first | rw [nxn] | rw [nxp]); try omega) only [go_sem]
     exact ⟨trivial, g0, g1, g2, g6, 0, [], T, rfl, by simp, Nat.zero_le _, rfl, fun L hL => hL, hT, hmr, rfl⟩
    ·rintro ex ⟨tt3, g7', d3⟩ ⟨rfl, rfl, g0, g1, g2, g6, a, P, T1, g7, ha, hn2, hP, hfl, hT1, hmr⟩
     dsimp only at g0 g1 g2 g6 g7 hmr
     have hdl : (D.drop a).length = n - a := by rw [List.length_drop]; omega
     have e3 : ((a : Nat) : Int) + ((w : Nat) : Int) = ((a + w : Nat) : Int) := by omega
     have e5 : ((w : Nat) : Int) * 2 = ((2 * w : Nat) : Int) := by omega
     have hlast := hfl _ (Fl.last (w := 2 * w) (D := D.drop a) (by omega))
     by_cases c3 : a + w < n
     ·have c4 : ((a + w : Nat) : Int) < ((n : Nat) : Int) := by omega
      obtain ⟨T2, rfl, hT2⟩ := hT1.cut hw (by omega)
      have hd2 : ((D.drop a).drop w).length = n - a - w := by rw [List.length_drop]; omega
      obtain rfl := hT2.short hw (by omega)
      have l1 : (isort ltK ((D.drop a).take w)).length = w := by rw [isort_len, List.length_take]; omega
      have l2 : (isort ltK ((D.drop a).drop w)).length = n - a - w := by rw [isort_len]; exact hd2
      simp (maxSteps := 1000000) -dsimp (disch := (repeat first | rw [nxn] | rw [nxp]); try omega) only [go_sem, g0, g1, g2, g6, g7, ov, hf, e3, c4]
      refine callK_of (symC hS _ (A := P) (L := isort ltK ((D.drop a).take w)) (R := isort ltK ((D.drop a).drop w)) (B := []) (Nat.le_refl _) (by simpa only [List.append_assoc, List.append_nil] using hmr.m) (by simp only [List.length_append, List.length_nil]; omega) (srt_isort woK _) (srt_isort woK _) (by omega) (by omega) hP.symm (by omega) (by omega)) ?_
      intro w5 g5 hr
      rw [isort_mg woK, List.take_append_drop, List.append_nil] at hr
      simp (maxSteps := 1000000) -dsimp (disch := (repeat first | rw [nxn] | rw [nxp]); try omega) only [go_sem, g0, g1, g2, g6, g7, e5]
      exact ⟨n - 2 * w, by omega, trivial, trivial, trivial, trivial, 2 * w, _, rfl, by omega, by omega, hlast, hmr.trans hr, rfl⟩
     ·have c4 : ¬ ((a + w : Nat) : Int) < ((n : Nat) : Int) := by omega
      obtain rfl := hT1.short hw (by omega)
      simp (maxSteps := 1000000) -dsimp (disch := (repeat first | rw [nxn] | rw [nxp]); try omega) only [go_sem, g0, g1, g2, g6, g7, e3, c4, e5]
      exact ⟨n - 2 * w, by omega, trivial, trivial, trivial, trivial, 2 * w, _, rfl, by omega, by omega, hlast, hmr, rfl⟩
   ·have c2 : ¬ ((w : Nat) : Int) < ((n : Nat) : Int) := by omega
    simp (maxSteps := 1000000) -dsimp (disch := (repeat first | rw [nxn] | rw [nxp]); try omega) only [go_sem, c2, g0, g1, g2, g6]
    exact ⟨trivial, trivial, hmr.eqL (hT.short hw (by omega))⟩
  ·simp (maxSteps := 1000000) -dsimp (disch := (repeat first | rw [nxn] | rw [nxp]); try omega) only [go_sem]
   exact ⟨trivial, g0, g1, g2, 20, T0, g6, by omega, by omega, hF, hmr5, rfl⟩
  ·rintro ex ⟨tt2, g', d2⟩ ⟨rfl, rfl, hmr⟩
   dsimp only at hmr
   simp (maxSteps := 1000000) -dsimp (disch := (repeat first | rw [nxn] | rw [nxp]); try omega) only [go_sem]
   exact hmr
end
end Go.Proofs.YtmphlckolampoaaGreatDoor.tbl
