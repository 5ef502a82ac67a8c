/- Of each key the last pair. Conditions: those of its summaries. -/
import Derived.Test.YtmphlckolampoaaGreatDoorRBi
namespace Go.Proofs.YtmphlckolampoaaGreatDoor.tbl
open Go Go.Abs Go.Abs.Rec Go.Abs.Stb Go.Proofs
set_option maxRecDepth 100000
set_option linter.unusedVariables false
set_option linter.unusedSimpArgs false
section
variable {S : Sums}
set_option maxHeartbeats 8000000 in
theorem insE (hS : Ts S) {h : AH} {v : AV} (ov : oneA v = true) : RnC Tryz.prog S 135 [v, .int .i64 0, .int .i64 0, fK] h fun r h' => Fr h h' := by
 refine RnC.enter' Tryz.f135 _ 53 [] (hS.ns _ _ _ (by simp)) bd135 Tryz.func135 rfl rfl rfl ?_
 have hf : oneA fK = true := rfl
 have c1 : ¬ (1 : Int) < 0 := by omega
 simp (maxSteps := 1000000) -dsimp (disch := (repeat first | rw [nxn] | rw [nxp]); try omega) only [go_sem, ov]
 refine loopK_of (RnL.rounds (Q := fun ex u => ex = .exit 0 ∧ u.d = [] ∧ u.h = h) (fun m u => u.d = [] ∧ u.h = h ∧ u.t.get 2 = some (.int .i64 0) ∧ u.t.get 8 = some (.int .i64 1)) ?_ 0 ?_) ?_
 ·rintro m ⟨tt, g, d⟩ ⟨e9, e1, g2, g8⟩
  dsimp only at e9 e1 g2 g8
  subst e9 e1
  simp (maxSteps := 1000000) -dsimp (disch := (repeat first | rw [nxn] | rw [nxp]); try omega) only [go_sem, c1, g2, g8]
  simp
 ·simp (maxSteps := 1000000) -dsimp (disch := (repeat first | rw [nxn] | rw [nxp]); try omega) only [go_sem]
  simp
 ·rintro ex ⟨tt, g, d⟩ ⟨rfl, rfl, e1⟩
  dsimp only at e1
  subst e1
  simp (maxSteps := 1000000) -dsimp (disch := (repeat first | rw [nxn] | rw [nxp]); try omega) only [go_sem]
  exact Fr.refl _
set_option maxHeartbeats 8000000 in
theorem stabE (hS : Ts S) {h : AH} {v : AV} (ov : oneA v = true) : RnC Tryz.prog S 104 [v, .int .i64 0, fK] h fun r h' => Fr h h' := by
 refine RnC.enter' Tryz.f104 _ 63 [] (hS.ns _ _ _ (by simp)) bd104 Tryz.func104 rfl rfl rfl ?_
 have hf : oneA fK = true := rfl
 have c1 : ¬ (20 : Int) ≤ 0 := by omega
 have c2 : ¬ (20 : Int) < 0 := by omega
 simp (maxSteps := 1000000) -dsimp (disch := (repeat first | rw [nxn] | rw [nxp]); try omega) only [go_sem, ov]
 refine loopK_of (RnL.rounds (Q := fun ex u => ex = .exit 0 ∧ u.d = [] ∧ u.h = h ∧ u.t.get 0 = some v ∧ u.t.get 1 = some (.int .i64 0) ∧ u.t.get 2 = some fK ∧ u.t.get 6 = some (.int .i64 20) ∧ u.t.get 7 = some (.int .i64 0)) (fun m u => u.d = [] ∧ u.h = h ∧ u.t.get 0 = some v ∧ u.t.get 1 = some (.int .i64 0) ∧ u.t.get 2 = some fK ∧ u.t.get 6 = some (.int .i64 20) ∧ u.t.get 7 = some (.int .i64 0) ∧ u.t.get 8 = some (.int .i64 20)) ?_ 0 ?_) ?_
 ·rintro m ⟨tt, g, d⟩ ⟨e9, e1, g0, g1, g2, g6, g7, g8⟩
  dsimp only at e9 e1 g0 g1 g2 g6 g7 g8
  subst e9 e1
  simp (maxSteps := 1000000) -dsimp (disch := (repeat first | rw [nxn] | rw [nxp]); try omega) only [go_sem, c1, g0, g1, g2, g6, g7, g8]
  simp
 ·simp (maxSteps := 1000000) -dsimp (disch := (repeat first | rw [nxn] | rw [nxp]); try omega) only [go_sem]
  simp
 ·rintro ex ⟨tt, g, d⟩ ⟨rfl, rfl, e1, g0, g1, g2, g6, g7⟩
  dsimp only at e1 g0 g1 g2 g6 g7
  subst e1
  simp (maxSteps := 1000000) -dsimp (disch := (repeat first | rw [nxn] | rw [nxp]); try omega) only [go_sem, g0, g1, g2, g6, g7, ov, hf]
  refine callK_of (insE hS ov) ?_
  intro w g5 f5
  try simp (maxSteps := 1000000) -dsimp (disch := (repeat first | rw [nxn] | rw [nxp]); try omega) only [go_sem, g0, g1, g2, g6, g7]
  refine loopK_of (RnL.rounds (Q := fun ex u => ex = .exit 2 ∧ u.d = [] ∧ u.h = g5) (fun m u => u.d = [] ∧ u.h = g5 ∧ u.t.get 1 = some (.int .i64 0) ∧ u.t.get 6 = some (.int .i64 20)) ?_ 0 ?_) ?_
  ·rintro m ⟨tt2, g', d2⟩ ⟨e9, e1, g1, g6⟩
   dsimp only at e9 e1 g1 g6
   subst e9 e1
   simp (maxSteps := 1000000) -dsimp (disch := (repeat first | rw [nxn] | rw [nxp]); try omega) only [go_sem, c2, g1, g6]
   simp
  ·simp (maxSteps := 1000000) -dsimp (disch := (repeat first | rw [nxn] | rw [nxp]); try omega) only [go_sem]
   simp [g1, g6]
  ·rintro ex ⟨tt2, g', d2⟩ ⟨rfl, rfl, e1⟩
   dsimp only at e1
   subst e1
   simp (maxSteps := 1000000) -dsimp (disch := (repeat first | rw [nxn] | rw [nxp]); try omega) only [go_sem]
   exact f5
set_option maxHeartbeats 8000000 in
theorem sortE (hS : Ts S) {h : AH} {v : AV} (hv : Ps h v []) : RnC Tryz.prog S 65 [v, fK] h fun r h' => Fr h h' := by
 refine RnC.enter' Tryz.f65 _ 9 [] (hS.ns _ _ _ (by simp)) bd65 Tryz.func65 rfl rfl rfl ?_
 obtain ⟨lv, sv, ov⟩ := hv.ln
 have hf : oneA fK = true := rfl
 simp (maxSteps := 1000000) -dsimp (disch := (repeat first | rw [nxn] | rw [nxp]); try omega) only [go_sem, ov, lv, hf]
 refine callK_of (stabE hS ov) ?_
 intro w g hr
 try simp (maxSteps := 1000000) -dsimp (disch := (repeat first | rw [nxn] | rw [nxp]); try omega) only [go_sem]
 exact hr
set_option maxHeartbeats 8000000 in
theorem revE (hS : Ts S) {h : AH} {v : AV} (hv : Ps h v []) : RnC Tryz.prog S 64 [v] h fun r h' => Fr h h' := by
 refine RnC.enter' Tryz.f64 _ 28 [] (hS.ns _ _ _ (by simp)) bd64 Tryz.func64 rfl rfl rfl ?_
 obtain ⟨lv, sv, ov⟩ := hv.ln
 have c1 : ¬ (0 : Int) < 0 - 1 := by omega
 simp (maxSteps := 1000000) -dsimp (disch := (repeat first | rw [nxn] | rw [nxp]); try omega) only [go_sem, ov, lv]
 refine loopK_of (RnL.rounds (Q := fun ex u => ex = .exit 0 ∧ u.d = [] ∧ u.h = h) (fun m u => u.d = [] ∧ u.h = h ∧ u.t.get 2 = some (.int .i64 0) ∧ u.t.get 3 = some (.int .i64 (0 - 1))) ?_ 0 ?_) ?_
 ·rintro m ⟨tt, g, d⟩ ⟨e9, e1, g2, g3⟩
  dsimp only at e9 e1 g2 g3
  subst e9 e1
  simp (maxSteps := 1000000) -dsimp (disch := (repeat first | rw [nxn] | rw [nxp]); try omega) only [go_sem, c1, g2, g3]
  simp
 ·simp (maxSteps := 1000000) -dsimp (disch := (repeat first | rw [nxn] | rw [nxp]); try omega) only [go_sem]
  simp
 ·rintro ex ⟨tt, g, d⟩ ⟨rfl, rfl, e1⟩
  dsimp only at e1
  subst e1
  simp (maxSteps := 1000000) -dsimp (disch := (repeat first | rw [nxn] | rw [nxp]); try omega) only [go_sem]
  exact Fr.refl _
set_option maxHeartbeats 8000000 in
theorem compE (hS : Ts S) {h : AH} {v : AV} (hv : Ps h v []) : RnC Tryz.prog S 68 [v, fE] h fun r h' => r = v ∧ Fr h h' := by
 refine RnC.enter' Tryz.f68 _ 66 [.tmp 4] (hS.ns _ _ _ (by simp)) bd68 Tryz.func68 rfl rfl rfl ?_
 obtain ⟨lv, sv, ov⟩ := hv.ln
 have hf : oneA fE = true := rfl
 have c1 : (0 : Int) < 2 := by omega
 simp (maxSteps := 1000000) -dsimp (disch := (repeat first | rw [nxn] | rw [nxp]); try omega) only [go_sem, ov, lv, hf, c1]
 exact ⟨by first | rfl | trivial, Fr.refl _⟩
set_option maxHeartbeats 8000000 in
theorem lastC (hS : Ts S) {h : AH} {v : AV} {l : PL} (hv : Ps h v l) (hl : l.length ≤ 100000) : RnC Tryz.prog S 24 [v] h fun r h' => Ps h' r (lastD l) ∧ Fr h h' := by
 refine RnC.enter' Tryz.f24 _ 11 [.tmp 2] (hS.ns _ _ _ (by simp)) bd24 Tryz.func24 rfl rfl rfl ?_
 have ov := hv.ln.2.2
 have hfe : fE = .func (.func 69) [] [] := rfl
 have hfk : fK = .func (.func 66) [] [] := rfl
 simp (maxSteps := 1000000) -dsimp (disch := (repeat first | rw [nxn] | rw [nxp]); try omega) only [go_sem, ov]
 refine callK_of (cloneC hS hv hl) ?_
 rintro r1 g1 ⟨f1, hz1⟩
 have hp1 := Ps.of hz1
 have ov1 := hp1.ln.2.2
 cases l with
 | nil =>
  try simp (maxSteps := 1000000) -dsimp (disch := (repeat first | rw [nxn] | rw [nxp]); try omega) only [go_sem, ov1]
  refine callK_of (revE hS hp1) ?_
  intro w2 g2 f2
  try simp (maxSteps := 1000000) -dsimp (disch := (repeat first | rw [nxn] | rw [nxp]); try omega) only [go_sem, ov1]
  refine callK_of (sortE hS (hp1.fr f2)) ?_
  intro w3 g3 f3
  try simp (maxSteps := 1000000) -dsimp (disch := (repeat first | rw [nxn] | rw [nxp]); try omega) only [go_sem, ov1]
  refine callK_of (compE hS ((hp1.fr f2).fr f3)) ?_
  rintro w4 g4 ⟨rfl, f4⟩
  try simp (maxSteps := 1000000) -dsimp (disch := (repeat first | rw [nxn] | rw [nxp]); try omega) only [go_sem, ov1]
  exact ⟨((hp1.fr f2).fr f3).fr f4, ((f1.trans f2).trans f3).trans f4⟩
 | cons p l =>
  obtain ⟨id, hid, hm⟩ : ∃ id, h.nx ≤ id ∧ Mt id r1 g1 (p :: l) := by
   rcases hz1 with ⟨_, h0⟩ | ⟨id, n, c, tx, h1, h2, h3, h4, h5, h6, h7⟩
   ·simp [pc] at h0
   ·rw [pc_len] at h5
    have hn : n = (p :: l).length := by omega
    subst hn
    refine ⟨id, h4, ⟨c, h1, h6⟩, ?_, h3⟩
    rcases h7 with rfl | ⟨h7, _⟩
    ·exact h2
    ·simp [pc] at h7
  try simp (maxSteps := 1000000) -dsimp (disch := (repeat first | rw [nxn] | rw [nxp]); try omega) only [go_sem, ov1]
  refine callK_of (revC hS hm (by simp) hl) ?_
  intro w2 g2 m2
  try simp (maxSteps := 1000000) -dsimp (disch := (repeat first | rw [nxn] | rw [nxp]); try omega) only [go_sem, ov1]
  refine callK_of (sortC hS m2.m (by rw [List.length_reverse]; exact hl)) ?_
  intro w3 g3 m3
  try simp (maxSteps := 1000000) -dsimp (disch := (repeat first | rw [nxn] | rw [nxp]); try omega) only [go_sem, ov1]
  refine callK_of (compC hS m3.m (by rw [isort_len, List.length_reverse]; exact hl)) ?_
  rintro w4 g4 ⟨hp4, hn4, ho4⟩
  have ov4 := hp4.ln.2.2
  have hp5 : Ps g4 w4 (lastD (p :: l)) := by rw [← lastA_eq]; exact hp4
  have hfr : Fr h g4 := ⟨by have := f1.nx; have := m2.nx; have := m3.nx; omega, fun j hj => by
   have n1 := f1.nx; have n2 := m2.nx; have n3 := m3.nx
   exact (ho4 j (by omega) (by omega)).trans ((m3.ot j (by omega) (by omega)).trans ((m2.ot j (by omega) (by omega)).trans (f1.get j hj)))⟩
  rcases psShape hp5 with rfl | ⟨i5, o5, n5', c5, rfl⟩
  all_goals
   try simp (maxSteps := 1000000) -dsimp (disch := (repeat first | rw [nxn] | rw [nxp]); try omega) only [go_sem, ov4]
   exact ⟨hp5, hfr⟩
end
end Go.Proofs.YtmphlckolampoaaGreatDoor.tbl
