/- Pairs sorted in place: runs merged. Conditions: those of its summaries. -/
import Derived.Test.YtmphlckolampoaaGreatDoorRKa
namespace Go.Proofs.YtmphlckolampoaaGreatDoor.tbl
open Go Go.Abs Go.Abs.Rec Go.Abs.Stb Go.Proofs
set_option maxRecDepth 100000
set_option linter.unusedVariables false
set_option linter.unusedSimpArgs false
section
variable {S : Sums}
set_option maxHeartbeats 32000000 in
/-- Two runs are merged. -/
theorem symC (hS : Ts S) : ∀ (n : Nat) {h : AH} {id : Nat} {v : AV} {A L R B : PL}, L.length + R.length ≤ n → Mt id v h (A ++ L ++ R ++ B) → (A ++ L ++ R ++ B).length ≤ 1000000 → srt ltK L → srt ltK R → 0 < L.length → 0 < R.length → ∀ {a m b : Nat}, a = A.length → m = A.length + L.length → b = A.length + L.length + R.length →
  RnC Tryz.prog S 136 [v, .int .i64 (a : Nat), .int .i64 (m : Nat), .int .i64 (b : Nat), fK] h fun r h' => Mr id v h h' (A ++ mg ltK L R ++ B) := by
 intro n
 induction n with
 | zero =>
  intro _ _ _ _ _ _ _ hn _ _ _ _ hL
  omega
 | succ n ih =>
  intro h id v A L R B hn hm hb hsl hsr hL hR a m b ha hm' hb'
  by_cases hL1 : L.length = 1
  ·obtain ⟨x, rfl⟩ := List.length_eq_one_iff.1 hL1
   exact symA hS hm hb hsr ha hm' hb'
  by_cases hR1 : R.length = 1
  ·obtain ⟨y, rfl⟩ := List.length_eq_one_iff.1 hR1
   exact symB hS hm hb hsl (by omega) ha hm' hb'
  refine RnC.enterK Tryz.f136 _ 220 [] (hS.ns _ _ _ (by simp)) bd136 Tryz.func136 rfl rfl rfl ?_
  subst ha hm' hb'
  have hlen : (A ++ L ++ R ++ B).length = A.length + L.length + R.length + B.length := by simp; omega
  have ov : oneA v = true := by obtain ⟨⟨c, hv, _⟩, _⟩ := hm; rw [hv]; rfl
  have hf : oneA fK = true := rfl
  have hTc := hS.tc
  have e0 : ((A.length + L.length : Nat) : Int) - ((A.length : Nat) : Int) = ((L.length : Nat) : Int) := by omega
  have c0 : ¬ ((L.length : Nat) : Int) = 1 := by omega
  have e00 : ((A.length + L.length + R.length : Nat) : Int) - ((A.length + L.length : Nat) : Int) = ((R.length : Nat) : Int) := by omega
  have c00 : ¬ ((R.length : Nat) : Int) = 1 := by omega
  obtain ⟨M, hM⟩ : ∃ M, M = (L.length + R.length) / 2 := ⟨_, rfl⟩
  have e1 : ((A.length : Nat) : Int) + ((A.length + L.length + R.length : Nat) : Int) = ((A.length + (A.length + L.length + R.length) : Nat) : Int) := by omega
  have e2 : (A.length + (A.length + L.length + R.length)) / 2 = A.length + M := by omega
  have hle : A.length + (A.length + L.length + R.length) ≤ 4000000 := by omega
  have hle2 : A.length + M ≤ 4000000 := by omega
  have cv1 := fun h => cvU h _ hle
  have cv2 := fun h => cvI h _ hle2
  have sh := shU (A.length + (A.length + L.length + R.length))
  rw [e2] at sh
  have e3 : ((A.length + M : Nat) : Int) + ((A.length + L.length : Nat) : Int) = ((A.length + M + (A.length + L.length) : Nat) : Int) := by omega
  have e4 : ((A.length + M + (A.length + L.length) : Nat) : Int) - 1 = ((A.length + M + (A.length + L.length) - 1 : Nat) : Int) := by omega
  have key : ∃ s t : Nat, (M < L.length → s = M - R.length ∧ t = M) ∧ (L.length ≤ M → s = 0 ∧ t = L.length) ∧ s ≤ t ∧ t ≤ L.length ∧ t ≤ M ∧ M ≤ s + R.length := by
   rcases Nat.lt_or_ge M L.length with c | c
   ·exact ⟨M - R.length, M, fun _ => ⟨rfl, rfl⟩, fun hh => by omega, by omega, by omega, by omega, by omega⟩
   ·exact ⟨0, L.length, fun hh => by omega, fun _ => ⟨rfl, rfl⟩, by omega, by omega, by omega, by omega⟩
  obtain ⟨s0, t0, hk1, hk2, hk3, hk4, hk5, hk6⟩ := key
  have hF : ∀ x ∈ L.take s0, ∀ y ∈ R.drop (M - s0), ltK y x = false := by
   rcases Nat.lt_or_ge M L.length with c | c
   ·rw [(hk1 c).1, show M - (M - R.length) = R.length by omega]; simp
   ·rw [(hk2 c).1]; simp
  have hG : ∀ x ∈ L.drop t0, ∀ y ∈ R.take (M - t0), ltK y x = true := by
   rcases Nat.lt_or_ge M L.length with c | c
   ·rw [(hk1 c).2]; simp
   ·rw [(hk2 c).2]; simp
  refine RnK.left (RnK.left (RnK.left (RnK.left (RnK.left ?_))))
  refine RnK.cut (fun u => u.d = [] ∧ u.t.get 0 = some v ∧ u.t.get 1 = some (.int .i64 (A.length : Nat)) ∧ u.t.get 2 = some (.int .i64 ((A.length + L.length : Nat) : Int)) ∧ u.t.get 3 = some (.int .i64 ((A.length + L.length + R.length : Nat) : Int)) ∧ u.t.get 4 = some fK ∧ u.t.get 18 = some (.int .i64 ((A.length + M : Nat) : Int)) ∧ u.t.get 19 = some (.int .i64 ((A.length + M + (A.length + L.length) : Nat) : Int)) ∧ u.t.get 20 = some (.int .i64 ((A.length + s0 : Nat) : Int)) ∧ u.t.get 21 = some (.int .i64 ((A.length + t0 : Nat) : Int)) ∧ u.h = h) (.sy ?_) ?_
  ·rcases (show M < L.length ∨ L.length ≤ M by omega) with c1 | c1
   ·have c2 : ((A.length + M : Nat) : Int) < ((A.length + L.length : Nat) : Int) := by omega
    have e5 : ((A.length + M + (A.length + L.length) : Nat) : Int) - ((A.length + L.length + R.length : Nat) : Int) = ((A.length + s0 : Nat) : Int) := by rw [(hk1 c1).1]; omega
    have e6 : A.length + M = A.length + t0 := by rw [(hk1 c1).2]
    simp (maxSteps := 1000000) -dsimp (disch := (repeat first | rw [nxn] | rw [nxp]); try omega) only [go_sem, ov, e0, c0, e00, c00, e1, cv1, sh, cv2, e3, e4, c2, e5]
    exact ⟨trivial, trivial, trivial, trivial, trivial, trivial, trivial, trivial, trivial, trivial, by rw [← e6], trivial⟩
   ·have c2 : ¬ ((A.length + M : Nat) : Int) < ((A.length + L.length : Nat) : Int) := by omega
    have e5 : A.length = A.length + s0 := by rw [(hk2 c1).1]; rfl
    have e6 : A.length + L.length = A.length + t0 := by rw [(hk2 c1).2]
    simp (maxSteps := 1000000) -dsimp (disch := (repeat first | rw [nxn] | rw [nxp]); try omega) only [go_sem, ov, e0, c0, e00, c00, e1, cv1, sh, cv2, e3, e4, c2]
    exact ⟨trivial, trivial, trivial, trivial, trivial, trivial, trivial, trivial, trivial, by rw [← e5], by rw [← e6], trivial⟩
  rintro ⟨tt, gg, dd⟩ ⟨e9, g0, g1, g2, g3, g4, g18, g19, g20, g21, eh⟩
  dsimp only at e9 g0 g1 g2 g3 g4 g18 g19 g20 g21 eh
  subst e9 eh
  refine RnK.left ?_
  refine RnK.cut (fun u => u.d = [] ∧ u.t.get 0 = some v ∧ u.t.get 1 = some (.int .i64 (A.length : Nat)) ∧ u.t.get 2 = some (.int .i64 ((A.length + L.length : Nat) : Int)) ∧ u.t.get 3 = some (.int .i64 ((A.length + L.length + R.length : Nat) : Int)) ∧ u.t.get 4 = some fK ∧ u.t.get 18 = some (.int .i64 ((A.length + M : Nat) : Int)) ∧ u.t.get 19 = some (.int .i64 ((A.length + M + (A.length + L.length) : Nat) : Int)) ∧ Mr id v gg u.h (A ++ L ++ R ++ B) ∧ ∃ s : Nat, s ≤ L.length ∧ s ≤ M ∧ M ≤ s + R.length ∧ u.t.get 20 = some (.int .i64 ((A.length + s : Nat) : Int)) ∧ (∀ x ∈ L.take s, ∀ y ∈ R.drop (M - s), ltK y x = false) ∧ (∀ x ∈ L.drop s, ∀ y ∈ R.take (M - s), ltK y x = true)) (.sy ?_) ?_
  ·simp (maxSteps := 1000000) -dsimp (disch := (repeat first | rw [nxn] | rw [nxp]); try omega) only [go_sem, e4, g0, g1, g2, g3, g4, g18, g19, g20, g21]
   refine loopK_of (RnL.rounds (Q := fun ex u => ex = .exit 8 ∧ u.d = [] ∧ u.t.get 0 = some v ∧ u.t.get 1 = some (.int .i64 (A.length : Nat)) ∧ u.t.get 2 = some (.int .i64 ((A.length + L.length : Nat) : Int)) ∧ u.t.get 3 = some (.int .i64 ((A.length + L.length + R.length : Nat) : Int)) ∧ u.t.get 4 = some fK ∧ u.t.get 18 = some (.int .i64 ((A.length + M : Nat) : Int)) ∧ u.t.get 19 = some (.int .i64 ((A.length + M + (A.length + L.length) : Nat) : Int)) ∧ Mr id v gg u.h (A ++ L ++ R ++ B) ∧ ∃ s : Nat, s ≤ L.length ∧ s ≤ M ∧ M ≤ s + R.length ∧ u.t.get 20 = some (.int .i64 ((A.length + s : Nat) : Int)) ∧ (∀ x ∈ L.take s, ∀ y ∈ R.drop (M - s), ltK y x = false) ∧ (∀ x ∈ L.drop s, ∀ y ∈ R.take (M - s), ltK y x = true))
    (fun k u => u.d = [] ∧ u.t.get 0 = some v ∧ u.t.get 1 = some (.int .i64 (A.length : Nat)) ∧ u.t.get 2 = some (.int .i64 ((A.length + L.length : Nat) : Int)) ∧ u.t.get 3 = some (.int .i64 ((A.length + L.length + R.length : Nat) : Int)) ∧ u.t.get 4 = some fK ∧ u.t.get 18 = some (.int .i64 ((A.length + M : Nat) : Int)) ∧ u.t.get 19 = some (.int .i64 ((A.length + M + (A.length + L.length) : Nat) : Int)) ∧ u.t.get 22 = some (.int .i64 ((A.length + M + (A.length + L.length) - 1 : Nat) : Int)) ∧ Mr id v gg u.h (A ++ L ++ R ++ B) ∧ ∃ s t : Nat, s ≤ t ∧ t ≤ L.length ∧ t ≤ M ∧ M ≤ s + R.length ∧ u.t.get 20 = some (.int .i64 ((A.length + s : Nat) : Int)) ∧ u.t.get 21 = some (.int .i64 ((A.length + t : Nat) : Int)) ∧ (∀ x ∈ L.take s, ∀ y ∈ R.drop (M - s), ltK y x = false) ∧ (∀ x ∈ L.drop t, ∀ y ∈ R.take (M - t), ltK y x = true) ∧ t - s ≤ k) ?_ L.length ?_) ?_
   ·rintro k ⟨tt, g, d⟩ ⟨e9, g0, g1, g2, g3, g4, g18, g19, g22, hmr, s, t, h1, h2, h3, h4, g20, g21, h5, h6, h7⟩
    dsimp only at e9 g0 g1 g2 g3 g4 g18 g19 g20 g21 g22 hmr
    subst e9
    by_cases d1 : s < t
    ·have d2 : ((A.length + s : Nat) : Int) < ((A.length + t : Nat) : Int) := by omega
     have e1 : ((A.length + s : Nat) : Int) + ((A.length + t : Nat) : Int) = ((A.length + s + (A.length + t) : Nat) : Int) := by omega
     obtain ⟨q, hq⟩ : ∃ q, q = (s + t) / 2 := ⟨_, rfl⟩
     have e3 : (A.length + s + (A.length + t)) / 2 = A.length + q := by omega
     have hle : A.length + s + (A.length + t) ≤ 4000000 := by omega
     have hle2 : A.length + q ≤ 4000000 := by omega
     have cv1 := fun h => cvU h _ hle
     have cv2 := fun h => cvI h _ hle2
     have sh := shU (A.length + s + (A.length + t))
     rw [e3] at sh
     obtain ⟨x, hx⟩ : ∃ x, L[q]? = some x := ⟨_, List.getElem?_eq_getElem (by omega)⟩
     obtain ⟨y, hy⟩ : ∃ y, R[M - 1 - q]? = some y := ⟨_, List.getElem?_eq_getElem (by omega)⟩
     have e8 : ((A.length + M + (A.length + L.length) - 1 : Nat) : Int) - ((A.length + q : Nat) : Int) = ((A.length + L.length + (M - 1 - q) : Nat) : Int) := by omega
     have hmr2 := hmr
     obtain ⟨a1, b1, q1⟩ := atR (l := A ++ L ++ R ++ B) (A := A) (R := L) (B := R ++ B) (p := A.length + q) (by simp) hx rfl
     obtain ⟨a2, b2, q2⟩ := atR (l := A ++ L ++ R ++ B) (A := A ++ L) (R := R) (B := B) (p := A.length + L.length + (M - 1 - q)) rfl hy (by simp)
     generalize hlq : A ++ L ++ R ++ B = l at hmr a1 b1 q1 a2 b2 q2 hlen
     obtain ⟨nx1, ot1, ⟨⟨c', hv', hc'⟩, hg1, hlt1⟩⟩ := hmr
     have hv2 := hv'
     rw [hv'] at g0
     simp (maxSteps := 1000000) -dsimp (disch := (repeat first | rw [nxn] | rw [nxp]); try omega) only [go_sem, d2, g0, g1, g2, g3, g4, g18, g19, g20, g21, g22, e1, cv1, sh, cv2]
     refine syDraw.keepN 0 (fun _ => True) (by kernel_rfl) (by kernel_rfl) rfl ?_
     simp (maxSteps := 1000000) -dsimp (disch := (repeat first | rw [nxn] | rw [nxp]); try omega) only [go_sem, g0, g1, g2, g3, g4, g18, g19, g20, g21, g22, q1, q2, hg1, a1, a2, b1, b2, hf, fK, e8]
     refine callK_of (keyC hTc _ y x) ?_
     rintro z g5 ⟨rfl, f5⟩
     have hmr5 := (hmr2.more (n := g.nx + 14) (by omega)).fr f5
     cases hlx : lessA y.1 x.1
     ·have c6 : ¬ cmpI y.1 x.1 < 0 := by rw [cmpI_neg, hlx]; decide
      have e7 : ((A.length + q : Nat) : Int) + 1 = ((A.length + (q + 1) : Nat) : Int) := by omega
      simp (maxSteps := 1000000) -dsimp (disch := (repeat first | rw [nxn] | rw [nxp]); try omega) only [go_sem, c6, e7, g0, g1, g2, g3, g4, g18, g19, g20, g21, g22]
      refine ⟨k - 1, by omega, trivial, hv2.symm, trivial, trivial, trivial, trivial, trivial, trivial, trivial, hmr5.eqL hlq, q + 1, t, by omega, by omega, by omega, by omega, rfl, rfl, fun x' hx' => ?_, h6, by omega⟩
      rw [show M - (q + 1) = M - 1 - q by omega]
      exact over_x hsr hy (below_y hsl hx hlx x' hx')
     ·have c6 : cmpI y.1 x.1 < 0 := by rw [cmpI_neg, hlx]
      simp (maxSteps := 1000000) -dsimp (disch := (repeat first | rw [nxn] | rw [nxp]); try omega) only [go_sem, c6, g0, g1, g2, g3, g4, g18, g19, g20, g21, g22]
      refine ⟨k - 1, by omega, trivial, hv2.symm, trivial, trivial, trivial, trivial, trivial, trivial, trivial, hmr5.eqL hlq, s, q, by omega, by omega, by omega, by omega, rfl, rfl, h5, fun x' hx' y' hy' => ?_, by omega⟩
      rw [show M - q = M - 1 - q + 1 by omega] at hy'
      exact over_y hsl hx (below_x hsr hy hlx y' hy') x' hx'
    ·have d2 : ¬ ((A.length + s : Nat) : Int) < ((A.length + t : Nat) : Int) := by omega
     obtain rfl : s = t := by omega
     simp (maxSteps := 1000000) -dsimp (disch := (repeat first | rw [nxn] | rw [nxp]); try omega) only [go_sem, d2, g0, g1, g2, g3, g4, g18, g19, g20, g21, g22]
     exact ⟨trivial, trivial, trivial, trivial, trivial, trivial, trivial, trivial, trivial, hmr, s, h2, h3, h4, rfl, h5, h6⟩
   ·simp (maxSteps := 1000000) -dsimp (disch := (repeat first | rw [nxn] | rw [nxp]); try omega) only [go_sem]
    exact ⟨trivial, g0, g1, g2, g3, g4, g18, g19, trivial, Mr.refl hm, s0, t0, hk3, hk4, hk5, hk6, g20, g21, hF, hG, by omega⟩
   ·rintro ex u ⟨rfl, hu⟩
    simp (maxSteps := 1000000) -dsimp (disch := (repeat first | rw [nxn] | rw [nxp]); try omega) only [go_sem]
    exact ⟨trivial, hu⟩
  rintro ⟨tt, g, d⟩ ⟨e9, g0, g1, g2, g3, g4, g18, g19, hmr, s, h1, h2, h3, g20, h5, h6⟩
  dsimp only at e9 g0 g1 g2 g3 g4 g18 g19 g20 hmr
  subst e9
  obtain ⟨L1, L2, R1, R2, hLe, hRe, hl1, hr1, sl1, sl2, sr1, sr2, hmg⟩ : ∃ L1 L2 R1 R2 : PL, L = L1 ++ L2 ∧ R = R1 ++ R2 ∧ L1.length = s ∧ R1.length = M - s ∧ srt ltK L1 ∧ srt ltK L2 ∧ srt ltK R1 ∧ srt ltK R2 ∧ mg ltK L R = mg ltK L1 R1 ++ mg ltK L2 R2 := by
   have q1 := srt_app.1 (show srt ltK (L.take s ++ L.drop s) by rw [List.take_append_drop]; exact hsl)
   have q2 := srt_app.1 (show srt ltK (R.take (M - s) ++ R.drop (M - s)) by rw [List.take_append_drop]; exact hsr)
   have q3 := mg_split (lt := ltK (α := List Nat × Bool)) woK _ (a1 := L.take s) (a2 := L.drop s) (b1 := R.take (M - s)) (b2 := R.drop (M - s)) (Nat.le_refl _) (by rw [List.take_append_drop]; exact hsl) (by rw [List.take_append_drop]; exact hsr) h5 (fun y hy x hx => h6 x hx y hy)
   rw [List.take_append_drop, List.take_append_drop] at q3
   exact ⟨_, _, _, _, (List.take_append_drop _ _).symm, (List.take_append_drop _ _).symm, by rw [List.length_take]; omega, by rw [List.length_take]; omega, q1.1, q1.2.1, q2.1, q2.2.1, q3⟩
  have ll : L.length = s + L2.length := by rw [hLe, List.length_append, hl1]
  have rl : R.length = M - s + R2.length := by rw [hRe, List.length_append, hr1]
  have hml : (mg ltK L1 R1).length = M := by rw [mg_len]; omega
  have e24 : ((A.length + M + (A.length + L.length) : Nat) : Int) - ((A.length + s : Nat) : Int) = ((A.length + L.length + (M - s) : Nat) : Int) := by omega
  refine RnK.left ?_
  refine RnK.cut (fun u => u.d = [] ∧ u.t.get 0 = some v ∧ u.t.get 1 = some (.int .i64 (A.length : Nat)) ∧ u.t.get 2 = some (.int .i64 ((A.length + L.length : Nat) : Int)) ∧ u.t.get 3 = some (.int .i64 ((A.length + L.length + R.length : Nat) : Int)) ∧ u.t.get 4 = some fK ∧ u.t.get 18 = some (.int .i64 ((A.length + M : Nat) : Int)) ∧ u.t.get 20 = some (.int .i64 ((A.length + s : Nat) : Int)) ∧ u.t.get 24 = some (.int .i64 ((A.length + L.length + (M - s) : Nat) : Int)) ∧ Mr id v gg u.h (A ++ L1 ++ R1 ++ L2 ++ R2 ++ B)) (.sy ?_) ?_
  ·have q : (s < L.length ∧ s < M) ∨ (s < L.length ∧ ¬ s < M) ∨ ¬ s < L.length := by omega
   rcases q with ⟨q1, q2⟩ | ⟨q1, q2⟩ | q1
   ·have d1 : ((A.length + s : Nat) : Int) < ((A.length + L.length : Nat) : Int) := by omega
    have d2 : ((A.length + L.length : Nat) : Int) < ((A.length + L.length + (M - s) : Nat) : Int) := by omega
    simp (maxSteps := 1000000) -dsimp (disch := (repeat first | rw [nxn] | rw [nxp]); try omega) only [go_sem, g0, g1, g2, g3, g4, g18, g19, g20, e24, d1, d2, ov, hf]
    refine callK_of (rotC hS (A := A ++ L1) (U := L2) (V := R1) (B := R2 ++ B) (by have := hmr.m; rw [hLe, hRe] at this; simpa only [List.append_assoc] using this) (by omega) (by omega) (by simp only [List.length_append]; omega) hf (by simp only [List.length_append]; omega) (by simp only [List.length_append]; omega) (by simp only [List.length_append]; omega)) ?_
    intro w g5 hr5
    have hmr5 : Mr id v gg g5 (A ++ L1 ++ R1 ++ L2 ++ R2 ++ B) := hmr.trans (by simpa only [List.append_assoc] using hr5)
    try simp (maxSteps := 1000000) -dsimp (disch := (repeat first | rw [nxn] | rw [nxp]); try omega) only [go_sem, g0, g1, g2, g3, g4, g18, g19, g20]
    exact ⟨trivial, trivial, trivial, trivial, trivial, trivial, trivial, trivial, trivial, trivial, hmr5⟩
   ·have d1 : ((A.length + s : Nat) : Int) < ((A.length + L.length : Nat) : Int) := by omega
    have d2 : ¬ ((A.length + L.length : Nat) : Int) < ((A.length + L.length + (M - s) : Nat) : Int) := by omega
    have hz : R1 = [] := List.length_eq_zero_iff.1 (by omega)
    simp (maxSteps := 1000000) -dsimp (disch := (repeat first | rw [nxn] | rw [nxp]); try omega) only [go_sem, g0, g1, g2, g3, g4, g18, g19, g20, e24, d1, d2]
    exact ⟨trivial, trivial, trivial, trivial, trivial, trivial, trivial, trivial, trivial, trivial, hmr.eqL (by rw [hLe, hRe, hz]; simp)⟩
   ·have d1 : ¬ ((A.length + s : Nat) : Int) < ((A.length + L.length : Nat) : Int) := by omega
    have hz : L2 = [] := List.length_eq_zero_iff.1 (by omega)
    simp (maxSteps := 1000000) -dsimp (disch := (repeat first | rw [nxn] | rw [nxp]); try omega) only [go_sem, g0, g1, g2, g3, g4, g18, g19, g20, e24, d1]
    exact ⟨trivial, trivial, trivial, trivial, trivial, trivial, trivial, trivial, trivial, trivial, hmr.eqL (by rw [hLe, hRe, hz]; simp)⟩
  clear g0 g1 g2 g3 g4 g18 g19 g20 hmr
  rintro ⟨tt, g, d⟩ ⟨e9, g0, g1, g2, g3, g4, g18, g20, g24, hmr5⟩
  dsimp only at e9 g0 g1 g2 g3 g4 g18 g20 g24 hmr5
  subst e9
  refine RnK.cut (fun u => u.d = [] ∧ u.t.get 0 = some v ∧ u.t.get 1 = some (.int .i64 (A.length : Nat)) ∧ u.t.get 2 = some (.int .i64 ((A.length + L.length : Nat) : Int)) ∧ u.t.get 3 = some (.int .i64 ((A.length + L.length + R.length : Nat) : Int)) ∧ u.t.get 4 = some fK ∧ u.t.get 18 = some (.int .i64 ((A.length + M : Nat) : Int)) ∧ u.t.get 20 = some (.int .i64 ((A.length + s : Nat) : Int)) ∧ u.t.get 24 = some (.int .i64 ((A.length + L.length + (M - s) : Nat) : Int)) ∧ Mr id v gg u.h (A ++ mg ltK L1 R1 ++ L2 ++ R2 ++ B)) (.sy ?_) ?_
  ·have q : (0 < s ∧ s < M) ∨ (0 < s ∧ ¬ s < M) ∨ ¬ 0 < s := by omega
   rcases q with ⟨p1, p2⟩ | ⟨p1, p2⟩ | p1
   ·have d3 : ((A.length : Nat) : Int) < ((A.length + s : Nat) : Int) := by omega
    have d4 : ((A.length + s : Nat) : Int) < ((A.length + M : Nat) : Int) := by omega
    simp (maxSteps := 1000000) -dsimp (disch := (repeat first | rw [nxn] | rw [nxp]); try omega) only [go_sem, g0, g1, g2, g3, g4, g18, g20, g24, d3, d4, ov, hf]
    refine callK_of (ih (A := A) (L := L1) (R := R1) (B := L2 ++ R2 ++ B) (by omega) (by simpa only [List.append_assoc] using hmr5.m) (by simp only [List.length_append]; omega) sl1 sr1 (by omega) (by omega) rfl (by omega) (by omega)) ?_
    intro w2 g6 hr6
    have hmr6 : Mr id v gg g6 (A ++ mg ltK L1 R1 ++ L2 ++ R2 ++ B) := hmr5.trans (by simpa only [List.append_assoc] using hr6)
    try simp (maxSteps := 1000000) -dsimp (disch := (repeat first | rw [nxn] | rw [nxp]); try omega) only [go_sem, g0, g1, g2, g3, g4, g18, g20, g24]
    exact ⟨trivial, trivial, trivial, trivial, trivial, trivial, trivial, trivial, trivial, trivial, hmr6⟩
   ·have d3 : ((A.length : Nat) : Int) < ((A.length + s : Nat) : Int) := by omega
    have d4 : ¬ ((A.length + s : Nat) : Int) < ((A.length + M : Nat) : Int) := by omega
    have hz : R1 = [] := List.length_eq_zero_iff.1 (by omega)
    simp (maxSteps := 1000000) -dsimp (disch := (repeat first | rw [nxn] | rw [nxp]); try omega) only [go_sem, g0, g1, g2, g3, g4, g18, g20, g24, d3, d4]
    exact ⟨trivial, trivial, trivial, trivial, trivial, trivial, trivial, trivial, trivial, trivial, hmr5.eqL (by rw [hz, mg_nil]; simp)⟩
   ·have d3 : ¬ ((A.length : Nat) : Int) < ((A.length + s : Nat) : Int) := by omega
    have hz : L1 = [] := List.length_eq_zero_iff.1 (by omega)
    simp (maxSteps := 1000000) -dsimp (disch := (repeat first | rw [nxn] | rw [nxp]); try omega) only [go_sem, g0, g1, g2, g3, g4, g18, g20, g24, d3]
    exact ⟨trivial, trivial, trivial, trivial, trivial, trivial, trivial, trivial, trivial, trivial, hmr5.eqL (by rw [hz, mg]; simp)⟩
  clear g0 g1 g2 g3 g4 g18 g20 g24 hmr5
  rintro ⟨tt, g, d⟩ ⟨e9, g0, g1, g2, g3, g4, g18, g20, g24, hmr6⟩
  dsimp only at e9 g0 g1 g2 g3 g4 g18 g20 g24 hmr6
  subst e9
  refine .sy ?_
  have q : (s < L.length ∧ 0 < R2.length) ∨ (s < L.length ∧ ¬ 0 < R2.length) ∨ ¬ s < L.length := by omega
  rcases q with ⟨p3, p4⟩ | ⟨p3, p4⟩ | p3
  ·have d5 : ((A.length + M : Nat) : Int) < ((A.length + L.length + (M - s) : Nat) : Int) := by omega
   have d6 : ((A.length + L.length + (M - s) : Nat) : Int) < ((A.length + L.length + R.length : Nat) : Int) := by omega
   simp (maxSteps := 1000000) -dsimp (disch := (repeat first | rw [nxn] | rw [nxp]); try omega) only [go_sem, g0, g1, g2, g3, g4, g18, g20, g24, d5, d6, ov, hf]
   refine callK_of (ih (A := A ++ mg ltK L1 R1) (L := L2) (R := R2) (B := B) (by omega) (by simpa only [List.append_assoc] using hmr6.m) (by simp only [List.length_append]; omega) sl2 sr2 (by omega) (by omega) (by simp only [List.length_append]; omega) (by simp only [List.length_append]; omega) (by simp only [List.length_append]; omega)) ?_
   intro w3 g7 hr7
   try simp (maxSteps := 1000000) -dsimp (disch := (repeat first | rw [nxn] | rw [nxp]); try omega) only [go_sem]
   rw [hmg]
   exact hmr6.trans (by simpa only [List.append_assoc] using hr7)
  ·have d5 : ((A.length + M : Nat) : Int) < ((A.length + L.length + (M - s) : Nat) : Int) := by omega
   have d6 : ¬ ((A.length + L.length + (M - s) : Nat) : Int) < ((A.length + L.length + R.length : Nat) : Int) := by omega
   have hz2 : R2 = [] := List.length_eq_zero_iff.1 (by omega)
   simp (maxSteps := 1000000) -dsimp (disch := (repeat first | rw [nxn] | rw [nxp]); try omega) only [go_sem, g0, g1, g2, g3, g4, g18, g20, g24, d5, d6]
   exact hmr6.eqL (by rw [hmg, hz2, mg_nil]; simp)
  ·have d5 : ¬ ((A.length + M : Nat) : Int) < ((A.length + L.length + (M - s) : Nat) : Int) := by omega
   have hz2 : L2 = [] := List.length_eq_zero_iff.1 (by omega)
   have hz3 : mg ltK L2 R2 = R2 := by rw [hz2, mg]
   simp (maxSteps := 1000000) -dsimp (disch := (repeat first | rw [nxn] | rw [nxp]); try omega) only [go_sem, g0, g1, g2, g3, g4, g18, g20, g24, d5]
   exact hmr6.eqL (by rw [hmg, hz3, hz2]; simp)
end
end Go.Proofs.YtmphlckolampoaaGreatDoor.tbl
