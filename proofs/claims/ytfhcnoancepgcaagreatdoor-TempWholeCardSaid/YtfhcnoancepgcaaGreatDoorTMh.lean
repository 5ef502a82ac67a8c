/- The program's temp, continued: Bytes. Conditions: none but the stated premises. -/
import Derived.Test.YtfhcnoancepgcaaGreatDoorTMg
namespace Go.Proofs.YtfhcnoancepgcaaGreatDoor.dig
open Go Go.Abs Go.Proofs
set_option maxRecDepth 100000
set_option linter.unusedVariables false
set_option linter.unusedSimpArgs false

/-- Bytes of one's own, or none. -/
def Bn (n0 : Nat) (h : AH) (v : AV) (l : List Nat) : Prop := (v = .nilsl ∧ l = []) ∨ Bo n0 h v l
theorem Bn.bs {n0 : Nat} {h : AH} {v : AV} {l : List Nat} (hb : Bn n0 h v l) : Bs h v l := by
  rcases hb with h1 | h1
  · exact .inl h1
  · exact h1.bs
theorem Bn.fr {n0 : Nat} {h h' : AH} {v : AV} {l : List Nat} (hb : Bn n0 h v l) (hf : Fr h h') : Bn n0 h' v l := by
  rcases hb with h1 | h1
  · exact .inl h1
  · exact .inr (h1.fr hf)
theorem Bn.bs' {n0 : Nat} {h h' : AH} {v : AV} {l : List Nat} (hb : Bn n0 h v l) (hk : ∀ j, n0 ≤ j → h'.get j = h.get j) (hn : h'.nx = h.nx) : Bs h' v l := by
  rcases hb with h1 | ⟨id, c, cs, tx, h1, h2, h3, h4, h5⟩
  · exact .inl h1
  · exact Bo.bs (n0 := n0) ⟨id, c, cs, tx, h1, (hk id h4).trans h2, by rw [hn]; exact h3, h4, h5⟩
theorem Bn.shape {n0 : Nat} {h : AH} {v : AV} {l : List Nat} (hb : Bn n0 h v l) : v = .nilsl ∨ ∃ a n c, v = .sl a 0 n 1 c := by
  rcases hb with ⟨h1, _⟩ | ⟨id, c, cs, tx, h1, _⟩
  · exact .inl h1
  · exact .inr ⟨_, _, _, h1⟩
theorem Bn.app {h0 h : AH} {v x : AV} {l m : List Nat} (hb : Bn h0.nx h v l) (hx : Bs h x m) (hf : Fr h0 h) (hl : l.length + m.length ≤ 1073741824) :
    ∃ v' h', evAppend Tryz.prog h #[22, 22] v x = some (.val v' h') ∧ Fr h0 h' ∧ Bn h0.nx h' v' (l ++ m) := by
  rcases hb with ⟨rfl, rfl⟩ | hb
  · obtain ⟨hn, hnew⟩ := hx.first
    rw [evAppend_eq (len := 0) (old := []) Tryz.underlying22 Tryz.underlying22 rfl ai5 hn hnew rfl rfl (byC_all m) (by omega) (by omega) rfl]
    by_cases hm : m.length = 0
    · rw [if_pos hm]
      have : m = [] := List.length_eq_zero_iff.1 hm
      subst this
      exact ⟨_, _, rfl, hf, .inl ⟨rfl, rfl⟩⟩
    · rw [if_neg hm]
      exact ⟨_, _, rfl, hf.news _, .inr ⟨h.nx, none, byC m, false, by simp, AH.get_new_eq rfl, Nat.lt_succ_self _, hf.nx, by rw [List.nil_append, ← byC_length m, List.take_length], by rw [List.nil_append, byC_length]; exact Nat.le_refl _, .inl rfl⟩⟩
  · obtain ⟨v', h', h1, h2, h3⟩ := Bo.app Tryz.underlying22 ai5 hb hx hf (by omega)
    exact ⟨v', h', h1, h2, .inr h3⟩
/-- The bytes of the blocks below i. -/
def cat (B : Int → Option (List Nat)) : Nat → List Nat
  | 0 => []
  | i + 1 => cat B i ++ (B i).getD []
theorem cat_le (B : Int → Option (List Nat)) : ∀ {n i : Nat}, i ≤ n → (cat B i).length ≤ (cat B n).length
  | 0, i, h => by
    obtain rfl : i = 0 := by omega
    exact Nat.le_refl _
  | n + 1, i, h => by
    by_cases hi : i = n + 1
    · rw [hi]; exact Nat.le_refl _
    · have := cat_le B (n := n) (i := i) (by omega)
      show (cat B i).length ≤ (cat B n ++ (B (n : Nat)).getD []).length
      rw [List.length_append]
      omega
theorem mis_nil {B : Int → Option (List Nat)} : ∀ {n : Nat}, mis B n = [] → ∀ i, i < n → (B (i : Nat)).isSome = true
  | 0, _, i, hi => by omega
  | n + 1, h, i, hi => by
    unfold mis at h
    by_cases hb : (B (n : Nat)).isSome = true
    · rw [if_pos hb] at h
      by_cases hin : i = n
      · rw [hin]; exact hb
      · exact mis_nil h i (by omega)
    · rw [if_neg hb] at h
      simp at h

section
variable {S : Sums}
/-- What holds while no missing block was met. -/
structure Gr (h2 : AH) (p : Nat) (lo : AO) (g : AH) : Prop where
  n : h2.nx + 3 ≤ g.nx
  k : ∀ j, j < h2.nx → g.get j = h2.get j
  c : g.get h2.nx = some (.cells [.ptr p 0] true false)
  y : g.get (h2.nx + 2) = some lo
  d : g.get (h2.nx + 1) = some (.defs true)
theorem Gr.fr {h2 : AH} {p : Nat} {lo : AO} {g g' : AH} (hG : Gr h2 p lo g) (hf : Fr g g') : Gr h2 p lo g' := by
  obtain ⟨n, k, c, y, d⟩ := hG
  exact ⟨Nat.le_trans n hf.nx, fun j hj => (hf.get j (by omega)).trans (k j hj), (hf.get _ (by omega)).trans c, (hf.get _ (by omega)).trans y, (hf.get _ (by omega)).trans d⟩
theorem Gr.base {h2 : AH} {p : Nat} {lo : AO} {g : AH} (hG : Gr h2 p lo g) : Fr h2 g := ⟨by have := hG.n; omega, hG.k⟩
theorem range_ret (hS : Nu S) {h2 : AH} {p m : Nat} {s ln : Int} {D : List (List Nat)} {B : Int → Option (List Nat)} (hD : D.length ≤ 1024) (hp : Pt p m h2 s ln D B)
    {fn n d : Nat} {t : Env} {ps : Array Tmp} {a b : Code} {ds : List Nat} {Q : Ex → St → Prop} {y2 : Nat} (hy2 : y2 = h2.nx + 2) (J : AH → Prop)
    (step : ∀ (i : Nat) g, i < D.length → Gr h2 p (.loop .ready none fn t n ps a b d) g → (B i).isSome = false → RnR Tryz.prog S (h2.nx + 2) [.int .i64 (i : Nat)] g fun r g' => r = .bool false ∧ J g')
    (finN : mis B D.length = [] → ∀ g, Gr h2 p (.loop .ready none fn t n ps a b d) g → Q .normal { t := t, h := g.put (h2.nx + 2) (.loop .exhausted none fn t n ps a b d), d := ds })
    (finR : mis B D.length ≠ [] → ∀ g, J g → ∃ fn' t' n' ps' a' b' d', g.get (h2.nx + 2) = some (.loop .done (some .ret) fn' t' n' ps' a' b' d') ∧ Q .ret { t := t, h := g.put (h2.nx + 2) (.loop .exhausted (some .ret) fn' t' n' ps' a' b' d'), d := ds }) {u1 u2} :
    callK Tryz.prog S 66 [.yld (h2.nx + 1 + 1), .ptr h2.nx 0] (((h2.new (.cells [.ptr p 0] true false)).new (.defs true)).new (.loop .ready none fn t n ps a b d)) (fun _ h3 => bnd (loopTail t ds y2 h3) (fun z => Q z.1 z.2) u1) u2 := by
  subst hy2
  refine callK_of (left45 hS (y := h2.nx + 2) (D := D) (B := B) (fun i g => Gr h2 p (.loop .ready none fn t n ps a b d) g ∧ mis B i = []) (fun g => J g ∧ mis B D.length ≠ []) hD (fun i g hG => ⟨⟨_, _, hG.1.c⟩, hp.fr hG.1.base⟩) (fun i g g' hG hf => ⟨hG.1.fr hf, hG.2⟩) (fun i g hi hG hb => ⟨hG.1, ?_⟩) (fun i g hi hG hb => ?_) ⟨⟨?_, fun j hj => ?_, ?_, ?_, ?_⟩, rfl⟩) ?_
  · unfold mis
    rw [if_pos hb]
    exact hG.2
  · obtain ⟨k, v, h', h1, h2', h3⟩ := step i g hi hG.1 hb
    refine ⟨k, v, h', h1, .inr ⟨h2', h3, fun hh => ?_⟩⟩
    have := mis_nil hh i hi
    rw [hb] at this
    cases this
  · simp
  · rw [AH.get_new, if_neg (by simp; omega), AH.get_new, if_neg (by simp; omega), AH.get_new, if_neg (by omega)]
  · rw [AH.get_new, if_neg (by simp; omega), AH.get_new, if_neg (by simp), AH.get_new, if_pos rfl]
  · rw [AH.get_new, if_pos (by simp)]
  · rw [AH.get_new, if_neg (by simp), AH.get_new, if_pos (by simp)]
  · rintro r g (⟨hG, hm⟩ | ⟨hJ, hm⟩)
    · refine ⟨(.normal, { t := t, h := g.put (h2.nx + 2) (.loop .exhausted none fn t n ps a b d), d := ds }), ?_, finN hm g hG⟩
      unfold loopTail
      rw [hG.y]
    · obtain ⟨fn', t', n', ps', a', b', d', hy, hQ⟩ := finR hm g hJ
      refine ⟨(.ret, { t := t, h := g.put (h2.nx + 2) (.loop .exhausted (some .ret) fn' t' n' ps' a' b' d'), d := ds }), ?_, hQ⟩
      unfold loopTail
      rw [hy]
set_option maxHeartbeats 8000000 in
theorem bytes13 (hS : Nu S) {h : AH} {p m : Nat} {s ln : Int} {D : List (List Nat)} {B : Int → Option (List Nat)} (hD : D.length ≤ 1024) (hp : Pt p m h s ln D B) (hB : (cat B D.length).length ≤ 1000000) :
    RnC Tryz.prog S 11 [.ptr p 0] h fun r h' => (if mis B D.length = [] then ∃ v, r = .tup [v, .int .i64 0] ∧ Bs h' v (cat B D.length) else r = .tup [.nilsl, .int .i64 9]) ∧ Fr h h' := by
  refine RnC.enter' Tryz.f11 _ 31 [.cell 2 22, .cell 3 29] (hS _ _ _ (by simp)) bd11 Tryz.func11 rfl rfl rfl ?_
  simp (maxSteps := 1000000) -dsimp (disch := (repeat first | rw [nxn] | rw [nxp]); try omega) only [go_sem, evLen]
  refine callK_of (made30 hS (hp.fr (((Fr.refl h).news _).news _))) ?_
  rintro r h2 ⟨rfl, hf2⟩
  simp (maxSteps := 1000000) -dsimp (disch := (repeat first | rw [nxn] | rw [nxp]); try omega) only [go_sem, evLen]
  refine callK_of (left34 hS) ?_
  rintro r h3 ⟨rfl, rfl⟩
  simp (maxSteps := 1000000) -dsimp (disch := (repeat first | rw [nxn] | rw [nxp]); try omega) only [go_sem, evLen, loopHead, bd66]
  have hn2 : h.nx + 1 + 1 ≤ h2.nx := hf2.nx
  have c2 : h2.get h.nx = some (.cells [.nilsl] true false) := (hf2.get _ (by show h.nx < h.nx + 1 + 1; omega)).trans ((AH.get_new_ne (by rw [AH.nx_new]; omega)).trans (AH.get_new_eq rfl))
  have c3 : h2.get (h.nx + 1) = some (.cells [.int .i64 0] true false) := (hf2.get _ (by show h.nx + 1 < h.nx + 1 + 1; omega)).trans (AH.get_new_eq rfl)
  have fr2 : Fr h h2 := (((Fr.refl h).news _).news _).trans hf2
  refine range_ret hS hD (hp.fr fr2) rfl (fun g => h2.nx + 3 ≤ g.nx ∧ (∀ j, j < h.nx → g.get j = h.get j) ∧ g.get h.nx = some (.cells [.nilsl] true false) ∧ g.get (h.nx + 1) = some (.cells [.int .i64 9] true false) ∧ g.get (h2.nx + 1) = some (.defs true) ∧ ∃ fn' t' n' ps' a' b' d', g.get (h2.nx + 2) = some (.loop .done (some .ret) fn' t' n' ps' a' b' d')) ?_ ?_ ?_
  · intro i g hi hG hb
    obtain ⟨gn, gk, gc, gy, gd⟩ := hG
    refine RnR.enter gy (by simp [setArgs]; rfl) ?_
    simp (maxSteps := 1000000) -dsimp (disch := (repeat first | rw [nxn] | rw [nxp]); try omega) only [go_sem, evLen]
    refine ⟨rfl, _, _, _, _, _, _, _, _, gy, ?_⟩
    refine busy_gen ?_
    intro gb e1 e2 e3
    dsimp only at e1 e2 e3
    have w2 : gb.get h.nx = some (.cells [.nilsl] true false) := (e2 _ (by omega)).trans ((gk _ (by omega)).trans c2)
    have w3 : gb.get (h.nx + 1) = some (.cells [.int .i64 0] true false) := (e2 _ (by omega)).trans ((gk _ (by omega)).trans c3)
    simp (maxSteps := 1000000) -dsimp (disch := (repeat first | rw [nxn] | rw [nxp]); try omega) only [go_sem, evLen, w2, w3]
    refine ⟨_, _, _, _, _, _, _, _, _, (AH.get_put_ne (by omega)).trans ((AH.get_put_ne (by omega)).trans e3), ?_⟩
    refine ⟨rfl, ?_, fun j hj => ?_, ?_, ?_, ?_, _, _, _, _, _, _, _, AH.get_put_eq rfl⟩
    · show h2.nx + 3 ≤ gb.nx
      omega
    · exact (AH.get_put_ne (by omega)).trans ((AH.get_put_ne (by omega)).trans ((AH.get_put_ne (by omega)).trans ((e2 j (by omega)).trans ((gk j (by omega)).trans (fr2.get j hj)))))
    · exact (AH.get_put_ne (by omega)).trans ((AH.get_put_ne (by omega)).trans (AH.get_put_eq rfl))
    · exact (AH.get_put_ne (by omega)).trans (AH.get_put_eq rfl)
    · exact (AH.get_put_ne (by omega)).trans ((AH.get_put_ne (by omega)).trans ((AH.get_put_ne (by omega)).trans ((e2 _ (by omega)).trans gd)))
  · intro hm g hG
    have hb0 := hG.base
    obtain ⟨gn, gk, gc, gy, gd⟩ := hG
    have hge : ∀ o, ∃ gb : AH, gb = g.put (h2.nx + 2) o ∧ gb.nx = g.nx ∧ ∀ j, j ≠ h2.nx + 2 → gb.get j = g.get j := fun o => ⟨_, rfl, rfl, fun j hj => AH.get_put_ne hj⟩
    obtain ⟨gb, hgb, e1, e2⟩ := hge _
    rw [← hgb]
    have frb : Fr h2 gb := ⟨by omega, fun j hj => (e2 j (by omega)).trans (gk j hj)⟩
    obtain ⟨⟨dv, E, bs, ck, k1, k2, k3, k4, k5⟩, k6, k7⟩ := hp.fr (fr2.trans frb)
    obtain ⟨ldv, sdv, odv⟩ := k3.len
    have wd : gb.get (h2.nx + 1) = some (.defs true) := (e2 _ (by omega)).trans gd
    have w2 : gb.get h.nx = some (.cells [.nilsl] true false) := (frb.get _ (by omega)).trans c2
    have w3 : gb.get (h.nx + 1) = some (.cells [.int .i64 0] true false) := (frb.get _ (by omega)).trans c3
    simp (maxSteps := 1000000) -dsimp (disch := (repeat first | rw [nxn] | rw [nxp]); try omega) only [go_sem, k1, ldv, wd, w2, w3]
    refine loopK_of (RnL.rounds (Q := fun ex s => ex = .exit 2 ∧ Fr gb s.h ∧ s.d = [h2.nx + 1] ∧ s.t.get 2 = some (.ptr h.nx 0) ∧ s.t.get 3 = some (.ptr (h.nx + 1) 0) ∧ ∃ v, s.t.get 4 = some v ∧ Bn gb.nx s.h v (cat B D.length))
      (fun m s => Fr gb s.h ∧ s.d = [h2.nx + 1] ∧ s.t.get 0 = some (.ptr p 0) ∧ s.t.get 2 = some (.ptr h.nx 0) ∧ s.t.get 3 = some (.ptr (h.nx + 1) 0) ∧ s.t.get 17 = some (.int .i64 (D.length : Nat)) ∧ ∃ (i : Nat) (v : AV), s.t.get 18 = some (.int .i64 (i : Nat)) ∧ s.t.get 4 = some v ∧ Bn gb.nx s.h v (cat B i) ∧ i ≤ D.length ∧ m = D.length - i) ?_ D.length ?_) ?_
    · rintro m' ⟨t, h5, d⟩ ⟨f5, e5, g0, g2, g3, g17, i, v, g18, g4, hv, hi, rfl⟩
      dsimp only at f5 e5 g0 g2 g3 g17 g18 g4 hv
      subst e5
      by_cases c1 : ((i : Nat) : Int) < (D.length : Nat)
      · have hlt : i < D.length := by omega
        obtain ⟨⟨dv5, E5, bs5, ck5, q1, q2, q3, q4, q5⟩, q6, q7⟩ := hp.fr (fr2.trans (frb.trans f5))
        have hsome := mis_nil hm i hlt
        have hw := q5 (i : Nat)
        obtain ⟨w, l, hw1, hw2, hw3⟩ : ∃ w l, val E5 (i : Nat) = some w ∧ B (i : Nat) = some l ∧ Bs h5 w l := by
          revert hw
          cases val E5 (i : Nat) with
          | none => intro hw; have hw' : B (i : Nat) = none := hw; rw [hw'] at hsome; cases hsome
          | some w => rintro ⟨l, e1, e2⟩; exact ⟨w, l, rfl, e1, e2⟩
        obtain ⟨lk, _⟩ := look60 q2 (i : Nat)
        rw [hw1] at lk
        have lk' : evLookup Tryz.prog h5 66 (.map m) (.int .i64 (i : Nat)) false = some w := lk
        have hcat : cat B (i + 1) = cat B i ++ l := by
          show cat B i ++ (B (i : Nat)).getD [] = _
          rw [hw2]; rfl
        have hle := cat_le B (n := D.length) (i := i + 1) (by omega)
        rw [hcat, List.length_append] at hle
        obtain ⟨v', h6, ha, hf6, hb6⟩ := Bn.app hv hw3 f5 (by omega)
        simp (maxSteps := 1000000) -dsimp (disch := (repeat first | rw [nxn] | rw [nxp]); try omega) only [go_sem, c1, g0, g2, g3, g17, g18, g4, q1, lk', ha]
        refine ⟨D.length - (i + 1), by omega, hf6, trivial, trivial, trivial, trivial, trivial, i + 1, v', ?_, rfl, hcat ▸ hb6, by omega, rfl⟩
        rw [show ((i : Nat) : Int) + 1 = ((i + 1 : Nat) : Int) from by omega]
      · obtain rfl : i = D.length := by omega
        simp (maxSteps := 1000000) -dsimp (disch := (repeat first | rw [nxn] | rw [nxp]); try omega) only [go_sem, c1, g0, g2, g3, g17, g18, g4]
        exact ⟨trivial, f5, trivial, trivial, trivial, v, rfl, hv⟩
    · simp (maxSteps := 1000000) -dsimp (disch := (repeat first | rw [nxn] | rw [nxp]); try omega) only [go_sem]
      exact ⟨Fr.refl _, trivial, trivial, trivial, trivial, trivial, 0, .nilsl, rfl, rfl, .inl ⟨rfl, rfl⟩, Nat.zero_le _, rfl⟩
    · rintro ex ⟨t, h5, d⟩ ⟨rfl, f5, rfl, g2, g3, v, g4, hv⟩
      dsimp only at f5 g2 g3 g4 hv
      have x2 : h5.get h.nx = some (.cells [.nilsl] true false) := (f5.get _ (by omega)).trans w2
      have x3 : h5.get (h.nx + 1) = some (.cells [.int .i64 0] true false) := (f5.get _ (by omega)).trans w3
      have xd : h5.get (h2.nx + 1) = some (.defs true) := (f5.get _ (by omega)).trans wd
      rcases hv.shape with rfl | ⟨ra, rn, rc, rfl⟩
      · simp (maxSteps := 1000000) -dsimp (disch := (repeat first | rw [nxn] | rw [nxp]); try omega) only [go_sem, g2, g3, g4, x2, x3, xd, takeMarks]
        rw [if_pos hm]
        refine ⟨⟨_, rfl, hv.bs' (fun j hj => (AH.get_put_ne (by omega)).trans ((AH.get_put_ne (by omega)).trans (AH.get_put_ne (by omega)))) rfl⟩, ((((fr2.trans frb).trans f5).put _ (by omega)).put _ (by omega)).put _ (by omega)⟩
      · simp (maxSteps := 1000000) -dsimp (disch := (repeat first | rw [nxn] | rw [nxp]); try omega) only [go_sem, g2, g3, g4, x2, x3, xd, takeMarks]
        rw [if_pos hm]
        refine ⟨⟨_, rfl, hv.bs' (fun j hj => (AH.get_put_ne (by omega)).trans ((AH.get_put_ne (by omega)).trans (AH.get_put_ne (by omega)))) rfl⟩, ((((fr2.trans frb).trans f5).put _ (by omega)).put _ (by omega)).put _ (by omega)⟩
  · rintro hm g ⟨gn, gk, g2, g3, gd, fn', t', n', ps', a', b', d', gy⟩
    refine ⟨fn', t', n', ps', a', b', d', gy, ?_⟩
    have w2 : ∀ o, (g.put (h2.nx + 2) o).get h.nx = some (.cells [.nilsl] true false) := fun o => (AH.get_put_ne (by omega)).trans g2
    have w3 : ∀ o, (g.put (h2.nx + 2) o).get (h.nx + 1) = some (.cells [.int .i64 9] true false) := fun o => (AH.get_put_ne (by omega)).trans g3
    have wd : ∀ o, (g.put (h2.nx + 2) o).get (h2.nx + 1) = some (.defs true) := fun o => (AH.get_put_ne (by omega)).trans gd
    simp (maxSteps := 1000000) -dsimp (disch := (repeat first | rw [nxn] | rw [nxp]); try omega) only [go_sem, evLen, w2, w3, wd, takeMarks]
    rw [if_neg hm]
    exact ⟨trivial, by show h.nx ≤ g.nx; omega, fun j hj => (AH.get_put_ne (by omega)).trans ((AH.get_put_ne (by omega)).trans (gk j hj))⟩
end
end Go.Proofs.YtfhcnoancepgcaaGreatDoor.dig
