/- The document's last, fine. Conditions: those of its summaries. -/
import Derived.Test.YtmphlckolampoaaGreatDoorRCg
import Derived.Test.YtmphlckolampoaaGreatDoorRCl
namespace Go.Proofs.YtmphlckolampoaaGreatDoor.tbl
open Go Go.Abs Go.Abs.Rec Go.Proofs
set_option maxRecDepth 100000
set_option linter.unusedVariables false
set_option linter.unusedSimpArgs false
theorem appP2 {h0 h : AH} {v x : AV} {l m : KL (List Nat × Bool)} (hb : Ez 3 h0.nx h v (l.flatMap pc)) (hx : Ps h x m) (hf : Fr h0 h) (hl : l.length + m.length ≤ 1000000) :
  ∃ v' h', evAppend Tryz.prog h #[22, 22] v x = some (.val v' h') ∧ Fr h0 h' ∧ Ez 3 h0.nx h' v' ((l ++ m).flatMap pc) ∧ oneA v' = true ∧ (v' = v ∨ ∃ id n, v' = .sl id 0 n 3 none ∧ h.nx ≤ id) ∧ h.nx ≤ h'.nx := by
 obtain ⟨q1, q2⟩ := hx.first
 obtain ⟨v', h', ha, hf', hz', ov', o1, o2, o3⟩ := Ez.app (P := Tryz.prog) (z := 3) (h0 := h0) (h := h) (v := v) (l := l.flatMap pc) (x := x) (k := m.length) (m := m.flatMap pc) Tryz.underlying22 Tryz.underlying22 rfl aiP (by decide) (by decide) hb q1 q2 (pc_len m) (pc_all m) hf (by rw [pc_len, pc_len]; omega)
 exact ⟨v', h', ha, hf', by rw [List.flatMap_append]; exact hz', ov', o3.imp (fun h => h.2) id, o1⟩
theorem ezPutNe {z n0 : Nat} {h : AH} {v : AV} {l : List AV} {j : Nat} {o : AO} (hb : Ez z n0 h v l) (hj : ∀ id o n z c, v = .sl id o n z c → id ≠ j) : Ez z n0 (h.put j o) v l := by
 rcases hb with h1 | ⟨id, n, c, tx, h1, h2, h3, h4, h5⟩
 ·exact .inl h1
 ·exact .inr ⟨id, n, c, tx, h1, (AH.get_put_ne (hj _ _ _ _ _ h1)).trans h2, h3, h4, h5⟩
theorem svP (a b : List Nat) (c : Bool) : sameAV 20 (.agg [.str a, .str b, .bool c]) (.agg [.str a, .str b, .bool c]) = true := by simp [sameAV, sameL]
theorem lastD_take {l : KL (List Nat × Bool)} {i : Nat} {p : Pr} (h : l[i]? = some p) : lastD (l.take (i + 1)) = putP (lastD (l.take i)) p.1 p.2 := by
 rw [List.take_add_one, h]
 unfold lastD
 rw [List.foldl_append]; rfl
section
variable {S : Sums}
structure Te (S : Sums) : Prop extends Tx S, Td S where
 ne : ∀ f args h, f ∈ [27, 28, 9, 11, 13] → S f args h = none
set_option maxHeartbeats 4000000 in
theorem fineC (hS : Te S) (h : AH) (p : Pr) : RnC Tryz.prog S 27 [aP p] h fun r h' => r = .int .i64 ((if badL p = true then 3 else 0 : Nat) : Int) ∧ Fr h h' := by
 refine RnC.enter' Tryz.f27 _ 18 [.tmp 2] (hS.ne _ _ _ (by simp)) bd27 Tryz.func27 rfl rfl rfl ?_
 have d1 : ∀ (o1 : AO), (h.new o1).get h.nx = some o1 := fun o1 => AH.get_new_eq rfl
 have ls : ∀ g s, evLen Tryz.prog g #[9] (.str s) = some (.int .i64 ((s.length : Nat) : Int)) := fun g s => by simp [evLen, Tryz.underlying9]
 unfold badL
 by_cases c1 : 512 < p.1.length
 ·have c2 : (512 : Int) < ((p.1.length : Nat) : Int) := by omega
  simp (maxSteps := 1000000) -dsimp (disch := (repeat first | rw [nxn] | rw [nxp]); try omega) only [go_sem, d1, aP, ls, c2]
  exact ⟨by simp [c1], Fr.new _ _⟩
 ·have c2 : ¬ (512 : Int) < ((p.1.length : Nat) : Int) := by omega
  cases hg : p.2.2
  ·by_cases c3 : 65536 < p.2.1.length
   ·have c4 : (65536 : Int) < ((p.2.1.length : Nat) : Int) := by omega
    simp (maxSteps := 1000000) -dsimp (disch := (repeat first | rw [nxn] | rw [nxp]); try omega) only [go_sem, d1, aP, ls, c2, hg, c4]
    exact ⟨by simp [c1, c3], Fr.new _ _⟩
   ·have c4 : ¬ (65536 : Int) < ((p.2.1.length : Nat) : Int) := by omega
    simp (maxSteps := 1000000) -dsimp (disch := (repeat first | rw [nxn] | rw [nxp]); try omega) only [go_sem, d1, aP, ls, c2, hg, c4]
    exact ⟨by simp [c1, c3], Fr.new _ _⟩
  ·by_cases c3 : 65536 < p.2.1.length
   ·have c4 : (65536 : Int) < ((p.2.1.length : Nat) : Int) := by omega
    simp (maxSteps := 1000000) -dsimp (disch := (repeat first | rw [nxn] | rw [nxp]); try omega) only [go_sem, d1, aP, ls, c2, hg, c4]
    exact ⟨by simp [c1], Fr.new _ _⟩
   ·have c4 : ¬ (65536 : Int) < ((p.2.1.length : Nat) : Int) := by omega
    simp (maxSteps := 1000000) -dsimp (disch := (repeat first | rw [nxn] | rw [nxp]); try omega) only [go_sem, d1, aP, ls, c2, hg, c4]
    exact ⟨by simp [c1], Fr.new _ _⟩
set_option maxHeartbeats 16000000 in
theorem lastDC (hS : Te S) {h : AH} {v : AV} {l : KL (List Nat × Bool)} (hv : Ps h v l) (hl : l.length ≤ 100000) : RnC Tryz.prog S 28 [v] h fun r h' => Ps h' r (lastD l) ∧ Fr h h' := by
 refine RnC.enter' Tryz.f28 _ 66 [.tmp 2] (hS.ne _ _ _ (by simp)) bd28 Tryz.func28 rfl rfl rfl ?_
 obtain ⟨lv, sv, ov⟩ := hv.ln
 simp (maxSteps := 1000000) -dsimp (disch := (repeat first | rw [nxn] | rw [nxp]); try omega) only [go_sem, lv, ov]
 refine loopK_of (RnL.rounds (Q := fun ex u => ex = .exit 0 ∧ u.d = [] ∧ Fr h u.h ∧ ∃ w, u.t.get 3 = some w ∧ Ps u.h w (lastD l))
  (fun m u => u.d = [] ∧ Fr h u.h ∧ u.t.get 0 = some v ∧ ∃ (i : Nat) (w : AV), u.t.get 4 = some (.int .i64 (i : Nat)) ∧ u.t.get 3 = some w ∧ Ps u.h w (lastD (l.take i)) ∧ i ≤ l.length ∧ m = l.length - i) ?_ l.length ?_) ?_
 ·rintro m ⟨tt, g, d⟩ ⟨e9, e1, g0, i, w, g4, g3, hw, hi, rfl⟩
  dsimp only at e9 e1 g0 g4 g3 hw
  subst e9
  obtain ⟨lw, sw, ow⟩ := hw.ln
  by_cases c4 : (i : Int) < (l.length : Nat)
  ·have hil : i < l.length := by omega
   obtain ⟨p, hp⟩ : ∃ p, l[i]? = some p := ⟨_, List.getElem?_eq_getElem hil⟩
   obtain ⟨id, off, c, cs, o, tx, hveq, hgi, hidl, hle, hx, x0, x1, x2⟩ := Ps.at hv hp
   subst hveq
   have hgx := (e1.get id hidl).trans hgi
   have hst := lastD_take hp
   have hLl := last_len (l.take i)
   rw [List.length_take] at hLl
   generalize lastD (l.take i) = L at hw hst lw hLl
   have hpd := put_doc p.1 p.2 L
   rw [← hst] at hpd
   have hpl := plcP_le L p.1
   simp (maxSteps := 1000000) -dsimp (disch := (repeat first | rw [nxn] | rw [nxp]); try omega) only [go_sem, lv, c4, g0, g4, g3]
   refine loopK_of (RnL.rounds (Q := fun ex u => ex = .exit 2 ∧ u.d = [] ∧ Fr g u.h ∧ u.t.get 0 = some (.sl id off l.length 3 c) ∧ u.t.get 4 = some (.int .i64 (i : Nat)) ∧ u.t.get 3 = some w ∧ u.t.get 5 = some (.int .i64 (plcP L p.1 : Nat)))
    (fun m u => u.d = [] ∧ Fr g u.h ∧ u.t.get 0 = some (.sl id off l.length 3 c) ∧ u.t.get 4 = some (.int .i64 (i : Nat)) ∧ u.t.get 3 = some w ∧ ∃ k : Nat, u.t.get 5 = some (.int .i64 (k : Nat)) ∧ k ≤ L.length ∧ (∀ j e, j < k → L[j]? = some e → lessA e.1 p.1 = true) ∧ m = L.length - k) ?_ L.length ?_) ?_
   ·rintro m ⟨tt2, g2, d2⟩ ⟨e9, f2, a0, a4, a3, k, a5, hk, hall, rfl⟩
    dsimp only at e9 f2 a0 a4 a3 a5
    subst e9
    have hgx2 := (f2.get id (Nat.lt_of_lt_of_le hidl e1.nx)).trans hgx
    by_cases c5 : (k : Int) < (L.length : Nat)
    ·have hkl : k < L.length := by omega
     obtain ⟨q, hq⟩ : ∃ q, L[k]? = some q := ⟨_, List.getElem?_eq_getElem hkl⟩
     obtain ⟨id2, off2, cc, cs2, oo, tx2, hweq, hgi2, hidl2, hle2, hx2, y0, y1, y2⟩ := Ps.at hw hq
     subst hweq
     have hgy := (f2.get id2 hidl2).trans hgi2
     simp (maxSteps := 1000000) -dsimp (disch := (repeat first | rw [nxn] | rw [nxp]); try omega) only [go_sem]
     refine syDraw.keepN 0 (fun _ => True) (by kernel_rfl) (by kernel_rfl) rfl ?_
     cases hlt : lessA q.1 p.1
     ·have : plcP L p.1 = k := plcP_eq hk hall fun e he => by rw [hq] at he; cases he; exact hlt
      simp (maxSteps := 1000000) -dsimp (disch := (repeat first | rw [nxn] | rw [nxp]); try omega) only [go_sem, lw, c5, a0, a3, a4, a5, hkl, hgy, y0, hil, hgx2, x0, ltSt, hlt]
      exact ⟨trivial, trivial, f2.more _ (by omega), trivial, trivial, trivial, by rw [this]⟩
     ·simp (maxSteps := 1000000) -dsimp (disch := (repeat first | rw [nxn] | rw [nxp]); try omega) only [go_sem, lw, c5, a0, a3, a4, a5, hkl, hgy, y0, hil, hgx2, x0, ltSt, hlt]
      refine ⟨L.length - (k + 1), by omega, trivial, f2.more _ (by omega), trivial, trivial, trivial, k + 1, rfl, by omega, fun j e hj he => ?_, rfl⟩
      by_cases hjk : j = k
      ·subst hjk; rw [hq] at he; cases he; exact hlt
      ·exact hall j e (by omega) he
    ·have : k = L.length := by omega
     subst this
     have : plcP L p.1 = L.length := plcP_eq (Nat.le_refl _) hall fun e he => by
      have := (List.getElem?_eq_some_iff.1 he).1
      omega
     simp (maxSteps := 1000000) -dsimp (disch := (repeat first | rw [nxn] | rw [nxp]); try omega) only [go_sem]
     refine syDraw.keepN 0 (fun _ => True) (by kernel_rfl) (by kernel_rfl) rfl ?_
     simp (maxSteps := 1000000) -dsimp (disch := (repeat first | rw [nxn] | rw [nxp]); try omega) only [go_sem, lw, c5, a0, a3, a4, a5, ow]
     exact ⟨trivial, trivial, f2.more _ (by omega), trivial, trivial, trivial, by rw [this]⟩
   ·simp (maxSteps := 1000000) -dsimp (disch := (repeat first | rw [nxn] | rw [nxp]); try omega) only [go_sem, g0, g4, g3]
    exact ⟨trivial, Fr.refl _, trivial, trivial, trivial, 0, rfl, Nat.zero_le _, fun j e hj => absurd hj (Nat.not_lt_zero _), rfl⟩
   ·rintro ex ⟨tt2, g2, d2⟩ ⟨rfl, e9, f2, a0, a4, a3, a5⟩
    dsimp only at e9 f2 a0 a4 a3 a5
    subst e9
    have hw2 := hw.fr f2
    have fh2 := e1.trans f2
    have hpa : ∀ q, L[plcP L p.1]? = some q → lessA q.1 p.1 = false := fun q hq => plcP_at hq
    generalize plcP L p.1 = n at hpl hpd a5 hpa
    obtain ⟨vt, t1, t2, t3, t4⟩ := hw2.to hpl
    obtain ⟨vr, r1, r2, r3, r4⟩ := hw2.frm hpl
    -- the end of a round
    have fin : ∀ (gd : AH) (vf : AV) (D : KL (List Nat × Bool)), Fr g2 gd → Ps gd vf D → D.length ≤ L.length → lastD (l.take (i + 1)) = L.take n ++ p :: D →
      ∃ v3 g3 v4 g4 v5 g5, evAppend Tryz.prog (({ tr := gd.tr, nx := gd.nx + 14 } : AH).put gd.nx (.cells [] true true)) #[22, 22] (.sl gd.nx 0 0 3 (some 0)) vt = some (.val v3 g3) ∧ oneA v3 = true ∧
       evAppend Tryz.prog (g3.put (gd.nx + 9) (.cells [.str p.1, .str p.2.1, .bool p.2.2] true false)) #[22, 22] v3 (.sl (gd.nx + 9) 0 1 3 (some 1)) = some (.val v4 g4) ∧ oneA v4 = true ∧
       evAppend Tryz.prog g4 #[22, 22] v4 vf = some (.val v5 g5) ∧ oneA v5 = true ∧ Fr gd g3 ∧ Fr gd g4 ∧ Fr gd g5 ∧ Ez 3 gd.nx g5 v5 ((lastD (l.take (i + 1))).flatMap pc) := fun gd vf D fgd hvf hDl heq => by
     have fX : Fr gd (({ tr := gd.tr, nx := gd.nx + 14 } : AH).put gd.nx (.cells [] true true)) := ((Fr.refl gd).more _ (by omega)).put _ (Nat.le_refl _)
     have hzX : Ez 3 gd.nx (({ tr := gd.tr, nx := gd.nx + 14 } : AH).put gd.nx (.cells [] true true)) (.sl gd.nx 0 0 3 (some 0)) (([] : KL (List Nat × Bool)).flatMap pc) := .inr ⟨gd.nx, 0, some 0, true, rfl, AH.get_put_eq rfl, (show gd.nx < gd.nx + 14 by omega), Nat.le_refl _, rfl, .inr rfl, .inr ⟨rfl, rfl⟩⟩
     obtain ⟨v3, g3, ha3, f3, hz3, o3, s3, n3⟩ := appP2 (h0 := gd) hzX ((t2.fr fgd).fr fX) fX (by simp; omega)
     rw [List.nil_append] at hz3
     have n3' : gd.nx + 14 ≤ g3.nx := n3
     have hne : ∀ id o n z c, v3 = .sl id o n z c → id ≠ gd.nx + 9 := fun id o n z c hh => by
      rcases s3 with s3 | ⟨id3, n3, s3, h3⟩
      ·rw [s3] at hh; cases hh; omega
      ·rw [s3] at hh; cases hh
       have h3' : gd.nx + 14 ≤ id := h3
       omega
     have f3p : Fr gd (g3.put (gd.nx + 9) (.cells (pc p) true false)) := f3.put _ (by omega)
     obtain ⟨v4, g4, ha4, f4, hz4, o4, _⟩ := appP2 (h0 := gd) (ezPutNe (o := .cells (pc p) true false) hz3 hne) (ps1 (p := p) (AH.get_put_eq rfl) (show gd.nx + 9 < g3.nx by omega)) f3p (by simp; omega)
     obtain ⟨v5, g5, ha5, f5, hz5, o5, _⟩ := appP2 (h0 := gd) hz4 (hvf.fr f4) f4 (by simp; omega)
     refine ⟨v3, g3, v4, g4, v5, g5, ha3, o3, ha4, o4, ha5, o5, f3, f4, f5, ?_⟩
     rw [heq]
     have : L.take n ++ p :: D = L.take n ++ [p] ++ D := by simp
     rw [this]; exact hz5
    have hidg : id < g2.nx := Nat.lt_of_lt_of_le hidl fh2.nx
    have hgx2 := (fh2.get id hidl).trans hgi
    have svp := svP p.1 p.2.1 p.2.2
    have endr : ∀ (gd g5 : AH) (v5 : AV), Fr g2 gd → Fr gd g5 → Ez 3 gd.nx g5 v5 ((lastD (l.take (i + 1))).flatMap pc) → Fr h g5 ∧ Ps g5 v5 (lastD (l.take (i + 1))) := fun gd g5 v5 a b hz => ⟨(fh2.trans a).trans b, Ps.of hz⟩
    obtain ⟨lr, sr, or_⟩ := r2.ln
    have fm : ∀ k : Nat, Fr g2 { tr := g2.tr, nx := g2.nx + k } := fun k => (Fr.refl g2).more _ (by omega)
    by_cases hn : n < L.length
    ·obtain ⟨q, hq⟩ : ∃ q, L[n]? = some q := ⟨_, List.getElem?_eq_getElem hn⟩
     have hdl : (L.drop n).length = L.length - n := List.length_drop ..
     have c6 : (0 : Int) < (((L.drop n).length : Nat) : Int) := by omega
     have hq0 : (L.drop n)[0]? = some q := by rw [List.getElem?_drop]; exact hq
     obtain ⟨id2, off2, cc, cs2, oo, tx2, hreq, hgi2, hidl2, hle2, hx2, y0', y1, y2⟩ := Ps.at r2 hq0
     have y0 : cs2[off2]? = some (.str q.1) := by simpa using y0'
     have hdl0 : 0 < (L.drop n).length := by omega
     by_cases hqk : q.1 = p.1
     ·have hqd : decide (q.1 = p.1) = true := decide_eq_true hqk
      have heq : lastD (l.take (i + 1)) = L.take n ++ p :: (L.drop n).drop 1 := by
       rw [hpd, hq, if_pos (by rw [← hqk]; rfl), List.drop_drop]
      obtain ⟨vf, s1', s2, s3, s4⟩ := r2.frm (n := 1) hdl0
      have s1 : ∀ h1, evSlice Tryz.prog h1 22 vr (some (.int .i64 1)) none none = some vf := s1'
      obtain ⟨v3, g3', v4, g4', v5, g5, ha3, o3, ha4, o4, ha5, o5, f3, f4, f5, hz5⟩ := fin ({ tr := g2.tr, nx := g2.nx + 15 }) vf _ (fm 15) (s2.fr (fm 15)) (by simp only [List.length_drop]; omega) heq
      obtain ⟨k1, k2⟩ := endr _ _ _ (fm 15) f5 hz5
      subst hreq
      simp (maxSteps := 1000000) -dsimp (disch := (repeat first | rw [nxn] | rw [nxp]); try omega) only [go_sem, a0, a3, a4, a5, r1, r3]
      refine syDraw.keepN 0 (fun _ => True) (by kernel_rfl) (by kernel_rfl) rfl ?_
      simp (maxSteps := 1000000) -dsimp (disch := (repeat first | rw [nxn] | rw [nxp]); try omega) only [go_sem, a0, a3, a4, a5, lr, r3, c6, hdl0, hgi2, y0, hil, hgx2, x0, eqSt, hqd, s1, s3]
      refine syDraw.keep (fun j => j < h.nx) (by kernel_rfl) (by kernel_rfl) ?_
      have b3 : ∀ j, j < h.nx → g3'.get j = g2.get j := fun j hj => f3.get j (Nat.lt_of_lt_of_le hj (Nat.le_trans fh2.nx (Nat.le_add_right _ 15)))
      have b4 : ∀ j, j < h.nx → g4'.get j = g3'.get j := fun j hj => (f4.get j (Nat.lt_of_lt_of_le hj (Nat.le_trans fh2.nx (Nat.le_add_right _ 15)))).trans (b3 j hj).symm
      have b5 : ∀ j, j < h.nx → g5.get j = g4'.get j := fun j hj => (f5.get j (Nat.lt_of_lt_of_le hj (Nat.le_trans fh2.nx (Nat.le_add_right _ 15)))).trans ((b3 j hj).symm.trans (b4 j hj).symm)
      have g3x : g3'.get id = some (.cells cs o tx) := (b3 id hidl).trans hgx2
      rcases ezShape hz5 with rfl | ⟨ii, nn, ccc, rfl⟩
      all_goals
       simp (maxSteps := 1000000) -dsimp (disch := (repeat first | rw [nxn] | rw [nxp]); try omega) only [go_sem, a0, a3, a4, a5, t1, t3, ha3, o3, hil, g3x, hgx2, hle, hx, pc, svp, hidl, ha4, o4, s3, ha5, o5, true_and, implies_true, svi, svb, svs]
       exact ⟨b3, b4, b5, l.length - (i + 1), by omega, k1, i + 1, _, rfl, rfl, k2, by omega, rfl⟩
     ·have hqd : decide (q.1 = p.1) = false := decide_eq_false hqk
      have heq : lastD (l.take (i + 1)) = L.take n ++ p :: L.drop n := by
       rw [hpd, hq, Option.map_some, if_neg (fun hh => hqk (Option.some.inj hh))]
      obtain ⟨v3, g3', v4, g4', v5, g5, ha3, o3, ha4, o4, ha5, o5, f3, f4, f5, hz5⟩ := fin ({ tr := g2.tr, nx := g2.nx + 15 }) vr _ (fm 15) (r2.fr (fm 15)) (by simp only [List.length_drop]; omega) heq
      obtain ⟨k1, k2⟩ := endr _ _ _ (fm 15) f5 hz5
      subst hreq
      simp (maxSteps := 1000000) -dsimp (disch := (repeat first | rw [nxn] | rw [nxp]); try omega) only [go_sem, a0, a3, a4, a5, r1, r3]
      refine syDraw.keepN 0 (fun _ => True) (by kernel_rfl) (by kernel_rfl) rfl ?_
      simp (maxSteps := 1000000) -dsimp (disch := (repeat first | rw [nxn] | rw [nxp]); try omega) only [go_sem, a0, a3, a4, a5, lr, r3, c6, hdl0, hgi2, y0, hil, hgx2, x0, eqSt, hqd]
      refine syDraw.keep (fun j => j < h.nx) (by kernel_rfl) (by kernel_rfl) ?_
      have b3 : ∀ j, j < h.nx → g3'.get j = g2.get j := fun j hj => f3.get j (Nat.lt_of_lt_of_le hj (Nat.le_trans fh2.nx (Nat.le_add_right _ 15)))
      have b4 : ∀ j, j < h.nx → g4'.get j = g3'.get j := fun j hj => (f4.get j (Nat.lt_of_lt_of_le hj (Nat.le_trans fh2.nx (Nat.le_add_right _ 15)))).trans (b3 j hj).symm
      have b5 : ∀ j, j < h.nx → g5.get j = g4'.get j := fun j hj => (f5.get j (Nat.lt_of_lt_of_le hj (Nat.le_trans fh2.nx (Nat.le_add_right _ 15)))).trans ((b3 j hj).symm.trans (b4 j hj).symm)
      have g3x : g3'.get id = some (.cells cs o tx) := (b3 id hidl).trans hgx2
      rcases ezShape hz5 with rfl | ⟨ii, nn, ccc, rfl⟩
      all_goals
       simp (maxSteps := 1000000) -dsimp (disch := (repeat first | rw [nxn] | rw [nxp]); try omega) only [go_sem, a0, a3, a4, a5, t1, t3, ha3, o3, hil, g3x, hgx2, hle, hx, pc, svp, hidl, ha4, o4, r3, ha5, o5, true_and, implies_true, svi, svb, svs]
       exact ⟨b3, b4, b5, l.length - (i + 1), by omega, k1, i + 1, _, rfl, rfl, k2, by omega, rfl⟩
    ·have hnl : n = L.length := by omega
     have hd0 : L.drop n = [] := List.drop_of_length_le (by omega)
     have hdl0 : (L.drop n).length = 0 := by rw [hd0]; rfl
     have lr0 : ∀ g, evLen Tryz.prog g #[22] vr = some (.int .i64 0) := fun g => by rw [lr g, hdl0]; rfl
     have c6 : ¬ (0 : Int) < 0 := by omega
     have heq : lastD (l.take (i + 1)) = L.take n ++ p :: L.drop n := by
      rw [hpd, if_neg]
      rw [List.getElem?_eq_none (by omega)]
      intro hh; cases hh
     obtain ⟨v3, g3', v4, g4', v5, g5, ha3, o3, ha4, o4, ha5, o5, f3, f4, f5, hz5⟩ := fin ({ tr := g2.tr, nx := g2.nx + 15 }) vr _ (fm 15) (r2.fr (fm 15)) (by simp only [List.length_drop]; omega) heq
     obtain ⟨k1, k2⟩ := endr _ _ _ (fm 15) f5 hz5
     simp (maxSteps := 1000000) -dsimp (disch := (repeat first | rw [nxn] | rw [nxp]); try omega) only [go_sem, a0, a3, a4, a5, r1, r3]
     refine syDraw.keepN 0 (fun _ => True) (by kernel_rfl) (by kernel_rfl) rfl ?_
     simp (maxSteps := 1000000) -dsimp (disch := (repeat first | rw [nxn] | rw [nxp]); try omega) only [go_sem, a0, a3, a4, a5, lr0, r3, c6]
     refine syDraw.keep (fun j => j < h.nx) (by kernel_rfl) (by kernel_rfl) ?_
     have b3 : ∀ j, j < h.nx → g3'.get j = g2.get j := fun j hj => f3.get j (Nat.lt_of_lt_of_le hj (Nat.le_trans fh2.nx (Nat.le_add_right _ 15)))
     have b4 : ∀ j, j < h.nx → g4'.get j = g3'.get j := fun j hj => (f4.get j (Nat.lt_of_lt_of_le hj (Nat.le_trans fh2.nx (Nat.le_add_right _ 15)))).trans (b3 j hj).symm
     have b5 : ∀ j, j < h.nx → g5.get j = g4'.get j := fun j hj => (f5.get j (Nat.lt_of_lt_of_le hj (Nat.le_trans fh2.nx (Nat.le_add_right _ 15)))).trans ((b3 j hj).symm.trans (b4 j hj).symm)
     have g3x : g3'.get id = some (.cells cs o tx) := (b3 id hidl).trans hgx2
     rcases ezShape hz5 with rfl | ⟨ii, nn, ccc, rfl⟩
     all_goals
      simp (maxSteps := 1000000) -dsimp (disch := (repeat first | rw [nxn] | rw [nxp]); try omega) only [go_sem, a0, a3, a4, a5, t1, t3, ha3, o3, hil, g3x, hgx2, hle, hx, pc, svp, hidl, ha4, o4, r3, ha5, o5, true_and, implies_true, svi, svb, svs]
      exact ⟨b3, b4, b5, l.length - (i + 1), by omega, k1, i + 1, _, rfl, rfl, k2, by omega, rfl⟩
  ·have : i = l.length := by omega
   subst this
   rw [List.take_length] at hw
   simp (maxSteps := 1000000) -dsimp (disch := (repeat first | rw [nxn] | rw [nxp]); try omega) only [go_sem, lv, c4, g0, g4, g3]
   exact ⟨trivial, trivial, e1, w, rfl, hw⟩
 ·simp (maxSteps := 1000000) -dsimp (disch := (repeat first | rw [nxn] | rw [nxp]); try omega) only [go_sem]
  exact ⟨trivial, Fr.refl _, trivial, 0, .nilsl, rfl, rfl, .inl ⟨rfl, rfl⟩, Nat.zero_le _, rfl⟩
 ·rintro ex ⟨tt, g, d⟩ ⟨rfl, rfl, e1, w, g3, hw⟩
  dsimp only at e1 g3 hw
  have ow := hw.ln.2.2
  simp (maxSteps := 1000000) -dsimp (disch := (repeat first | rw [nxn] | rw [nxp]); try omega) only [go_sem, g3, ow]
  exact ⟨hw, e1⟩
end
end Go.Proofs.YtmphlckolampoaaGreatDoor.tbl
