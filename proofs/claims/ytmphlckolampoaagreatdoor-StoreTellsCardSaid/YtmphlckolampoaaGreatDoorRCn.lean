/- A batch's record, the record of all, by the document. Conditions: those of its summaries. -/
import Derived.Test.YtmphlckolampoaaGreatDoorRCm
import Derived.Test.YtmphlckolampoaaGreatDoorRCj
import Derived.Test.YtmphlckolampoaaGreatDoorRCc
namespace Go.Proofs.YtmphlckolampoaaGreatDoor.tbl
open Go Go.Abs Go.Abs.Rec Go.Proofs
set_option maxRecDepth 100000
set_option linter.unusedVariables false
set_option linter.unusedSimpArgs false
theorem eyPutNe {n0 : Nat} {h : AH} {v : AV} {l : List Nat} {j : Nat} {o : AO} (hb : Ey n0 h v l) (hj : ∀ id o n z c, v = .sl id o n z c → id ≠ j) : Ey n0 (h.put j o) v l := ezPutNe hb hj
theorem eyLt {n0 : Nat} {h : AH} {v : AV} {l : List Nat} (hb : Ey n0 h v l) {id o n z : Nat} {c : Option Nat} (hv : v = .sl id o n z c) : id < h.nx := by
 rcases hb with ⟨h1, _⟩ | ⟨id', n', c', tx, h1, h2, h3, h4, h5⟩
 ·rw [h1] at hv; cases hv
 ·rw [h1] at hv; cases hv; exact h3
section
variable {S : Sums}
/-- A byte, then pieces, put behind bytes of one's own, in a region that draws its order. -/
theorem bytePut {h0 g : AH} {w : AV} {l : List Nat} {b k q j : Nat} {bi : Int} (hbi : bi = (b : Nat)) (hb : Ey h0.nx g w l) (hf : Fr h0 g) (hl : l.length ≤ 100000000) (hk : k < q) (hj : j < q) (hjk : j ≠ k) (ts : List (List Nat)) :
  ∃ v3 g3, evAppend Tryz.prog (({ tr := g.tr, nx := g.nx + q } : AH).put (g.nx + k) (.cells [.int .u8 bi] true false)) #[58, 58] w (.sl (g.nx + k) 0 1 1 (some 1)) = some (.val v3 g3) ∧ oneA v3 = true ∧ Fr h0 g3 ∧ g.nx + q ≤ g3.nx ∧
   Ey h0.nx (g3.put (g.nx + j) (.cells (ts.map .str) true false)) v3 (l ++ [b]) ∧ (∀ id o n c, v3 = .sl id o n 1 c → g.nx + j ≠ id) := by
 subst hbi
 have fX : Fr g (({ tr := g.tr, nx := g.nx + q } : AH).put (g.nx + k) (.cells [.int .u8 (b : Nat)] true false)) := ((Fr.refl g).more _ (by omega)).put _ (by omega)
 have hx : Bs (({ tr := g.tr, nx := g.nx + q } : AH).put (g.nx + k) (.cells [.int .u8 (b : Nat)] true false)) (.sl (g.nx + k) 0 1 1 (some 1)) [b] :=
  .inr ⟨g.nx + k, 0, some 1, _, true, false, rfl, AH.get_put_eq rfl, by show g.nx + k < g.nx + q; omega, Nat.le_refl _, fun k hk => (by cases hk; exact Nat.le_refl _), rfl⟩
 have hlt : ∀ id o n z c, w = .sl id o n z c → id < g.nx := fun id o n z c hh => eyLt hb hh
 obtain ⟨v3, g3, ha, hf3, hz3, o3, z1, z2, z3⟩ := appY2 (h0 := h0) (hb.fr fX) hx (hf.trans fX) (by simp; omega)
 have z1' : g.nx + q ≤ g3.nx := z1
 have hne : ∀ id o n z c, v3 = .sl id o n z c → id ≠ g.nx + j := fun id o n z c hh => by
  rcases z3 with rfl | ⟨i3, n3, rfl, h3⟩
  ·have := hlt _ _ _ _ _ hh; omega
  ·cases hh
   have h3' : g.nx + q ≤ id := h3
   omega
 exact ⟨v3, g3, ha, o3, hf3, z1', eyPutNe hz3 hne, fun id o n c hh => (hne _ _ _ _ _ hh).symm⟩
set_option maxHeartbeats 16000000 in
theorem recoDC (hS : Te S) {h : AH} {v : AV} {l : KL (List Nat × Bool)} (hv : Ps h v l) (hl : l.length ≤ 4096) (hpl : ∀ p ∈ l, p.1.length < 16384 ∧ p.2.1.length < 16384) (ht : (recE (lastD l)).length ≤ 1048576) (hby : ∀ b ∈ recE (lastD l), b < 256) :
  RnC Tryz.prog S 9 [v] h fun r h' => r = .tup [.str (recP l).1, .int .i64 ((recP l).2 : Nat)] ∧ Fr h h' := by
 refine RnC.enter' Tryz.f9 _ 87 [.tmp 2, .tmp 3] (hS.ne _ _ _ (by simp)) bd9 Tryz.func9 rfl rfl rfl ?_
 obtain ⟨lv, sv, ov⟩ := hv.ln
 rw [recP_eq]
 simp (maxSteps := 1000000) -dsimp (disch := (repeat first | rw [nxn] | rw [nxp]); try omega) only [go_sem, ov]
 refine loopK_of (RnL.rounds (Q := fun ex u => u.d = [] ∧ u.h = h ∧ (ex = .exit 0 ∧ u.t.get 0 = some v ∧ l.any badA = false ∨ ex = .ret ∧ u.t.get 2 = some (.str []) ∧ u.t.get 3 = some (.int .i64 2) ∧ l.any badA = true))
  (fun m u => u.d = [] ∧ u.h = h ∧ u.t.get 0 = some v ∧ ∃ i : Nat, u.t.get 4 = some (.int .i64 (i : Nat)) ∧ i ≤ l.length ∧ (l.take i).any badA = false ∧ m = l.length - i) ?_ l.length ?_) ?_
 ·rintro m ⟨tt, g, d⟩ ⟨e9, e1, g0, i, g4, hi, hn, rfl⟩
  dsimp only at e9 e1 g0 g4
  subst e9 e1
  by_cases c4 : (i : Int) < (l.length : Nat)
  ·have hil : i < l.length := by omega
   obtain ⟨p, hp⟩ : ∃ p, l[i]? = some p := ⟨_, List.getElem?_eq_getElem hil⟩
   obtain ⟨id, off, c, cs, o, tx, rfl, hgi, hidl, hle, hx, x0, x1, x2⟩ := Ps.at hv hp
   have ht : l.take (i + 1) = l.take i ++ [p] := by rw [List.take_add_one, hp]; rfl
   cases hpk : badA p
   ·have hd : decide (p.1 = []) = false := hpk
    simp (maxSteps := 1000000) -dsimp (disch := (repeat first | rw [nxn] | rw [nxp]); try omega) only [go_sem, lv, c4, g0, g4, hil, hgi, x0, eqSt, hd, b0e]
    exact ⟨l.length - (i + 1), by omega, trivial, trivial, trivial, i + 1, rfl, by omega, by rw [ht, List.any_append, hn]; simp [hpk], rfl⟩
   ·have hd : decide (p.1 = []) = true := hpk
    simp (maxSteps := 1000000) -dsimp (disch := (repeat first | rw [nxn] | rw [nxp]); try omega) only [go_sem, lv, c4, g0, g4, hil, hgi, x0, eqSt, hd, b0e]
    refine ⟨trivial, trivial, .inr ⟨trivial, trivial, trivial, ?_⟩⟩
    rw [List.any_eq_true]
    exact ⟨p, List.mem_iff_getElem?.2 ⟨i, hp⟩, hpk⟩
  ·have : i = l.length := by omega
   subst this
   rw [List.take_length] at hn
   simp (maxSteps := 1000000) -dsimp (disch := (repeat first | rw [nxn] | rw [nxp]); try omega) only [go_sem, lv, c4, g0, g4, ov]
   exact ⟨trivial, trivial, .inl ⟨trivial, trivial, hn⟩⟩
 ·simp (maxSteps := 1000000) -dsimp (disch := (repeat first | rw [nxn] | rw [nxp]); try omega) only [go_sem]
  exact ⟨trivial, trivial, trivial, 0, rfl, Nat.zero_le _, rfl, rfl⟩
 ·rintro ex ⟨tt, g, d⟩ ⟨e9, e1, ⟨rfl, g0, hn⟩ | ⟨rfl, g2, g3, hn⟩⟩
  ·dsimp only at e9 e1 g0
   subst e9 e1
   rw [hn, if_neg (by decide)]
   have c2 : ¬ (4096 : Int) < ((l.length : Nat) : Int) := by omega
   simp (maxSteps := 1000000) -dsimp (disch := (repeat first | rw [nxn] | rw [nxp]); try omega) only [go_sem, g0, ov, lv, c2]
   refine loopK_of (RnL.rounds (Q := fun ex u => u.d = [] ∧ Fr g u.h ∧ (ex = .exit 2 ∧ u.t.get 0 = some v ∧ l.any badL = false ∨ ex = .ret ∧ u.t.get 2 = some (.str []) ∧ u.t.get 3 = some (.int .i64 3) ∧ l.any badL = true))
    (fun m u => u.d = [] ∧ Fr g u.h ∧ u.t.get 0 = some v ∧ ∃ i : Nat, u.t.get 5 = some (.int .i64 (i : Nat)) ∧ i ≤ l.length ∧ (l.take i).any badL = false ∧ m = l.length - i) ?_ l.length ?_) ?_
   ·rintro m ⟨tt, g', d⟩ ⟨e9, e1, g0, i, g5, hi, hn, rfl⟩
    dsimp only at e9 e1 g0 g5
    subst e9
    by_cases c4 : (i : Int) < (l.length : Nat)
    ·have hil : i < l.length := by omega
     obtain ⟨p, hp⟩ : ∃ p, l[i]? = some p := ⟨_, List.getElem?_eq_getElem hil⟩
     obtain ⟨id, off, c, cs, o, tx, rfl, hgi, hidl, hle, hx, x0, x1, x2⟩ := Ps.at hv hp
     have hgx := (e1.get id hidl).trans hgi
     have ht : l.take (i + 1) = l.take i ++ [p] := by rw [List.take_add_one, hp]; rfl
     simp (maxSteps := 1000000) -dsimp (disch := (repeat first | rw [nxn] | rw [nxp]); try omega) only [go_sem, lv, c4, g0, g5, hil, hgx, hle, hx]
     refine callK_of (fineC hS g' p) ?_
     rintro w1 g1 ⟨rfl, f1⟩
     cases hpk : badL p
     ·simp (maxSteps := 1000000) -dsimp (disch := (repeat first | rw [nxn] | rw [nxp]); try omega) only [go_sem, g0, g5]
      exact ⟨l.length - (i + 1), by omega, trivial, e1.trans f1, trivial, i + 1, rfl, by omega, by rw [ht, List.any_append, hn]; simp [hpk], rfl⟩
     ·simp (maxSteps := 1000000) -dsimp (disch := (repeat first | rw [nxn] | rw [nxp]); try omega) only [go_sem, g0, g5, b0e]
      refine ⟨trivial, e1.trans f1, .inr ⟨trivial, trivial, trivial, ?_⟩⟩
      rw [List.any_eq_true]
      exact ⟨p, List.mem_iff_getElem?.2 ⟨i, hp⟩, hpk⟩
    ·have : i = l.length := by omega
     subst this
     rw [List.take_length] at hn
     simp (maxSteps := 1000000) -dsimp (disch := (repeat first | rw [nxn] | rw [nxp]); try omega) only [go_sem, lv, c4, g0, g5, ov]
     exact ⟨trivial, e1, .inl ⟨trivial, trivial, hn⟩⟩
   ·simp (maxSteps := 1000000) -dsimp (disch := (repeat first | rw [nxn] | rw [nxp]); try omega) only [go_sem, g0]
    exact ⟨trivial, Fr.refl _, trivial, 0, rfl, Nat.zero_le _, rfl, rfl⟩
   ·rintro ex ⟨tt, g1, d⟩ ⟨e9, f1, ⟨rfl, g0, hn⟩ | ⟨rfl, g2, g3, hn⟩⟩
    ·dsimp only at e9 f1 g0
     subst e9
     rw [hn, if_neg (by decide)]
     simp (maxSteps := 1000000) -dsimp (disch := (repeat first | rw [nxn] | rw [nxp]); try omega) only [go_sem, g0, ov]
     refine callK_of (lastDC hS (hv.fr f1) (by omega)) ?_
     rintro w2 g2 ⟨hp2, f2⟩
     have hmp : ∀ p ∈ lastD l, p.1.length < 16384 ∧ p.2.1.length < 16384 := fun p hp => hpl p (last_mem hp)
     have hml := last_len l
     generalize hmd : lastD l = m at hp2 hmp hml ht hby
     obtain ⟨lm, sm, om⟩ := hp2.ln
     have hpsh := psShape hp2
     have e1 : recE m = [1] ++ numE m.length ++ m.flatMap pairE := by simp [recE]
     have cvm := fun h => cv64 h m.length (by omega)
     have hfr12 := f1.trans f2
     rcases hpsh with rfl | ⟨i5, o5, n5', c5, rfl⟩
     all_goals
      simp (maxSteps := 1000000) -dsimp (disch := (repeat first | rw [nxn] | rw [nxp]); try omega) only [go_sem, om, lm, cvm]
      refine callK_of (numDC hS.toTw (n := m.length) (h0 := g2) (l := [1]) (ey1 g2 [1] (by simp)) (Fr.new _ _) (by simp) (by omega)) ?_
      rintro w4 g4 ⟨hb4, f4, _⟩
      have o4 := hb4.one
      rcases hb4.shape with rfl | ⟨i6, n6, c6, rfl⟩
      all_goals
       try simp (maxSteps := 1000000) -dsimp (disch := (repeat first | rw [nxn] | rw [nxp]); try omega) only [go_sem, lm, om, o4]
       refine loopK_of (RnL.rounds (Q := fun ex u => ex = .exit 4 ∧ u.d = [] ∧ Fr g2 u.h ∧ ∃ w, u.t.get 8 = some w ∧ Bs u.h w (recE m))
        (fun k u => u.d = [] ∧ Fr g2 u.h ∧ (∃ w2', u.t.get 7 = some w2' ∧ Ps g2 w2' m) ∧ ∃ (i : Nat) (w : AV), u.t.get 9 = some (.int .i64 (i : Nat)) ∧ u.t.get 8 = some w ∧ Ey g2.nx u.h w ([1] ++ numE m.length ++ (m.take i).flatMap pairE) ∧ i ≤ m.length ∧ k = m.length - i) ?_ m.length ?_) ?_
       ·rintro k ⟨tt, g5, d⟩ ⟨e9, e5, ⟨w2', g7, hp2'⟩, i, w, g9, g8, hb, hi, rfl⟩
        dsimp only at e9 e5 g7 g9 g8 hb
        subst e9
        obtain ⟨lm', sm', om'⟩ := hp2'.ln
        by_cases c4 : (i : Int) < (m.length : Nat)
        ·have hil : i < m.length := by omega
         obtain ⟨p, hp⟩ : ∃ p, m[i]? = some p := ⟨_, List.getElem?_eq_getElem hil⟩
         have hpl' := hmp p (List.mem_iff_getElem?.2 ⟨i, hp⟩)
         obtain ⟨id, off, c, cs, o, tx, rfl, hgi, hidl, hle, hx, x0, x1, x2⟩ := Ps.at hp2' hp
         have hgx := (e5.get id hidl).trans hgi
         have ow := hb.one
         have tot : ([1] ++ numE m.length ++ (m.take (i + 1)).flatMap pairE).length ≤ 1048576 := by
          rw [e1] at ht
          have := flat_le pairE m (i + 1)
          simp only [List.length_append] at ht ⊢
          omega
         have etk := flat_take pairE hp
         rw [etk] at tot
         have tot2 := tot
         simp only [List.length_append] at tot2
         have topl : ([1] ++ numE m.length ++ (m.take i).flatMap pairE).length ≤ 1048576 := by
          simp only [List.length_append]; omega
         have hidg : id < g5.nx := Nat.lt_of_lt_of_le hidl e5.nx
         cases hgn : p.2.2
         ·have epp : pairE p = [1] ++ ([p.1, p.2.1].flatMap pieceE) := by unfold pairE; rw [if_neg (by rw [hgn]; decide)]; simp
          rw [hgn] at x2
          obtain ⟨v3, g3', ha3, o3, f3, n3, hb3, hne3⟩ := bytePut (b := 1) (k := 1) (q := 16) (j := 13) (bi := 1) rfl hb e5 (by omega) (by decide) (by decide) (by decide) [p.1, p.2.1]
          have k3 : ∀ j, j < g2.nx → g3'.get j = g5.get j := fun j hj => (f3.get j hj).trans (e5.get j hj).symm
          have g3x : g3'.get id = some (.cells cs o tx) := (f3.get id hidl).trans hgi
          simp (maxSteps := 1000000) -dsimp (disch := (repeat first | rw [nxn] | rw [nxp]); try omega) only [go_sem, lm', c4, g7, g9, g8, hil, hgx, x2, ow]
          refine syDraw.keep (fun j => j < g2.nx) (by kernel_rfl) (by kernel_rfl) ?_
          simp (maxSteps := 1000000) -dsimp (disch := (repeat first | rw [nxn] | rw [nxp]); try omega) only [go_sem, lm', c4, g7, g9, g8, hil, hgx, x0, x1, g3x, ow, ha3, o3, hidl, true_and, implies_true, svi, svb, svs]
          refine ⟨k3, ?_⟩
          refine callK_of (piesDC hS.toTw (ts := [p.1, p.2.1]) hb3 (f3.put _ (by have := e5.nx; omega)) (AH.get_put_eq rfl) (by show g5.nx + 13 < g3'.nx; omega) hne3 rfl (by simp) (Nat.le_trans (by rw [List.length_append]; exact Nat.add_le_add topl (Nat.le_refl 1)) (by decide)) (fun s hs => by simp at hs; rcases hs with rfl | rfl; exact hpl'.1; exact hpl'.2)) ?_
          rintro w8 g8' ⟨hb8, f8⟩
          have o8 := hb8.one
          have k8 : ∀ j, j < g2.nx → g8'.get j = g3'.get j := fun j hj => (f8.get j hj).trans (f3.get j hj).symm
          refine ⟨k8, ?_⟩
          have e8 : ([1] ++ numE m.length ++ (m.take i).flatMap pairE) ++ [1] ++ ([p.1, p.2.1].flatMap pieceE) = [1] ++ numE m.length ++ ((m.take i).flatMap pairE ++ pairE p) := by rw [epp]; simp
          rw [e8] at hb8
          obtain ⟨n8, hn8, l8⟩ : ∃ n8 : Nat, n8 ≤ 1048576 ∧ ∀ g, evLen Tryz.prog g #[58] w8 = some (.int .i64 (n8 : Nat)) := ⟨_, tot, bsLn hb8.bs⟩
          have c9 : ¬ (1048576 : Int) < ((n8 : Nat) : Int) := by omega
          rw [← etk] at hb8
          rcases hb8.shape with rfl | ⟨i9, n9, c9', rfl⟩
          all_goals
           simp (maxSteps := 1000000) -dsimp (disch := (repeat first | rw [nxn] | rw [nxp]); try omega) only [go_sem, l8, o8, c9, g7, g9]
           exact ⟨m.length - (i + 1), by omega, trivial, f8, ⟨_, rfl, hp2'⟩, i + 1, _, rfl, rfl, hb8, by omega, rfl⟩
         ·have epp : pairE p = [0] ++ ([p.1].flatMap pieceE) := by unfold pairE; rw [if_pos hgn]; simp
          rw [hgn] at x2
          obtain ⟨v3, g3', ha3, o3, f3, n3, hb3, hne3⟩ := bytePut (b := 0) (k := 1) (q := 11) (j := 8) (bi := 0) rfl hb e5 (by omega) (by decide) (by decide) (by decide) [p.1]
          have k3 : ∀ j, j < g2.nx → g3'.get j = g5.get j := fun j hj => (f3.get j hj).trans (e5.get j hj).symm
          have g3x : g3'.get id = some (.cells cs o tx) := (f3.get id hidl).trans hgi
          simp (maxSteps := 1000000) -dsimp (disch := (repeat first | rw [nxn] | rw [nxp]); try omega) only [go_sem, lm', c4, g7, g9, g8, hil, hgx, x2, ow]
          refine syDraw.keep (fun j => j < g2.nx) (by kernel_rfl) (by kernel_rfl) ?_
          simp (maxSteps := 1000000) -dsimp (disch := (repeat first | rw [nxn] | rw [nxp]); try omega) only [go_sem, lm', c4, g7, g9, g8, hil, hgx, x0, x1, g3x, ow, ha3, o3, hidl, true_and, implies_true, svi, svb, svs]
          refine ⟨k3, ?_⟩
          refine callK_of (piesDC hS.toTw (ts := [p.1]) hb3 (f3.put _ (by have := e5.nx; omega)) (AH.get_put_eq rfl) (by show g5.nx + 8 < g3'.nx; omega) hne3 rfl (by simp) (Nat.le_trans (by rw [List.length_append]; exact Nat.add_le_add topl (Nat.le_refl 1)) (by decide)) (fun s hs => by simp at hs; rw [hs]; exact hpl'.1)) ?_
          rintro w8 g8' ⟨hb8, f8⟩
          have o8 := hb8.one
          have k8 : ∀ j, j < g2.nx → g8'.get j = g3'.get j := fun j hj => (f8.get j hj).trans (f3.get j hj).symm
          refine ⟨k8, ?_⟩
          have e8 : ([1] ++ numE m.length ++ (m.take i).flatMap pairE) ++ [0] ++ ([p.1].flatMap pieceE) = [1] ++ numE m.length ++ ((m.take i).flatMap pairE ++ pairE p) := by rw [epp]; simp
          rw [e8] at hb8
          obtain ⟨n8, hn8, l8⟩ : ∃ n8 : Nat, n8 ≤ 1048576 ∧ ∀ g, evLen Tryz.prog g #[58] w8 = some (.int .i64 (n8 : Nat)) := ⟨_, tot, bsLn hb8.bs⟩
          have c9 : ¬ (1048576 : Int) < ((n8 : Nat) : Int) := by omega
          rw [← etk] at hb8
          rcases hb8.shape with rfl | ⟨i9, n9, c9', rfl⟩
          all_goals
           simp (maxSteps := 1000000) -dsimp (disch := (repeat first | rw [nxn] | rw [nxp]); try omega) only [go_sem, l8, o8, c9, g7, g9]
           exact ⟨m.length - (i + 1), by omega, trivial, f8, ⟨_, rfl, hp2'⟩, i + 1, _, rfl, rfl, hb8, by omega, rfl⟩
        ·have : i = m.length := by omega
         subst this
         rw [List.take_length] at hb
         simp (maxSteps := 1000000) -dsimp (disch := (repeat first | rw [nxn] | rw [nxp]); try omega) only [go_sem, lm', c4, g7, g9, g8, om']
         exact ⟨trivial, trivial, e5, w, rfl, by rw [e1]; exact hb.bs⟩
       ·simp (maxSteps := 1000000) -dsimp (disch := (repeat first | rw [nxn] | rw [nxp]); try omega) only [go_sem]
        exact ⟨trivial, f4, ⟨_, rfl, hp2⟩, 0, _, rfl, rfl, by simpa using hb4, Nat.zero_le _, rfl⟩
       ·rintro ex ⟨tt, g5, d⟩ ⟨rfl, rfl, e5, w, g8, hb⟩
        dsimp only at e5 g8 hb
        have tx := hb.text (d := 9) Tryz.underlying58 Tryz.underlying5 Tryz.underlying9 hby
        simp (maxSteps := 1000000) -dsimp (disch := (repeat first | rw [nxn] | rw [nxp]); try omega) only [go_sem, g8, tx]
        exact ⟨by first | trivial | rfl, hfr12.trans e5⟩
    ·dsimp only at e9 f1 g2 g3
     subst e9
     rw [hn, if_pos rfl]
     simp (maxSteps := 1000000) -dsimp (disch := (repeat first | rw [nxn] | rw [nxp]); try omega) only [go_sem, g2, g3]
     exact ⟨by first | trivial | rfl, f1⟩
  ·dsimp only at e9 e1 g2 g3
   subst e9 e1
   rw [hn, if_pos rfl]
   simp (maxSteps := 1000000) -dsimp (disch := (repeat first | rw [nxn] | rw [nxp]); try omega) only [go_sem, g2, g3]
   exact ⟨by first | trivial | rfl, Fr.refl _⟩
end
end Go.Proofs.YtmphlckolampoaaGreatDoor.tbl
