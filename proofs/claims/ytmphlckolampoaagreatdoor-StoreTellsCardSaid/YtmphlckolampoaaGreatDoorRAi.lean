/- The document's table: Of; the kit's Pairs, LightPairs; same. Conditions: those of its summaries. -/
import Derived.Test.YtmphlckolampoaaGreatDoorRAh
namespace Go.Proofs.YtmphlckolampoaaGreatDoor.tbl
open Go Go.Abs Go.Abs.Rec Go.Proofs
set_option maxRecDepth 100000
set_option linter.unusedVariables false
set_option linter.unusedSimpArgs false
theorem psPut {h : AH} {v : AV} {l : KL (List Nat × Bool)} {j : Nat} {o : AO} (hb : Ps h v l) (hne : ∀ id o n z c, v = .sl id o n z c → id ≠ j) : Ps (h.put j o) v l := by
 rcases hb with h1 | ⟨id, off, c, cs, ow, tx, h1, h2, h3, h4⟩
 ·exact .inl h1
 ·exact .inr ⟨id, off, c, cs, ow, tx, h1, (AH.get_put_ne (hne _ _ _ _ _ h1)).trans h2, h3, h4⟩
section
variable {S : Sums}
set_option maxHeartbeats 8000000 in
theorem ofDC (hS : Td S) {h : AH} {v : AV} {l : KL (List Nat × Bool)} (hv : Ps h v l) (hl : l.length ≤ 100000) : RnC Tryz.prog S 7 [v] h fun r h' => (∃ v', r = .agg [v'] ∧ Ps h' v' (ofD l) ∧ ∀ id o n z c, v' = .sl id o n z c → h.nx ≤ id) ∧ Fr h h' := by
 refine RnC.enter' Tryz.f7 _ 24 [.cell 2 30] (hS.nd _ _ _ (by simp)) bd7 Tryz.func7 rfl rfl rfl ?_
 obtain ⟨lv, sv, ov⟩ := hv.ln
 simp (maxSteps := 1000000) -dsimp (disch := (repeat first | rw [nxn] | rw [nxp]); try omega) only [go_sem, lv, ov]
 generalize hg : ((h.new (.cells [.nilsl] true false)).new (.cells [.nilsl] true false)) = g
 have ng : g.nx = h.nx + 2 := by rw [← hg]; rfl
 have fg : Fr h g := by rw [← hg]; exact (Fr.new _ _).news _
 have c0 : g.get h.nx = some (.cells [.nilsl] true false) := by rw [← hg]; exact (AH.get_new_ne (by simp)).trans (AH.get_new_eq rfl)
 have c1 : g.get (h.nx + 1) = some (.cells [.nilsl] true false) := by rw [← hg]; exact AH.get_new_eq rfl
 refine loopK_of (RnL.rounds (Q := fun ex u => ex = .exit 0 ∧ u.d = [] ∧ u.t.get 2 = some (.ptr h.nx 0) ∧ u.t.get 3 = some (.ptr (h.nx + 1) 0) ∧ g.nx ≤ u.h.nx ∧ (∀ j, j < g.nx → j ≠ h.nx + 1 → u.h.get j = g.get j) ∧ ∃ a, u.h.get (h.nx + 1) = some (.cells [a] true false) ∧ Ps u.h a (ofD l) ∧ ∀ id o n z c, a = .sl id o n z c → g.nx ≤ id)
  (fun m u => u.d = [] ∧ u.t.get 0 = some v ∧ u.t.get 2 = some (.ptr h.nx 0) ∧ u.t.get 3 = some (.ptr (h.nx + 1) 0) ∧ g.nx ≤ u.h.nx ∧ (∀ j, j < g.nx → j ≠ h.nx + 1 → u.h.get j = g.get j) ∧ ∃ (i : Nat) (a : AV), u.t.get 4 = some (.int .i64 (i : Nat)) ∧ u.h.get (h.nx + 1) = some (.cells [a] true false) ∧ (Ps u.h a (ofD (l.take i)) ∧ ∀ id o n z c, a = .sl id o n z c → g.nx ≤ id) ∧ i ≤ l.length ∧ m = l.length - i) ?_ l.length ?_) ?_
 ·rintro m ⟨tt, gx, d⟩ ⟨e2, g0, g2, g3, hn, ho, i, a, g4, hc, ⟨ht, hge⟩, hi, rfl⟩
  dsimp only at e2 g0 g2 g3 g4 hn ho hc ht
  subst e2
  by_cases c4 : (i : Int) < (l.length : Nat)
  ·have hil : i < l.length := by omega
   obtain ⟨p, hp⟩ : ∃ p, l[i]? = some p := ⟨_, List.getElem?_eq_getElem hil⟩
   obtain ⟨id, off, c, cs, o, tx, rfl, hgi, hidl, hle, hx, x0, x1, x2⟩ := Ps.at hv hp
   have hgx : gx.get id = _ := (ho id (by omega) (by omega)).trans ((fg.get id hidl).trans hgi)
   obtain ⟨la, sa, oa⟩ := ht.ln
   have hol := ofD_len (l.take i)
   rw [List.length_take] at hol
   simp (maxSteps := 1000000) -dsimp (disch := (repeat first | rw [nxn] | rw [nxp]); try omega) only [go_sem, lv, c4, g0, g2, g3, g4]
   refine syDraw.keepN 0 (fun _ => True) (by kernel_rfl) (by kernel_rfl) rfl ?_
   have fx : Fr gx { tr := gx.tr, nx := gx.nx + 13 } := (Fr.refl gx).more _ (by omega)
   simp (maxSteps := 1000000) -dsimp (disch := (repeat first | rw [nxn] | rw [nxp]); try omega) only [go_sem, lv, c4, g0, g2, g3, g4, hil, hgx, x0, x1, hc, oa]
   refine callK_of (putD hS p.1 p.2.1 (ht.fr fx) (by omega)) ?_
   rintro w g5 ⟨⟨a5, rfl, ht5, hge5⟩, f5⟩
   have f5' := fx.trans f5
   have hc5 : g5.get (h.nx + 1) = _ := (f5'.get _ (by omega)).trans hc
   have n5 := f5'.nx
   have hge6 : ∀ id o n z c, a5 = .sl id o n z c → gx.nx + 13 ≤ id := hge5
   rw [← ofD_take hp] at ht5
   have q1 : ∀ o, Ps (g5.put (h.nx + 1) o) a5 (ofD (l.take (i + 1))) := fun o => psPut ht5 fun id o n z c hh => by have := hge6 _ _ _ _ _ hh; omega
   have q2 : ∀ id o n z c, a5 = .sl id o n z c → g.nx ≤ id := fun id o n z c hh => by have := hge6 _ _ _ _ _ hh; omega
   have q3 : ∀ o j, j < g.nx → j ≠ h.nx + 1 → (g5.put (h.nx + 1) o).get j = g.get j := fun o j hj hne => (AH.get_put_ne hne).trans ((f5'.get j (by omega)).trans (ho j hj hne))
   rcases psShape ht5 with rfl | ⟨i5, o5, n5', c5, rfl⟩
   all_goals
    simp (maxSteps := 1000000) -dsimp (disch := (repeat first | rw [nxn] | rw [nxp]); try omega) only [go_sem, hc5, lv, c4, g0, g2, g3, g4]
    try simp only [true_and]
    first
     | exact ⟨l.length - (i + 1), by omega, (by first | omega | (show g.nx ≤ g5.nx; omega)), q3 _, i + 1, _, rfl, rfl, ⟨q1 _, q2⟩, by omega, rfl⟩
     | exact ⟨l.length - (i + 1), by omega, trivial, trivial, trivial, trivial, (by first | omega | (show g.nx ≤ g5.nx; omega)), q3 _, i + 1, _, rfl, rfl, ⟨q1 _, q2⟩, by omega, rfl⟩
  ·have : i = l.length := by omega
   subst this
   rw [List.take_length] at ht
   simp (maxSteps := 1000000) -dsimp (disch := (repeat first | rw [nxn] | rw [nxp]); try omega) only [go_sem, lv, c4, g0, g2, g3, g4]
   exact ⟨trivial, trivial, trivial, trivial, hn, ho, a, hc, ht, hge⟩
 ·simp (maxSteps := 1000000) -dsimp (disch := (repeat first | rw [nxn] | rw [nxp]); try omega) only [go_sem]
  exact ⟨trivial, trivial, trivial, trivial, Nat.le_refl _, fun j _ _ => by first | rfl | trivial, 0, .nilsl, rfl, c1, ⟨.inl ⟨rfl, rfl⟩, fun id o n z c hh => by cases hh⟩, Nat.zero_le _, rfl⟩
 ·rintro ex ⟨tt, gx, d⟩ ⟨rfl, rfl, g2, g3, hn, ho, a, hc, ht, hge⟩
  dsimp only at g2 g3 hn ho hc ht
  have hc0 : gx.get h.nx = _ := (ho _ (by omega) (by omega)).trans c0
  have oa := ht.ln.2.2
  have q1 : ∀ o, Ps (gx.put h.nx o) a (ofD l) := fun o => psPut ht fun id o n z c hh => by have := hge _ _ _ _ _ hh; omega
  have q2 : ∀ o, Fr h (gx.put h.nx o) := fun o => ⟨by show h.nx ≤ gx.nx; omega, fun j hj => (AH.get_put_ne (by omega)).trans ((ho j (by omega) (by omega)).trans (fg.get j hj))⟩
  have q3 : ∀ id o n z c, a = .sl id o n z c → h.nx ≤ id := fun id o n z c hh => by have := hge _ _ _ _ _ hh; omega
  rcases psShape ht with rfl | ⟨i5, o5, n5', c5, rfl⟩
  all_goals
   simp (maxSteps := 1000000) -dsimp (disch := (repeat first | rw [nxn] | rw [nxp]); try omega) only [go_sem, hc, hc0, g2, g3]
   exact ⟨⟨_, rfl, q1 _, q3⟩, q2 _⟩
set_option maxHeartbeats 8000000 in
/-- Pairs that are the same. -/
theorem pairsC (hS : Td S) {h : AH} {v w : AV} {l : KL (List Nat × Bool)} (hv : Ps h v l) (hw : Ps h w l) (hl : l.length ≤ 1000000) : RnC Tryz.prog S 19 [v, w] h fun r h' => r = .bool true ∧ Fr h h' := by
 refine RnC.enter' Tryz.f19 _ 26 [.tmp 4] (hS.nd _ _ _ (by simp)) bd19 Tryz.func19 rfl rfl rfl ?_
 obtain ⟨lv, sv, ov⟩ := hv.ln
 obtain ⟨lw, sw, ow⟩ := hw.ln
 simp (maxSteps := 1000000) -dsimp (disch := (repeat first | rw [nxn] | rw [nxp]); try omega) only [go_sem, lv, ov, lw, ow]
 refine loopK_of (RnL.rounds (Q := fun ex u => ex = .exit 0 ∧ u.d = [] ∧ Fr h u.h)
  (fun m u => u.d = [] ∧ Fr h u.h ∧ u.t.get 0 = some v ∧ u.t.get 1 = some w ∧ ∃ i : Nat, u.t.get 5 = some (.int .i64 (i : Nat)) ∧ i ≤ l.length ∧ m = l.length - i) ?_ l.length ?_) ?_
 ·rintro m ⟨tt, g, d⟩ ⟨e2, e1, g0, g1, i, g5, hi, rfl⟩
  dsimp only at e1 e2 g0 g1 g5
  subst e2
  by_cases c4 : (i : Int) < (l.length : Nat)
  ·have hil : i < l.length := by omega
   obtain ⟨p, hp⟩ : ∃ p, l[i]? = some p := ⟨_, List.getElem?_eq_getElem hil⟩
   obtain ⟨id, off, c, cs, o, tx, rfl, hgi, hidl, hle, hx, _⟩ := Ps.at hv hp
   obtain ⟨id2, off2, cc, cs2, oo, tx2, rfl, hgi2, hidl2, hle2, hx2, _⟩ := Ps.at hw hp
   have hgx := (e1.get id hidl).trans hgi
   have hgx2 := (e1.get id2 hidl2).trans hgi2
   have nP := fun g => nePa g p.1 p.2.1 p.2.2
   simp (maxSteps := 1000000) -dsimp (disch := (repeat first | rw [nxn] | rw [nxp]); try omega) only [go_sem, lv, c4, g0, g1, g5]
   refine syDraw.keepN 0 (fun _ => True) (by kernel_rfl) (by kernel_rfl) rfl ?_
   simp (maxSteps := 1000000) -dsimp (disch := (repeat first | rw [nxn] | rw [nxp]); try omega) only [go_sem, lv, c4, hil, hgx, hgx2, hle, hle2, hx, hx2, nP, g0, g1, g5]
   exact ⟨l.length - (i + 1), by omega, trivial, e1.more _ (by omega), trivial, trivial, i + 1, rfl, by omega, rfl⟩
  ·have : i = l.length := by omega
   subst this
   simp (maxSteps := 1000000) -dsimp (disch := (repeat first | rw [nxn] | rw [nxp]); try omega) only [go_sem, lv, c4, g0, g1, g5]
   exact ⟨trivial, trivial, e1⟩
 ·simp (maxSteps := 1000000) -dsimp (disch := (repeat first | rw [nxn] | rw [nxp]); try omega) only [go_sem]
  exact ⟨trivial, Fr.refl _, trivial, trivial, 0, rfl, Nat.zero_le _, rfl⟩
 ·rintro ex ⟨tt, g, d⟩ ⟨rfl, rfl, e1⟩
  dsimp only at e1
  simp (maxSteps := 1000000) -dsimp (disch := (repeat first | rw [nxn] | rw [nxp]); try omega) only [go_sem]
  first | exact e1 | exact ⟨trivial, e1⟩
/-- How much pairs weigh. -/
def wP : KL (List Nat × Bool) → Nat
 | [] => 0
 | p :: r => min p.1.length 3001 + min p.2.1.length 3001 + wP r
theorem wP_snoc (l : KL (List Nat × Bool)) (p : Pr) : wP (l ++ [p]) = wP l + (min p.1.length 3001 + min p.2.1.length 3001) := by
 induction l with
 | nil => simp [wP]
 | cons b r ih => simp only [List.cons_append, wP, ih]; omega
set_option maxHeartbeats 8000000 in
theorem lightC (hS : Td S) {h : AH} {v : AV} {l : KL (List Nat × Bool)} (hv : Ps h v l) : RnC Tryz.prog S 5 [v, .int .i64 40, .int .i64 3000] h fun r h' => Fr h h' ∧ ∃ b : Bool, r = .bool b ∧ (b = true → l.length ≤ 40 ∧ wP l ≤ 3000) := by
 refine RnC.enter' Tryz.f5 _ 55 [.tmp 6] (hS.nd _ _ _ (by simp)) bd5 Tryz.func5 rfl rfl rfl ?_
 obtain ⟨lv, sv, ov⟩ := hv.ln
 have ls : ∀ g s, evLen Tryz.prog g #[9] (.str s) = some (.int .i64 ((s.length : Nat) : Int)) := fun g s => by simp [evLen, Tryz.underlying9]
 simp (maxSteps := 1000000) -dsimp (disch := (repeat first | rw [nxn] | rw [nxp]); try omega) only [go_sem, lv, ov]
 refine loopK_of (RnL.rounds (Q := fun ex u => ex = .exit 0 ∧ u.d = [] ∧ Fr h u.h ∧ u.t.get 0 = some v ∧ u.t.get 1 = some (.int .i64 40) ∧ u.t.get 2 = some (.int .i64 3000) ∧ ∃ i : Nat, u.t.get 7 = some (.int .i64 (wP (l.take i) : Nat)) ∧ i ≤ l.length ∧ (l.length ≤ 40 → wP (l.take i) ≤ 3000 → i = l.length))
  (fun m u => u.d = [] ∧ Fr h u.h ∧ u.t.get 0 = some v ∧ u.t.get 1 = some (.int .i64 40) ∧ u.t.get 2 = some (.int .i64 3000) ∧ ∃ i : Nat, u.t.get 8 = some (.int .i64 (i : Nat)) ∧ u.t.get 7 = some (.int .i64 (wP (l.take i) : Nat)) ∧ i ≤ l.length ∧ wP (l.take i) ≤ i * 6002 ∧ m = l.length - i) ?_ l.length ?_) ?_
 ·rintro m ⟨tt, g, d⟩ ⟨e2, e1, g0, g1, g2, i, g8, g7, hi, hw, rfl⟩
  dsimp only at e1 e2 g0 g1 g2 g7 g8
  subst e2
  by_cases c1 : (i : Int) < (l.length : Nat)
  ·by_cases c2 : (i : Int) ≤ 40
   ·by_cases c3 : ((wP (l.take i) : Nat) : Int) ≤ 3000
    ·have hil : i < l.length := by omega
     obtain ⟨p, hp⟩ : ∃ p, l[i]? = some p := ⟨_, List.getElem?_eq_getElem hil⟩
     obtain ⟨id, off, c, cs, o, tx, rfl, hgi, hidl, hle, hx, x0, x1, x2⟩ := Ps.at hv hp
     have hgx := (e1.get id hidl).trans hgi
     simp (maxSteps := 1000000) -dsimp (disch := (repeat first | rw [nxn] | rw [nxp]); try omega) only [go_sem, lv, c1, c2, c3, g0, g1, g2, g7, g8]
     refine syDraw.keepN 0 (fun _ => True) (by kernel_rfl) (by kernel_rfl) rfl ?_
     simp (maxSteps := 1000000) -dsimp (disch := (repeat first | rw [nxn] | rw [nxp]); try omega) only [go_sem, lv, c1, c2, c3, g0, g1, g2, g7, g8, hil, hgx, x0, x1, ls]
     have hws : wP (l.take (i + 1)) = wP (l.take i) + (min p.1.length 3001 + min p.2.1.length 3001) := by
      rw [List.take_add_one, hp]
      exact wP_snoc _ _
     refine ⟨l.length - (i + 1), by omega, trivial, e1.more _ (by omega), trivial, trivial, trivial, i + 1, rfl, ?_, by omega, by omega, rfl⟩
     congr 1
     rw [hws]
     omega
    ·simp (maxSteps := 1000000) -dsimp (disch := (repeat first | rw [nxn] | rw [nxp]); try omega) only [go_sem, lv, c1, c2, c3, g0, g1, g2, g7, g8]
     exact ⟨trivial, trivial, e1, trivial, trivial, trivial, i, rfl, hi, fun _ hh => by omega⟩
   ·simp (maxSteps := 1000000) -dsimp (disch := (repeat first | rw [nxn] | rw [nxp]); try omega) only [go_sem, lv, c1, c2, g0, g1, g2, g7, g8]
    exact ⟨trivial, trivial, e1, trivial, trivial, trivial, i, rfl, hi, fun hh => by omega⟩
  ·simp (maxSteps := 1000000) -dsimp (disch := (repeat first | rw [nxn] | rw [nxp]); try omega) only [go_sem, lv, c1, g0, g1, g2, g7, g8]
   exact ⟨trivial, trivial, e1, trivial, trivial, trivial, i, rfl, hi, fun _ _ => by omega⟩
 ·simp (maxSteps := 1000000) -dsimp (disch := (repeat first | rw [nxn] | rw [nxp]); try omega) only [go_sem]
  exact ⟨trivial, Fr.refl _, trivial, trivial, trivial, 0, rfl, rfl, Nat.zero_le _, Nat.zero_le _, rfl⟩
 ·rintro ex ⟨tt, g, d⟩ ⟨rfl, rfl, e1, g0, g1, g2, i, g7, hi, hfin⟩
  dsimp only at e1 g0 g1 g2 g7
  by_cases c1 : ((l.length : Nat) : Int) ≤ 40
  ·by_cases c2 : ((wP (l.take i) : Nat) : Int) ≤ 3000
   ·simp (maxSteps := 1000000) -dsimp (disch := (repeat first | rw [nxn] | rw [nxp]); try omega) only [go_sem, lv, c1, c2, g0, g1, g2, g7]
    have := hfin (by omega) (by omega)
    subst this
    rw [List.take_length] at c2
    exact ⟨e1, true, rfl, fun _ => ⟨by omega, by omega⟩⟩
   ·simp (maxSteps := 1000000) -dsimp (disch := (repeat first | rw [nxn] | rw [nxp]); try omega) only [go_sem, lv, c1, c2, g0, g1, g2, g7]
    exact ⟨e1, false, rfl, fun hh => by cases hh⟩
  ·simp (maxSteps := 1000000) -dsimp (disch := (repeat first | rw [nxn] | rw [nxp]); try omega) only [go_sem, lv, c1, g0, g1, g2, g7]
   exact ⟨e1, false, rfl, fun hh => by cases hh⟩
end
end Go.Proofs.YtmphlckolampoaaGreatDoor.tbl
