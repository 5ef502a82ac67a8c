/- The program's table: Get, Drop; pairs in memory; Of, done. Conditions: those of its summaries. -/
import Derived.Test.YtmphlckolampoaaGreatDoorRAc
namespace Go.Proofs.YtmphlckolampoaaGreatDoor.tbl
open Go Go.Abs Go.Abs.Rec Go.Proofs
set_option maxRecDepth 100000
set_option linter.unusedVariables false
set_option linter.unusedSimpArgs false
section
variable {S : Sums}
set_option maxHeartbeats 8000000 in
theorem getC (hS : Tb S) {K : Nat → Nat} {h : AH} {v : AV} {t : Tp} (key : List Nat) (hv : TpA K h v t) : RnC Tryz.prog S 110 [.agg [v], .str key] h fun r h' => r = .tup [.str ((getT2 key t).getD []), .bool (getT2 key t).isSome] ∧ Fr h h' := by
 refine RnC.enter' Tryz.f110 _ 37 [.tmp 4, .tmp 5] (hS.nt _ _ _ (by simp)) bd110 Tryz.func110 rfl rfl rfl ?_
 have ov := hv.one.1
 have om := ov
 unfold oneA at om
 have f1 : Fr h (h.new (.cells [v] true false)) := Fr.new _ _
 simp (maxSteps := 1000000) -dsimp (disch := (repeat first | rw [nxn] | rw [nxp]); try omega) only [go_sem, ov, om, b0e]
 refine loopK_of (RnL.rounds (Q := fun ex u => u.d = [] ∧ u.h = h.new (.cells [v] true false) ∧ (ex = .exit 0 ∧ getT2 key t = none ∨ ex = .ret ∧ ∃ x, getT2 key t = some x ∧ u.t.get 4 = some (.str x) ∧ u.t.get 5 = some (.bool true)))
  (fun m u => u.d = [] ∧ u.h = h.new (.cells [v] true false) ∧ u.t.get 1 = some (.str key) ∧ ∃ (w : AV) (s : Tp), u.t.get 6 = some w ∧ TpA K u.h w s ∧ getT2 key t = getT2 key s ∧ m = s.size) ?_ t.size ?_) ?_
 ·rintro m ⟨tt, g, d⟩ ⟨e2, e1, g1, w, s, g6, hw, hgs, rfl⟩
  dsimp only at e1 e2 g1 g6 hw
  subst e1 e2
  cases s with
  | nil =>
   cases hw
   simp (maxSteps := 1000000) -dsimp (disch := (repeat first | rw [nxn] | rw [nxp]); try omega) only [go_sem, neNn, g1, g6]
   exact ⟨trivial, trivial, .inl ⟨trivial, hgs⟩⟩
  | nd k x l r =>
   obtain ⟨id, lv, rv, rfl, h2, h3, h4, h5, h6⟩ := hw
   have ol := h5.one.1
   have or_ := h6.one.1
   have hge : getT2 key (.nd k x l r) = if key = k then some x else if lessA key k = true then getT2 key l else getT2 key r := rfl
   rw [hge] at hgs
   have hsz : (Tp.nd k x l r).size = l.size + r.size + 1 := rfl
   by_cases hk : key = k
   ·have hkd : decide (key = k) = true := by simpa using hk
    rw [if_pos hk] at hgs
    simp (maxSteps := 1000000) -dsimp (disch := (repeat first | rw [nxn] | rw [nxp]); try omega) only [go_sem, neNp, h2, eqSt, hkd, g1, g6]
    exact ⟨trivial, trivial, .inr ⟨trivial, x, hgs, rfl, trivial⟩⟩
   ·have hkd : decide (key = k) = false := by simpa using hk
    rw [if_neg hk] at hgs
    cases hlt : lessA key k
    ·rw [hlt, if_neg (by decide)] at hgs
     simp (maxSteps := 1000000) -dsimp (disch := (repeat first | rw [nxn] | rw [nxp]); try omega) only [go_sem, neNp, h2, eqSt, ltSt, hkd, hlt, ol, or_, g1, g6]
     exact ⟨r.size, by omega, trivial, trivial, trivial, rv, r, rfl, h6, hgs, rfl⟩
    ·rw [hlt, if_pos rfl] at hgs
     simp (maxSteps := 1000000) -dsimp (disch := (repeat first | rw [nxn] | rw [nxp]); try omega) only [go_sem, neNp, h2, eqSt, ltSt, hkd, hlt, ol, or_, g1, g6]
     exact ⟨l.size, by omega, trivial, trivial, trivial, lv, l, rfl, h5, hgs, rfl⟩
 ·simp (maxSteps := 1000000) -dsimp (disch := (repeat first | rw [nxn] | rw [nxp]); try omega) only [go_sem]
  exact ⟨trivial, trivial, trivial, v, t, rfl, hv.fr f1, rfl, rfl⟩
 ·rintro ex ⟨tt, g, d⟩ ⟨rfl, e1, ⟨rfl, hh⟩ | ⟨rfl, x, hh, g4, g5⟩⟩
  ·dsimp only at e1
   subst e1
   simp (maxSteps := 1000000) -dsimp (disch := (repeat first | rw [nxn] | rw [nxp]); try omega) only [go_sem, b0e]
   rw [hh]
   exact ⟨rfl, f1⟩
  ·dsimp only at e1 g4 g5
   subst e1
   simp (maxSteps := 1000000) -dsimp (disch := (repeat first | rw [nxn] | rw [nxp]); try omega) only [go_sem, g4, g5]
   rw [hh]
   exact ⟨rfl, f1⟩
set_option maxHeartbeats 8000000 in
theorem dropC (hS : Tb S) {K : Nat → Nat} {h : AH} {v : AV} {t : Tp} (k : List Nat) (hv : TpA K h v t) (hr : riseP (ino t)) (hk : k.length ≤ 1000000) (hsz : t.size ≤ 1000000) (top : ∀ j, h.nx ≤ j → K j = 0) : RnC Tryz.prog S 82 [.agg [v], .str k] h fun r h' => (∃ a, r = .agg [a] ∧ TpA K h' a (dropT2 t k)) ∧ Fr h h' := by
 refine RnC.enter' Tryz.f82 _ 36 [.cell 4 27] (hS.nt _ _ _ (by simp)) bd82 Tryz.func82 rfl rfl rfl ?_
 have ov := hv.one.1
 have om := ov
 unfold oneA at om
 have ha1 : ∀ (o1 o2 : AO), ((h.new o1).new o2).get h.nx = some o1 := fun o1 o2 => (AH.get_new_ne (by simp)).trans (AH.get_new_eq rfl)
 simp (maxSteps := 1000000) -dsimp (disch := (repeat first | rw [nxn] | rw [nxp]); try omega) only [go_sem, ov, om, ha1]
 generalize hg : ((h.new (.cells [v] true false)).new (.cells [.nilptr] true false)) = g
 have ng : g.nx = h.nx + 2 := by rw [← hg]; rfl
 have fg : Fr h g := by rw [← hg]; exact (Fr.new _ _).news _
 have c0 : g.get h.nx = some (.cells [v] true false) := by rw [← hg]; exact ha1 _ _
 have c1 : g.get (h.nx + 1) = some (.cells [.nilptr] true false) := by rw [← hg]; exact AH.get_new_eq rfl
 have hv1 : TpA (K2 K h.nx) g v t := (hv.col fun j hj hk => (K2.ne hj).trans hk).fr fg
 have topg : ∀ j, g.nx ≤ j → K2 K h.nx j = 0 := fun j hj => (if_neg (by omega)).trans (top j (by omega))
 refine callK_of (getC hS k hv1) ?_
 rintro w gg ⟨rfl, fgg⟩
 have hany := getT2_any k hr
 have c0g := (fgg.get _ (by omega)).trans c0
 have c1g := (fgg.get _ (by omega)).trans c1
 have hvg := hv1.fr fgg
 have topgg : ∀ j, gg.nx ≤ j → K2 K h.nx j = 0 := fun j hj => topg j (Nat.le_trans fgg.nx hj)
 have ngg := fgg.nx
 have fin : ∀ (g6 hh : AH) (a : AV) (t' : Tp), Fr gg g6 → TpA (K2 K h.nx) g6 a t' → hh.nx = g6.nx → (∀ j, j ≠ h.nx + 1 → hh.get j = g6.get j) → TpA K hh a t' ∧ Fr h hh := fun g6 hh a t' f6 hw6 hn ho => by
  refine ⟨(hw6.keep (by omega) fun j hj hk => ho j (K2.zero hk).2.2).col fun j hj hk => (K2.zero hk).1, ⟨by have := fg.nx; have := f6.nx; omega, fun j hj => (ho j (by omega)).trans ((f6.get j (by omega)).trans ((fgg.get j (by omega)).trans (fg.get j hj)))⟩⟩
 unfold dropT2
 cases hs : (getT2 k t).isSome
 ·rw [hs] at hany
  rw [if_neg (by rw [← hany]; decide)]
  rcases hv.shape with rfl | ⟨iv, rfl⟩
  all_goals
   simp (maxSteps := 1000000) -dsimp (disch := (repeat first | rw [nxn] | rw [nxp]); try omega) only [go_sem, c0g, c1g]
   exact ⟨⟨_, rfl, (fin gg _ _ _ (Fr.refl _) hvg (by rfl) (by intro j hj; exact AH.get_put_ne hj)).1⟩, (fin gg _ _ _ (Fr.refl _) hvg (by rfl) (by intro j hj; exact AH.get_put_ne hj)).2⟩
 ·rw [hs] at hany
  rw [if_pos hany.symm]
  simp (maxSteps := 1000000) -dsimp (disch := (repeat first | rw [nxn] | rw [nxp]); try omega) only [go_sem, c0g, ov]
  refine callK_of (cutC hS k t hvg (by omega) topgg) ?_
  rintro w g2 ⟨⟨a, b, rfl, ha, hb⟩, f2⟩
  have cs1 := cutT_size k t
  have ob := hb.one.1
  have oa := ha.one.1
  simp (maxSteps := 1000000) -dsimp (disch := (repeat first | rw [nxn] | rw [nxp]); try omega) only [go_sem, oa, ob, b00, add0, hk]
  refine callK_of (cutC hS (k ++ [0]) (cutT k t).2 hb (by omega) fun j hj => topgg j (Nat.le_trans f2.nx hj)) ?_
  rintro w g3 ⟨⟨a3, b3, rfl, ha3, hb3⟩, f3⟩
  have cs2 := cutT_size (k ++ [0]) (cutT k t).2
  have ob3 := hb3.one.1
  have oa3 := ha3.one.1
  simp (maxSteps := 1000000) -dsimp (disch := (repeat first | rw [nxn] | rw [nxp]); try omega) only [go_sem, oa, oa3, ob3]
  refine callK_of (joinC hS 1000001 (cutT k t).1 _ (by omega) (by decide) (ha.fr f3) hb3 fun j hj => topgg j (by have := f2.nx; have := f3.nx; omega)) ?_
  rintro w6 g6 ⟨hw6, f6⟩
  have f26 := (f2.trans f3).trans f6
  have c6 : g6.get (h.nx + 1) = _ := (f26.get _ (by omega)).trans c1g
  have bT := bldTb hw6.shape
  have ow6 := hw6.one.1
  rcases hw6.shape with rfl | ⟨iw6, rfl⟩
  all_goals
   simp (maxSteps := 1000000) -dsimp (disch := (repeat first | rw [nxn] | rw [nxp]); try omega) only [go_sem, bT, c6]
   exact ⟨⟨_, rfl, (fin g6 _ _ _ f26 hw6 (by rfl) (by intro j hj; exact AH.get_put_ne hj)).1⟩, (fin g6 _ _ _ f26 hw6 (by rfl) (by intro j hj; exact AH.get_put_ne hj)).2⟩
end
/-! ### Pairs in memory -/
def pc (p : Pr) : List AV := [.str p.1, .str p.2.1, .bool p.2.2]
/-- A slice of pairs. -/
def Ps (h : AH) (v : AV) (l : KL (List Nat × Bool)) : Prop :=
 (v = .nilsl ∧ l = []) ∨ ∃ id off c cs o tx, v = .sl id off l.length 3 c ∧ h.get id = some (.cells cs o tx) ∧ id < h.nx ∧ (∀ k, c = some k → l.length ≤ k) ∧ off + l.length * 3 ≤ cs.length ∧ (cs.drop off).take (l.length * 3) = l.flatMap pc
theorem pc_len (l : KL (List Nat × Bool)) : (l.flatMap pc).length = l.length * 3 := by
 induction l with
 | nil => rfl
 | cons p l ih =>
  rw [List.flatMap_cons, List.length_append, ih, List.length_cons]
  show 3 + _ = _
  omega
theorem pc_get : ∀ {l : KL (List Nat × Bool)} {i : Nat} {p : Pr}, l[i]? = some p → ((l.flatMap pc).drop (i * 3)).take 3 = pc p
 | [], i, p, h => by simp at h
 | q :: l, 0, p, h => by
  cases h
  rfl
 | q :: l, i + 1, p, h => by
  have ih := pc_get (l := l) (i := i) (p := p) (by simpa using h)
  have e : (i + 1) * 3 = i * 3 + 1 + 1 + 1 := by omega
  rw [e]
  exact ih
theorem Ps.fr {h h' : AH} {v : AV} {l : KL (List Nat × Bool)} (hb : Ps h v l) (f : Fr h h') : Ps h' v l := by
 rcases hb with h1 | ⟨id, off, c, cs, o, tx, h1, h2, h3, h4⟩
 ·exact .inl h1
 ·exact .inr ⟨id, off, c, cs, o, tx, h1, (f.get id h3).trans h2, Nat.lt_of_lt_of_le h3 f.nx, h4⟩
theorem Ps.ln {h : AH} {v : AV} {l : KL (List Nat × Bool)} (hb : Ps h v l) : (∀ g, evLen Tryz.prog g #[22] v = some (.int .i64 (l.length : Nat))) ∧ sameAV 20 v v = true ∧ oneA v = true := by
 rcases hb with ⟨rfl, rfl⟩ | ⟨id, off, c, cs, o, tx, rfl, _⟩
 ·exact ⟨fun g => by simp [evLen, Tryz.underlying22], rfl, rfl⟩
 ·exact ⟨fun g => by simp [evLen, Tryz.underlying22], by simp [sameAV], rfl⟩
theorem Ps.at {h : AH} {v : AV} {l : KL (List Nat × Bool)} {i : Nat} {p : Pr} (hb : Ps h v l) (hi : l[i]? = some p) : ∃ id off c cs o tx, v = .sl id off l.length 3 c ∧ h.get id = some (.cells cs o tx) ∧ id < h.nx ∧ off + i * 3 + 3 ≤ cs.length ∧ (cs.drop (off + i * 3)).take 3 = [.str p.1, .str p.2.1, .bool p.2.2] ∧ cs[off + i * 3]? = some (.str p.1) ∧ cs[off + i * 3 + 1]? = some (.str p.2.1) ∧ cs[off + i * 3 + 2]? = some (.bool p.2.2) := by
 have hil : i < l.length := (List.getElem?_eq_some_iff.1 hi).1
 rcases hb with ⟨_, rfl⟩ | ⟨id, off, c, cs, o, tx, h1, h2, h3, h4, h5, h6⟩
 ·simp at hi
 ·have hx : (cs.drop (off + i * 3)).take 3 = pc p := by
   rw [← pc_get hi, ← h6, List.drop_take, List.drop_drop, List.take_take]
   congr 1
   omega
  have g : ∀ j, j < 3 → cs[off + i * 3 + j]? = (pc p)[j]? := fun j hj => by
   rw [← hx, List.getElem?_take_of_lt hj, List.getElem?_drop]
  exact ⟨id, off, c, cs, o, tx, h1, h2, h3, by omega, hx, g 0 (by decide), g 1 (by decide), g 2 (by decide)⟩
section
variable {S : Sums}
set_option maxHeartbeats 8000000 in
theorem ofC (hS : Tb S) {K : Nat → Nat} {h : AH} {v : AV} {l : KL (List Nat × Bool)} (hv : Ps h v l) (hl : l.length ≤ 100000) (hk : ∀ p ∈ l, p.1.length ≤ 1000000) (top : ∀ j, h.nx ≤ j → K j = 0) : RnC Tryz.prog S 6 [v] h fun r h' => (∃ a t, r = .agg [a] ∧ TpA K h' a t ∧ ino t = ofP l) ∧ Fr h h' := by
 refine RnC.enter' Tryz.f6 _ 20 [.cell 2 27] (hS.nt _ _ _ (by simp)) bd6 Tryz.func6 rfl rfl rfl ?_
 obtain ⟨lv, sv, ov⟩ := hv.ln
 simp (maxSteps := 1000000) -dsimp (disch := (repeat first | rw [nxn] | rw [nxp]); try omega) only [go_sem, lv, ov]
 generalize hg : ((h.new (.cells [.nilptr] true false)).new (.cells [.nilptr] true false)) = g
 have ng : g.nx = h.nx + 2 := by rw [← hg]; rfl
 have fg : Fr h g := by rw [← hg]; exact (Fr.new _ _).news _
 have c0 : g.get h.nx = some (.cells [.nilptr] true false) := by rw [← hg]; exact (AH.get_new_ne (by simp)).trans (AH.get_new_eq rfl)
 have c1 : g.get (h.nx + 1) = some (.cells [.nilptr] true false) := by rw [← hg]; exact AH.get_new_eq rfl
 have hvg := hv.fr fg
 have hrise : ∀ m : KL (List Nat × Bool), riseP (ofP m) ∧ (ofP m).length ≤ m.length := fun m => by
  have key : ∀ (m : KL (List Nat × Bool)) (L : KL (List Nat)), riseP L → riseP (m.foldl (fun L p => putP L p.1 p.2.1) L) ∧ (m.foldl (fun L p => putP L p.1 p.2.1) L).length ≤ L.length + m.length := by
   intro m
   induction m with
   | nil => intro L h; exact ⟨h, Nat.le_refl _⟩
   | cons p m ih =>
    intro L h
    obtain ⟨i1, i2⟩ := ih (putP L p.1 p.2.1) (riseP_put h _ _)
    have := putP_len p.1 p.2.1 L
    exact ⟨i1, by simp only [List.foldl_cons, List.length_cons]; omega⟩
  have := key m [] trivial
  exact ⟨this.1, by simpa [ofP] using this.2⟩
 refine loopK_of (RnL.rounds (Q := fun ex u => ex = .exit 0 ∧ u.d = [] ∧ u.t.get 2 = some (.ptr h.nx 0) ∧ u.t.get 3 = some (.ptr (h.nx + 1) 0) ∧ g.nx ≤ u.h.nx ∧ (∀ j, j < g.nx → j ≠ h.nx + 1 → u.h.get j = g.get j) ∧ ∃ a t, u.h.get (h.nx + 1) = some (.cells [a] true false) ∧ TpA (K2 K h.nx) u.h a t ∧ ino t = ofP l)
  (fun m u => u.d = [] ∧ u.t.get 2 = some (.ptr h.nx 0) ∧ u.t.get 3 = some (.ptr (h.nx + 1) 0) ∧ u.t.get 6 = some v ∧ u.t.get 7 = some (.int .i64 (l.length : Nat)) ∧ g.nx ≤ u.h.nx ∧ (∀ j, j < g.nx → j ≠ h.nx + 1 → u.h.get j = g.get j) ∧ ∃ (i : Nat) (a : AV) (t : Tp), u.t.get 8 = some (.int .i64 (i : Nat)) ∧ u.h.get (h.nx + 1) = some (.cells [a] true false) ∧ TpA (K2 K h.nx) u.h a t ∧ ino t = ofP (l.take i) ∧ i ≤ l.length ∧ m = l.length - i) ?_ l.length ?_) ?_
 ·rintro m ⟨tt, gx, d⟩ ⟨e2, g2, g3, g6, g7, hn, ho, i, a, t, g8, hc, ht, hit, hi, rfl⟩
  dsimp only at e2 g2 g3 g6 g7 g8 hn ho hc ht
  subst e2
  by_cases c4 : (i : Int) < (l.length : Nat)
  ·have hil : i < l.length := by omega
   obtain ⟨p, hp⟩ : ∃ p, l[i]? = some p := ⟨_, List.getElem?_eq_getElem hil⟩
   have hpk := hk p (List.mem_iff_getElem?.2 ⟨i, hp⟩)
   obtain ⟨id, off, c, cs, o, tx, rfl, hgi, hidl, hle, hx, _⟩ := Ps.at hv hp
   have hgx : gx.get id = _ := (ho id (by omega) (by omega)).trans ((fg.get id hidl).trans hgi)
   have oa := ht.one.1
   simp (maxSteps := 1000000) -dsimp (disch := (repeat first | rw [nxn] | rw [nxp]); try omega) only [go_sem, c4, g2, g3, g6, g7, g8, hil, hgx, hle, hx, hc, oa]
   generalize hg4 : ((gx.new (.cells [.str [], .str [], .bool false] true false)).put gx.nx (.cells [.str p.1, .str p.2.1, .bool p.2.2] true false)) = g4
   have n4 : g4.nx = gx.nx + 1 := by rw [← hg4]; rfl
   have f4 : Fr gx g4 := by rw [← hg4]; exact (Fr.new _ _).put _ (Nat.le_refl _)
   have c4' : g4.get gx.nx = some (.cells [.str p.1, .str p.2.1, .bool p.2.2] true false) := by rw [← hg4]; exact AH.get_put_eq rfl
   have hc4 : g4.get (h.nx + 1) = _ := (f4.get _ (by omega)).trans hc
   have hrt := hrise (l.take i)
   have hsz : t.size ≤ 1000000 := by
    rw [Tp.size_eq, hit]
    have := hrt.2
    rw [List.length_take] at this
    omega
   try simp (maxSteps := 1000000) -dsimp (disch := (repeat first | rw [nxn] | rw [nxp]); try omega) only [go_sem, c4', hc4, oa]
   refine callK_of (putC hS p.1 p.2.1 (ht.fr f4) hpk hsz fun j hj => (if_neg (by omega)).trans (top j (by omega))) ?_
   rintro w g5 ⟨⟨a5, rfl, ht5⟩, f5⟩
   have hc5 : g5.get (h.nx + 1) = _ := (f5.get _ (by omega)).trans hc4
   have n5 := f5.nx
   have hit5 : ino (putT2 t p.1 p.2.1) = ofP (l.take (i + 1)) := by
    rw [ino_put (by rw [hit]; exact hrt.1), hit, List.take_add_one, hp]
    unfold ofP
    rw [List.foldl_append]; rfl
   have fin : ∀ hh : AH, hh.nx = g5.nx → (∀ j, j ≠ h.nx + 1 → hh.get j = g5.get j) → TpA (K2 K h.nx) hh a5 (putT2 t p.1 p.2.1) ∧ g.nx ≤ hh.nx ∧ ∀ j, j < g.nx → j ≠ h.nx + 1 → hh.get j = g.get j := fun hh hn2 ho2 =>
    ⟨ht5.keep (by omega) fun j hj hk => ho2 j (K2.zero hk).2.2, by omega, fun j hj hne => (ho2 j hne).trans ((f5.get j (by omega)).trans ((f4.get j (by omega)).trans (ho j hj hne)))⟩
   rcases ht5.shape with rfl | ⟨iv, rfl⟩
   all_goals
    simp (maxSteps := 1000000) -dsimp (disch := (repeat first | rw [nxn] | rw [nxp]); try omega) only [go_sem, hc5, c4, g2, g3, g6, g7, g8]
    refine ⟨l.length - (i + 1), by omega, trivial, trivial, trivial, trivial, trivial, (by first | omega | (show g.nx ≤ g5.nx; omega)), (fin _ (by rfl) (by intro j hj; exact AH.get_put_ne hj)).2.2, i + 1, _, _, rfl, rfl, (fin _ (by rfl) (by intro j hj; exact AH.get_put_ne hj)).1, hit5, by omega, rfl⟩
  ·have : i = l.length := by omega
   subst this
   rw [List.take_length] at hit
   simp (maxSteps := 1000000) -dsimp (disch := (repeat first | rw [nxn] | rw [nxp]); try omega) only [go_sem, c4, g2, g3, g6, g7, g8]
   exact ⟨trivial, trivial, trivial, trivial, hn, ho, a, t, hc, ht, hit⟩
 ·simp (maxSteps := 1000000) -dsimp (disch := (repeat first | rw [nxn] | rw [nxp]); try omega) only [go_sem]
  exact ⟨trivial, trivial, trivial, trivial, trivial, Nat.le_refl _, fun j _ _ => by first | rfl | trivial, 0, .nilptr, .nil, rfl, c1, rfl, rfl, Nat.zero_le _, rfl⟩
 ·rintro ex ⟨tt, gx, d⟩ ⟨rfl, rfl, g2, g3, hn, ho, a, t, hc, ht, hit⟩
  dsimp only at g2 g3 hn ho hc ht
  have oa := ht.one.1
  have hc0 : gx.get h.nx = _ := (ho _ (by omega) (by omega)).trans c0
  have fin : ∀ hh : AH, hh.nx = gx.nx → (∀ j, j ≠ h.nx → hh.get j = gx.get j) → TpA K hh a t ∧ Fr h hh := fun hh hn2 ho2 =>
   ⟨(ht.keep (by omega) fun j hj hk => ho2 j (K2.zero hk).2.1).col fun j hj hk => (K2.zero hk).1, ⟨by omega, fun j hj => (ho2 j (by omega)).trans ((ho j (by omega) (by omega)).trans (fg.get j hj))⟩⟩
  rcases ht.shape with rfl | ⟨iv, rfl⟩
  all_goals
   simp (maxSteps := 1000000) -dsimp (disch := (repeat first | rw [nxn] | rw [nxp]); try omega) only [go_sem, hc, hc0, g2, g3]
   exact ⟨⟨_, t, rfl, (fin _ (by rfl) (by intro j hj; exact AH.get_put_ne hj)).1, hit⟩, (fin _ (by rfl) (by intro j hj; exact AH.get_put_ne hj)).2⟩
end
end Go.Proofs.YtmphlckolampoaaGreatDoor.tbl
