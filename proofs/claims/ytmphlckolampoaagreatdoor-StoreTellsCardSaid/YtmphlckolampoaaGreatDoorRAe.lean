/- The program's table: done, each, Range, Size. Conditions: those of its summaries. -/
import Derived.Test.YtmphlckolampoaaGreatDoorRAd
namespace Go.Proofs.YtmphlckolampoaaGreatDoor.tbl
open Go Go.Abs Go.Abs.Rec Go.Proofs
set_option maxRecDepth 100000
set_option linter.unusedVariables false
set_option linter.unusedSimpArgs false
theorem done_rise : ∀ (m : KL (List Nat × Bool)) {L : KL (List Nat)}, riseP L → riseP (doneP L m) ∧ (doneP L m).length ≤ L.length + m.length
 | [], L, h => ⟨h, Nat.le_refl _⟩
 | p :: m, L, h => by
  have e : doneP L (p :: m) = doneP (if p.2.2 = true then delP L p.1 else putP L p.1 p.2.1) m := rfl
  rw [e]
  cases hg : p.2.2
  ·rw [if_neg (by decide)]
   obtain ⟨i1, i2⟩ := done_rise m (riseP_put h p.1 p.2.1)
   have := putP_len p.1 p.2.1 L
   exact ⟨i1, by simp only [List.length_cons]; omega⟩
  ·rw [if_pos rfl]
   obtain ⟨i1, i2⟩ := done_rise m (riseP_del h p.1)
   have := delP_len p.1 L
   exact ⟨i1, by simp only [List.length_cons]; omega⟩
theorem done_take {L : KL (List Nat)} {l : KL (List Nat × Bool)} {i : Nat} {p : Pr} (h : l[i]? = some p) : doneP L (l.take (i + 1)) = if p.2.2 = true then delP (doneP L (l.take i)) p.1 else putP (doneP L (l.take i)) p.1 p.2.1 := by
 rw [List.take_add_one, h]
 unfold doneP
 rw [List.foldl_append]; rfl
section
variable {S : Sums}
set_option maxHeartbeats 8000000 in
theorem doneC (hS : Tb S) {K : Nat → Nat} {h : AH} {v tv : AV} {t : Tp} {l : KL (List Nat × Bool)} (htv : TpA K h tv t) (hrt : riseP (ino t)) (hts : t.size ≤ 100000) (hv : Ps h v l) (hl : l.length ≤ 100000) (hk : ∀ p ∈ l, p.1.length ≤ 1000000) (top : ∀ j, h.nx ≤ j → K j = 0) : RnC Tryz.prog S 34 [.agg [tv], v] h fun r h' => (∃ a t', r = .agg [a] ∧ TpA K h' a t' ∧ ino t' = doneP (ino t) l) ∧ Fr h h' := by
 refine RnC.enter' Tryz.f34 _ 27 [.cell 4 27] (hS.nt _ _ _ (by simp)) bd34 Tryz.func34 rfl rfl rfl ?_
 obtain ⟨lv, sv, ov⟩ := hv.ln
 have otv := htv.one.1
 have om := otv
 unfold oneA at om
 simp (maxSteps := 1000000) -dsimp (disch := (repeat first | rw [nxn] | rw [nxp]); try omega) only [go_sem, lv, ov, otv, om]
 generalize hg : ((h.new (.cells [tv] true false)).new (.cells [.nilptr] true false)) = g
 have ng : g.nx = h.nx + 2 := by rw [← hg]; rfl
 have fg : Fr h g := by rw [← hg]; exact (Fr.new _ _).news _
 have c0 : g.get h.nx = some (.cells [tv] true false) := by rw [← hg]; exact (AH.get_new_ne (by simp)).trans (AH.get_new_eq rfl)
 have c1 : g.get (h.nx + 1) = some (.cells [.nilptr] true false) := by rw [← hg]; exact AH.get_new_eq rfl
 have ht0 : TpA (K2 K h.nx) g tv t := (htv.col fun j hj hk => (K2.ne hj).trans hk).fr fg
 have htl : (ino t).length ≤ 100000 := by rw [← Tp.size_eq]; exact hts
 refine loopK_of (RnL.rounds (Q := fun ex u => ex = .exit 0 ∧ u.d = [] ∧ u.t.get 2 = some (.ptr h.nx 0) ∧ u.t.get 4 = some (.ptr (h.nx + 1) 0) ∧ g.nx ≤ u.h.nx ∧ (∀ j, j < g.nx → j ≠ h.nx → u.h.get j = g.get j) ∧ ∃ a t', u.h.get h.nx = some (.cells [a] true false) ∧ TpA (K2 K h.nx) u.h a t' ∧ ino t' = doneP (ino t) l)
  (fun m u => u.d = [] ∧ u.t.get 2 = some (.ptr h.nx 0) ∧ u.t.get 4 = some (.ptr (h.nx + 1) 0) ∧ u.t.get 7 = some v ∧ u.t.get 8 = some (.int .i64 (l.length : Nat)) ∧ g.nx ≤ u.h.nx ∧ (∀ j, j < g.nx → j ≠ h.nx → u.h.get j = g.get j) ∧ ∃ (i : Nat) (a : AV) (t' : Tp), u.t.get 9 = some (.int .i64 (i : Nat)) ∧ u.h.get h.nx = some (.cells [a] true false) ∧ TpA (K2 K h.nx) u.h a t' ∧ ino t' = doneP (ino t) (l.take i) ∧ i ≤ l.length ∧ m = l.length - i) ?_ l.length ?_) ?_
 ·rintro m ⟨tt, gx, d⟩ ⟨e2, g2, g4, g7, g8, hn, ho, i, a, t', g9, hc, ht, hit, hi, rfl⟩
  dsimp only at e2 g2 g4 g7 g8 g9 hn ho hc ht
  subst e2
  by_cases c4 : (i : Int) < (l.length : Nat)
  ·have hil : i < l.length := by omega
   obtain ⟨p, hp⟩ : ∃ p, l[i]? = some p := ⟨_, List.getElem?_eq_getElem hil⟩
   have hpk := hk p (List.mem_iff_getElem?.2 ⟨i, hp⟩)
   obtain ⟨id, off, c, cs, o, tx, rfl, hgi, hidl, hle, hx, _⟩ := Ps.at hv hp
   have hgx : gx.get id = _ := (ho id (by omega) (by omega)).trans ((fg.get id hidl).trans hgi)
   have oa := ht.one.1
   obtain ⟨hr1, hr2⟩ := done_rise (l.take i) hrt
   have hsz : t'.size ≤ 1000000 := by
    rw [Tp.size_eq, hit]
    rw [List.length_take] at hr2
    omega
   have hst := done_take (L := ino t) hp
   have topx : ∀ j, gx.nx ≤ j → K2 K h.nx j = 0 := fun j hj => (if_neg (by omega)).trans (top j (by omega))
   cases hgn : p.2.2
   ·rw [hgn] at hx hst
    rw [if_neg (by decide)] at hst
    simp (maxSteps := 1000000) -dsimp (disch := (repeat first | rw [nxn] | rw [nxp]); try omega) only [go_sem, c4, g2, g4, g7, g8, g9, hil, hgx, hle, hx, hc, oa]
    generalize hg4 : ((gx.new (.cells [.str [], .str [], .bool false] true false)).put gx.nx (.cells [.str p.1, .str p.2.1, .bool false] true false)) = g4'
    have n4 : g4'.nx = gx.nx + 1 := by rw [← hg4]; rfl
    have f4 : Fr gx g4' := by rw [← hg4]; exact (Fr.new _ _).put _ (Nat.le_refl _)
    refine callK_of (putC hS p.1 p.2.1 (ht.fr f4) hpk hsz fun j hj => topx j (by omega)) ?_
    rintro w g5 ⟨⟨a5, rfl, ht5⟩, f5⟩
    have hc5 : g5.get h.nx = _ := (f5.get _ (by omega)).trans ((f4.get _ (by omega)).trans hc)
    have n5 := f5.nx
    have hit5 : ino (putT2 t' p.1 p.2.1) = doneP (ino t) (l.take (i + 1)) := by rw [hst, ino_put (by rw [hit]; exact hr1), hit]
    have fin : ∀ hh : AH, hh.nx = g5.nx → (∀ j, j ≠ h.nx → hh.get j = g5.get j) → TpA (K2 K h.nx) hh a5 (putT2 t' p.1 p.2.1) ∧ ∀ j, j < g.nx → j ≠ h.nx → hh.get j = g.get j := fun hh hn2 ho2 =>
     ⟨ht5.keep (by omega) fun j hj hk => ho2 j (K2.zero hk).2.1, fun j hj hne => (ho2 j hne).trans ((f5.get j (by omega)).trans ((f4.get j (by omega)).trans (ho j hj hne)))⟩
    rcases ht5.shape with rfl | ⟨iv, rfl⟩
    all_goals
     simp (maxSteps := 1000000) -dsimp (disch := (repeat first | rw [nxn] | rw [nxp]); try omega) only [go_sem, hc5, c4, g2, g4, g7, g8, g9]
     refine ⟨l.length - (i + 1), by omega, trivial, trivial, trivial, trivial, trivial, (by first | omega | (show g.nx ≤ g5.nx; omega)), (fin _ (by rfl) (by intro j hj; exact AH.get_put_ne hj)).2, i + 1, _, _, rfl, rfl, (fin _ (by rfl) (by intro j hj; exact AH.get_put_ne hj)).1, hit5, by omega, rfl⟩
   ·rw [hgn] at hx hst
    rw [if_pos rfl] at hst
    simp (maxSteps := 1000000) -dsimp (disch := (repeat first | rw [nxn] | rw [nxp]); try omega) only [go_sem, c4, g2, g4, g7, g8, g9, hil, hgx, hle, hx, hc, oa]
    generalize hg4 : ((gx.new (.cells [.str [], .str [], .bool false] true false)).put gx.nx (.cells [.str p.1, .str p.2.1, .bool true] true false)) = g4'
    have n4 : g4'.nx = gx.nx + 1 := by rw [← hg4]; rfl
    have f4 : Fr gx g4' := by rw [← hg4]; exact (Fr.new _ _).put _ (Nat.le_refl _)
    refine callK_of (dropC hS p.1 (ht.fr f4) (by rw [hit]; exact hr1) hpk hsz fun j hj => topx j (by omega)) ?_
    rintro w g5 ⟨⟨a5, rfl, ht5⟩, f5⟩
    have hc5 : g5.get h.nx = _ := (f5.get _ (by omega)).trans ((f4.get _ (by omega)).trans hc)
    have n5 := f5.nx
    have hit5 : ino (dropT2 t' p.1) = doneP (ino t) (l.take (i + 1)) := by rw [hst, ino_drop (by rw [hit]; exact hr1), hit]
    have fin : ∀ hh : AH, hh.nx = g5.nx → (∀ j, j ≠ h.nx → hh.get j = g5.get j) → TpA (K2 K h.nx) hh a5 (dropT2 t' p.1) ∧ ∀ j, j < g.nx → j ≠ h.nx → hh.get j = g.get j := fun hh hn2 ho2 =>
     ⟨ht5.keep (by omega) fun j hj hk => ho2 j (K2.zero hk).2.1, fun j hj hne => (ho2 j hne).trans ((f5.get j (by omega)).trans ((f4.get j (by omega)).trans (ho j hj hne)))⟩
    rcases ht5.shape with hsh | ⟨iv, hsh⟩
    all_goals
     subst hsh
     simp (maxSteps := 1000000) -dsimp (disch := (repeat first | rw [nxn] | rw [nxp]); try omega) only [go_sem, hc5, c4, g2, g4, g7, g8, g9]
     refine ⟨l.length - (i + 1), by omega, trivial, trivial, trivial, trivial, trivial, (by first | omega | (show g.nx ≤ g5.nx; omega)), (fin _ (by rfl) (by intro j hj; exact AH.get_put_ne hj)).2, i + 1, _, _, rfl, rfl, (fin _ (by rfl) (by intro j hj; exact AH.get_put_ne hj)).1, hit5, by omega, rfl⟩
  ·have : i = l.length := by omega
   subst this
   rw [List.take_length] at hit
   simp (maxSteps := 1000000) -dsimp (disch := (repeat first | rw [nxn] | rw [nxp]); try omega) only [go_sem, c4, g2, g4, g7, g8, g9]
   exact ⟨trivial, trivial, trivial, trivial, hn, ho, a, t', hc, ht, hit⟩
 ·simp (maxSteps := 1000000) -dsimp (disch := (repeat first | rw [nxn] | rw [nxp]); try omega) only [go_sem]
  exact ⟨trivial, trivial, trivial, trivial, trivial, Nat.le_refl _, fun j _ _ => by first | rfl | trivial, 0, tv, t, rfl, c0, ht0, rfl, Nat.zero_le _, rfl⟩
 ·rintro ex ⟨tt, gx, d⟩ ⟨rfl, rfl, g2, g4, hn, ho, a, t', hc, ht, hit⟩
  dsimp only at g2 g4 hn ho hc ht
  have oa := ht.one.1
  have hc1 : gx.get (h.nx + 1) = _ := (ho _ (by omega) (by omega)).trans c1
  have fin : ∀ hh : AH, hh.nx = gx.nx → (∀ j, j ≠ h.nx + 1 → hh.get j = gx.get j) → TpA K hh a t' ∧ Fr h hh := fun hh hn2 ho2 =>
   ⟨(ht.keep (by omega) fun j hj hk => ho2 j (K2.zero hk).2.2).col fun j hj hk => (K2.zero hk).1, ⟨by omega, fun j hj => (ho2 j (by omega)).trans ((ho j (by omega) (by omega)).trans (fg.get j hj))⟩⟩
  rcases ht.shape with rfl | ⟨iv, rfl⟩
  all_goals
   simp (maxSteps := 1000000) -dsimp (disch := (repeat first | rw [nxn] | rw [nxp]); try omega) only [go_sem, hc, hc1, g2, g4]
   exact ⟨⟨_, t', rfl, (fin _ (by rfl) (by intro j hj; exact AH.get_put_ne hj)).1, hit⟩, (fin _ (by rfl) (by intro j hj; exact AH.get_put_ne hj)).2⟩
/-- All pairs of a tree, one after the other, to a function that wants them all. -/
theorem eachC (hS : Tb S) {K : Nat → Nat} {h0 : AH} {fn : FuncId} {cs : List AV} (hb : bodied Tryz.prog fn = true) (hoc : oneA (.func (.func fn) [] cs) = true) {N : Nat} {J : KL (List Nat) → AH → Prop}
  (hJ : ∀ pre h, J pre h → h0.nx ≤ h.nx ∧ ∀ j, j < h0.nx → K j = 0 → h.get j = h0.get j)
  (hst : ∀ pre h id k x w z lv rv, J pre h → pre.length < N → h.get id = some (.cells [.str k, .str x, w, z, lv, rv] true false) → id < h0.nx → K id = 0 → oneA lv = true → oneA rv = true → RnC Tryz.prog S fn (.ptr id 0 :: cs) h fun r h' => r = .bool true ∧ J (pre ++ [(k, x)]) h') :
  ∀ (t : Tp) {v : AV} {pre : KL (List Nat)} {h : AH}, TpA K h0 v t → J pre h → pre.length + t.size ≤ N → RnC Tryz.prog S 73 [v, .str [], .func (.func fn) [] cs] h fun r h' => r = .bool true ∧ J (pre ++ ino t) h'
 | .nil, v, pre, h, hv, hj, hn => by
  refine RnC.enter' Tryz.f73 _ 42 [.tmp 6] (hS.nt _ _ _ (by simp)) bd73 Tryz.func73 rfl rfl rfl ?_
  cases hv
  simp (maxSteps := 1000000) -dsimp (disch := (repeat first | rw [nxn] | rw [nxp]); try omega) only [go_sem, eqNn, hoc]
  exact ⟨trivial, by rw [show ino .nil = [] from rfl, List.append_nil]; exact hj⟩
 | .nd k x l r, v, pre, h, hv, hj, hn => by
  refine RnC.enter' Tryz.f73 _ 42 [.tmp 6] (hS.nt _ _ _ (by simp)) bd73 Tryz.func73 rfl rfl rfl ?_
  obtain ⟨id, lv, rv, rfl, h2, h3, h4, h5, h6⟩ := hv
  have hsz : (Tp.nd k x l r).size = l.size + r.size + 1 := rfl
  have ol := h5.one.1
  have or_ := h6.one.1
  have hc := ((hJ _ _ hj).2 id h3 h4).trans h2
  have l0 : lessA k [] = false := by cases k <;> rfl
  simp (maxSteps := 1000000) -dsimp (disch := (repeat first | rw [nxn] | rw [nxp]); try omega) only [go_sem, eqNp, hc, ltSt, l0, b0e, hoc, ol, or_]
  refine callK_of (eachC hS hb hoc hJ hst l h5 hj (by omega)) ?_
  rintro w g ⟨rfl, hj1⟩
  have hc1 := ((hJ _ _ hj1).2 id h3 h4).trans h2
  have hls : (ino l).length = l.size := (Tp.size_eq l).symm
  simp (maxSteps := 1000000) -dsimp (disch := (repeat first | rw [nxn] | rw [nxp]); try omega) only [go_sem, hoc, hb]
  refine callK_of (hst _ _ id k x _ _ lv rv hj1 (by rw [List.length_append]; omega) hc1 h3 h4 ol or_) ?_
  rintro w g2 ⟨rfl, hj2⟩
  have hc2 := ((hJ _ _ hj2).2 id h3 h4).trans h2
  simp (maxSteps := 1000000) -dsimp (disch := (repeat first | rw [nxn] | rw [nxp]); try omega) only [go_sem, hc2, hoc, or_, b0e]
  refine callK_of (eachC hS hb hoc hJ hst r h6 hj2 (by simp only [List.length_append, List.length_singleton]; omega)) ?_
  rintro w g3 ⟨rfl, hj3⟩
  try simp (maxSteps := 1000000) -dsimp (disch := (repeat first | rw [nxn] | rw [nxp]); try omega) only [go_sem]
  refine ⟨by first | trivial | rfl, ?_⟩
  have e : pre ++ ino (.nd k x l r) = pre ++ ino l ++ [(k, x)] ++ ino r := by
   show pre ++ (ino l ++ (k, x) :: ino r) = _
   simp
  rw [e]; exact hj3
theorem sizeC (hS : Tb S) {K : Nat → Nat} {h : AH} {v : AV} {t : Tp} (hv : TpA K h v t) : RnC Tryz.prog S 32 [.agg [v]] h fun r h' => r = .int .i64 (t.size : Nat) ∧ Fr h h' := by
 refine RnC.enter' Tryz.f32 _ 6 [.tmp 2] (hS.nt _ _ _ (by simp)) bd32 Tryz.func32 rfl rfl rfl ?_
 have ov := hv.one.1
 have om := ov
 unfold oneA at om
 simp (maxSteps := 1000000) -dsimp (disch := (repeat first | rw [nxn] | rw [nxp]); try omega) only [go_sem, ov, om]
 refine callK_of (countC hS (hv.fr (Fr.new _ _))) ?_
 rintro w g ⟨rfl, rfl⟩
 try simp (maxSteps := 1000000) -dsimp (disch := (repeat first | rw [nxn] | rw [nxp]); try omega) only [go_sem]
 exact ⟨by first | trivial | rfl, Fr.new _ _⟩
end
end Go.Proofs.YtmphlckolampoaaGreatDoor.tbl
