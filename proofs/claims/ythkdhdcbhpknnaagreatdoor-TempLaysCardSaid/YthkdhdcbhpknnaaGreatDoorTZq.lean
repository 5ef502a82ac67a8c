/- The law TempLays, walked. Conditions: those of its summaries. -/
import Derived.Test.YthkdhdcbhpknnaaGreatDoorTZp
namespace Go.Proofs.YthkdhdcbhpknnaaGreatDoor.tre
open Go Go.Abs Go.Abs.Wal Go.Proofs
set_option maxRecDepth 100000
set_option linter.unusedVariables false
set_option linter.unusedSimpArgs false
theorem Lys.of {K : Nat → Nat} {h h' : AH} {v : AV} {L : List Ly} (hA : Lys (fun _ => 0) h v L) (f : Fr h h') (hk : ∀ j, j < h.nx → K j = 0) : Lys K h' v L := by
 refine ⟨fun a ha => ⟨Bz.of (hA.1 a ha).b.1 f hk, (hA.1 a ha).bl⟩, ?_⟩
 rcases hA.2 with h1 | ⟨id, cs, o, t, h1, h2, h3, h4, h5⟩
 ·exact .inl h1
 ·exact .inr ⟨id, cs, o, t, h1, (f.get _ h3).trans h2, Nat.lt_of_lt_of_le h3 f.nx, hk _ h3, h5⟩
theorem Fls.fr {n0 : Nat} {h h' : AH} {v : AV} {l : List (Pth × List Nat)} (hb : Fls n0 h v l) (f : Fr h h') : Fls n0 h' v l := by
 obtain ⟨L, h1, h2, h3⟩ := hb
 exact ⟨L, h1.fr f, h2, fun e he => (h3 e he).fr f⟩
theorem doAllL_idx {n : Nat} : ∀ {l : List Nte} {E : Ixs}, (∀ e ∈ E, e.2 < n) → (∀ t ∈ l, NteOK n t) → ∀ e ∈ doAllL l E, e.2 < n
 | [], E, h, _ => h
 | t :: l, E, h, hl => by
  refine doAllL_idx (l := l) (E := doL t E) (fun e he => ?_) fun t ht => hl t (List.mem_cons_of_mem _ ht)
  cases t with
  | mk p i =>
   rcases putL_mem he with rfl | he
   ·exact (hl _ (List.mem_cons_self ..)).1
   ·exact h e he
  | ren a b => exact h e he
  | rm p => exact h e (delS_mem he)
theorem Ds.crashOK {d m c : Nat} {R T : TT} (h : Ds d m c R T) (hd : d ≤ 16384) (i : Nat) : (doAllL (R.notes.take i) R.safe).length ≤ 16384 ∧ ∀ e ∈ doAllL (R.notes.take i) R.safe, e.2 < R.files.length := by
 have w := h.wfR
 obtain ⟨D, a1, a2, b1, b2, b3, b4, b5, b6, b7⟩ := h.lv
 obtain ⟨l1, l2⟩ := doAllL_in (D := D) (l := R.notes.take i) b2 b4 fun n hn => b5 n (List.mem_of_mem_take hn)
 refine ⟨Nat.le_trans (rise_le l1 l2) (by omega), doAllL_idx (fun e he => ?_) fun t ht => w.notes t (List.mem_of_mem_take ht)⟩
 exact (w.safe.2 e.1 e.2 (val_of_mem (riseE_once b2) he)).1
/-- What holds between the actions. -/
def Lt (pa pb : Nat) (v : AV) (L : List Ly) (i : Nat) (g : AH) : Prop := ∃ T R Ks, Bt pa pb T R g Ks ∧ Ds i (3 * i) (400 * i) R T ∧ Lys Ks g v L
section
variable {S : Sums}
set_option maxHeartbeats 64000000 in
theorem lays4 (hS : Lw S) (hL : ∀ h, S 5 [] h = some (.bool true, h)) {h : AH} {v : AV} {L : List Ly} {room : Int} (hA : Lys (fun _ => 0) h v L) :
  RnC Tryz.prog S 4 [.int .i64 room, v] h fun r _ => r = .bool true := by
 refine RnC.enter' Tryz.f4 _ 189 [.tmp 4] (hS.nl _ _ _ (by simp)) bd4 Tryz.func4 rfl rfl rfl ?_
 obtain ⟨ln, ol⟩ := hA.ln
 simp (maxSteps := 1000000) -dsimp (disch := (repeat first | rw [nxn] | rw [nxp]); try omega) only [go_sem]
 refine callK_of (RnC.sum (hL _) (Q := fun v h' => v = .bool true ∧ h' = h) ⟨rfl, rfl⟩) ?_
 rintro r g ⟨rfl, rfl⟩
 simp (maxSteps := 1000000) -dsimp (disch := (repeat first | rw [nxn] | rw [nxp]); try omega) only [go_sem]
 refine callK_of (newC hS.toSt room) ?_
 rintro r g1 ⟨f1, hr⟩
 by_cases hroom : 0 ≤ room ∧ room ≤ 67108864
 ·rw [if_pos hroom] at hr
  obtain ⟨rfl, n1, hTa⟩ := hr
  simp (maxSteps := 1000000) -dsimp (disch := (repeat first | rw [nxn] | rw [nxp]); try omega) only [go_sem]
  refine callK_of (newD hS.toDt room) ?_
  rintro r g2 ⟨f2, hr2⟩
  rw [if_pos hroom] at hr2
  obtain ⟨pb, hpb, rfl, Kb, hTb, hKb⟩ := hr2
  by_cases c40 : (40 : Int) < (L.length : Nat)
  ·simp (maxSteps := 1000000) -dsimp (disch := (repeat first | rw [nxn] | rw [nxp]); try omega) only [go_sem, ol, ln, c40]
  ·simp (maxSteps := 1000000) -dsimp (disch := (repeat first | rw [nxn] | rw [nxp]); try omega) only [go_sem, ol, ln, c40]
   obtain ⟨Ks0, bt0, ly0⟩ : ∃ Ks, Bt (g.nx + 2) pb (newT room) (newT room) g2 Ks ∧ Lys Ks g2 v L := by
    refine ⟨_, ⟨_, _, _, _, _, Kb, _, _, _, _, hTa.fr f2, hTb, fun j => ?_, rfl⟩, hA.of (f1.trans f2) fun j hj => ?_⟩
    ·by_cases hj : j < g1.nx
     ·exact .inr (hKb j hj)
     ·exact .inl ((if_neg (by omega)).trans ((if_neg (by omega)).trans (if_neg (by omega))))
    ·have e1 : (if j = g.nx + 2 then 1 else if j = g.nx then 2 else if j = g.nx + 1 then 3 else 0) = 0 := (if_neg (by omega)).trans ((if_neg (by omega)).trans (if_neg (by omega)))
     have e2 := hKb j (by omega)
     show (if j = g.nx + 2 then 1 else if j = g.nx then 2 else if j = g.nx + 1 then 3 else 0) + Kb j = 0
     rw [e1, e2]
   have ds0 : Ds 0 0 0 (newT room) (newT room) := ⟨DRt.new room, Wf.new hroom, Lv.new room⟩
   generalize g.nx + 2 = pa at bt0 ⊢
   clear hTa hTb hKb hA f1 f2 n1
   have ls : ∀ g s, evLen Tryz.prog g #[9] (.str s) = some (.int .i64 ((s.length : Nat) : Int)) := fun g s => by simp [evLen, Tryz.underlying9]
   refine loopK_of (RnL.rounds (Q := fun ex u => u.d = [] ∧ u.h = g2 ∧ u.t.get 1 = some v ∧ u.t.get 5 = some (.ptr pa 0) ∧ u.t.get 7 = some (.ptr pb 0) ∧ (ex = .exit 0 ∧ (∀ a ∈ L, a.l.length ≤ 300 ∧ a.p.length ≤ 300) ∨ ex = .ret ∧ u.t.get 4 = some (.bool true)))
    (fun m u => u.d = [] ∧ u.h = g2 ∧ u.t.get 1 = some v ∧ u.t.get 5 = some (.ptr pa 0) ∧ u.t.get 7 = some (.ptr pb 0) ∧ ∃ i : Nat, u.t.get 9 = some (.int .i64 (i : Nat)) ∧ i ≤ L.length ∧ (∀ (k : Nat) a, k < i → L[k]? = some a → a.l.length ≤ 300 ∧ a.p.length ≤ 300) ∧ m = L.length - i) ?_ L.length ?_) ?_
   ·rintro m ⟨t, gx, d⟩ ⟨e2, e1, v1, v5, v7, i, v9, hi, hall, rfl⟩
    dsimp only at e1 e2 v1 v5 v7 v9
    subst e1 e2
    by_cases c4 : (i : Int) < (L.length : Nat)
    ·have hil : i < L.length := by omega
     obtain ⟨a, ha⟩ : ∃ a, L[i]? = some a := ⟨_, List.getElem?_eq_getElem hil⟩
     have ham : a ∈ L := List.mem_iff_getElem?.2 ⟨i, ha⟩
     obtain ⟨lb, sb, ob⟩ := bsLn (ly0.1 a ham).b.1
     rcases ly0.2 with ⟨_, h0⟩ | ⟨id, cs, o, tx, rfl, hg, hid, hk0, hcs⟩
     ·rw [h0] at hil; simp at hil
     obtain ⟨hle, hc⟩ := hcs i a ha
     have x1 : cs[i * 4 + 1]? = some (.str a.p) := Ly.get hc 1 (by decide)
     have x2 : cs[i * 4 + 2]? = some a.bv := Ly.get hc 2 (by decide)
     by_cases c5 : (300 : Int) < (a.l.length : Nat)
     ·simp (maxSteps := 1000000) -dsimp (disch := (repeat first | rw [nxn] | rw [nxp]); try omega) only [go_sem, ln, c4, hil, hg, x1, x2, lb, ob, ls, c5, v1, v5, v7, v9]
      exact ⟨trivial, trivial, trivial, trivial, trivial, .inr ⟨trivial, trivial⟩⟩
     ·by_cases c6 : (300 : Int) < (a.p.length : Nat)
      ·simp (maxSteps := 1000000) -dsimp (disch := (repeat first | rw [nxn] | rw [nxp]); try omega) only [go_sem, ln, c4, hil, hg, x1, x2, lb, ob, ls, c5, c6, v1, v5, v7, v9]
       exact ⟨trivial, trivial, trivial, trivial, trivial, .inr ⟨trivial, trivial⟩⟩
      ·simp (maxSteps := 1000000) -dsimp (disch := (repeat first | rw [nxn] | rw [nxp]); try omega) only [go_sem, ln, c4, hil, hg, x1, x2, lb, ob, ls, c5, c6, v1, v5, v7, v9]
       refine ⟨L.length - (i + 1), by omega, trivial, trivial, trivial, trivial, trivial, i + 1, rfl, by omega, fun k b hk hb => ?_, rfl⟩
       by_cases hki : k = i
       ·subst hki
        rw [ha] at hb
        cases hb
        omega
       ·exact hall k b (by omega) hb
    ·have : i = L.length := by omega
     subst this
     simp (maxSteps := 1000000) -dsimp (disch := (repeat first | rw [nxn] | rw [nxp]); try omega) only [go_sem, ln, c4, v1, v5, v7, v9]
     refine ⟨trivial, trivial, trivial, trivial, trivial, .inl ⟨trivial, fun a ha => ?_⟩⟩
     obtain ⟨k, hk⟩ := List.mem_iff_getElem?.1 ha
     exact hall k a (List.getElem?_eq_some_iff.1 hk).1 hk
   ·simp (maxSteps := 1000000) -dsimp (disch := (repeat first | rw [nxn] | rw [nxp]); try omega) only [go_sem]
    exact ⟨trivial, trivial, trivial, trivial, trivial, 0, rfl, Nat.zero_le _, fun k a hk => absurd hk (Nat.not_lt_zero _), rfl⟩
   rintro ex ⟨t, gx, d⟩ ⟨e2, e1, v1, v5, v7, ⟨rfl, hall⟩ | ⟨rfl, v4⟩⟩
   rotate_left
   ·dsimp only at e1 e2 v4
    subst e1 e2
    simp (maxSteps := 1000000) -dsimp (disch := (repeat first | rw [nxn] | rw [nxp]); try omega) only [go_sem, v4]
   dsimp only at e1 e2 v1 v5 v7
   subst e1 e2
   simp (maxSteps := 1000000) -dsimp (disch := (repeat first | rw [nxn] | rw [nxp]); try omega) only [go_sem, v1, v5, v7]
   refine loopK_of (RnL.rounds (Q := fun ex u => ex = .exit 2 ∧ u.d = [] ∧ u.t.get 5 = some (.ptr pa 0) ∧ u.t.get 7 = some (.ptr pb 0) ∧ Lt pa pb v L L.length u.h)
    (fun m u => u.d = [] ∧ u.t.get 1 = some v ∧ u.t.get 5 = some (.ptr pa 0) ∧ u.t.get 7 = some (.ptr pb 0) ∧ ∃ i : Nat, u.t.get 10 = some (.int .i64 (i : Nat)) ∧ i ≤ L.length ∧ m = L.length - i ∧ Lt pa pb v L i u.h) ?_ L.length ?_) ?_
   ·rintro m ⟨t, gx, d⟩ ⟨e2, v1, v5, v7, i, v10, hi, rfl, hlt⟩
    dsimp only at e2 v1 v5 v7 v10 hlt
    subst e2
    by_cases c4 : (i : Int) < (L.length : Nat)
    ·have hil : i < L.length := by omega
     obtain ⟨a, ha⟩ : ∃ a, L[i]? = some a := ⟨_, List.getElem?_eq_getElem hil⟩
     have ham : a ∈ L := List.mem_iff_getElem?.2 ⟨i, ha⟩
     obtain ⟨hal, hap⟩ := hall a ham
     obtain ⟨T, R, Ks, hb, ds, ly⟩ := hlt
     obtain ⟨lb, sb, ob⟩ := bsLn (ly.1 a ham).b.1
     have hcx : ∃ id cs o tx, v = .sl id 0 L.length 4 none ∧ gx.get id = some (.cells cs o tx) ∧ i * 4 + 4 ≤ cs.length ∧ (cs.drop (i * 4)).take 4 = [.int .i64 a.k, .str a.p, a.bv, .int .i64 a.n] := by
      rcases ly.2 with ⟨_, h0⟩ | ⟨id, cs, o, tx, h1, hg, hid, hk0, hcs⟩
      ·rw [h0] at hil; simp at hil
      ·obtain ⟨hle, hc⟩ := hcs i a ha
       exact ⟨id, cs, o, tx, h1, hg, hle, hc⟩
     obtain ⟨id, cs, o, tx, hvv, hg, hle, hc⟩ := hcx
     have v1' := v1
     rw [hvv] at v1'
     have ln' := ln
     rw [hvv] at ln'
     have b0 : bytesOf { data := #[] } = [] := rfl
     have om := ob
     unfold oneA at om
     simp (maxSteps := 1000000) -dsimp (disch := (repeat first | rw [nxn] | rw [nxp]); try omega) only [go_sem, ln', c4, hil, hg, hle, hc, ob, om, v1', v5, v7, v10]
     refine callK_of (pkC hS (n := 6) (by decide) (by decide)) ?_
     rintro r gy ⟨rfl, rfl⟩
     generalize hg3 : ((gx.new (.cells [.int .i64 0, .str [], .nilsl, .int .i64 0] true false)).put gx.nx (.cells [.int .i64 a.k, .str a.p, a.bv, .int .i64 a.n] true false)) = g3
     have n3 : g3.nx = gx.nx + 1 := by rw [← hg3]; rfl
     have f3 : Fr gx g3 := by rw [← hg3]; exact (Fr.new _ _).put _ (Nat.le_refl _)
     have c3 : g3.get gx.nx = some (.cells [.int .i64 a.k, .str a.p, a.bv, .int .i64 a.n] true false) := by rw [← hg3]; exact AH.get_put_eq rfl
     have hb3 := hb.fr f3
     have ly3 := ly.gr (frGr f3 Ks)
     have k3 : Ks gx.nx = 0 := hb.top _ (Nat.le_refl _)
     have hi40 : i < 40 := by omega
     have bmT : Bm (i + 3 * i) (400 * i) T := ds.dr.bm ds.lv.bm
     have smT : Sm T := Bm.sm bmT (by omega) (by omega)
     have smR : Sm R := ds.sm (by omega) (by omega)
     have ssp : sameAV 20 (.str a.p) (.str a.p) = true := by simp [sameAV, eqL_eq]
     have q0 := pkn_ge a.k (n := 6) (by decide)
     have q6 := pkn_lt a.k (n := 6) (by decide)
     generalize pkn a.k 6 = q at q0 q6 ⊢
     have hq : q = 0 ∨ q = 1 ∨ q = 2 ∨ q = 3 ∨ q = 4 ∨ q = 5 := by omega
     rcases hq with rfl | rfl | rfl | rfl | rfl | rfl
     ·simp (maxSteps := 1000000) -dsimp (disch := (repeat first | rw [nxn] | rw [nxp]); try omega) only [go_sem, b0, c3]
      refine syDraw.keepN 6 (fun j => j = gx.nx) (by kernel_rfl) (by kernel_rfl) rfl ?_
      simp (maxSteps := 1000000) -dsimp (disch := (repeat first | rw [nxn] | rw [nxp]); try omega) only [go_sem, c3, ssp, sb, ob, v5, v7, true_and, implies_true, sv_int, sv_bool]
      have fx : Fr g3 { tr := g3.tr, nx := g3.nx + 12 } := (Fr.refl g3).more _ (by omega)
      refine callK_of (ownL hS ((ly3.1 a ham).b.1.fr fx) (by omega)) ?_
      rintro r g4 ⟨hbn, f4⟩
      have f34 := fx.trans f4
      have hlt4 : gx.nx < g4.nx := by have := f34.nx; omega
      refine ⟨fun j hj => by rw [hj]; exact f4.get _ (show gx.nx < g3.nx + 12 by omega), ?_⟩
      have hb4 := hb3.fr f34
      have ly4 := ly3.gr (frGr f34 Ks)
      have c4' : g4.get gx.nx = _ := (f34.get _ (by omega)).trans c3
      have or4 := (bsLn hbn.bs).2.2
      try simp (maxSteps := 1000000) -dsimp (disch := (repeat first | rw [nxn] | rw [nxp]); try omega) only [go_sem, c4', or4, v5, v7]
      refine callK_of (hb4.opA (φ := fun r => r = .tup [.str (layT a.p a.l T).1.1, .int .i64 ((layT a.p a.l T).1.2 : Nat)]) fun Ka na sa ca ρa hTr hka => layC hS.toTw hTr bmT (by omega) (by omega) ⟨hbn.bs, fun id off n z c hh => hka _ (hb3.top id (by have h9 : g3.nx + 12 ≤ id := bnGe hbn hh; omega))⟩ (ly3.1 a ham).bl (by omega)) ?_
      rintro r5 g5 ⟨rfl, K5, hb5, gr5⟩
      have ly5 := ly4.gr gr5
      have c5 : g5.get gx.nx = _ := (gr5.get _ hlt4 k3).1.trans c4'
      simp (maxSteps := 1000000) -dsimp (disch := (repeat first | rw [nxn] | rw [nxp]); try omega) only [go_sem, c5, ob, v5, v7]
      refine callK_of (hb5.opB (φ := fun r => r = .tup [.str (layD a.p a.l R).1.1, .int .i64 ((layD a.p a.l R).1.2 : Nat)]) fun Kb lb sb nb ρb hRt hkb => layDC hS.toDu hRt ds (by omega) (by omega) ⟨(ly5.1 a ham).b.1, fun id off n z c hh => hkb _ ((ly5.1 a ham).b.2 id off n z c hh)⟩ (ly5.1 a ham).bl (by omega)) ?_
      rintro r6 g6 ⟨hr6, K6, hb6, gr6⟩
      have eL := drLay ds.dr a.p a.l
      rw [eL.1] at hr6
      subst hr6
      have ds6 : Ds (i + 1) (3 * (i + 1)) (400 * (i + 1)) (layD a.p a.l R).2 (layT a.p a.l T).2 := ⟨eL.2, hb6.wf, (lvLay ds.lv a.p a.l).mono (by omega) (by omega) (by omega)⟩
      have ly6 := ly5.gr gr6
      generalize (layD a.p a.l R).2 = R6 at hb6 ds6
      generalize layT a.p a.l T = Z at hb6 ds6 ⊢
      obtain ⟨⟨z1, z2⟩, T6⟩ := Z
      dsimp only at hb6 ds6
      simp (maxSteps := 1000000) -dsimp (disch := (repeat first | rw [nxn] | rw [nxp]); try omega) only [go_sem, neSt2, v1, v5, v7, v10]
      have nwT : T6.now.length ≤ 16384 := (Bm.sm (ds6.dr.bm ds6.lv.bm) (by omega) (by omega)).now
      have nwR : R6.now.length ≤ 16384 := (ds6.sm (by omega) (by omega)).now
      have lnA : ((sortS (T6.now.map (·.1))).filter tempedS).length ≤ 1000000 := by
       have := List.length_filter_le tempedS (sortS (T6.now.map (·.1)))
       rw [tre.sortS_len, List.length_map] at this
       omega
      obtain ⟨Ka, na, sa, ca, ρa, Kb, lb', sb', nb, ρb, hTr, hRt, happ, hKs⟩ := _root_.id hb6
      refine callK_of (allC3 hS.toPw hTr nwT) ?_
      rintro ra ga ⟨fa, ca', na'⟩
      have oa := ca'.one.1
      try simp (maxSteps := 1000000) -dsimp (disch := (repeat first | rw [nxn] | rw [nxp]); try omega) only [go_sem, oa, v5, v7, v10]
      refine callK_of (allDC hS.toDu (hRt.fr fa) nwR) ?_
      rintro rb gb ⟨sB, fb⟩
      have ob2 := (ssLn sB).2.2
      try simp (maxSteps := 1000000) -dsimp (disch := (repeat first | rw [nxn] | rw [nxp]); try omega) only [go_sem, oa, ob2, v5, v7, v10]
      refine callK_of (textsG hS (ca'.fr fb) sB.cs lnA) ?_
      rintro rc gc ⟨rfl, fc⟩
      rw [decide_eq_true (all_eq ds6.dr ds6.lv).symm]
      simp (maxSteps := 1000000) -dsimp (disch := (repeat first | rw [nxn] | rw [nxp]); try omega) only [go_sem, b0, v5, v7, v10]
      have f36 := fa.trans (fb.trans fc)
      refine callK_of (pathsC hS.toPw (hTr.fr f36) nwT) ?_
      rintro rd gd ⟨sD, fd⟩
      have od := (ssLn sD).2.2
      try simp (maxSteps := 1000000) -dsimp (disch := (repeat first | rw [nxn] | rw [nxp]); try omega) only [go_sem, od, b0, v5, v7, v10]
      refine callK_of (pathsD hS.toDt (hRt.fr (f36.trans fd)) nwR []) ?_
      rintro re ge ⟨sE, fe⟩
      have oe := (ssLn sE).2.2
      try simp (maxSteps := 1000000) -dsimp (disch := (repeat first | rw [nxn] | rw [nxp]); try omega) only [go_sem, od, oe, v5, v7, v10]
      refine callK_of (textsG hS (sD.fr fe).cs sE.cs (by rw [tre.sortS_len, List.length_map]; omega)) ?_
      rintro rf gf ⟨rfl, ff⟩
      rw [decide_eq_true (paths_eq ds6.dr).symm]
      have fz := f36.trans (fd.trans (fe.trans ff))
      simp (maxSteps := 1000000) -dsimp (disch := (repeat first | rw [nxn] | rw [nxp]); try omega) only [go_sem, v1, v5, v7, v10]
      try simp only [true_and]
      exact ⟨L.length - (i + 1), by omega, i + 1, rfl, by omega, rfl, _, _, _, hb6.fr fz, ds6, ly6.gr (frGr fz _)⟩
     ·simp (maxSteps := 1000000) -dsimp (disch := (repeat first | rw [nxn] | rw [nxp]); try omega) only [go_sem, v5, v7]
      refine callK_of (hb3.opA (φ := fun r => r = .tup [.int .i64 ((cleanG ((sortS (T.now.map (·.1))).filter tempedS) T).1.1 : Nat), .int .i64 ((cleanG ((sortS (T.now.map (·.1))).filter tempedS) T).1.2 : Nat)]) fun Ka na sa ca ρa hTr hka => cleanC3 hS.toPw hTr bmT (by omega) (by omega)) ?_
      rintro r5 g5 ⟨rfl, K5, hb5, gr5⟩
      have ly5 := ly3.gr gr5
      simp (maxSteps := 1000000) -dsimp (disch := (repeat first | rw [nxn] | rw [nxp]); try omega) only [go_sem, v5, v7]
      refine callK_of (hb5.opB (φ := fun r => r = .tup [.int .i64 ((cleanD ((R.now.map (·.1)).filter fun a => preS a tmpS) R).1.1 : Nat), .int .i64 ((cleanD ((R.now.map (·.1)).filter fun a => preS a tmpS) R).1.2 : Nat)]) (R' := (cleanD ((R.now.map (·.1)).filter fun a => preS a tmpS) R).2) fun Kb lb sb nb ρb hRt hkb => cleanDC hS.toDu hRt ds (by omega) (by omega)) ?_
      rintro r6 g6 ⟨hr6, K6, hb6, gr6⟩
      rw [all_eq ds.dr ds.lv] at hr6 hb6
      have hll : ((sortS (T.now.map (·.1))).filter tempedS).length ≤ T.now.length := by
       have := List.length_filter_le tempedS (sortS (T.now.map (·.1)))
       rwa [tre.sortS_len, List.length_map] at this
      have hnw := bmT.now
      generalize (sortS (T.now.map (·.1))).filter tempedS = lc at hr6 hb6 hb5 hll ⊢
      have eL := drClean ds.dr lc
      rw [eL.1] at hr6
      subst hr6
      have ds6 : Ds (i + 1) (3 * (i + 1)) (400 * (i + 1)) (cleanD lc R).2 (cleanG lc T).2 := ⟨eL.2, hb6.wf, (lvClean ds.lv lc).mono (by omega) (by omega) (by omega)⟩
      have ly6 := ly5.gr gr6
      generalize (cleanD lc R).2 = R6 at hb6 ds6
      generalize cleanG lc T = Z at hb6 ds6 ⊢
      obtain ⟨⟨z1, z2⟩, T6⟩ := Z
      dsimp only at hb6 ds6
      try simp (maxSteps := 1000000) -dsimp (disch := (repeat first | rw [nxn] | rw [nxp]); try omega) only [go_sem, v1, v5, v7, v10]
      have nwT : T6.now.length ≤ 16384 := (Bm.sm (ds6.dr.bm ds6.lv.bm) (by omega) (by omega)).now
      have nwR : R6.now.length ≤ 16384 := (ds6.sm (by omega) (by omega)).now
      have lnA : ((sortS (T6.now.map (·.1))).filter tempedS).length ≤ 1000000 := by
       have := List.length_filter_le tempedS (sortS (T6.now.map (·.1)))
       rw [tre.sortS_len, List.length_map] at this
       omega
      obtain ⟨Ka, na, sa, ca, ρa, Kb, lb', sb', nb, ρb, hTr, hRt, happ, hKs⟩ := _root_.id hb6
      refine callK_of (allC3 hS.toPw hTr nwT) ?_
      rintro ra ga ⟨fa, ca', na'⟩
      have oa := ca'.one.1
      try simp (maxSteps := 1000000) -dsimp (disch := (repeat first | rw [nxn] | rw [nxp]); try omega) only [go_sem, oa, v5, v7, v10]
      refine callK_of (allDC hS.toDu (hRt.fr fa) nwR) ?_
      rintro rb gb ⟨sB, fb⟩
      have ob2 := (ssLn sB).2.2
      try simp (maxSteps := 1000000) -dsimp (disch := (repeat first | rw [nxn] | rw [nxp]); try omega) only [go_sem, oa, ob2, v5, v7, v10]
      refine callK_of (textsG hS (ca'.fr fb) sB.cs lnA) ?_
      rintro rc gc ⟨rfl, fc⟩
      rw [decide_eq_true (all_eq ds6.dr ds6.lv).symm]
      simp (maxSteps := 1000000) -dsimp (disch := (repeat first | rw [nxn] | rw [nxp]); try omega) only [go_sem, b0, v5, v7, v10]
      have f36 := fa.trans (fb.trans fc)
      refine callK_of (pathsC hS.toPw (hTr.fr f36) nwT) ?_
      rintro rd gd ⟨sD, fd⟩
      have od := (ssLn sD).2.2
      try simp (maxSteps := 1000000) -dsimp (disch := (repeat first | rw [nxn] | rw [nxp]); try omega) only [go_sem, od, b0, v5, v7, v10]
      refine callK_of (pathsD hS.toDt (hRt.fr (f36.trans fd)) nwR []) ?_
      rintro re ge ⟨sE, fe⟩
      have oe := (ssLn sE).2.2
      try simp (maxSteps := 1000000) -dsimp (disch := (repeat first | rw [nxn] | rw [nxp]); try omega) only [go_sem, od, oe, v5, v7, v10]
      refine callK_of (textsG hS (sD.fr fe).cs sE.cs (by rw [tre.sortS_len, List.length_map]; omega)) ?_
      rintro rf gf ⟨rfl, ff⟩
      rw [decide_eq_true (paths_eq ds6.dr).symm]
      have fz := f36.trans (fd.trans (fe.trans ff))
      simp (maxSteps := 1000000) -dsimp (disch := (repeat first | rw [nxn] | rw [nxp]); try omega) only [go_sem, v1, v5, v7, v10]
      try simp only [true_and]
      exact ⟨L.length - (i + 1), by omega, i + 1, rfl, by omega, rfl, _, _, _, hb6.fr fz, ds6, ly6.gr (frGr fz _)⟩
     ·simp (maxSteps := 1000000) -dsimp (disch := (repeat first | rw [nxn] | rw [nxp]); try omega) only [go_sem, v5, v7]
      refine syDraw.keepN 7 (fun j => j = gx.nx) (by kernel_rfl) (by kernel_rfl) rfl ?_
      simp (maxSteps := 1000000) -dsimp (disch := (repeat first | rw [nxn] | rw [nxp]); try omega) only [go_sem, c3, ssp, v5, v7, true_and, implies_true, sv_int, sv_bool]
      have fx : Fr g3 { tr := g3.tr, nx := g3.nx + 10 } := (Fr.refl g3).more _ (by omega)
      refine callK_of ((hb3.fr fx).opA (φ := fun r => r = .int .i64 ((makeT T (okP a.p) a.p).1 : Nat)) (T' := (makeT T (okP a.p) a.p).2) fun Ka na sa ca ρa hTr hka => makeC hS.toSt hTr smT a.p) ?_
      rintro r5 g5 ⟨rfl, K5, hb5, gr5⟩
      have ly5 := (ly3.gr (frGr fx Ks)).gr gr5
      have k5 : g5.get gx.nx = g3.get gx.nx := (gr5.get _ (show gx.nx < g3.nx + 10 by omega) k3).1
      refine ⟨fun j hj => by rw [hj]; exact k5, ?_⟩
      have c5 : g5.get gx.nx = _ := k5.trans c3
      simp (maxSteps := 1000000) -dsimp (disch := (repeat first | rw [nxn] | rw [nxp]); try omega) only [go_sem, c5, ssp, v5, v7, true_and, implies_true, sv_int, sv_bool]
      refine callK_of (hb5.opB (φ := fun r => r = .int .i64 ((makeL R (okP a.p) a.p).1 : Nat)) (R' := (makeL R (okP a.p) a.p).2) fun Kb lb sb nb ρb hRt hkb => makeD hS.toDt hRt ds.wfR ⟨ds.dr.now.rise, ds.dr.safe.rise⟩ smR a.p) ?_
      rintro r6 g6 ⟨hr6, K6, hb6, gr6⟩
      rw [(ds.dr.make (okP a.p) a.p).1] at hr6
      subst hr6
      have ds6 : Ds (i + 1) (3 * (i + 1)) (400 * (i + 1)) (makeL R (okP a.p) a.p).2 (makeT T (okP a.p) a.p).2 := (ds.make a.p).mono (by omega) (by omega) (by omega)
      have ly6 := ly5.gr gr6
      generalize (makeL R (okP a.p) a.p).2 = R6 at hb6 ds6
      generalize makeT T (okP a.p) a.p = Z at hb6 ds6 ⊢
      obtain ⟨z2, T6⟩ := Z
      dsimp only at hb6 ds6
      simp (maxSteps := 1000000) -dsimp (disch := (repeat first | rw [nxn] | rw [nxp]); try omega) only [go_sem, v1, v5, v7, v10]
      have nwT : T6.now.length ≤ 16384 := (Bm.sm (ds6.dr.bm ds6.lv.bm) (by omega) (by omega)).now
      have nwR : R6.now.length ≤ 16384 := (ds6.sm (by omega) (by omega)).now
      have lnA : ((sortS (T6.now.map (·.1))).filter tempedS).length ≤ 1000000 := by
       have := List.length_filter_le tempedS (sortS (T6.now.map (·.1)))
       rw [tre.sortS_len, List.length_map] at this
       omega
      obtain ⟨Ka, na, sa, ca, ρa, Kb, lb', sb', nb, ρb, hTr, hRt, happ, hKs⟩ := _root_.id hb6
      refine callK_of (allC3 hS.toPw hTr nwT) ?_
      rintro ra ga ⟨fa, ca', na'⟩
      have oa := ca'.one.1
      try simp (maxSteps := 1000000) -dsimp (disch := (repeat first | rw [nxn] | rw [nxp]); try omega) only [go_sem, oa, v5, v7, v10]
      refine callK_of (allDC hS.toDu (hRt.fr fa) nwR) ?_
      rintro rb gb ⟨sB, fb⟩
      have ob2 := (ssLn sB).2.2
      try simp (maxSteps := 1000000) -dsimp (disch := (repeat first | rw [nxn] | rw [nxp]); try omega) only [go_sem, oa, ob2, v5, v7, v10]
      refine callK_of (textsG hS (ca'.fr fb) sB.cs lnA) ?_
      rintro rc gc ⟨rfl, fc⟩
      rw [decide_eq_true (all_eq ds6.dr ds6.lv).symm]
      simp (maxSteps := 1000000) -dsimp (disch := (repeat first | rw [nxn] | rw [nxp]); try omega) only [go_sem, b0, v5, v7, v10]
      have f36 := fa.trans (fb.trans fc)
      refine callK_of (pathsC hS.toPw (hTr.fr f36) nwT) ?_
      rintro rd gd ⟨sD, fd⟩
      have od := (ssLn sD).2.2
      try simp (maxSteps := 1000000) -dsimp (disch := (repeat first | rw [nxn] | rw [nxp]); try omega) only [go_sem, od, b0, v5, v7, v10]
      refine callK_of (pathsD hS.toDt (hRt.fr (f36.trans fd)) nwR []) ?_
      rintro re ge ⟨sE, fe⟩
      have oe := (ssLn sE).2.2
      try simp (maxSteps := 1000000) -dsimp (disch := (repeat first | rw [nxn] | rw [nxp]); try omega) only [go_sem, od, oe, v5, v7, v10]
      refine callK_of (textsG hS (sD.fr fe).cs sE.cs (by rw [tre.sortS_len, List.length_map]; omega)) ?_
      rintro rf gf ⟨rfl, ff⟩
      rw [decide_eq_true (paths_eq ds6.dr).symm]
      have fz := f36.trans (fd.trans (fe.trans ff))
      simp (maxSteps := 1000000) -dsimp (disch := (repeat first | rw [nxn] | rw [nxp]); try omega) only [go_sem, v1, v5, v7, v10]
      try simp only [true_and]
      exact ⟨L.length - (i + 1), by omega, i + 1, rfl, by omega, rfl, _, _, _, hb6.fr fz, ds6, ly6.gr (frGr fz _)⟩
     ·simp (maxSteps := 1000000) -dsimp (disch := (repeat first | rw [nxn] | rw [nxp]); try omega) only [go_sem, c3, v5, v7]
      refine callK_of (pkC hS (n := 30) (by decide) (by decide)) ?_
      rintro r gy ⟨rfl, rfl⟩
      have m0 := pkn_ge a.n (n := 30) (by decide)
      have m6 := pkn_lt a.n (n := 30) (by decide)
      generalize hpq : pkn a.n 30 = fq at m0 m6
      try simp (maxSteps := 1000000) -dsimp (disch := (repeat first | rw [nxn] | rw [nxp]); try omega) only [go_sem, hpq, v5, v7]
      refine callK_of (hb3.opA (φ := fun r => r = .int .i64 0) (T' := { T with fuse := max (-1) fq }) fun Ka na sa ca ρa hTr hka => (fuseC hS.toSt hTr fq (by omega)).mono fun r h' hx => ⟨hx.1, _, _, _, _, _, hx.2.1, hx.2.2⟩) ?_
      rintro r5 g5 ⟨rfl, K5, hb5, gr5⟩
      have ly5 := ly3.gr gr5
      have c5 : g5.get gx.nx = _ := (gr5.get _ (by omega) k3).1.trans c3
      simp (maxSteps := 1000000) -dsimp (disch := (repeat first | rw [nxn] | rw [nxp]); try omega) only [go_sem, c5, v5, v7]
      refine callK_of (pkC hS (n := 30) (by decide) (by decide)) ?_
      rintro r gy ⟨rfl, rfl⟩
      rw [hpq]
      try simp (maxSteps := 1000000) -dsimp (disch := (repeat first | rw [nxn] | rw [nxp]); try omega) only [go_sem, v5, v7]
      refine callK_of (hb5.opB (φ := fun _ => True) (R' := { R with fuse := max (-1) fq }) fun Kb lb sb nb ρb hRt hkb => (fuseD hS.toDt hRt fq (by omega)).mono fun r h' hx => ⟨trivial, _, _, _, _, _, hx.1, hRt.grp (by rw [hx.2.1]; exact Nat.le_refl _) fun j hj hjp => hx.2.2 j hjp⟩) ?_
      rintro r6 g6 ⟨_, K6, hb6, gr6⟩
      have ds6 : Ds (i + 1) (3 * (i + 1)) (400 * (i + 1)) { R with fuse := max (-1) fq } { T with fuse := max (-1) fq } := ⟨ds.dr.setFuse _, hb6.wf, (ds.lv.setFuse _).mono (by omega) (by omega) (by omega)⟩
      have ly6 := ly5.gr gr6
      generalize ({ R with fuse := max (-1) fq } : TT) = R6 at hb6 ds6
      generalize ({ T with fuse := max (-1) fq } : TT) = T6 at hb6 ds6
      try simp (maxSteps := 1000000) -dsimp (disch := (repeat first | rw [nxn] | rw [nxp]); try omega) only [go_sem, v1, v5, v7, v10]
      have nwT : T6.now.length ≤ 16384 := (Bm.sm (ds6.dr.bm ds6.lv.bm) (by omega) (by omega)).now
      have nwR : R6.now.length ≤ 16384 := (ds6.sm (by omega) (by omega)).now
      have lnA : ((sortS (T6.now.map (·.1))).filter tempedS).length ≤ 1000000 := by
       have := List.length_filter_le tempedS (sortS (T6.now.map (·.1)))
       rw [tre.sortS_len, List.length_map] at this
       omega
      obtain ⟨Ka, na, sa, ca, ρa, Kb, lb', sb', nb, ρb, hTr, hRt, happ, hKs⟩ := _root_.id hb6
      refine callK_of (allC3 hS.toPw hTr nwT) ?_
      rintro ra ga ⟨fa, ca', na'⟩
      have oa := ca'.one.1
      try simp (maxSteps := 1000000) -dsimp (disch := (repeat first | rw [nxn] | rw [nxp]); try omega) only [go_sem, oa, v5, v7, v10]
      refine callK_of (allDC hS.toDu (hRt.fr fa) nwR) ?_
      rintro rb gb ⟨sB, fb⟩
      have ob2 := (ssLn sB).2.2
      try simp (maxSteps := 1000000) -dsimp (disch := (repeat first | rw [nxn] | rw [nxp]); try omega) only [go_sem, oa, ob2, v5, v7, v10]
      refine callK_of (textsG hS (ca'.fr fb) sB.cs lnA) ?_
      rintro rc gc ⟨rfl, fc⟩
      rw [decide_eq_true (all_eq ds6.dr ds6.lv).symm]
      simp (maxSteps := 1000000) -dsimp (disch := (repeat first | rw [nxn] | rw [nxp]); try omega) only [go_sem, b0, v5, v7, v10]
      have f36 := fa.trans (fb.trans fc)
      refine callK_of (pathsC hS.toPw (hTr.fr f36) nwT) ?_
      rintro rd gd ⟨sD, fd⟩
      have od := (ssLn sD).2.2
      try simp (maxSteps := 1000000) -dsimp (disch := (repeat first | rw [nxn] | rw [nxp]); try omega) only [go_sem, od, b0, v5, v7, v10]
      refine callK_of (pathsD hS.toDt (hRt.fr (f36.trans fd)) nwR []) ?_
      rintro re ge ⟨sE, fe⟩
      have oe := (ssLn sE).2.2
      try simp (maxSteps := 1000000) -dsimp (disch := (repeat first | rw [nxn] | rw [nxp]); try omega) only [go_sem, od, oe, v5, v7, v10]
      refine callK_of (textsG hS (sD.fr fe).cs sE.cs (by rw [tre.sortS_len, List.length_map]; omega)) ?_
      rintro rf gf ⟨rfl, ff⟩
      rw [decide_eq_true (paths_eq ds6.dr).symm]
      have fz := f36.trans (fd.trans (fe.trans ff))
      simp (maxSteps := 1000000) -dsimp (disch := (repeat first | rw [nxn] | rw [nxp]); try omega) only [go_sem, v1, v5, v7, v10]
      try simp only [true_and]
      exact ⟨L.length - (i + 1), by omega, i + 1, rfl, by omega, rfl, _, _, _, hb6.fr fz, ds6, ly6.gr (frGr fz _)⟩
     ·simp (maxSteps := 1000000) -dsimp (disch := (repeat first | rw [nxn] | rw [nxp]); try omega) only [go_sem, c3, v5, v7]
      have f4 : Fr g3 (g3.new (.cells [.int .i64 a.n, .int .i64 1, .int .i64 2] true false)) := Fr.new _ _
      refine callK_of ((hb3.fr f4).opA (φ := fun r => r = .int .i64 0) (T' := crashT T a.n [a.n, 1, 2]) fun Ka na sa ca ρa hTr hka => crashC hS.toSt hTr smT (by have := bmT.clock; omega) a.n (ps := [a.n, 1, 2]) (.inr ⟨g3.nx, 0, some 3, _, true, false, rfl, AH.get_new_eq rfl, Nat.lt_succ_self _, hka _ (hb3.top _ (Nat.le_refl _)), fun k hk => (by cases hk; exact Nat.le_refl _), Nat.le_refl _, rfl⟩) (Nat.le_trans (keepT_len bmT _) (by omega))) ?_
      rintro r5 g5 ⟨rfl, K5, hb5, gr5⟩
      have ly5 := (ly3.gr (frGr f4 Ks)).gr gr5
      have c5 : g5.get gx.nx = _ := (gr5.get _ (show gx.nx < g3.nx + 1 by omega) k3).1.trans ((f4.get _ (by omega)).trans c3)
      simp (maxSteps := 1000000) -dsimp (disch := (repeat first | rw [nxn] | rw [nxp]); try omega) only [go_sem, c5, v5, v7]
      have f5 : Fr g5 (g5.new (.cells [.int .i64 a.n, .int .i64 1, .int .i64 2] true false)) := Fr.new _ _
      refine callK_of ((hb5.fr f5).opB (φ := fun _ => True) (R' := crashR R a.n [a.n, 1, 2]) fun Kb lb sb nb ρb hRt hkb => (crashD hS.toDt hRt ds.wfR ⟨ds.dr.now.rise, ds.dr.safe.rise⟩ smR (by have := ds.lv.bm.clock; omega) a.n (ps := [a.n, 1, 2]) (.inr ⟨g5.nx, 0, some 3, _, true, false, rfl, AH.get_new_eq rfl, Nat.lt_succ_self _, hkb _ (hb5.top _ (Nat.le_refl _)), fun k hk => (by cases hk; exact Nat.le_refl _), Nat.le_refl _, rfl⟩) (by simp) (fun j => (ds.crashOK (by omega) j).1) (fun j => (ds.crashOK (by omega) j).2)).mono fun r h' hx => ⟨trivial, hx⟩) ?_
      rintro r6 g6 ⟨_, K6, hb6, gr6⟩
      have ds6 : Ds (i + 1) (3 * (i + 1)) (400 * (i + 1)) (crashR R a.n [a.n, 1, 2]) (crashT T a.n [a.n, 1, 2]) := ⟨ds.dr.crash _ _, hb6.wf, (ds.lv.crash _ _).mono (by omega) (by omega) (by omega)⟩
      have ly6 := (ly5.gr (frGr f5 K5)).gr gr6
      generalize crashR R a.n [a.n, 1, 2] = R6 at hb6 ds6
      generalize crashT T a.n [a.n, 1, 2] = T6 at hb6 ds6
      try simp (maxSteps := 1000000) -dsimp (disch := (repeat first | rw [nxn] | rw [nxp]); try omega) only [go_sem, v1, v5, v7, v10]
      have nwT : T6.now.length ≤ 16384 := (Bm.sm (ds6.dr.bm ds6.lv.bm) (by omega) (by omega)).now
      have nwR : R6.now.length ≤ 16384 := (ds6.sm (by omega) (by omega)).now
      have lnA : ((sortS (T6.now.map (·.1))).filter tempedS).length ≤ 1000000 := by
       have := List.length_filter_le tempedS (sortS (T6.now.map (·.1)))
       rw [tre.sortS_len, List.length_map] at this
       omega
      obtain ⟨Ka, na, sa, ca, ρa, Kb, lb', sb', nb, ρb, hTr, hRt, happ, hKs⟩ := _root_.id hb6
      refine callK_of (allC3 hS.toPw hTr nwT) ?_
      rintro ra ga ⟨fa, ca', na'⟩
      have oa := ca'.one.1
      try simp (maxSteps := 1000000) -dsimp (disch := (repeat first | rw [nxn] | rw [nxp]); try omega) only [go_sem, oa, v5, v7, v10]
      refine callK_of (allDC hS.toDu (hRt.fr fa) nwR) ?_
      rintro rb gb ⟨sB, fb⟩
      have ob2 := (ssLn sB).2.2
      try simp (maxSteps := 1000000) -dsimp (disch := (repeat first | rw [nxn] | rw [nxp]); try omega) only [go_sem, oa, ob2, v5, v7, v10]
      refine callK_of (textsG hS (ca'.fr fb) sB.cs lnA) ?_
      rintro rc gc ⟨rfl, fc⟩
      rw [decide_eq_true (all_eq ds6.dr ds6.lv).symm]
      simp (maxSteps := 1000000) -dsimp (disch := (repeat first | rw [nxn] | rw [nxp]); try omega) only [go_sem, b0, v5, v7, v10]
      have f36 := fa.trans (fb.trans fc)
      refine callK_of (pathsC hS.toPw (hTr.fr f36) nwT) ?_
      rintro rd gd ⟨sD, fd⟩
      have od := (ssLn sD).2.2
      try simp (maxSteps := 1000000) -dsimp (disch := (repeat first | rw [nxn] | rw [nxp]); try omega) only [go_sem, od, b0, v5, v7, v10]
      refine callK_of (pathsD hS.toDt (hRt.fr (f36.trans fd)) nwR []) ?_
      rintro re ge ⟨sE, fe⟩
      have oe := (ssLn sE).2.2
      try simp (maxSteps := 1000000) -dsimp (disch := (repeat first | rw [nxn] | rw [nxp]); try omega) only [go_sem, od, oe, v5, v7, v10]
      refine callK_of (textsG hS (sD.fr fe).cs sE.cs (by rw [tre.sortS_len, List.length_map]; omega)) ?_
      rintro rf gf ⟨rfl, ff⟩
      rw [decide_eq_true (paths_eq ds6.dr).symm]
      have fz := f36.trans (fd.trans (fe.trans ff))
      simp (maxSteps := 1000000) -dsimp (disch := (repeat first | rw [nxn] | rw [nxp]); try omega) only [go_sem, v1, v5, v7, v10]
      try simp only [true_and]
      exact ⟨L.length - (i + 1), by omega, i + 1, rfl, by omega, rfl, _, _, _, hb6.fr fz, ds6, ly6.gr (frGr fz _)⟩
     ·simp (maxSteps := 1000000) -dsimp (disch := (repeat first | rw [nxn] | rw [nxp]); try omega) only [go_sem, v5, v7]
      refine syDraw.keepN 7 (fun j => j = gx.nx) (by kernel_rfl) (by kernel_rfl) rfl ?_
      simp (maxSteps := 1000000) -dsimp (disch := (repeat first | rw [nxn] | rw [nxp]); try omega) only [go_sem, c3, ssp, v5, v7, true_and, implies_true, sv_int, sv_bool]
      have fx : Fr g3 { tr := g3.tr, nx := g3.nx + 10 } := (Fr.refl g3).more _ (by omega)
      refine callK_of ((hb3.fr fx).opA (φ := fun r => r = .int .i64 ((rmT T (okP a.p) a.p).1 : Nat)) (T' := (rmT T (okP a.p) a.p).2) fun Ka na sa ca ρa hTr hka => rmC hS.toSt hTr smT a.p) ?_
      rintro r5 g5 ⟨rfl, K5, hb5, gr5⟩
      have ly5 := (ly3.gr (frGr fx Ks)).gr gr5
      have k5 : g5.get gx.nx = g3.get gx.nx := (gr5.get _ (show gx.nx < g3.nx + 10 by omega) k3).1
      refine ⟨fun j hj => by rw [hj]; exact k5, ?_⟩
      have c5 : g5.get gx.nx = _ := k5.trans c3
      simp (maxSteps := 1000000) -dsimp (disch := (repeat first | rw [nxn] | rw [nxp]); try omega) only [go_sem, c5, ssp, v5, v7, true_and, implies_true, sv_int, sv_bool]
      refine callK_of (hb5.opB (φ := fun r => r = .int .i64 ((Go.Abs.rmL R (okP a.p) a.p).1 : Nat)) (R' := (Go.Abs.rmL R (okP a.p) a.p).2) fun Kb lb sb nb ρb hRt hkb => rmD hS.toDt hRt ds.wfR ds.dr.now.rise smR a.p) ?_
      rintro r6 g6 ⟨hr6, K6, hb6, gr6⟩
      rw [(ds.dr.rm (okP a.p) a.p).1] at hr6
      subst hr6
      have ds6 : Ds (i + 1) (3 * (i + 1)) (400 * (i + 1)) (Go.Abs.rmL R (okP a.p) a.p).2 (rmT T (okP a.p) a.p).2 := (ds.rm (okP a.p) a.p).mono (by omega) (by omega) (by omega)
      have ly6 := ly5.gr gr6
      generalize (Go.Abs.rmL R (okP a.p) a.p).2 = R6 at hb6 ds6
      generalize rmT T (okP a.p) a.p = Z at hb6 ds6 ⊢
      obtain ⟨z2, T6⟩ := Z
      dsimp only at hb6 ds6
      simp (maxSteps := 1000000) -dsimp (disch := (repeat first | rw [nxn] | rw [nxp]); try omega) only [go_sem, v1, v5, v7, v10]
      have nwT : T6.now.length ≤ 16384 := (Bm.sm (ds6.dr.bm ds6.lv.bm) (by omega) (by omega)).now
      have nwR : R6.now.length ≤ 16384 := (ds6.sm (by omega) (by omega)).now
      have lnA : ((sortS (T6.now.map (·.1))).filter tempedS).length ≤ 1000000 := by
       have := List.length_filter_le tempedS (sortS (T6.now.map (·.1)))
       rw [tre.sortS_len, List.length_map] at this
       omega
      obtain ⟨Ka, na, sa, ca, ρa, Kb, lb', sb', nb, ρb, hTr, hRt, happ, hKs⟩ := _root_.id hb6
      refine callK_of (allC3 hS.toPw hTr nwT) ?_
      rintro ra ga ⟨fa, ca', na'⟩
      have oa := ca'.one.1
      try simp (maxSteps := 1000000) -dsimp (disch := (repeat first | rw [nxn] | rw [nxp]); try omega) only [go_sem, oa, v5, v7, v10]
      refine callK_of (allDC hS.toDu (hRt.fr fa) nwR) ?_
      rintro rb gb ⟨sB, fb⟩
      have ob2 := (ssLn sB).2.2
      try simp (maxSteps := 1000000) -dsimp (disch := (repeat first | rw [nxn] | rw [nxp]); try omega) only [go_sem, oa, ob2, v5, v7, v10]
      refine callK_of (textsG hS (ca'.fr fb) sB.cs lnA) ?_
      rintro rc gc ⟨rfl, fc⟩
      rw [decide_eq_true (all_eq ds6.dr ds6.lv).symm]
      simp (maxSteps := 1000000) -dsimp (disch := (repeat first | rw [nxn] | rw [nxp]); try omega) only [go_sem, b0, v5, v7, v10]
      have f36 := fa.trans (fb.trans fc)
      refine callK_of (pathsC hS.toPw (hTr.fr f36) nwT) ?_
      rintro rd gd ⟨sD, fd⟩
      have od := (ssLn sD).2.2
      try simp (maxSteps := 1000000) -dsimp (disch := (repeat first | rw [nxn] | rw [nxp]); try omega) only [go_sem, od, b0, v5, v7, v10]
      refine callK_of (pathsD hS.toDt (hRt.fr (f36.trans fd)) nwR []) ?_
      rintro re ge ⟨sE, fe⟩
      have oe := (ssLn sE).2.2
      try simp (maxSteps := 1000000) -dsimp (disch := (repeat first | rw [nxn] | rw [nxp]); try omega) only [go_sem, od, oe, v5, v7, v10]
      refine callK_of (textsG hS (sD.fr fe).cs sE.cs (by rw [tre.sortS_len, List.length_map]; omega)) ?_
      rintro rf gf ⟨rfl, ff⟩
      rw [decide_eq_true (paths_eq ds6.dr).symm]
      have fz := f36.trans (fd.trans (fe.trans ff))
      simp (maxSteps := 1000000) -dsimp (disch := (repeat first | rw [nxn] | rw [nxp]); try omega) only [go_sem, v1, v5, v7, v10]
      try simp only [true_and]
      exact ⟨L.length - (i + 1), by omega, i + 1, rfl, by omega, rfl, _, _, _, hb6.fr fz, ds6, ly6.gr (frGr fz _)⟩
    ·have : i = L.length := by omega
     subst this
     simp (maxSteps := 1000000) -dsimp (disch := (repeat first | rw [nxn] | rw [nxp]); try omega) only [go_sem, ln, c4, v1, v5, v7, v10]
     exact ⟨trivial, trivial, trivial, trivial, hlt⟩
   ·simp (maxSteps := 1000000) -dsimp (disch := (repeat first | rw [nxn] | rw [nxp]); try omega) only [go_sem, v1, v5, v7]
    exact ⟨trivial, trivial, trivial, trivial, 0, rfl, Nat.zero_le _, rfl, _, _, _, bt0, ds0, ly0⟩
   ·rintro ex ⟨t, gx, d⟩ ⟨rfl, rfl, v5, v7, T, R, Ks, hb, ds, ly⟩
    dsimp only at v5 v7 hb ly
    have hwT := hb.wf
    have bmT : Bm (L.length + 3 * L.length) (400 * L.length) T := ds.dr.bm ds.lv.bm
    have smT : Sm T := Bm.sm bmT (by omega) (by omega)
    have smR : Sm R := ds.sm (by omega) (by omega)
    obtain ⟨Ka, na, sa, ca, ρa, Kb, lb, sb, nb, ρb, hTr, hRt, hap, hKs⟩ := hb
    simp (maxSteps := 1000000) -dsimp (disch := (repeat first | rw [nxn] | rw [nxp]); try omega) only [go_sem, v5, v7]
    refine callK_of (safeC hS.toZs hTr smT.safe) ?_
    rintro ra ga ⟨sa', fa⟩
    have oa : oneA ra = true := by obtain ⟨L2, h1, _⟩ := sa'; exact h1.one.2
    try simp (maxSteps := 1000000) -dsimp (disch := (repeat first | rw [nxn] | rw [nxp]); try omega) only [go_sem, oa, v5, v7]
    refine callK_of (safeD' hS.toDt (hRt.fr fa) ds.wfR ds.dr.safe.rise smR.safe) ?_
    rintro rb gb ⟨sb', fb⟩
    have ob : oneA rb = true := by obtain ⟨L2, h1, _⟩ := sb'; exact h1.one.2
    try simp (maxSteps := 1000000) -dsimp (disch := (repeat first | rw [nxn] | rw [nxp]); try omega) only [go_sem, oa, ob, v5, v7]
    have hse : safeF T = R.safe.map fun e => (e.1, (R.fil e.2).s) := (safe_eq ds.dr).symm
    have h256 : ∀ e ∈ safeF T, ∀ x ∈ e.2, x < 256 := fun e he => by
     unfold safeF at he
     obtain ⟨s, _, rfl⟩ := List.mem_map.1 he
     exact (fil_ok hwT _).2.1
    refine callK_of (filesC hS.toZs (sa'.fr fb) sb' h256 (by rw [← hse]; exact h256) (by
     unfold safeF
     rw [List.length_map, tre.sortS_len, List.length_map]; exact smT.safe)) ?_
    rintro rc gc rfl
    rw [decide_eq_true hse]
    try simp (maxSteps := 1000000) -dsimp (disch := (repeat first | rw [nxn] | rw [nxp]); try omega) only [go_sem, v5, v7]
 ·rw [if_neg hroom] at hr
  subst hr
  simp (maxSteps := 1000000) -dsimp (disch := (repeat first | rw [nxn] | rw [nxp]); try omega) only [go_sem]
  refine callK_of (newD hS.toDt room) ?_
  rintro r g2 ⟨f2, hr2⟩
  rw [if_neg hroom] at hr2
  subst hr2
  simp (maxSteps := 1000000) -dsimp (disch := (repeat first | rw [nxn] | rw [nxp]); try omega) only [go_sem, ol, ln]
end
end Go.Proofs.YthkdhdcbhpknnaaGreatDoor.tre
