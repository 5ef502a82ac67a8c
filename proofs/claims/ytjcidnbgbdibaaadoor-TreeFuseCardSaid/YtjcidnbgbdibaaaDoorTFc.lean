/- The law TreeFuse, walked. Conditions: those of its summaries. -/
import Derived.Test.YtjcidnbgbdibaaaDoorTFb
namespace Go.Proofs.YtjcidnbgbdibaaaDoor.tre
open Go Go.Abs Go.Proofs
set_option maxRecDepth 100000
set_option linter.unusedVariables false
set_option linter.unusedSimpArgs false

/-- What holds between the calls. -/
structure Fw (pa pb : Nat) (v : AV) (L : List Ac) (i : Nat) (off : Bool) (g : AH) : Prop where
  b : ∃ Kb nb sb cb ρb B, Tr Kb pb nb sb cb ρb g B ∧ B.off = off ∧ Bd i B ∧
    (off = true → Acs Kb g v L) ∧ (off = false → ∃ Ka na sa ca ρa A, Tr Ka pa na sa ca ρa g A ∧ Ap Ka Kb ∧ Fz A B ∧ A.room = 5000 ∧ Acs (fun j => Ka j + Kb j) g v L)
section
variable {S : Sums}
set_option maxHeartbeats 16000000 in
theorem fuse5 (hS : Pa S) (hN : ∀ args h, S 5 args h = none) (hL : ∀ h, S 6 [] h = some (.bool true, h)) {h : AH} {v : AV} {L : List Ac} {fu : Int} (hA : Acs (fun _ => 0) h v L) :
    RnC Tryd.prog S 5 [v, .int .i64 fu] h fun r _ => r = .bool true := by
  refine RnC.enter' Tryd.f5 _ 167 [.tmp 4] (hN _ _) bd5 Tryd.func5 rfl rfl rfl ?_
  obtain ⟨ln, sl, ol⟩ := hA.ln
  simp (maxSteps := 1000000) -dsimp (disch := first | omega | ((repeat first | rw [AH.nx_new] | rw [AH.nx_put]); done) | ((repeat first | rw [AH.nx_new] | rw [AH.nx_put]); omega)) only [go_sem, Int.reduceEq, Int.reduceNe, Int.reduceLT, Int.reduceLE, Int.reduceAdd, Int.reduceSub, Int.reduceMul, Int.reduceNeg, Int.reduceToNat, Nat.reducePow, reduceCtorEq, Nat.reduceEqDiff, Nat.reduceAdd, Nat.reduceLT, Nat.reduceLeDiff, Nat.reduceMul, Nat.reduceSub, Nat.reduceBEq, Int.reduceToNat]
  refine callK_of (RnC.sum (hL _) (Q := fun v h' => v = .bool true ∧ h' = h) ⟨rfl, rfl⟩) ?_
  rintro r g ⟨rfl, rfl⟩
  simp (maxSteps := 1000000) -dsimp (disch := first | omega | ((repeat first | rw [AH.nx_new] | rw [AH.nx_put]); done) | ((repeat first | rw [AH.nx_new] | rw [AH.nx_put]); omega)) only [go_sem, Int.reduceEq, Int.reduceNe, Int.reduceLT, Int.reduceLE, Int.reduceAdd, Int.reduceSub, Int.reduceMul, Int.reduceNeg, Int.reduceToNat, Nat.reducePow, reduceCtorEq, Nat.reduceEqDiff, Nat.reduceAdd, Nat.reduceLT, Nat.reduceLeDiff, Nat.reduceMul, Nat.reduceSub, Nat.reduceBEq, Int.reduceToNat, ol]
  refine callK_of (smallC (fun _ _ => hS.nc _ _ _ (by simp)) hA) ?_
  rintro r g1 ⟨f1, b, rfl, hb⟩
  cases b
  · simp (maxSteps := 1000000) -dsimp (disch := first | omega | ((repeat first | rw [AH.nx_new] | rw [AH.nx_put]); done) | ((repeat first | rw [AH.nx_new] | rw [AH.nx_put]); omega)) only [go_sem, Int.reduceEq, Int.reduceNe, Int.reduceLT, Int.reduceLE, Int.reduceAdd, Int.reduceSub, Int.reduceMul, Int.reduceNeg, Int.reduceToNat, Nat.reducePow, reduceCtorEq, Nat.reduceEqDiff, Nat.reduceAdd, Nat.reduceLT, Nat.reduceLeDiff, Nat.reduceMul, Nat.reduceSub, Nat.reduceBEq, Int.reduceToNat]
  obtain ⟨hl200, hw⟩ := hb rfl
  simp (maxSteps := 1000000) -dsimp (disch := first | omega | ((repeat first | rw [AH.nx_new] | rw [AH.nx_put]); done) | ((repeat first | rw [AH.nx_new] | rw [AH.nx_put]); omega)) only [go_sem, Int.reduceEq, Int.reduceNe, Int.reduceLT, Int.reduceLE, Int.reduceAdd, Int.reduceSub, Int.reduceMul, Int.reduceNeg, Int.reduceToNat, Nat.reducePow, reduceCtorEq, Nat.reduceEqDiff, Nat.reduceAdd, Nat.reduceLT, Nat.reduceLeDiff, Nat.reduceMul, Nat.reduceSub, Nat.reduceBEq, Int.reduceToNat]
  refine callK_of (newC hS.toSt (5000 : Int)) ?_
  rintro r g2 ⟨f2, hr⟩
  rw [if_pos (by omega)] at hr
  obtain ⟨rfl, n2, hTa⟩ := hr
  simp (maxSteps := 1000000) -dsimp (disch := first | omega | ((repeat first | rw [AH.nx_new] | rw [AH.nx_put]); done) | ((repeat first | rw [AH.nx_new] | rw [AH.nx_put]); omega)) only [go_sem, Int.reduceEq, Int.reduceNe, Int.reduceLT, Int.reduceLE, Int.reduceAdd, Int.reduceSub, Int.reduceMul, Int.reduceNeg, Int.reduceToNat, Nat.reducePow, reduceCtorEq, Nat.reduceEqDiff, Nat.reduceAdd, Nat.reduceLT, Nat.reduceLeDiff, Nat.reduceMul, Nat.reduceSub, Nat.reduceBEq, Int.reduceToNat]
  refine callK_of (newC hS.toSt (5000 : Int)) ?_
  rintro r g3 ⟨f3, hr⟩
  rw [if_pos (by omega)] at hr
  obtain ⟨rfl, n3, hTb⟩ := hr
  simp (maxSteps := 1000000) -dsimp (disch := first | omega | ((repeat first | rw [AH.nx_new] | rw [AH.nx_put]); done) | ((repeat first | rw [AH.nx_new] | rw [AH.nx_put]); omega)) only [go_sem, Int.reduceEq, Int.reduceNe, Int.reduceLT, Int.reduceLE, Int.reduceAdd, Int.reduceSub, Int.reduceMul, Int.reduceNeg, Int.reduceToNat, Nat.reducePow, reduceCtorEq, Nat.reduceEqDiff, Nat.reduceAdd, Nat.reduceLT, Nat.reduceLeDiff, Nat.reduceMul, Nat.reduceSub, Nat.reduceBEq, Int.reduceToNat]
  refine callK_of (pick60 (fun _ _ => hS.nc _ _ _ (by simp))) ?_
  rintro r gq ⟨⟨q, rfl, hq0, hq60⟩, hgq⟩
  have hgq' := hgq.symm
  subst hgq'
  refine callK_of (fuseC hS.toSt hTb q (by omega)) ?_
  rintro r g4 ⟨rfl, hTb4, gr4⟩
  have hTa3 := hTa.fr f3
  have ap : Ap (fun j => if j = g1.nx + 2 then 1 else if j = g1.nx then 2 else if j = g1.nx + 1 then 3 else 0) (fun j => if j = g2.nx + 2 then 1 else if j = g2.nx then 2 else if j = g2.nx + 1 then 3 else 0) := fun j => by
    by_cases hj : j < g2.nx
    · exact .inr ((if_neg (by omega)).trans ((if_neg (by omega)).trans (if_neg (by omega))))
    · exact .inl ((if_neg (by omega)).trans ((if_neg (by omega)).trans (if_neg (by omega))))
  obtain ⟨hTa4, ap4⟩ := hTa3.other ap gr4
  have hA4 : Acs (fun j => (fun j => if j = g1.nx + 2 then 1 else if j = g1.nx then 2 else if j = g1.nx + 1 then 3 else 0) j + (fun j => if j = g2.nx + 2 then 1 else if j = g2.nx then 2 else if j = g2.nx + 1 then 3 else 0) j) g4 v L := by
    have hk0 : ∀ j, j < g.nx → (fun j => (fun j => if j = g1.nx + 2 then 1 else if j = g1.nx then 2 else if j = g1.nx + 1 then 3 else 0) j + (fun j => if j = g2.nx + 2 then 1 else if j = g2.nx then 2 else if j = g2.nx + 1 then 3 else 0) j) j = 0 := fun j hj => by
      have h1 := f1.nx
      have e1 : (if j = g1.nx + 2 then 1 else if j = g1.nx then 2 else if j = g1.nx + 1 then 3 else 0) = 0 := (if_neg (by omega)).trans ((if_neg (by omega)).trans (if_neg (by omega)))
      have e2 : (if j = g2.nx + 2 then 1 else if j = g2.nx then 2 else if j = g2.nx + 1 then 3 else 0) = 0 := (if_neg (by omega)).trans ((if_neg (by omega)).trans (if_neg (by omega)))
      show (if j = g1.nx + 2 then 1 else if j = g1.nx then 2 else if j = g1.nx + 1 then 3 else 0) + (if j = g2.nx + 2 then 1 else if j = g2.nx then 2 else if j = g2.nx + 1 then 3 else 0) = 0
      rw [e1, e2]
    have f03 := (f1.trans f2).trans f3
    refine Acs.gr (K := fun j => (fun j => if j = g1.nx + 2 then 1 else if j = g1.nx then 2 else if j = g1.nx + 1 then 3 else 0) j + (fun j => if j = g2.nx + 2 then 1 else if j = g2.nx then 2 else if j = g2.nx + 1 then 3 else 0) j) (h := g3) ?_ gr4.sum
    refine ⟨fun a ha => ?_, ?_⟩
    · have h0 := hA.1 a ha
      exact ⟨Bz.of h0.b.1 f03 hk0, h0.bl, Iv.of h0.ps f03 hk0, h0.n⟩
    · rcases hA.2 with h1 | ⟨id, cs, o, t, h1, h2, h3, h4, h5⟩
      · exact .inl h1
      · exact .inr ⟨id, cs, o, t, h1, (f03.get _ h3).trans h2, Nat.lt_of_lt_of_le h3 f03.nx, hk0 _ h3, h5⟩
  generalize (fun j => if j = g1.nx + 2 then 1 else if j = g1.nx then 2 else if j = g1.nx + 1 then 3 else 0) = Ka at hTa4 hA4 ap4
  generalize (fun j => if j = g2.nx + 2 then 1 else if j = g2.nx then 2 else if j = g2.nx + 1 then 3 else 0) = Kb at hTb4 hA4 ap4
  generalize hpa : g1.nx + 2 = pa at hTa4
  generalize hpb : g2.nx + 2 = pb at hTb4
  have hfz : Fz (newT 5000) { newT 5000 with fuse := max (-1) q } := ⟨newT 5000, max (-1) q, rfl, by omega, rfl, rfl⟩
  have hfw : Fw pa pb v L 0 false g4 := ⟨Kb, _, _, _, _, _, hTb4, rfl, ⟨Nat.zero_le _, Nat.zero_le _, Nat.zero_le _⟩, fun hh => (by cases hh), fun _ => ⟨Ka, _, _, _, _, _, hTa4, ap4, hfz, rfl, hA4⟩⟩
  simp (maxSteps := 1000000) -dsimp (disch := first | omega | ((repeat first | rw [AH.nx_new] | rw [AH.nx_put]); done) | ((repeat first | rw [AH.nx_new] | rw [AH.nx_put]); omega)) only [go_sem, Int.reduceEq, Int.reduceNe, Int.reduceLT, Int.reduceLE, Int.reduceAdd, Int.reduceSub, Int.reduceMul, Int.reduceNeg, Int.reduceToNat, Nat.reducePow, reduceCtorEq, Nat.reduceEqDiff, Nat.reduceAdd, Nat.reduceLT, Nat.reduceLeDiff, Nat.reduceMul, Nat.reduceSub, Nat.reduceBEq, Int.reduceToNat]
  refine loopK_of (RnL.rounds (Q := fun ex u => ex = .exit 0 ∧ u.d = [])
    (fun m u => u.d = [] ∧ u.t.get 0 = some v ∧ u.t.get 5 = some (.ptr pa 0) ∧ u.t.get 7 = some (.ptr pb 0) ∧ ∃ (i : Nat) (off : Bool), u.t.get 10 = some (.int .i64 (i : Nat)) ∧ u.t.get 9 = some (.bool off) ∧ i ≤ L.length ∧ m = L.length - i ∧ Fw pa pb v L i off u.h) ?_ L.length ?_) ?_
  · rintro m ⟨t, gx, d⟩ ⟨e2, v0, v5, v7, i, off, v10, v9, hi, rfl, ⟨Kb, nb, sb, cb, ρb, B, hB, hBo, hbd, hon, hoff⟩⟩
    dsimp only at e2 v0 v5 v7 v10 v9 hB hon hoff
    subst e2
    by_cases c4 : (i : Int) < (L.length : Nat)
    · have hil : i < L.length := by omega
      obtain ⟨a, ha⟩ : ∃ a, L[i]? = some a := ⟨_, List.getElem?_eq_getElem hil⟩
      have ham : a ∈ L := List.mem_iff_getElem?.2 ⟨i, ha⟩
      have haw : a.w ≤ 3000 := Nat.le_trans (wL_mem ham) hw
      have hawe : a.w = min a.p.length 3001 + min a.q.length 3001 + min a.l.length 3001 + min a.ps.length 3001 := rfl
      have hsl : ∃ id cs o tx, v = .sl id 0 L.length 6 none ∧ gx.get id = some (.cells cs o tx) ∧ i * 6 + 6 ≤ cs.length ∧ (cs.drop (i * 6)).take 6 = a.cells ∧ id < gx.nx ∧ Kb id = 0 ∧ (off = false → ∀ Ka na sa ca ρa A, Tr Ka pa na sa ca ρa gx A → Acs (fun j => Ka j + Kb j) gx v L → True) := by
        cases off
        · obtain ⟨Ka, na, sa, ca, ρa, A, hA', ap', hz, hr5, hac⟩ := hoff rfl
          rcases hac.2 with ⟨_, h0⟩ | ⟨id, cs, o, tx, h1, h2, h3, h4, h5⟩
          · rw [h0] at hil; simp at hil
          · have h4' : Ka id + Kb id = 0 := h4
            obtain ⟨q1, q2⟩ := h5 i a ha
            exact ⟨id, cs, o, tx, h1, h2, q1, q2, h3, by omega, fun _ _ _ _ _ _ _ _ _ => trivial⟩
        · rcases (hon rfl).2 with ⟨_, h0⟩ | ⟨id, cs, o, tx, h1, h2, h3, h4, h5⟩
          · rw [h0] at hil; simp at hil
          · obtain ⟨q1, q2⟩ := h5 i a ha
            exact ⟨id, cs, o, tx, h1, h2, q1, q2, h3, h4, fun hh => (by cases hh)⟩
      obtain ⟨id, cs, o, tx, rfl, hg, hcl, hc, hid, hkb, _⟩ := hsl
      have x0 : cs[i * 6]? = some (.int .i64 a.k) := Ac.get hc 0 (by decide)
      obtain ⟨smB, smB2⟩ := hbd.sm (by omega)
      simp (maxSteps := 1000000) -dsimp (disch := first | omega | ((repeat first | rw [AH.nx_new] | rw [AH.nx_put]); done) | ((repeat first | rw [AH.nx_new] | rw [AH.nx_put]); omega)) only [go_sem, Int.reduceEq, Int.reduceNe, Int.reduceLT, Int.reduceLE, Int.reduceAdd, Int.reduceSub, Int.reduceMul, Int.reduceNeg, Int.reduceToNat, Nat.reducePow, reduceCtorEq, Nat.reduceEqDiff, Nat.reduceAdd, Nat.reduceLT, Nat.reduceLeDiff, Nat.reduceMul, Nat.reduceSub, Nat.reduceBEq, Int.reduceToNat, c4, v0, v5, v7, v10, v9, ln, hil, hg, x0]
      refine callK_of (pickC (fun _ _ => hS.nc _ _ _ (by simp))) ?_
      rintro r gy ⟨rfl, rfl⟩
      by_cases c7 : ((pk a.k : Nat) : Int) = 7
      · simp (maxSteps := 1000000) -dsimp (disch := first | omega | ((repeat first | rw [AH.nx_new] | rw [AH.nx_put]); done) | ((repeat first | rw [AH.nx_new] | rw [AH.nx_put]); omega)) only [go_sem, Int.reduceEq, Int.reduceNe, Int.reduceLT, Int.reduceLE, Int.reduceAdd, Int.reduceSub, Int.reduceMul, Int.reduceNeg, Int.reduceToNat, Nat.reducePow, reduceCtorEq, Nat.reduceEqDiff, Nat.reduceAdd, Nat.reduceLT, Nat.reduceLeDiff, Nat.reduceMul, Nat.reduceSub, Nat.reduceBEq, Int.reduceToNat, c4, c7, v0, v5, v7, v10, v9, ln, hil, hg, x0]
        exact ⟨L.length - (i + 1), by omega, trivial, trivial, trivial, trivial, i + 1, off, rfl, rfl, by omega, rfl, ⟨Kb, nb, sb, cb, ρb, B, hB, hBo, hbd.mono, hon, hoff⟩⟩
      by_cases c8 : ((pk a.k : Nat) : Int) = 8
      · simp (maxSteps := 1000000) -dsimp (disch := first | omega | ((repeat first | rw [AH.nx_new] | rw [AH.nx_put]); done) | ((repeat first | rw [AH.nx_new] | rw [AH.nx_put]); omega)) only [go_sem, Int.reduceEq, Int.reduceNe, Int.reduceLT, Int.reduceLE, Int.reduceAdd, Int.reduceSub, Int.reduceMul, Int.reduceNeg, Int.reduceToNat, Nat.reducePow, reduceCtorEq, Nat.reduceEqDiff, Nat.reduceAdd, Nat.reduceLT, Nat.reduceLeDiff, Nat.reduceMul, Nat.reduceSub, Nat.reduceBEq, Int.reduceToNat, c4, c7, c8, v0, v5, v7, v10, v9, ln, hil, hg, x0]
        exact ⟨L.length - (i + 1), by omega, trivial, trivial, trivial, trivial, i + 1, off, rfl, rfl, by omega, rfl, ⟨Kb, nb, sb, cb, ρb, B, hB, hBo, hbd.mono, hon, hoff⟩⟩
      cases off
      · obtain ⟨Ka, na, sa, ca, ρa, A, hA, ap, hz, hr5, hac⟩ := hoff rfl
        have hok0 := hac.1 a ham
        have hokb : AcOK Kb gy a := hok0.part fun j hj => by have : Ka j + Kb j = 0 := hj; omega
        have hokh : id < gy.nx := hid
        simp (maxSteps := 1000000) -dsimp (disch := first | omega | ((repeat first | rw [AH.nx_new] | rw [AH.nx_put]); done) | ((repeat first | rw [AH.nx_new] | rw [AH.nx_put]); omega)) only [go_sem, Int.reduceEq, Int.reduceNe, Int.reduceLT, Int.reduceLE, Int.reduceAdd, Int.reduceSub, Int.reduceMul, Int.reduceNeg, Int.reduceToNat, Nat.reducePow, reduceCtorEq, Nat.reduceEqDiff, Nat.reduceAdd, Nat.reduceLT, Nat.reduceLeDiff, Nat.reduceMul, Nat.reduceSub, Nat.reduceBEq, Int.reduceToNat, c4, c7, c8, v0, v5, v7, v10, v9, ln, hil, hg, x0, hcl, hc]
        refine callK_of (callC hS.toCl hB smB smB2 (fun n => Nat.le_trans (keepT_len hbd n) (by omega)) hokb (by omega) (by omega)) ?_
        rintro r3 g7 ⟨rfl, K7, nb7, sb7, cb7, ρb7, hB7, gr7⟩
        have hfo := Fo.act (ok := okP) hz (pk a.k) (by omega) (by omega) a.p a.q a.l a.n a.ps
        have bd7 := hbd.act (ok := okP) (by omega) (pk a.k) a.p a.q a.l a.n a.ps
        obtain ⟨hA7, ap7⟩ := hA.other ap gr7
        have hac7 := hac.gr (gr7.sum (Ka := Ka))
        have zeq := hz.eq
        have bdA := hz.bd hbd
        obtain ⟨smA, smA2⟩ := bdA.sm (by omega)
        have roomA := actT_room A (pk a.k) (by omega) a.p a.q a.l a.n a.ps
        have hk0 : Ka id + Kb id = 0 := by
          rcases hac.2 with ⟨h0, _⟩ | ⟨id', cs', o', t', h1, h2, h3, h4, h5⟩
          · cases h0
          · cases h1; exact h4
        have hg7 : g7.get id = _ := (gr7.get id hid (by omega)).1.trans hg
        have hid7 : id < g7.nx := Nat.lt_of_lt_of_le hid gr7.nx
        have f8 : ∀ o o', Fr g7 ((g7.new o).put g7.nx o') := fun o o' => (Fr.new g7 o).put o' (Nat.le_refl _)
        generalize hy : actT okP B (pk a.k) a.p a.q a.l a.n a.ps = y at hB7 hfo bd7
        generalize hxx : actT okP A (pk a.k) a.p a.q a.l a.n a.ps = xx at hfo roomA
        obtain ⟨⟨yb, ye⟩, B7⟩ := y
        obtain ⟨⟨xb, xe⟩, A7⟩ := xx
        dsimp only at hB7 hfo bd7 roomA
        rcases hfo with ⟨e1, e2⟩ | ⟨e1, e2, e3⟩
        · dsimp only at e1 e2
          subst e1
          simp (maxSteps := 1000000) -dsimp (disch := first | omega | ((repeat first | rw [AH.nx_new] | rw [AH.nx_put]); done) | ((repeat first | rw [AH.nx_new] | rw [AH.nx_put]); omega)) only [go_sem, Int.reduceEq, Int.reduceNe, Int.reduceLT, Int.reduceLE, Int.reduceAdd, Int.reduceSub, Int.reduceMul, Int.reduceNeg, Int.reduceToNat, Nat.reducePow, reduceCtorEq, Nat.reduceEqDiff, Nat.reduceAdd, Nat.reduceLT, Nat.reduceLeDiff, Nat.reduceMul, Nat.reduceSub, Nat.reduceBEq, Int.reduceToNat, c4, c7, c8, v0, v5, v7, v10, v9, ln]
          have hgG : ∀ o o', Fr g7 ((g7.new o).put g7.nx o') := f8
          generalize hG : ((g7.new (.cells [.str [], .int .i64 0] true false)).put g7.nx (.cells [.str yb, .int .i64 11] true false)) = G
          have fG : Fr g7 G := hG ▸ f8 _ _
          have hA9 := hA7.fr fG
          have hB9 := hB7.fr fG
          have en : B7.now = A.now := by rw [e2]
          have ef : B7.files = A.files := by rw [e2]
          have r5b : B7.room = 5000 := by rw [e2]; exact hr5
          have ho9 : B7.off = true := by rw [e2]
          have hac9 := hac7.gr (frGr fG (fun j => Ka j + K7 j))
          have hAcb : Acs K7 G (.sl id 0 L.length 6 none) L := by
            refine ⟨fun a ha => (hac9.1 a ha).part fun j hj => by have : Ka j + K7 j = 0 := hj; omega, ?_⟩
            rcases hac9.2 with h1 | ⟨id', cs', o', t', h1, h2, h3, h4, h5⟩
            · exact .inl h1
            · exact .inr ⟨id', cs', o', t', h1, h2, h3, by have : Ka id' + K7 id' = 0 := h4; omega, h5⟩
          have hks : (sortS (A.now.map (·.1))).length ≤ 16384 := by rw [sortS_len, List.length_map]; exact smA.now
          have hu9 := used_le hA9.wf smA.now
          have hsz : szL A (sortS (A.now.map (·.1))) = A.used := by rw [szL_sort, szL_now hA9.wf]
          refine callK_of (pathsC hS hA9 smA.now) ?_
          rintro rp G1 ⟨hs1, F1⟩
          obtain ⟨l1, s1, o1⟩ := ssLn hs1
          have hA10 := hA9.fr F1
          try simp (maxSteps := 1000000) -dsimp (disch := first | omega | ((repeat first | rw [AH.nx_new] | rw [AH.nx_put]); done) | ((repeat first | rw [AH.nx_new] | rw [AH.nx_put]); omega)) only [go_sem, Int.reduceEq, Int.reduceNe, Int.reduceLT, Int.reduceLE, Int.reduceAdd, Int.reduceSub, Int.reduceMul, Int.reduceNeg, Int.reduceToNat, Nat.reducePow, reduceCtorEq, Nat.reduceEqDiff, Nat.reduceAdd, Nat.reduceLT, Nat.reduceLeDiff, Nat.reduceMul, Nat.reduceSub, Nat.reduceBEq, Int.reduceToNat, o1, c4, c7, c8, v0, v5, v7, v10, v9, ln]
          refine loopK_of (RnL.rounds (Q := fun ex u => ex = .exit 2 ∧ u.d = [] ∧ Fr G1 u.h ∧ u.t.get 0 = some (.sl id 0 L.length 6 none) ∧ u.t.get 5 = some (.ptr pa 0) ∧ u.t.get 7 = some (.ptr pb 0) ∧ u.t.get 10 = some (.int .i64 (i : Nat)) ∧ u.t.get 9 = some (.bool true) ∧ u.t.get 16 = some rp ∧ u.t.get 17 = some (.int .i64 (A.used : Nat)))
            (fun m u => u.d = [] ∧ Fr G1 u.h ∧ u.t.get 0 = some (.sl id 0 L.length 6 none) ∧ u.t.get 5 = some (.ptr pa 0) ∧ u.t.get 7 = some (.ptr pb 0) ∧ u.t.get 10 = some (.int .i64 (i : Nat)) ∧ u.t.get 9 = some (.bool true) ∧ u.t.get 16 = some rp ∧ ∃ j : Nat, u.t.get 18 = some (.int .i64 (j : Nat)) ∧ u.t.get 17 = some (.int .i64 (szL A ((sortS (A.now.map (·.1))).take j) : Nat)) ∧ j ≤ (sortS (A.now.map (·.1))).length ∧ m = (sortS (A.now.map (·.1))).length - j) ?_ (sortS (A.now.map (·.1))).length ?_) ?_
          · rintro m ⟨t2, gz, d2⟩ ⟨y2, y1, z0, z5, z7, z10, z9, z16, j, z18, z17, hj, rfl⟩
            dsimp only at y1 y2 z0 z5 z7 z10 z9 z16 z17 z18
            subst y2
            by_cases cj : (j : Int) < ((sortS (A.now.map (·.1))).length : Nat)
            · have hjl : j < (sortS (A.now.map (·.1))).length := by omega
              obtain ⟨s, hs⟩ : ∃ s, (sortS (A.now.map (·.1)))[j]? = some s := ⟨_, List.getElem?_eq_getElem hjl⟩
              rcases hs1 with ⟨_, h0⟩ | ⟨ik, rfl, hgk, hik, _⟩
              · rw [h0] at hjl; simp at hjl
              have hcs : ((sortS (A.now.map (·.1))).map AV.str)[j]? = some (.str s) := by simp [hs]
              have hgz : gz.get ik = _ := (y1.get ik hik).trans hgk
              have hin : (statT A s).2.2 = true := by
                obtain ⟨e, he, hee⟩ := List.mem_map.1 (sortS_mem (List.mem_iff_getElem?.2 ⟨j, hs⟩))
                unfold statT
                rw [← hee, mem_valS hA9.wf.now.1 e he]
              have htk : (sortS (A.now.map (·.1))).take (j + 1) = (sortS (A.now.map (·.1))).take j ++ [s] := by rw [List.take_add_one, hs]; rfl
              have hsn : szL A ((sortS (A.now.map (·.1))).take (j + 1)) = szL A ((sortS (A.now.map (·.1))).take j) + (statT A s).1 := by rw [htk, szL_snoc]
              have hle := szL_take A (sortS (A.now.map (·.1))) (j + 1)
              simp (maxSteps := 1000000) -dsimp (disch := first | omega | ((repeat first | rw [AH.nx_new] | rw [AH.nx_put]); done) | ((repeat first | rw [AH.nx_new] | rw [AH.nx_put]); omega)) only [go_sem, Int.reduceEq, Int.reduceNe, Int.reduceLT, Int.reduceLE, Int.reduceAdd, Int.reduceSub, Int.reduceMul, Int.reduceNeg, Int.reduceToNat, Nat.reducePow, reduceCtorEq, Nat.reduceEqDiff, Nat.reduceAdd, Nat.reduceLT, Nat.reduceLeDiff, Nat.reduceMul, Nat.reduceSub, Nat.reduceBEq, Int.reduceToNat, cj, hjl, l1, hgz, hcs, Nat.mul_one, z0, z5, z7, z10, z9, z16, z17, z18]
              refine callK_of (statC hS.toSt (hA10.fr y1) s) ?_
              rintro rs gw ⟨rfl, fw⟩
              rw [hin]
              simp (maxSteps := 1000000) -dsimp (disch := first | omega | ((repeat first | rw [AH.nx_new] | rw [AH.nx_put]); done) | ((repeat first | rw [AH.nx_new] | rw [AH.nx_put]); omega)) only [go_sem, Int.reduceEq, Int.reduceNe, Int.reduceLT, Int.reduceLE, Int.reduceAdd, Int.reduceSub, Int.reduceMul, Int.reduceNeg, Int.reduceToNat, Nat.reducePow, reduceCtorEq, Nat.reduceEqDiff, Nat.reduceAdd, Nat.reduceLT, Nat.reduceLeDiff, Nat.reduceMul, Nat.reduceSub, Nat.reduceBEq, Int.reduceToNat, cj, hjl, l1, hgz, hcs, Nat.mul_one, z0, z5, z7, z10, z9, z16, z17, z18]
              refine ⟨(sortS (A.now.map (·.1))).length - (j + 1), by omega, trivial, y1.trans fw, trivial, trivial, trivial, trivial, trivial, trivial, j + 1, rfl, ?_, by omega, rfl⟩
              congr 1
              rw [hsn]
              omega
            · have : j = (sortS (A.now.map (·.1))).length := by omega
              subst this
              rw [List.take_length, hsz] at z17
              simp (maxSteps := 1000000) -dsimp (disch := first | omega | ((repeat first | rw [AH.nx_new] | rw [AH.nx_put]); done) | ((repeat first | rw [AH.nx_new] | rw [AH.nx_put]); omega)) only [go_sem, Int.reduceEq, Int.reduceNe, Int.reduceLT, Int.reduceLE, Int.reduceAdd, Int.reduceSub, Int.reduceMul, Int.reduceNeg, Int.reduceToNat, Nat.reducePow, reduceCtorEq, Nat.reduceEqDiff, Nat.reduceAdd, Nat.reduceLT, Nat.reduceLeDiff, Nat.reduceMul, Nat.reduceSub, Nat.reduceBEq, Int.reduceToNat, cj, l1, z0, z5, z7, z10, z9, z16, z17, z18]
              exact ⟨trivial, trivial, y1, trivial, trivial, trivial, trivial, trivial, trivial, trivial⟩
          · simp (maxSteps := 1000000) -dsimp (disch := first | omega | ((repeat first | rw [AH.nx_new] | rw [AH.nx_put]); done) | ((repeat first | rw [AH.nx_new] | rw [AH.nx_put]); omega)) only [go_sem, Int.reduceEq, Int.reduceNe, Int.reduceLT, Int.reduceLE, Int.reduceAdd, Int.reduceSub, Int.reduceMul, Int.reduceNeg, Int.reduceToNat, Nat.reducePow, reduceCtorEq, Nat.reduceEqDiff, Nat.reduceAdd, Nat.reduceLT, Nat.reduceLeDiff, Nat.reduceMul, Nat.reduceSub, Nat.reduceBEq, Int.reduceToNat, c4, c7, c8, v0, v5, v7, v10, v9, ln]
            exact ⟨trivial, Fr.refl _, trivial, trivial, trivial, trivial, trivial, trivial, 0, rfl, rfl, Nat.zero_le _, rfl⟩
          · rintro ex ⟨t2, gz, d2⟩ ⟨rfl, rfl, y1, z0, z5, z7, z10, z9, z16, z17⟩
            dsimp only at y1 z0 z5 z7 z10 z9 z16 z17
            have FZ : Fr G gz := F1.trans y1
            have hAz := hA9.fr FZ
            have hBz := hB9.fr FZ
            have hub : B7.used = A.used := by unfold TT.used; rw [en, ef]
            try simp (maxSteps := 1000000) -dsimp (disch := first | omega | ((repeat first | rw [AH.nx_new] | rw [AH.nx_put]); done) | ((repeat first | rw [AH.nx_new] | rw [AH.nx_put]); omega)) only [go_sem, Int.reduceEq, Int.reduceNe, Int.reduceLT, Int.reduceLE, Int.reduceAdd, Int.reduceSub, Int.reduceMul, Int.reduceNeg, Int.reduceToNat, Nat.reducePow, reduceCtorEq, Nat.reduceEqDiff, Nat.reduceAdd, Nat.reduceLT, Nat.reduceLeDiff, Nat.reduceMul, Nat.reduceSub, Nat.reduceBEq, Int.reduceToNat, z0, z5, z7, z10, z9, z16, z17]
            refine callK_of (pathsC hS hBz (by rw [en]; exact smA.now)) ?_
            rintro rq G2 ⟨hs2, F2⟩
            rw [en] at hs2
            obtain ⟨l2, s2, o2⟩ := ssLn hs2
            try simp (maxSteps := 1000000) -dsimp (disch := first | omega | ((repeat first | rw [AH.nx_new] | rw [AH.nx_put]); done) | ((repeat first | rw [AH.nx_new] | rw [AH.nx_put]); omega)) only [go_sem, Int.reduceEq, Int.reduceNe, Int.reduceLT, Int.reduceLE, Int.reduceAdd, Int.reduceSub, Int.reduceMul, Int.reduceNeg, Int.reduceToNat, Nat.reducePow, reduceCtorEq, Nat.reduceEqDiff, Nat.reduceAdd, Nat.reduceLT, Nat.reduceLeDiff, Nat.reduceMul, Nat.reduceSub, Nat.reduceBEq, Int.reduceToNat, o2, o1, z0, z5, z7, z10, z9, z16, z17]
            refine callK_of (textsC hS (hs1.fr (y1.trans F2)) hs2 hks) ?_
            rintro rt G3 ⟨rfl, F3⟩
            try simp (maxSteps := 1000000) -dsimp (disch := first | omega | ((repeat first | rw [AH.nx_new] | rw [AH.nx_put]); done) | ((repeat first | rw [AH.nx_new] | rw [AH.nx_put]); omega)) only [go_sem, Int.reduceEq, Int.reduceNe, Int.reduceLT, Int.reduceLE, Int.reduceAdd, Int.reduceSub, Int.reduceMul, Int.reduceNeg, Int.reduceToNat, Nat.reducePow, reduceCtorEq, Nat.reduceEqDiff, Nat.reduceAdd, Nat.reduceLT, Nat.reduceLeDiff, Nat.reduceMul, Nat.reduceSub, Nat.reduceBEq, Int.reduceToNat, z0, z5, z7, z10, z9, z16, z17]
            refine callK_of (leftC hS.toSt (hAz.fr (F2.trans F3)) smA.now) ?_
            rintro ru G4 ⟨rfl, F4⟩
            try simp (maxSteps := 1000000) -dsimp (disch := first | omega | ((repeat first | rw [AH.nx_new] | rw [AH.nx_put]); done) | ((repeat first | rw [AH.nx_new] | rw [AH.nx_put]); omega)) only [go_sem, Int.reduceEq, Int.reduceNe, Int.reduceLT, Int.reduceLE, Int.reduceAdd, Int.reduceSub, Int.reduceMul, Int.reduceNeg, Int.reduceToNat, Nat.reducePow, reduceCtorEq, Nat.reduceEqDiff, Nat.reduceAdd, Nat.reduceLT, Nat.reduceLeDiff, Nat.reduceMul, Nat.reduceSub, Nat.reduceBEq, Int.reduceToNat, z0, z5, z7, z10, z9, z16, z17]
            refine callK_of (leftC hS.toSt (hBz.fr ((F2.trans F3).trans F4)) (by rw [en]; exact smA.now)) ?_
            rintro rv G5 ⟨rfl, F5⟩
            rw [hub, hr5, r5b]
            try simp (maxSteps := 1000000) -dsimp (disch := first | omega | ((repeat first | rw [AH.nx_new] | rw [AH.nx_put]); done) | ((repeat first | rw [AH.nx_new] | rw [AH.nx_put]); omega)) only [go_sem, Int.reduceEq, Int.reduceNe, Int.reduceLT, Int.reduceLE, Int.reduceAdd, Int.reduceSub, Int.reduceMul, Int.reduceNeg, Int.reduceToNat, Nat.reducePow, reduceCtorEq, Nat.reduceEqDiff, Nat.reduceAdd, Nat.reduceLT, Nat.reduceLeDiff, Nat.reduceMul, Nat.reduceSub, Nat.reduceBEq, Int.reduceToNat, z0, z5, z7, z10, z9, z16, z17]
            refine callK_of (leftC hS.toSt (hAz.fr (((F2.trans F3).trans F4).trans F5)) smA.now) ?_
            rintro rw_ G6 ⟨rfl, F6⟩
            rw [hr5]
            try simp (maxSteps := 1000000) -dsimp (disch := first | omega | ((repeat first | rw [AH.nx_new] | rw [AH.nx_put]); done) | ((repeat first | rw [AH.nx_new] | rw [AH.nx_put]); omega)) only [go_sem, Int.reduceEq, Int.reduceNe, Int.reduceLT, Int.reduceLE, Int.reduceAdd, Int.reduceSub, Int.reduceMul, Int.reduceNeg, Int.reduceToNat, Nat.reducePow, reduceCtorEq, Nat.reduceEqDiff, Nat.reduceAdd, Nat.reduceLT, Nat.reduceLeDiff, Nat.reduceMul, Nat.reduceSub, Nat.reduceBEq, Int.reduceToNat, z0, z5, z7, z10, z9, z16, z17]
            refine callK_of (onC hS.toSt (hBz.fr ((((F2.trans F3).trans F4).trans F5).trans F6))) ?_
            rintro rx G7 ⟨rfl, hG7⟩
            have hG7' := hG7.symm
            subst hG7'
            rw [ho9]
            simp (maxSteps := 1000000) -dsimp (disch := first | omega | ((repeat first | rw [AH.nx_new] | rw [AH.nx_put]); done) | ((repeat first | rw [AH.nx_new] | rw [AH.nx_put]); omega)) only [go_sem, Int.reduceEq, Int.reduceNe, Int.reduceLT, Int.reduceLE, Int.reduceAdd, Int.reduceSub, Int.reduceMul, Int.reduceNeg, Int.reduceToNat, Nat.reducePow, reduceCtorEq, Nat.reduceEqDiff, Nat.reduceAdd, Nat.reduceLT, Nat.reduceLeDiff, Nat.reduceMul, Nat.reduceSub, Nat.reduceBEq, Int.reduceToNat, z0, z5, z7, z10, z9, z16, z17, eqb1, eqb2]
            have FE := FZ.trans ((((F2.trans F3).trans F4).trans F5).trans F6)
            exact ⟨L.length - (i + 1), by omega, trivial, trivial, trivial, trivial, i + 1, true, rfl, rfl, by omega, rfl, ⟨K7, nb7, sb7, cb7, ρb7, B7, hB9.fr FE, ho9, bd7, fun _ => hAcb.gr (frGr FE K7), fun hh => (by cases hh)⟩⟩
        · dsimp only at e1 e2 e3
          obtain ⟨rfl, rfl⟩ : yb = xb ∧ ye = xe := by simpa using e1
          have c11 : ¬ ((ye : Nat) : Int) = 11 := by omega
          simp (maxSteps := 1000000) -dsimp (disch := first | omega | ((repeat first | rw [AH.nx_new] | rw [AH.nx_put]); done) | ((repeat first | rw [AH.nx_new] | rw [AH.nx_put]); omega)) only [go_sem, Int.reduceEq, Int.reduceNe, Int.reduceLT, Int.reduceLE, Int.reduceAdd, Int.reduceSub, Int.reduceMul, Int.reduceNeg, Int.reduceToNat, Nat.reducePow, reduceCtorEq, Nat.reduceEqDiff, Nat.reduceAdd, Nat.reduceLT, Nat.reduceLeDiff, Nat.reduceMul, Nat.reduceSub, Nat.reduceBEq, Int.reduceToNat, c4, c7, c8, v0, v5, v7, v10, v9, ln, c11]
          generalize hG : ((g7.new (.cells [.str [], .int .i64 0] true false)).put g7.nx (.cells [.str yb, .int .i64 (ye : Nat)] true false)) = G8
          have fG : Fr g7 G8 := hG ▸ f8 _ _
          have nG : G8.nx = g7.nx + 1 := by rw [← hG]; rfl
          have cG : G8.get g7.nx = some (.cells [.str yb, .int .i64 (ye : Nat)] true false) := by rw [← hG]; exact AH.get_put_eq rfl
          have hgG : G8.get id = _ := (fG.get id hid7).trans hg7
          have hacG := hac7.gr (frGr fG (fun j => Ka j + K7 j))
          have hAG := hA7.fr fG
          have hBG := hB7.fr fG
          have kg : Ka g7.nx = 0 := hA7.top _ (Nat.le_refl _)
          have fd : Fr G8 { tr := G8.tr, nx := G8.nx + 8 } := (Fr.refl G8).more _ (by omega)
          have hokd : AcOK Ka { tr := G8.tr, nx := G8.nx + 8 } a := ((hacG.1 a ham).part fun j hj => by have : Ka j + K7 j = 0 := hj; omega).gr (frGr fd Ka)
          have svc := svCells (hacG.1 a ham)
          have idn : id ≠ g7.nx := by omega
          refine syDraw.keep (fun j => j = g7.nx ∨ j = id) (by kernel_rfl) (by kernel_rfl) ?_
          simp (maxSteps := 1000000) -dsimp (disch := first | omega | ((repeat first | rw [AH.nx_new] | rw [AH.nx_put]); done) | ((repeat first | rw [AH.nx_new] | rw [AH.nx_put]); omega)) only [go_sem, Int.reduceEq, Int.reduceNe, Int.reduceLT, Int.reduceLE, Int.reduceAdd, Int.reduceSub, Int.reduceMul, Int.reduceNeg, Int.reduceToNat, Nat.reducePow, reduceCtorEq, Nat.reduceEqDiff, Nat.reduceAdd, Nat.reduceLT, Nat.reduceLeDiff, Nat.reduceMul, Nat.reduceSub, Nat.reduceBEq, Int.reduceToNat, c4, c7, c8, v0, v5, v7, v10, v9, ln, hil, cG, hgG, x0, hcl, hc, svc, svA, true_and, implies_true, sv_int, sv_bool, true_or, or_true]
          refine callK_of (callC hS.toCl (hAG.fr fd) smA smA2 (fun n => Nat.le_trans (keepT_len bdA n) (by omega)) hokd (by omega) (by omega)) ?_
          rintro r10 h10 ⟨rfl, K10, na10, sa10, ca10, ρa10, hA10', gr10⟩
          rw [hxx] at hA10'
          dsimp only at hA10'
          rw [hxx]
          have hsame : ∀ j, j < G8.nx → Ka j = 0 → h10.get j = G8.get j := fun j hj hk => (gr10.get j (Nat.lt_of_lt_of_le hj fd.nx) hk).1
          have kid : Ka id = 0 := by omega
          have idl : id < G8.nx := by omega
          have gnl : g7.nx < G8.nx := by omega
          refine ⟨fun j hj => hj.elim (fun hh => by rw [hh]; exact hsame _ gnl kg) (fun hh => by rw [hh]; exact hsame _ idl kid), ?_⟩
          obtain ⟨hB10, ap10'⟩ := (hBG.fr fd).other ap7.symm gr10
          have ap10 := ap10'.symm
          have hac10 := (hacG.gr (frGr fd (fun j => Ka j + K7 j))).gr (gr10.sum' (Kb := K7))
          obtain ⟨q1, q2, q3, q4, q5, q6, q7, q8⟩ := e3.eq
          have bdA7 := e3.bd bd7
          obtain ⟨smA7, _⟩ := bdA7.sm (by omega)
          have r57 : A7.room = 5000 := roomA.trans hr5
          have r57b : B7.room = 5000 := q3.trans r57
          simp (maxSteps := 1000000) -dsimp (disch := first | omega | ((repeat first | rw [AH.nx_new] | rw [AH.nx_put]); done) | ((repeat first | rw [AH.nx_new] | rw [AH.nx_put]); omega)) only [go_sem, Int.reduceEq, Int.reduceNe, Int.reduceLT, Int.reduceLE, Int.reduceAdd, Int.reduceSub, Int.reduceMul, Int.reduceNeg, Int.reduceToNat, Nat.reducePow, reduceCtorEq, Nat.reduceEqDiff, Nat.reduceAdd, Nat.reduceLT, Nat.reduceLeDiff, Nat.reduceMul, Nat.reduceSub, Nat.reduceBEq, Int.reduceToNat, c4, c7, c8, v0, v5, v7, v10, v9, ln, neAgg, true_and, implies_true, sv_int, sv_bool]
          have hks : (sortS (A7.now.map (·.1))).length ≤ 16384 := by rw [sortS_len, List.length_map]; exact smA7.now
          have hu9 := used_le hA10'.wf smA7.now
          have hsz : szL A7 (sortS (A7.now.map (·.1))) = A7.used := by rw [szL_sort, szL_now hA10'.wf]
          refine callK_of (pathsC hS hA10' smA7.now) ?_
          rintro rp G1 ⟨hs1, F1⟩
          obtain ⟨l1, s1, o1⟩ := ssLn hs1
          have hA11 := hA10'.fr F1
          try simp (maxSteps := 1000000) -dsimp (disch := first | omega | ((repeat first | rw [AH.nx_new] | rw [AH.nx_put]); done) | ((repeat first | rw [AH.nx_new] | rw [AH.nx_put]); omega)) only [go_sem, Int.reduceEq, Int.reduceNe, Int.reduceLT, Int.reduceLE, Int.reduceAdd, Int.reduceSub, Int.reduceMul, Int.reduceNeg, Int.reduceToNat, Nat.reducePow, reduceCtorEq, Nat.reduceEqDiff, Nat.reduceAdd, Nat.reduceLT, Nat.reduceLeDiff, Nat.reduceMul, Nat.reduceSub, Nat.reduceBEq, Int.reduceToNat, o1, c4, c7, c8, v0, v5, v7, v10, v9, ln]
          refine loopK_of (RnL.rounds (Q := fun ex u => ex = .exit 2 ∧ u.d = [] ∧ Fr G1 u.h ∧ u.t.get 0 = some (.sl id 0 L.length 6 none) ∧ u.t.get 5 = some (.ptr pa 0) ∧ u.t.get 7 = some (.ptr pb 0) ∧ u.t.get 10 = some (.int .i64 (i : Nat)) ∧ u.t.get 9 = some (.bool false) ∧ u.t.get 16 = some rp ∧ u.t.get 17 = some (.int .i64 (A7.used : Nat)))
            (fun m u => u.d = [] ∧ Fr G1 u.h ∧ u.t.get 0 = some (.sl id 0 L.length 6 none) ∧ u.t.get 5 = some (.ptr pa 0) ∧ u.t.get 7 = some (.ptr pb 0) ∧ u.t.get 10 = some (.int .i64 (i : Nat)) ∧ u.t.get 9 = some (.bool false) ∧ u.t.get 16 = some rp ∧ ∃ j : Nat, u.t.get 18 = some (.int .i64 (j : Nat)) ∧ u.t.get 17 = some (.int .i64 (szL A7 ((sortS (A7.now.map (·.1))).take j) : Nat)) ∧ j ≤ (sortS (A7.now.map (·.1))).length ∧ m = (sortS (A7.now.map (·.1))).length - j) ?_ (sortS (A7.now.map (·.1))).length ?_) ?_
          · rintro m ⟨t2, gz, d2⟩ ⟨y2, y1, z0, z5, z7, z10, z9, z16, j, z18, z17, hj, rfl⟩
            dsimp only at y1 y2 z0 z5 z7 z10 z9 z16 z17 z18
            subst y2
            by_cases cj : (j : Int) < ((sortS (A7.now.map (·.1))).length : Nat)
            · have hjl : j < (sortS (A7.now.map (·.1))).length := by omega
              obtain ⟨s, hs⟩ : ∃ s, (sortS (A7.now.map (·.1)))[j]? = some s := ⟨_, List.getElem?_eq_getElem hjl⟩
              rcases hs1 with ⟨_, h0⟩ | ⟨ik, rfl, hgk, hik, _⟩
              · rw [h0] at hjl; simp at hjl
              have hcs : ((sortS (A7.now.map (·.1))).map AV.str)[j]? = some (.str s) := by simp [hs]
              have hgz : gz.get ik = _ := (y1.get ik hik).trans hgk
              have hin : (statT A7 s).2.2 = true := by
                obtain ⟨e, he, hee⟩ := List.mem_map.1 (sortS_mem (List.mem_iff_getElem?.2 ⟨j, hs⟩))
                unfold statT
                rw [← hee, mem_valS hA10'.wf.now.1 e he]
              have htk : (sortS (A7.now.map (·.1))).take (j + 1) = (sortS (A7.now.map (·.1))).take j ++ [s] := by rw [List.take_add_one, hs]; rfl
              have hsn : szL A7 ((sortS (A7.now.map (·.1))).take (j + 1)) = szL A7 ((sortS (A7.now.map (·.1))).take j) + (statT A7 s).1 := by rw [htk, szL_snoc]
              have hle := szL_take A7 (sortS (A7.now.map (·.1))) (j + 1)
              simp (maxSteps := 1000000) -dsimp (disch := first | omega | ((repeat first | rw [AH.nx_new] | rw [AH.nx_put]); done) | ((repeat first | rw [AH.nx_new] | rw [AH.nx_put]); omega)) only [go_sem, Int.reduceEq, Int.reduceNe, Int.reduceLT, Int.reduceLE, Int.reduceAdd, Int.reduceSub, Int.reduceMul, Int.reduceNeg, Int.reduceToNat, Nat.reducePow, reduceCtorEq, Nat.reduceEqDiff, Nat.reduceAdd, Nat.reduceLT, Nat.reduceLeDiff, Nat.reduceMul, Nat.reduceSub, Nat.reduceBEq, Int.reduceToNat, cj, hjl, l1, hgz, hcs, Nat.mul_one, z0, z5, z7, z10, z9, z16, z17, z18]
              refine callK_of (statC hS.toSt (hA11.fr y1) s) ?_
              rintro rs gw ⟨rfl, fw⟩
              rw [hin]
              simp (maxSteps := 1000000) -dsimp (disch := first | omega | ((repeat first | rw [AH.nx_new] | rw [AH.nx_put]); done) | ((repeat first | rw [AH.nx_new] | rw [AH.nx_put]); omega)) only [go_sem, Int.reduceEq, Int.reduceNe, Int.reduceLT, Int.reduceLE, Int.reduceAdd, Int.reduceSub, Int.reduceMul, Int.reduceNeg, Int.reduceToNat, Nat.reducePow, reduceCtorEq, Nat.reduceEqDiff, Nat.reduceAdd, Nat.reduceLT, Nat.reduceLeDiff, Nat.reduceMul, Nat.reduceSub, Nat.reduceBEq, Int.reduceToNat, cj, hjl, l1, hgz, hcs, Nat.mul_one, z0, z5, z7, z10, z9, z16, z17, z18]
              refine ⟨(sortS (A7.now.map (·.1))).length - (j + 1), by omega, trivial, y1.trans fw, trivial, trivial, trivial, trivial, trivial, trivial, j + 1, rfl, ?_, by omega, rfl⟩
              congr 1
              rw [hsn]
              omega
            · have : j = (sortS (A7.now.map (·.1))).length := by omega
              subst this
              rw [List.take_length, hsz] at z17
              simp (maxSteps := 1000000) -dsimp (disch := first | omega | ((repeat first | rw [AH.nx_new] | rw [AH.nx_put]); done) | ((repeat first | rw [AH.nx_new] | rw [AH.nx_put]); omega)) only [go_sem, Int.reduceEq, Int.reduceNe, Int.reduceLT, Int.reduceLE, Int.reduceAdd, Int.reduceSub, Int.reduceMul, Int.reduceNeg, Int.reduceToNat, Nat.reducePow, reduceCtorEq, Nat.reduceEqDiff, Nat.reduceAdd, Nat.reduceLT, Nat.reduceLeDiff, Nat.reduceMul, Nat.reduceSub, Nat.reduceBEq, Int.reduceToNat, cj, l1, z0, z5, z7, z10, z9, z16, z17, z18]
              exact ⟨trivial, trivial, y1, trivial, trivial, trivial, trivial, trivial, trivial, trivial⟩
          · simp (maxSteps := 1000000) -dsimp (disch := first | omega | ((repeat first | rw [AH.nx_new] | rw [AH.nx_put]); done) | ((repeat first | rw [AH.nx_new] | rw [AH.nx_put]); omega)) only [go_sem, Int.reduceEq, Int.reduceNe, Int.reduceLT, Int.reduceLE, Int.reduceAdd, Int.reduceSub, Int.reduceMul, Int.reduceNeg, Int.reduceToNat, Nat.reducePow, reduceCtorEq, Nat.reduceEqDiff, Nat.reduceAdd, Nat.reduceLT, Nat.reduceLeDiff, Nat.reduceMul, Nat.reduceSub, Nat.reduceBEq, Int.reduceToNat, c4, c7, c8, v0, v5, v7, v10, v9, ln]
            exact ⟨trivial, Fr.refl _, trivial, trivial, trivial, trivial, trivial, trivial, 0, rfl, rfl, Nat.zero_le _, rfl⟩
          · rintro ex ⟨t2, gz, d2⟩ ⟨rfl, rfl, y1, z0, z5, z7, z10, z9, z16, z17⟩
            dsimp only at y1 z0 z5 z7 z10 z9 z16 z17
            have FZ : Fr h10 gz := F1.trans y1
            have hAz := hA10'.fr FZ
            have hBz := hB10.fr FZ
            have hub : B7.used = A7.used := by unfold TT.used; rw [q1, q2]
            try simp (maxSteps := 1000000) -dsimp (disch := first | omega | ((repeat first | rw [AH.nx_new] | rw [AH.nx_put]); done) | ((repeat first | rw [AH.nx_new] | rw [AH.nx_put]); omega)) only [go_sem, Int.reduceEq, Int.reduceNe, Int.reduceLT, Int.reduceLE, Int.reduceAdd, Int.reduceSub, Int.reduceMul, Int.reduceNeg, Int.reduceToNat, Nat.reducePow, reduceCtorEq, Nat.reduceEqDiff, Nat.reduceAdd, Nat.reduceLT, Nat.reduceLeDiff, Nat.reduceMul, Nat.reduceSub, Nat.reduceBEq, Int.reduceToNat, z0, z5, z7, z10, z9, z16, z17]
            refine callK_of (pathsC hS hBz (by rw [q1]; exact smA7.now)) ?_
            rintro rq G2 ⟨hs2, F2⟩
            rw [q1] at hs2
            obtain ⟨l2, s2, o2⟩ := ssLn hs2
            try simp (maxSteps := 1000000) -dsimp (disch := first | omega | ((repeat first | rw [AH.nx_new] | rw [AH.nx_put]); done) | ((repeat first | rw [AH.nx_new] | rw [AH.nx_put]); omega)) only [go_sem, Int.reduceEq, Int.reduceNe, Int.reduceLT, Int.reduceLE, Int.reduceAdd, Int.reduceSub, Int.reduceMul, Int.reduceNeg, Int.reduceToNat, Nat.reducePow, reduceCtorEq, Nat.reduceEqDiff, Nat.reduceAdd, Nat.reduceLT, Nat.reduceLeDiff, Nat.reduceMul, Nat.reduceSub, Nat.reduceBEq, Int.reduceToNat, o2, o1, z0, z5, z7, z10, z9, z16, z17]
            refine callK_of (textsC hS (hs1.fr (y1.trans F2)) hs2 hks) ?_
            rintro rt G3 ⟨rfl, F3⟩
            try simp (maxSteps := 1000000) -dsimp (disch := first | omega | ((repeat first | rw [AH.nx_new] | rw [AH.nx_put]); done) | ((repeat first | rw [AH.nx_new] | rw [AH.nx_put]); omega)) only [go_sem, Int.reduceEq, Int.reduceNe, Int.reduceLT, Int.reduceLE, Int.reduceAdd, Int.reduceSub, Int.reduceMul, Int.reduceNeg, Int.reduceToNat, Nat.reducePow, reduceCtorEq, Nat.reduceEqDiff, Nat.reduceAdd, Nat.reduceLT, Nat.reduceLeDiff, Nat.reduceMul, Nat.reduceSub, Nat.reduceBEq, Int.reduceToNat, z0, z5, z7, z10, z9, z16, z17]
            refine callK_of (leftC hS.toSt (hAz.fr (F2.trans F3)) smA7.now) ?_
            rintro ru G4 ⟨rfl, F4⟩
            try simp (maxSteps := 1000000) -dsimp (disch := first | omega | ((repeat first | rw [AH.nx_new] | rw [AH.nx_put]); done) | ((repeat first | rw [AH.nx_new] | rw [AH.nx_put]); omega)) only [go_sem, Int.reduceEq, Int.reduceNe, Int.reduceLT, Int.reduceLE, Int.reduceAdd, Int.reduceSub, Int.reduceMul, Int.reduceNeg, Int.reduceToNat, Nat.reducePow, reduceCtorEq, Nat.reduceEqDiff, Nat.reduceAdd, Nat.reduceLT, Nat.reduceLeDiff, Nat.reduceMul, Nat.reduceSub, Nat.reduceBEq, Int.reduceToNat, z0, z5, z7, z10, z9, z16, z17]
            refine callK_of (leftC hS.toSt (hBz.fr ((F2.trans F3).trans F4)) (by rw [q1]; exact smA7.now)) ?_
            rintro rv G5 ⟨rfl, F5⟩
            rw [hub, r57, r57b]
            try simp (maxSteps := 1000000) -dsimp (disch := first | omega | ((repeat first | rw [AH.nx_new] | rw [AH.nx_put]); done) | ((repeat first | rw [AH.nx_new] | rw [AH.nx_put]); omega)) only [go_sem, Int.reduceEq, Int.reduceNe, Int.reduceLT, Int.reduceLE, Int.reduceAdd, Int.reduceSub, Int.reduceMul, Int.reduceNeg, Int.reduceToNat, Nat.reducePow, reduceCtorEq, Nat.reduceEqDiff, Nat.reduceAdd, Nat.reduceLT, Nat.reduceLeDiff, Nat.reduceMul, Nat.reduceSub, Nat.reduceBEq, Int.reduceToNat, z0, z5, z7, z10, z9, z16, z17]
            refine callK_of (leftC hS.toSt (hAz.fr (((F2.trans F3).trans F4).trans F5)) smA7.now) ?_
            rintro rw_ G6 ⟨rfl, F6⟩
            rw [r57]
            try simp (maxSteps := 1000000) -dsimp (disch := first | omega | ((repeat first | rw [AH.nx_new] | rw [AH.nx_put]); done) | ((repeat first | rw [AH.nx_new] | rw [AH.nx_put]); omega)) only [go_sem, Int.reduceEq, Int.reduceNe, Int.reduceLT, Int.reduceLE, Int.reduceAdd, Int.reduceSub, Int.reduceMul, Int.reduceNeg, Int.reduceToNat, Nat.reducePow, reduceCtorEq, Nat.reduceEqDiff, Nat.reduceAdd, Nat.reduceLT, Nat.reduceLeDiff, Nat.reduceMul, Nat.reduceSub, Nat.reduceBEq, Int.reduceToNat, z0, z5, z7, z10, z9, z16, z17]
            refine callK_of (onC hS.toSt (hBz.fr ((((F2.trans F3).trans F4).trans F5).trans F6))) ?_
            rintro rx G7 ⟨rfl, hG7⟩
            have hG7' := hG7.symm
            subst hG7'
            rw [q4]
            simp (maxSteps := 1000000) -dsimp (disch := first | omega | ((repeat first | rw [AH.nx_new] | rw [AH.nx_put]); done) | ((repeat first | rw [AH.nx_new] | rw [AH.nx_put]); omega)) only [go_sem, Int.reduceEq, Int.reduceNe, Int.reduceLT, Int.reduceLE, Int.reduceAdd, Int.reduceSub, Int.reduceMul, Int.reduceNeg, Int.reduceToNat, Nat.reducePow, reduceCtorEq, Nat.reduceEqDiff, Nat.reduceAdd, Nat.reduceLT, Nat.reduceLeDiff, Nat.reduceMul, Nat.reduceSub, Nat.reduceBEq, Int.reduceToNat, z0, z5, z7, z10, z9, z16, z17, eqb1, eqb2]
            have FE := FZ.trans ((((F2.trans F3).trans F4).trans F5).trans F6)
            exact ⟨L.length - (i + 1), by omega, trivial, trivial, trivial, trivial, i + 1, false, rfl, rfl, by omega, rfl, ⟨K7, nb7, sb7, cb7, ρb7, B7, hB10.fr FE, q4, bd7, fun hh => (by cases hh), fun _ => ⟨K10, na10, sa10, ca10, ρa10, A7, hA10'.fr FE, ap10, e3, r57, hac10.gr (frGr FE _)⟩⟩⟩
      · obtain ⟨hAc1, hAc2⟩ := hon rfl
        have hok := hAc1 a ham
        obtain ⟨oe, ob⟩ := off_act (ok := okP) hBo (pk a.k) (by omega) (by omega) a.p a.q a.l a.n a.ps
        simp (maxSteps := 1000000) -dsimp (disch := first | omega | ((repeat first | rw [AH.nx_new] | rw [AH.nx_put]); done) | ((repeat first | rw [AH.nx_new] | rw [AH.nx_put]); omega)) only [go_sem, Int.reduceEq, Int.reduceNe, Int.reduceLT, Int.reduceLE, Int.reduceAdd, Int.reduceSub, Int.reduceMul, Int.reduceNeg, Int.reduceToNat, Nat.reducePow, reduceCtorEq, Nat.reduceEqDiff, Nat.reduceAdd, Nat.reduceLT, Nat.reduceLeDiff, Nat.reduceMul, Nat.reduceSub, Nat.reduceBEq, Int.reduceToNat, c4, c7, c8, v0, v5, v7, v10, v9, ln, hil, hg, x0, hcl, hc]
        refine callK_of (pathsC hS hB smB.now) ?_
        rintro r1 g5 ⟨hs1, f5⟩
        have hsk := Sk.of hs1 hB.top
        obtain ⟨l1, s1, o1⟩ := ssLn hs1
        have hB5 := hB.fr f5
        refine callK_of (leftC hS.toSt hB5 smB.now) ?_
        rintro r2 g6 ⟨rfl, f6⟩
        have hB6 := hB5.fr f6
        have hg6 : g6.get id = _ := ((f5.trans f6).get id hid).trans hg
        have hok6 := hok.gr (frGr (f5.trans f6) Kb)
        simp (maxSteps := 1000000) -dsimp (disch := first | omega | ((repeat first | rw [AH.nx_new] | rw [AH.nx_put]); done) | ((repeat first | rw [AH.nx_new] | rw [AH.nx_put]); omega)) only [go_sem, Int.reduceEq, Int.reduceNe, Int.reduceLT, Int.reduceLE, Int.reduceAdd, Int.reduceSub, Int.reduceMul, Int.reduceNeg, Int.reduceToNat, Nat.reducePow, reduceCtorEq, Nat.reduceEqDiff, Nat.reduceAdd, Nat.reduceLT, Nat.reduceLeDiff, Nat.reduceMul, Nat.reduceSub, Nat.reduceBEq, Int.reduceToNat, o1, c4, c7, c8, v0, v5, v7, v10, v9, ln, hil, hg6, x0, hcl, hc]
        refine callK_of (callC hS.toCl hB6 smB smB2 (fun n => Nat.le_trans (keepT_len hbd n) (by omega)) hok6 (by omega) (by omega)) ?_
        rintro r3 g7 ⟨rfl, K7, nb7, sb7, cb7, ρb7, hB7, gr7⟩
        rw [ob] at hB7
        have hsk7 := (hsk.gr (frGr f6 Kb)).gr gr7
        have hAc7 := Acs.gr (Acs.gr (K := Kb) ⟨hAc1, hAc2⟩ (frGr (f5.trans f6) Kb)) gr7
        simp (maxSteps := 1000000) -dsimp (disch := first | omega | ((repeat first | rw [AH.nx_new] | rw [AH.nx_put]); done) | ((repeat first | rw [AH.nx_new] | rw [AH.nx_put]); omega)) only [go_sem, Int.reduceEq, Int.reduceNe, Int.reduceLT, Int.reduceLE, Int.reduceAdd, Int.reduceSub, Int.reduceMul, Int.reduceNeg, Int.reduceToNat, Nat.reducePow, reduceCtorEq, Nat.reduceEqDiff, Nat.reduceAdd, Nat.reduceLT, Nat.reduceLeDiff, Nat.reduceMul, Nat.reduceSub, Nat.reduceBEq, Int.reduceToNat, o1, c4, c7, c8, v0, v5, v7, v10, v9, ln, hil, x0, hcl, hc]
        have f8 : ∀ o o', Fr g7 ((g7.new o).put g7.nx o') := fun o o' => (Fr.new g7 o).put o' (Nat.le_refl _)
        have hks : (sortS (B.now.map (·.1))).length ≤ 16384 := by rw [sortS_len, List.length_map]; exact smB.now
        rcases oe with he | he
        all_goals
          rw [he]
          simp (maxSteps := 1000000) -dsimp (disch := first | omega | ((repeat first | rw [AH.nx_new] | rw [AH.nx_put]); done) | ((repeat first | rw [AH.nx_new] | rw [AH.nx_put]); omega)) only [go_sem, Int.reduceEq, Int.reduceNe, Int.reduceLT, Int.reduceLE, Int.reduceAdd, Int.reduceSub, Int.reduceMul, Int.reduceNeg, Int.reduceToNat, Nat.reducePow, reduceCtorEq, Nat.reduceEqDiff, Nat.reduceAdd, Nat.reduceLT, Nat.reduceLeDiff, Nat.reduceMul, Nat.reduceSub, Nat.reduceBEq, Int.reduceToNat, c4, c7, c8, v0, v5, v7, v10, v9, ln]
          refine callK_of (onC hS.toSt (hB7.fr (f8 _ _))) ?_
          rintro r8 g8 ⟨rfl, hg8⟩
          rw [hBo]
          have f78 : Fr g7 g8 := hg8 ▸ f8 _ _
          clear hg8
          simp (maxSteps := 1000000) -dsimp (disch := first | omega | ((repeat first | rw [AH.nx_new] | rw [AH.nx_put]); done) | ((repeat first | rw [AH.nx_new] | rw [AH.nx_put]); omega)) only [go_sem, Int.reduceEq, Int.reduceNe, Int.reduceLT, Int.reduceLE, Int.reduceAdd, Int.reduceSub, Int.reduceMul, Int.reduceNeg, Int.reduceToNat, Nat.reducePow, reduceCtorEq, Nat.reduceEqDiff, Nat.reduceAdd, Nat.reduceLT, Nat.reduceLeDiff, Nat.reduceMul, Nat.reduceSub, Nat.reduceBEq, Int.reduceToNat, c4, c7, c8, v0, v5, v7, v10, v9, ln]
          refine callK_of (leftC hS.toSt (hB7.fr f78) smB.now) ?_
          rintro r9 g9 ⟨rfl, f9⟩
          simp (maxSteps := 1000000) -dsimp (disch := first | omega | ((repeat first | rw [AH.nx_new] | rw [AH.nx_put]); done) | ((repeat first | rw [AH.nx_new] | rw [AH.nx_put]); omega)) only [go_sem, Int.reduceEq, Int.reduceNe, Int.reduceLT, Int.reduceLE, Int.reduceAdd, Int.reduceSub, Int.reduceMul, Int.reduceNeg, Int.reduceToNat, Nat.reducePow, reduceCtorEq, Nat.reduceEqDiff, Nat.reduceAdd, Nat.reduceLT, Nat.reduceLeDiff, Nat.reduceMul, Nat.reduceSub, Nat.reduceBEq, Int.reduceToNat, c4, c7, c8, v0, v5, v7, v10, v9, ln]
          refine callK_of (pathsC hS (hB7.fr (f78.trans f9)) smB.now) ?_
          rintro r10 g10 ⟨hs10, f10⟩
          obtain ⟨l10, s10, o10⟩ := ssLn hs10
          have f710 := (f78.trans f9).trans f10
          try simp (maxSteps := 1000000) -dsimp (disch := first | omega | ((repeat first | rw [AH.nx_new] | rw [AH.nx_put]); done) | ((repeat first | rw [AH.nx_new] | rw [AH.nx_put]); omega)) only [go_sem, Int.reduceEq, Int.reduceNe, Int.reduceLT, Int.reduceLE, Int.reduceAdd, Int.reduceSub, Int.reduceMul, Int.reduceNeg, Int.reduceToNat, Nat.reducePow, reduceCtorEq, Nat.reduceEqDiff, Nat.reduceAdd, Nat.reduceLT, Nat.reduceLeDiff, Nat.reduceMul, Nat.reduceSub, Nat.reduceBEq, Int.reduceToNat, o10, c4, c7, c8, v0, v5, v7, v10, v9, ln]
          refine callK_of (textsC hS hs10 (hsk7.gr (frGr f710 K7)).1 hks) ?_
          rintro r11 g11 ⟨rfl, f11⟩
          simp (maxSteps := 1000000) -dsimp (disch := first | omega | ((repeat first | rw [AH.nx_new] | rw [AH.nx_put]); done) | ((repeat first | rw [AH.nx_new] | rw [AH.nx_put]); omega)) only [go_sem, Int.reduceEq, Int.reduceNe, Int.reduceLT, Int.reduceLE, Int.reduceAdd, Int.reduceSub, Int.reduceMul, Int.reduceNeg, Int.reduceToNat, Nat.reducePow, reduceCtorEq, Nat.reduceEqDiff, Nat.reduceAdd, Nat.reduceLT, Nat.reduceLeDiff, Nat.reduceMul, Nat.reduceSub, Nat.reduceBEq, Int.reduceToNat, c4, c7, c8, v0, v5, v7, v10, v9, ln]
          exact ⟨L.length - (i + 1), by omega, trivial, trivial, trivial, trivial, i + 1, true, rfl, rfl, by omega, rfl, ⟨K7, nb7, sb7, cb7, ρb7, B, hB7.fr (f710.trans f11), hBo, hbd.mono, fun _ => hAc7.gr (frGr (f710.trans f11) K7), fun hh => (by cases hh)⟩⟩
    · simp (maxSteps := 1000000) -dsimp (disch := first | omega | ((repeat first | rw [AH.nx_new] | rw [AH.nx_put]); done) | ((repeat first | rw [AH.nx_new] | rw [AH.nx_put]); omega)) only [go_sem, Int.reduceEq, Int.reduceNe, Int.reduceLT, Int.reduceLE, Int.reduceAdd, Int.reduceSub, Int.reduceMul, Int.reduceNeg, Int.reduceToNat, Nat.reducePow, reduceCtorEq, Nat.reduceEqDiff, Nat.reduceAdd, Nat.reduceLT, Nat.reduceLeDiff, Nat.reduceMul, Nat.reduceSub, Nat.reduceBEq, Int.reduceToNat, c4, v0, v10, ln]
      exact ⟨trivial, trivial⟩
  · simp (maxSteps := 1000000) -dsimp (disch := first | omega | ((repeat first | rw [AH.nx_new] | rw [AH.nx_put]); done) | ((repeat first | rw [AH.nx_new] | rw [AH.nx_put]); omega)) only [go_sem, Int.reduceEq, Int.reduceNe, Int.reduceLT, Int.reduceLE, Int.reduceAdd, Int.reduceSub, Int.reduceMul, Int.reduceNeg, Int.reduceToNat, Nat.reducePow, reduceCtorEq, Nat.reduceEqDiff, Nat.reduceAdd, Nat.reduceLT, Nat.reduceLeDiff, Nat.reduceMul, Nat.reduceSub, Nat.reduceBEq, Int.reduceToNat]
    exact ⟨trivial, trivial, trivial, trivial, 0, false, rfl, rfl, Nat.zero_le _, rfl, hfw⟩
  · rintro ex ⟨t, gx, d⟩ ⟨rfl, rfl⟩
    simp (maxSteps := 1000000) -dsimp (disch := first | omega | ((repeat first | rw [AH.nx_new] | rw [AH.nx_put]); done) | ((repeat first | rw [AH.nx_new] | rw [AH.nx_put]); omega)) only [go_sem, Int.reduceEq, Int.reduceNe, Int.reduceLT, Int.reduceLE, Int.reduceAdd, Int.reduceSub, Int.reduceMul, Int.reduceNeg, Int.reduceToNat, Nat.reducePow, reduceCtorEq, Nat.reduceEqDiff, Nat.reduceAdd, Nat.reduceLT, Nat.reduceLeDiff, Nat.reduceMul, Nat.reduceSub, Nat.reduceBEq, Int.reduceToNat]
end
end Go.Proofs.YtjcidnbgbdibaaaDoor.tre
