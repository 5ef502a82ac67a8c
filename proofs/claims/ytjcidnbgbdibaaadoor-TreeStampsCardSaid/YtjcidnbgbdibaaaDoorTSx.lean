/- The law TreeStamps, walked. Conditions: those of its summaries. -/
import Derived.Test.YtjcidnbgbdibaaaDoorTSw
namespace Go.Proofs.YtjcidnbgbdibaaaDoor.tre
open Go Go.Abs Go.Proofs
set_option maxRecDepth 100000
set_option linter.unusedVariables false
set_option linter.unusedSimpArgs false

/-- What was seen of the path before. -/
def Seen (T : TT) (path : Pth) (w : List Nat) (st : Nat) (th : Bool) : Prop := th = true → ∃ x, valS T.now path = some x ∧ (T.fil x).st = st ∧ (T.fil x).b = w
theorem wf_act {T : TT} (w : Wf T) (hs : ∀ p, okP p = true → p.length ≤ 69) : True := trivial
section
variable {S : Sums}
theorem nilT (h : AH) : binA Tryd.prog h .eql 25 .nilptr .nilptr = some (.bool true) := by kernel_rfl
theorem neSS (h : AH) (a b : List Nat) : binA Tryd.prog h .neq 9 (.str a) (.str b) = some (.bool (!decide (a = b))) := by
  simp [binA, strA, eqL_eq]
set_option maxHeartbeats 16000000 in
theorem stamps4 (hS : Cl S) (hN : ∀ args h, S 4 args h = none) (hL : ∀ h, S 6 [] h = some (.bool true, h)) {h : AH} {v : AV} {L : List Ac} {room : Int} {path : Pth} (hA : Acs (fun _ => 0) h v L) :
    RnC Tryd.prog S 4 [.int .i64 room, v, .str path] h fun r _ => r = .bool true := by
  refine RnC.enter' Tryd.f4 _ 88 [.tmp 6] (hN _ _) bd4 Tryd.func4 rfl rfl rfl ?_
  obtain ⟨ln, sl, ol⟩ := hA.ln
  simp (maxSteps := 1000000) -dsimp (disch := first | omega | ((repeat first | rw [AH.nx_new] | rw [AH.nx_put]); done) | ((repeat first | rw [AH.nx_new] | rw [AH.nx_put]); omega)) only [go_sem, Int.reduceEq, Int.reduceNe, Int.reduceLT, Int.reduceLE, Int.reduceAdd, Int.reduceSub, Int.reduceMul, Int.reduceNeg, Int.reduceToNat, Nat.reducePow, reduceCtorEq, Nat.reduceEqDiff, Nat.reduceAdd, Nat.reduceLT, Nat.reduceLeDiff, Nat.reduceMul, Nat.reduceSub, Nat.reduceBEq, Int.reduceToNat]
  refine callK_of (RnC.sum (hL _) (Q := fun v h' => v = .bool true ∧ h' = h) ⟨rfl, rfl⟩) ?_
  rintro r g ⟨rfl, rfl⟩
  simp (maxSteps := 1000000) -dsimp (disch := first | omega | ((repeat first | rw [AH.nx_new] | rw [AH.nx_put]); done) | ((repeat first | rw [AH.nx_new] | rw [AH.nx_put]); omega)) only [go_sem, Int.reduceEq, Int.reduceNe, Int.reduceLT, Int.reduceLE, Int.reduceAdd, Int.reduceSub, Int.reduceMul, Int.reduceNeg, Int.reduceToNat, Nat.reducePow, reduceCtorEq, Nat.reduceEqDiff, Nat.reduceAdd, Nat.reduceLT, Nat.reduceLeDiff, Nat.reduceMul, Nat.reduceSub, Nat.reduceBEq, Int.reduceToNat, ol]
  refine callK_of (smallC (fun _ _ => hS.nc _ _ _ (by simp)) hA) ?_
  rintro r g1 ⟨f1, b, rfl, hb⟩
  have ls : ∀ g s, evLen Tryd.prog g #[9] (.str s) = some (.int .i64 ((s.length : Nat) : Int)) := fun g s => by simp [evLen, Tryd.underlying9]
  cases b
  · simp (maxSteps := 1000000) -dsimp (disch := first | omega | ((repeat first | rw [AH.nx_new] | rw [AH.nx_put]); done) | ((repeat first | rw [AH.nx_new] | rw [AH.nx_put]); omega)) only [go_sem, Int.reduceEq, Int.reduceNe, Int.reduceLT, Int.reduceLE, Int.reduceAdd, Int.reduceSub, Int.reduceMul, Int.reduceNeg, Int.reduceToNat, Nat.reducePow, reduceCtorEq, Nat.reduceEqDiff, Nat.reduceAdd, Nat.reduceLT, Nat.reduceLeDiff, Nat.reduceMul, Nat.reduceSub, Nat.reduceBEq, Int.reduceToNat]
  by_cases c1 : (3000 : Int) < ((path.length : Nat) : Int)
  · simp (maxSteps := 1000000) -dsimp (disch := first | omega | ((repeat first | rw [AH.nx_new] | rw [AH.nx_put]); done) | ((repeat first | rw [AH.nx_new] | rw [AH.nx_put]); omega)) only [go_sem, Int.reduceEq, Int.reduceNe, Int.reduceLT, Int.reduceLE, Int.reduceAdd, Int.reduceSub, Int.reduceMul, Int.reduceNeg, Int.reduceToNat, Nat.reducePow, reduceCtorEq, Nat.reduceEqDiff, Nat.reduceAdd, Nat.reduceLT, Nat.reduceLeDiff, Nat.reduceMul, Nat.reduceSub, Nat.reduceBEq, Int.reduceToNat, ls, c1]
  obtain ⟨hl200, hw⟩ := hb rfl
  simp (maxSteps := 1000000) -dsimp (disch := first | omega | ((repeat first | rw [AH.nx_new] | rw [AH.nx_put]); done) | ((repeat first | rw [AH.nx_new] | rw [AH.nx_put]); omega)) only [go_sem, Int.reduceEq, Int.reduceNe, Int.reduceLT, Int.reduceLE, Int.reduceAdd, Int.reduceSub, Int.reduceMul, Int.reduceNeg, Int.reduceToNat, Nat.reducePow, reduceCtorEq, Nat.reduceEqDiff, Nat.reduceAdd, Nat.reduceLT, Nat.reduceLeDiff, Nat.reduceMul, Nat.reduceSub, Nat.reduceBEq, Int.reduceToNat, ls, c1]
  refine callK_of (newC hS.toSt room) ?_
  rintro r g2 ⟨f2, hr⟩
  by_cases cr : 0 ≤ room ∧ room ≤ 67108864
  · rw [if_pos cr] at hr
    obtain ⟨rfl, n2, hT0⟩ := hr
    have hk0 : ∀ j, j < g.nx → (fun j => if j = g1.nx + 2 then 1 else if j = g1.nx then 2 else if j = g1.nx + 1 then 3 else 0) j = 0 := fun j hj => (if_neg (by have := f1.nx; omega)).trans ((if_neg (by have := f1.nx; omega)).trans (if_neg (by have := f1.nx; omega)))
    have hA0 : Acs (fun j => if j = g1.nx + 2 then 1 else if j = g1.nx then 2 else if j = g1.nx + 1 then 3 else 0) g2 v L := by
      refine ⟨fun a ha => ?_, ?_⟩
      · have h0 := hA.1 a ha
        exact ⟨Bz.of h0.b.1 (f1.trans f2) hk0, h0.bl, Iv.of h0.ps (f1.trans f2) hk0, h0.n⟩
      · rcases hA.2 with h1 | ⟨id, cs, o, t, h1, h2, h3, h4, h5⟩
        · exact .inl h1
        · exact .inr ⟨id, cs, o, t, h1, ((f1.trans f2).get _ h3).trans h2, Nat.lt_of_lt_of_le h3 (f1.trans f2).nx, hk0 _ h3, h5⟩
    generalize (fun j => if j = g1.nx + 2 then 1 else if j = g1.nx then 2 else if j = g1.nx + 1 then 3 else 0) = Ka at hT0 hA0
    generalize g1.nx + 2 = p at hT0
    simp (maxSteps := 1000000) -dsimp (disch := first | omega | ((repeat first | rw [AH.nx_new] | rw [AH.nx_put]); done) | ((repeat first | rw [AH.nx_new] | rw [AH.nx_put]); omega)) only [go_sem, Int.reduceEq, Int.reduceNe, Int.reduceLT, Int.reduceLE, Int.reduceAdd, Int.reduceSub, Int.reduceMul, Int.reduceNeg, Int.reduceToNat, Nat.reducePow, reduceCtorEq, Nat.reduceEqDiff, Nat.reduceAdd, Nat.reduceLT, Nat.reduceLeDiff, Nat.reduceMul, Nat.reduceSub, Nat.reduceBEq, Int.reduceToNat, ol]
    refine loopK_of (RnL.rounds (Q := fun ex u => ex = .exit 0 ∧ u.d = [])
      (fun m u => u.d = [] ∧ u.t.get 1 = some v ∧ u.t.get 2 = some (.str path) ∧ u.t.get 7 = some (.ptr p 0) ∧ ∃ (i : Nat) (w : List Nat) (st : Nat) (th : Bool), u.t.get 12 = some (.int .i64 (i : Nat)) ∧ u.t.get 9 = some (.str w) ∧ u.t.get 10 = some (.int .u64 (st : Nat)) ∧ u.t.get 11 = some (.bool th) ∧ i ≤ L.length ∧ m = L.length - i ∧ ∃ K nm sm chv ρ T, Tr K p nm sm chv ρ u.h T ∧ Acs K u.h v L ∧ Stm okP T ∧ Bd i T ∧ Seen T path w st th) ?_ L.length ?_) ?_
    · rintro m ⟨t, gx, d⟩ ⟨e2, v1, v2, v7, i, w, st, th, v12, v9, v10, v11, hi, rfl, K, nm, sm, chv, ρ, T, hT, hAc, hst, hbd, hseen⟩
      dsimp only at e2 v1 v2 v7 v12 v9 v10 v11 hT hAc
      subst e2
      by_cases c4 : (i : Int) < (L.length : Nat)
      · have hil : i < L.length := by omega
        obtain ⟨a, ha⟩ : ∃ a, L[i]? = some a := ⟨_, List.getElem?_eq_getElem hil⟩
        have ham : a ∈ L := List.mem_iff_getElem?.2 ⟨i, ha⟩
        have hok := hAc.1 a ham
        have haw : a.w ≤ 3000 := Nat.le_trans (wL_mem ham) hw
        have hawe : a.w = min a.p.length 3001 + min a.q.length 3001 + min a.l.length 3001 + min a.ps.length 3001 := rfl
        rcases hAc.2 with ⟨_, rfl⟩ | ⟨id, cs, o, tx, rfl, hg, hid, hk, hcs⟩
        · simp at hil
        obtain ⟨hcl, hc⟩ := hcs i a ha
        have x0 : cs[i * 6]? = some (.int .i64 a.k) := Ac.get hc 0 (by decide)
        have hcl2 : i * 6 + 6 ≤ cs.length := hcl
        obtain ⟨sm1, sm2⟩ := hbd.sm (by omega)
        simp (maxSteps := 1000000) -dsimp (disch := first | omega | ((repeat first | rw [AH.nx_new] | rw [AH.nx_put]); done) | ((repeat first | rw [AH.nx_new] | rw [AH.nx_put]); omega)) only [go_sem, Int.reduceEq, Int.reduceNe, Int.reduceLT, Int.reduceLE, Int.reduceAdd, Int.reduceSub, Int.reduceMul, Int.reduceNeg, Int.reduceToNat, Nat.reducePow, reduceCtorEq, Nat.reduceEqDiff, Nat.reduceAdd, Nat.reduceLT, Nat.reduceLeDiff, Nat.reduceMul, Nat.reduceSub, Nat.reduceBEq, Int.reduceToNat, c4, v1, v2, v7, v12, v9, v10, v11, ln, hil, hg, x0]
        refine callK_of (pickC (fun _ _ => hS.nc _ _ _ (by simp))) ?_
        rintro r gy ⟨rfl, rfl⟩
        by_cases c7 : ((pk a.k : Nat) : Int) = 7
        · simp (maxSteps := 1000000) -dsimp (disch := first | omega | ((repeat first | rw [AH.nx_new] | rw [AH.nx_put]); done) | ((repeat first | rw [AH.nx_new] | rw [AH.nx_put]); omega)) only [go_sem, Int.reduceEq, Int.reduceNe, Int.reduceLT, Int.reduceLE, Int.reduceAdd, Int.reduceSub, Int.reduceMul, Int.reduceNeg, Int.reduceToNat, Nat.reducePow, reduceCtorEq, Nat.reduceEqDiff, Nat.reduceAdd, Nat.reduceLT, Nat.reduceLeDiff, Nat.reduceMul, Nat.reduceSub, Nat.reduceBEq, Int.reduceToNat, c4, c7, v1, v2, v7, v12, v9, v10, v11, ln, hil, hg, x0]
          exact ⟨L.length - (i + 1), by omega, trivial, trivial, trivial, trivial, i + 1, w, st, th, rfl, rfl, rfl, rfl, by omega, rfl, K, nm, sm, chv, ρ, T, hT, hAc, hst, hbd.mono, hseen⟩
        · simp (maxSteps := 1000000) -dsimp (disch := first | omega | ((repeat first | rw [AH.nx_new] | rw [AH.nx_put]); done) | ((repeat first | rw [AH.nx_new] | rw [AH.nx_put]); omega)) only [go_sem, Int.reduceEq, Int.reduceNe, Int.reduceLT, Int.reduceLE, Int.reduceAdd, Int.reduceSub, Int.reduceMul, Int.reduceNeg, Int.reduceToNat, Nat.reducePow, reduceCtorEq, Nat.reduceEqDiff, Nat.reduceAdd, Nat.reduceLT, Nat.reduceLeDiff, Nat.reduceMul, Nat.reduceSub, Nat.reduceBEq, Int.reduceToNat, c4, c7, v1, v2, v7, v12, v9, v10, v11, ln, hil, hg, x0, hcl, hcl2, hc]
          refine callK_of (callC hS hT sm1 sm2 (fun n => Nat.le_trans (keepT_len hbd n) (by omega)) hok (by omega) (by omega)) ?_
          rintro r5 h5 ⟨rfl, K5, nm5, sm5, ch5, ρ5, hT5, gr5⟩
          obtain ⟨hst5, hkp⟩ := hst.act hT.wf (pk a.k) (by omega) a.p a.q a.l a.n a.ps
          have hbd5 := hbd.act (ok := okP) (by omega) (pk a.k) a.p a.q a.l a.n a.ps
          have hA5 := hAc.gr gr5
          generalize hTT : (actT okP T (pk a.k) a.p a.q a.l a.n a.ps).2 = T' at hT5 hst5 hkp hbd5
          refine callK_of (statC hS.toSt hT5 path) ?_
          rintro r6 h6 ⟨rfl, f6⟩
          have fin : ∀ (hz : AH) (Kz : Nat → Nat), Gr K5 h6 Kz hz → Acs Kz hz (.sl id 0 L.length 6 none) L := fun hz Kz gz => (hA5.gr (frGr f6 K5)).gr gz
          have rd := hst5.read path
          cases hvx : valS T'.now path with
          | none =>
            have es : statT T' path = (0, 0, false) := by unfold statT; rw [hvx]
            rw [es]
            simp (maxSteps := 1000000) -dsimp (disch := first | omega | ((repeat first | rw [AH.nx_new] | rw [AH.nx_put]); done) | ((repeat first | rw [AH.nx_new] | rw [AH.nx_put]); omega)) only [go_sem, Int.reduceEq, Int.reduceNe, Int.reduceLT, Int.reduceLE, Int.reduceAdd, Int.reduceSub, Int.reduceMul, Int.reduceNeg, Int.reduceToNat, Nat.reducePow, reduceCtorEq, Nat.reduceEqDiff, Nat.reduceAdd, Nat.reduceLT, Nat.reduceLeDiff, Nat.reduceMul, Nat.reduceSub, Nat.reduceBEq, Int.reduceToNat, c4, c7, v1, v2, v7, v12, v9, v10, v11]
            refine callK_of (gotC hS.toSt (fun _ _ => hS.nc _ _ _ (by simp)) (hT5.fr f6) path) ?_
            rintro r7 h7 ⟨rfl, hT7, gr7⟩
            rw [rd] at hT7
            simp (maxSteps := 1000000) -dsimp (disch := first | omega | ((repeat first | rw [AH.nx_new] | rw [AH.nx_put]); done) | ((repeat first | rw [AH.nx_new] | rw [AH.nx_put]); omega)) only [go_sem, Int.reduceEq, Int.reduceNe, Int.reduceLT, Int.reduceLE, Int.reduceAdd, Int.reduceSub, Int.reduceMul, Int.reduceNeg, Int.reduceToNat, Nat.reducePow, reduceCtorEq, Nat.reduceEqDiff, Nat.reduceAdd, Nat.reduceLT, Nat.reduceLeDiff, Nat.reduceMul, Nat.reduceSub, Nat.reduceBEq, Int.reduceToNat, c4, c7, v1, v2, v7, v12, v9, v10, v11]
            refine callK_of (clockC hS.toSt hT7) ?_
            rintro r8 h8 ⟨rfl, rfl⟩
            have cu : ¬ ((T'.clock : Nat) : Int) < 0 := by omega
            simp (maxSteps := 1000000) -dsimp (disch := first | omega | ((repeat first | rw [AH.nx_new] | rw [AH.nx_put]); done) | ((repeat first | rw [AH.nx_new] | rw [AH.nx_put]); omega)) only [go_sem, Int.reduceEq, Int.reduceNe, Int.reduceLT, Int.reduceLE, Int.reduceAdd, Int.reduceSub, Int.reduceMul, Int.reduceNeg, Int.reduceToNat, Nat.reducePow, reduceCtorEq, Nat.reduceEqDiff, Nat.reduceAdd, Nat.reduceLT, Nat.reduceLeDiff, Nat.reduceMul, Nat.reduceSub, Nat.reduceBEq, Int.reduceToNat, cu, c4, c7, v1, v2, v7, v12, v9, v10, v11]
            exact ⟨L.length - (i + 1), by omega, trivial, trivial, trivial, trivial, i + 1, _, _, _, rfl, rfl, rfl, rfl, by omega, rfl, K5, nm5, sm5, ch5, ρ5, T', hT7, fin _ _ gr7, hst5, hbd5, fun hh => (by cases hh)⟩
          | some x =>
            have es : statT T' path = ((T'.fil x).b.length, (T'.fil x).st, true) := by unfold statT; rw [hvx]
            have hokp := hst5.okn path x hvx
            have er : (readT T' (okP path) path).1 = (T'.fil x).b := by
              unfold readT
              dsimp only
              rw [opT_on hst5, hokp]
              simp only [if_true, ne_eq, not_true_eq_false, if_false, hvx]
            have hcl5 := hst5.st path x hvx
            have cu : ¬ ((T'.clock : Nat) : Int) < (((T'.fil x).st : Nat) : Int) := by omega
            rw [es]
            simp (maxSteps := 1000000) -dsimp (disch := first | omega | ((repeat first | rw [AH.nx_new] | rw [AH.nx_put]); done) | ((repeat first | rw [AH.nx_new] | rw [AH.nx_put]); omega)) only [go_sem, Int.reduceEq, Int.reduceNe, Int.reduceLT, Int.reduceLE, Int.reduceAdd, Int.reduceSub, Int.reduceMul, Int.reduceNeg, Int.reduceToNat, Nat.reducePow, reduceCtorEq, Nat.reduceEqDiff, Nat.reduceAdd, Nat.reduceLT, Nat.reduceLeDiff, Nat.reduceMul, Nat.reduceSub, Nat.reduceBEq, Int.reduceToNat, c4, c7, v1, v2, v7, v12, v9, v10, v11]
            refine callK_of (gotC hS.toSt (fun _ _ => hS.nc _ _ _ (by simp)) (hT5.fr f6) path) ?_
            rintro r7 h7 ⟨rfl, hT7, gr7⟩
            rw [rd] at hT7
            rw [er]
            cases th
            · simp (maxSteps := 1000000) -dsimp (disch := first | omega | ((repeat first | rw [AH.nx_new] | rw [AH.nx_put]); done) | ((repeat first | rw [AH.nx_new] | rw [AH.nx_put]); omega)) only [go_sem, Int.reduceEq, Int.reduceNe, Int.reduceLT, Int.reduceLE, Int.reduceAdd, Int.reduceSub, Int.reduceMul, Int.reduceNeg, Int.reduceToNat, Nat.reducePow, reduceCtorEq, Nat.reduceEqDiff, Nat.reduceAdd, Nat.reduceLT, Nat.reduceLeDiff, Nat.reduceMul, Nat.reduceSub, Nat.reduceBEq, Int.reduceToNat, c4, c7, v1, v2, v7, v12, v9, v10, v11]
              refine callK_of (clockC hS.toSt hT7) ?_
              rintro r8 h8 ⟨rfl, rfl⟩
              simp (maxSteps := 1000000) -dsimp (disch := first | omega | ((repeat first | rw [AH.nx_new] | rw [AH.nx_put]); done) | ((repeat first | rw [AH.nx_new] | rw [AH.nx_put]); omega)) only [go_sem, Int.reduceEq, Int.reduceNe, Int.reduceLT, Int.reduceLE, Int.reduceAdd, Int.reduceSub, Int.reduceMul, Int.reduceNeg, Int.reduceToNat, Nat.reducePow, reduceCtorEq, Nat.reduceEqDiff, Nat.reduceAdd, Nat.reduceLT, Nat.reduceLeDiff, Nat.reduceMul, Nat.reduceSub, Nat.reduceBEq, Int.reduceToNat, cu, c4, c7, v1, v2, v7, v12, v9, v10, v11]
              exact ⟨L.length - (i + 1), by omega, trivial, trivial, trivial, trivial, i + 1, _, _, _, rfl, rfl, rfl, rfl, by omega, rfl, K5, nm5, sm5, ch5, ρ5, T', hT7, fin _ _ gr7, hst5, hbd5, fun _ => ⟨x, hvx, rfl, rfl⟩⟩
            · obtain ⟨y, hy1, hy2, hy3⟩ := hseen rfl
              by_cases cs1 : (((T'.fil x).st : Nat) : Int) = ((st : Nat) : Int)
              · have hbe : w = (T'.fil x).b := by
                  rw [← hy3]
                  exact hkp path y x hy1 hvx (by omega)
                have nss : ∀ h, binA Tryd.prog h .neq 9 (.str (T'.fil x).b) (.str w) = some (.bool false) := fun h => by rw [neSS, hbe]; simp
                simp (maxSteps := 1000000) -dsimp (disch := first | omega | ((repeat first | rw [AH.nx_new] | rw [AH.nx_put]); done) | ((repeat first | rw [AH.nx_new] | rw [AH.nx_put]); omega)) only [go_sem, Int.reduceEq, Int.reduceNe, Int.reduceLT, Int.reduceLE, Int.reduceAdd, Int.reduceSub, Int.reduceMul, Int.reduceNeg, Int.reduceToNat, Nat.reducePow, reduceCtorEq, Nat.reduceEqDiff, Nat.reduceAdd, Nat.reduceLT, Nat.reduceLeDiff, Nat.reduceMul, Nat.reduceSub, Nat.reduceBEq, Int.reduceToNat, nss, cs1, c4, c7, v1, v2, v7, v12, v9, v10, v11]
                refine callK_of (clockC hS.toSt hT7) ?_
                rintro r8 h8 ⟨rfl, rfl⟩
                rw [cs1] at cu
                simp (maxSteps := 1000000) -dsimp (disch := first | omega | ((repeat first | rw [AH.nx_new] | rw [AH.nx_put]); done) | ((repeat first | rw [AH.nx_new] | rw [AH.nx_put]); omega)) only [go_sem, Int.reduceEq, Int.reduceNe, Int.reduceLT, Int.reduceLE, Int.reduceAdd, Int.reduceSub, Int.reduceMul, Int.reduceNeg, Int.reduceToNat, Nat.reducePow, reduceCtorEq, Nat.reduceEqDiff, Nat.reduceAdd, Nat.reduceLT, Nat.reduceLeDiff, Nat.reduceMul, Nat.reduceSub, Nat.reduceBEq, Int.reduceToNat, cu, cs1, c4, c7, v1, v2, v7, v12, v9, v10, v11]
                exact ⟨L.length - (i + 1), by omega, trivial, trivial, trivial, trivial, i + 1, _, _, _, rfl, rfl, rfl, rfl, by omega, rfl, K5, nm5, sm5, ch5, ρ5, T', hT7, fin _ _ gr7, hst5, hbd5, fun _ => ⟨x, hvx, by omega, rfl⟩⟩
              · simp (maxSteps := 1000000) -dsimp (disch := first | omega | ((repeat first | rw [AH.nx_new] | rw [AH.nx_put]); done) | ((repeat first | rw [AH.nx_new] | rw [AH.nx_put]); omega)) only [go_sem, Int.reduceEq, Int.reduceNe, Int.reduceLT, Int.reduceLE, Int.reduceAdd, Int.reduceSub, Int.reduceMul, Int.reduceNeg, Int.reduceToNat, Nat.reducePow, reduceCtorEq, Nat.reduceEqDiff, Nat.reduceAdd, Nat.reduceLT, Nat.reduceLeDiff, Nat.reduceMul, Nat.reduceSub, Nat.reduceBEq, Int.reduceToNat, cs1, c4, c7, v1, v2, v7, v12, v9, v10, v11]
                refine callK_of (clockC hS.toSt hT7) ?_
                rintro r8 h8 ⟨rfl, rfl⟩
                simp (maxSteps := 1000000) -dsimp (disch := first | omega | ((repeat first | rw [AH.nx_new] | rw [AH.nx_put]); done) | ((repeat first | rw [AH.nx_new] | rw [AH.nx_put]); omega)) only [go_sem, Int.reduceEq, Int.reduceNe, Int.reduceLT, Int.reduceLE, Int.reduceAdd, Int.reduceSub, Int.reduceMul, Int.reduceNeg, Int.reduceToNat, Nat.reducePow, reduceCtorEq, Nat.reduceEqDiff, Nat.reduceAdd, Nat.reduceLT, Nat.reduceLeDiff, Nat.reduceMul, Nat.reduceSub, Nat.reduceBEq, Int.reduceToNat, cu, cs1, c4, c7, v1, v2, v7, v12, v9, v10, v11]
                exact ⟨L.length - (i + 1), by omega, trivial, trivial, trivial, trivial, i + 1, _, _, _, rfl, rfl, rfl, rfl, by omega, rfl, K5, nm5, sm5, ch5, ρ5, T', hT7, fin _ _ gr7, hst5, hbd5, fun _ => ⟨x, hvx, rfl, rfl⟩⟩
      · simp (maxSteps := 1000000) -dsimp (disch := first | omega | ((repeat first | rw [AH.nx_new] | rw [AH.nx_put]); done) | ((repeat first | rw [AH.nx_new] | rw [AH.nx_put]); omega)) only [go_sem, Int.reduceEq, Int.reduceNe, Int.reduceLT, Int.reduceLE, Int.reduceAdd, Int.reduceSub, Int.reduceMul, Int.reduceNeg, Int.reduceToNat, Nat.reducePow, reduceCtorEq, Nat.reduceEqDiff, Nat.reduceAdd, Nat.reduceLT, Nat.reduceLeDiff, Nat.reduceMul, Nat.reduceSub, Nat.reduceBEq, Int.reduceToNat, c4, v1, v12, ln]
        exact ⟨trivial, trivial⟩
    · simp (maxSteps := 1000000) -dsimp (disch := first | omega | ((repeat first | rw [AH.nx_new] | rw [AH.nx_put]); done) | ((repeat first | rw [AH.nx_new] | rw [AH.nx_put]); omega)) only [go_sem, Int.reduceEq, Int.reduceNe, Int.reduceLT, Int.reduceLE, Int.reduceAdd, Int.reduceSub, Int.reduceMul, Int.reduceNeg, Int.reduceToNat, Nat.reducePow, reduceCtorEq, Nat.reduceEqDiff, Nat.reduceAdd, Nat.reduceLT, Nat.reduceLeDiff, Nat.reduceMul, Nat.reduceSub, Nat.reduceBEq, Int.reduceToNat]
      exact ⟨trivial, trivial, trivial, trivial, 0, [], 0, false, rfl, rfl, rfl, rfl, Nat.zero_le _, rfl, Ka, _, _, _, _, _, hT0, hA0, ⟨rfl, rfl, fun k i hk => (by cases hk), fun k1 i1 k2 i2 h1 => (by cases h1), fun k i hk => (by cases hk), fun k i hk => (by cases hk), fun t ht => (by simp [newT] at ht)⟩, ⟨Nat.zero_le _, Nat.zero_le _, Nat.zero_le _⟩, fun hh => (by cases hh)⟩
    · rintro ex ⟨t, gx, d⟩ ⟨rfl, rfl⟩
      simp (maxSteps := 1000000) -dsimp (disch := first | omega | ((repeat first | rw [AH.nx_new] | rw [AH.nx_put]); done) | ((repeat first | rw [AH.nx_new] | rw [AH.nx_put]); omega)) only [go_sem, Int.reduceEq, Int.reduceNe, Int.reduceLT, Int.reduceLE, Int.reduceAdd, Int.reduceSub, Int.reduceMul, Int.reduceNeg, Int.reduceToNat, Nat.reducePow, reduceCtorEq, Nat.reduceEqDiff, Nat.reduceAdd, Nat.reduceLT, Nat.reduceLeDiff, Nat.reduceMul, Nat.reduceSub, Nat.reduceBEq, Int.reduceToNat]
  · rw [if_neg cr] at hr
    subst hr
    simp (maxSteps := 1000000) -dsimp (disch := first | omega | ((repeat first | rw [AH.nx_new] | rw [AH.nx_put]); done) | ((repeat first | rw [AH.nx_new] | rw [AH.nx_put]); omega)) only [go_sem, Int.reduceEq, Int.reduceNe, Int.reduceLT, Int.reduceLE, Int.reduceAdd, Int.reduceSub, Int.reduceMul, Int.reduceNeg, Int.reduceToNat, Nat.reducePow, reduceCtorEq, Nat.reduceEqDiff, Nat.reduceAdd, Nat.reduceLT, Nat.reduceLeDiff, Nat.reduceMul, Nat.reduceSub, Nat.reduceBEq, Int.reduceToNat, nilT]
end
end Go.Proofs.YtjcidnbgbdibaaaDoor.tre
