/- Laws over trees: acts in memory, small, Pick, call. Conditions: those of its summaries. -/
import Derived.Test.YtjcidnbgbdibaaaDoorTLa
import Derived.Test.YtjcidnbgbdibaaaDoorTSv
namespace Go.Proofs.YtjcidnbgbdibaaaDoor.tre
open Go Go.Abs Go.Proofs
set_option maxRecDepth 100000
set_option linter.unusedVariables false
set_option linter.unusedSimpArgs false

structure Ac where
  k : Int
  p : Pth
  q : Pth
  bv : AV
  l : List Nat
  n : Int
  pv : AV
  ps : List Int
def Ac.cells (a : Ac) : List AV := [.int .i64 a.k, .str a.p, .str a.q, a.bv, .int .i64 a.n, a.pv]
/-- What an act holds. -/
structure AcOK (K : Nat → Nat) (h : AH) (a : Ac) : Prop where
  b : Bz K h a.bv a.l
  bl : ∀ x ∈ a.l, x < 256
  ps : Iv K h a.pv a.ps
  n : a.n ≤ 9223372036854775807
theorem AcOK.gr {K K' : Nat → Nat} {h h' : AH} {a : Ac} (ha : AcOK K h a) (g : Gr K h K' h') : AcOK K' h' a := ⟨ha.b.gr g, ha.bl, ha.ps.gr g, ha.n⟩
/-- Acts in memory. -/
def Acs (K : Nat → Nat) (h : AH) (v : AV) (L : List Ac) : Prop :=
  (∀ a ∈ L, AcOK K h a) ∧ ((v = .nilsl ∧ L = []) ∨ ∃ id cs o t, v = .sl id 0 L.length 6 none ∧ h.get id = some (.cells cs o t) ∧ id < h.nx ∧ K id = 0 ∧ ∀ (i : Nat) a, L[i]? = some a → i * 6 + 6 ≤ cs.length ∧ (cs.drop (i * 6)).take 6 = a.cells)
theorem Acs.gr {K K' : Nat → Nat} {h h' : AH} {v : AV} {L : List Ac} (ha : Acs K h v L) (g : Gr K h K' h') : Acs K' h' v L := by
  refine ⟨fun a hm => (ha.1 a hm).gr g, ?_⟩
  rcases ha.2 with h1 | ⟨id, cs, o, t, h1, h2, h3, h4, h5⟩
  · exact .inl h1
  · exact .inr ⟨id, cs, o, t, h1, (g.get id h3 h4).1.trans h2, Nat.lt_of_lt_of_le h3 g.nx, (g.get id h3 h4).2, h5⟩
theorem Acs.ln {K : Nat → Nat} {h : AH} {v : AV} {L : List Ac} (ha : Acs K h v L) : (∀ g, evLen Tryd.prog g #[40] v = some (.int .i64 (L.length : Nat))) ∧ sameAV 20 v v = true ∧ oneA v = true := by
  rcases ha.2 with ⟨rfl, rfl⟩ | ⟨id, cs, o, t, rfl, _⟩
  · exact ⟨fun g => by simp [evLen, Tryd.underlying40], rfl, rfl⟩
  · exact ⟨fun g => by simp [evLen, Tryd.underlying40], by simp [sameAV], rfl⟩
theorem Ac.get {cs : List AV} {i : Nat} {a : Ac} (h : (cs.drop (i * 6)).take 6 = a.cells) (j : Nat) (hj : j < 6) : cs[i * 6 + j]? = a.cells[j]? := by
  rw [← h, List.getElem?_take_of_lt hj, List.getElem?_drop]
/-- How much an act weighs. -/
def Ac.w (a : Ac) : Nat := min a.p.length 3001 + min a.q.length 3001 + min a.l.length 3001 + min a.ps.length 3001
def wL : List Ac → Nat
  | [] => 0
  | a :: r => a.w + wL r
theorem wL_snoc (l : List Ac) (a : Ac) : wL (l ++ [a]) = wL l + a.w := by
  induction l with
  | nil => simp [wL]
  | cons b r ih => simp only [List.cons_append, wL, ih]; omega
theorem wL_mem {a : Ac} : ∀ {l : List Ac}, a ∈ l → a.w ≤ wL l
  | b :: r, h => by
    rcases List.mem_cons.1 h with rfl | h
    · simp only [wL]; omega
    · have := wL_mem h
      simp only [wL]; omega
def pk (a : Int) : Nat := (a % 10).toNat
theorem tmod10 (a : Int) : a.tmod 10 = if 0 ≤ a then a % 10 else -((-a) % 10) := by
  by_cases h : 0 ≤ a
  · rw [if_pos h, Int.tmod_eq_emod_of_nonneg h]
  · rw [if_neg h]
    have h2 : a.tmod 10 = -((-a).tmod 10) := by rw [Int.neg_tmod, Int.neg_neg]
    rw [h2, Int.tmod_eq_emod_of_nonneg (by omega)]
theorem Res.fin {K : Nat → Nat} {p : Nat} {h h2 hX : AH} {T' : TT} (f : Fr h h2) (top : ∀ j, h.nx ≤ j → K j = 0) (hr : Res K p h2 hX T') {j : Nat} (hj : h.nx ≤ j) (hj2 : j < h2.nx) (o : AO) : Res K p h (hX.put j o) T' := by
  obtain ⟨K', nm, sm, chv, ρ, hT, g⟩ := hr
  have hk := (g.get j hj2 (top j hj)).2
  refine ⟨K', nm, sm, chv, ρ, hT.mono (fun i hi => AH.get_put_ne (fun hh => hi (by rw [hh]; exact hk))) (Nat.le_refl _), ⟨Nat.le_trans f.nx g.nx, fun i hi hki => ?_⟩⟩
  obtain ⟨e1, e2⟩ := g.get i (Nat.lt_of_lt_of_le hi f.nx) hki
  exact ⟨(AH.get_put_ne (by omega)).trans (e1.trans (f.get i hi)), e2⟩
theorem Iv.own2 {K : Nat → Nat} {g : AH} {v : AV} {l : List Int} (hb : Iv K g v l) (hl : l.length ≤ 1048576) {id : Nat} {o t : Bool} (hid : g.get id = some (.cells [] o t)) (hlt : id < g.nx) (kid : K id = 0) (top : ∀ j, g.nx ≤ j → K j = 0) :
    ∃ v' h', evAppend Tryd.prog g #[23, 23] (.sl id 0 0 1 (some 0)) v = some (.val v' h') ∧ Fr g h' ∧ Iv K h' v' l ∧ oneA v' = true := by
  have hold : firstA g 1 0 (.sl id 0 0 1 (some 0)) = some [] := by
    rw [firstA_sl hid (Nat.le_refl _) (by simp)]; simp
  have hnew : lenA v = some l.length ∧ firstA g 1 l.length v = some (l.map (.int .i64)) := by
    rcases hb with ⟨rfl, rfl⟩ | ⟨id', off, c, cs, o', t', rfl, h2, h3, h4, h5, h6, h7⟩
    · exact ⟨rfl, rfl⟩
    · refine ⟨rfl, ?_⟩
      rw [firstA_sl h2 (Nat.le_refl _) (by omega), Nat.mul_one, h7]
  rw [evAppend_eq Tryd.underlying23 Tryd.underlying23 rfl ai3 hnew.1 hnew.2 rfl hold (ints_all l) (by omega) (by omega) rfl]
  by_cases h0 : l.length = 0
  · have : l = [] := List.length_eq_zero_iff.1 h0
    subst this
    rw [if_pos h0]
    exact ⟨_, _, rfl, Fr.refl _, .inr ⟨id, 0, some 0, [], o, t, rfl, hid, hlt, kid, fun k hk => (by cases hk; exact Nat.le_refl _), Nat.le_refl _, rfl⟩, rfl⟩
  · rw [if_neg h0]
    simp only
    rw [if_pos (by omega)]
    refine ⟨_, _, rfl, Fr.new _ _, .inr ⟨g.nx, 0, none, [] ++ l.map (.int .i64), true, false, by simp, AH.get_new_eq rfl, Nat.lt_succ_self _, top _ (Nat.le_refl _), fun k hk => (by cases hk), by simp, ?_⟩, rfl⟩
    rw [List.drop_zero, List.nil_append]
    have : (l.map (AV.int .i64)).take (l.map (AV.int .i64)).length = l.map (AV.int .i64) := List.take_length
    rwa [List.length_map] at this
section
variable {S : Sums}
theorem pickC (hP : ∀ args h, S 19 args h = none) {h : AH} {a : Int} : RnC Tryd.prog S 19 [.int .i64 a, .int .i64 10] h fun r h' => r = .int .i64 (pk a : Nat) ∧ h' = h := by
  refine RnC.enter' Tryd.f19 _ 14 [.tmp 4] (hP _ _) bd19 Tryd.func19 rfl rfl rfl ?_
  have ht := tmod10 a
  have c0 : ¬ (10 : Int) = 0 := by decide
  have hp : ((pk a : Nat) : Int) = a % 10 := by unfold pk; omega
  by_cases c : a.tmod 10 < 0
  · have hb : -10 < a.tmod 10 := by rw [ht]; split <;> omega
    simp (maxSteps := 1000000) -dsimp (disch := first | omega | ((repeat first | rw [AH.nx_new] | rw [AH.nx_put]); done) | ((repeat first | rw [AH.nx_new] | rw [AH.nx_put]); omega)) only [go_sem, evLen, Int.reduceEq, Int.reduceNe, Int.reduceLT, Int.reduceLE, Int.reduceAdd, Int.reduceSub, Int.reduceMul, Int.reduceNeg, Int.reduceToNat, Nat.reducePow, reduceCtorEq, Nat.reduceEqDiff, Nat.reduceAdd, Nat.reduceLT, Nat.reduceLeDiff, Nat.reduceMul, Nat.reduceSub, Nat.reduceBEq, Int.reduceToNat, c0, c]
    refine ⟨?_, trivial⟩
    congr 1
    rw [hp, ht]
    rw [ht] at c
    split at c <;> split <;> omega
  · have hb : a.tmod 10 < 10 := by rw [ht]; split <;> omega
    simp (maxSteps := 1000000) -dsimp (disch := first | omega | ((repeat first | rw [AH.nx_new] | rw [AH.nx_put]); done) | ((repeat first | rw [AH.nx_new] | rw [AH.nx_put]); omega)) only [go_sem, evLen, Int.reduceEq, Int.reduceNe, Int.reduceLT, Int.reduceLE, Int.reduceAdd, Int.reduceSub, Int.reduceMul, Int.reduceNeg, Int.reduceToNat, Nat.reducePow, reduceCtorEq, Nat.reduceEqDiff, Nat.reduceAdd, Nat.reduceLT, Nat.reduceLeDiff, Nat.reduceMul, Nat.reduceSub, Nat.reduceBEq, Int.reduceToNat, c0, c]
    refine ⟨?_, trivial⟩
    congr 1
    rw [hp, ht]
    rw [ht] at c
    split at c <;> split <;> omega
set_option maxHeartbeats 8000000 in
theorem smallC (hP : ∀ args h, S 18 args h = none) {K : Nat → Nat} {h : AH} {v : AV} {L : List Ac} (hL : Acs K h v L) :
    RnC Tryd.prog S 18 [v] h fun r h' => Fr h h' ∧ ∃ b : Bool, r = .bool b ∧ (b = true → L.length ≤ 200 ∧ wL L ≤ 3000) := by
  refine RnC.enter' Tryd.f18 _ 59 [.tmp 2] (hP _ _) bd18 Tryd.func18 rfl rfl rfl ?_
  obtain ⟨ln, sl, ol⟩ := hL.ln
  simp (maxSteps := 1000000) -dsimp (disch := first | omega | ((repeat first | rw [AH.nx_new] | rw [AH.nx_put]); done) | ((repeat first | rw [AH.nx_new] | rw [AH.nx_put]); omega)) only [go_sem, Int.reduceEq, Int.reduceNe, Int.reduceLT, Int.reduceLE, Int.reduceAdd, Int.reduceSub, Int.reduceMul, Int.reduceNeg, Int.reduceToNat, Nat.reducePow, reduceCtorEq, Nat.reduceEqDiff, Nat.reduceAdd, Nat.reduceLT, Nat.reduceLeDiff, Nat.reduceMul, Nat.reduceSub, Nat.reduceBEq, Int.reduceToNat]
  refine loopK_of (RnL.rounds (Q := fun ex u => ex = .exit 0 ∧ u.d = [] ∧ Fr h u.h ∧ u.t.get 0 = some v ∧ ∃ i : Nat, u.t.get 3 = some (.int .i64 (wL (L.take i) : Nat)) ∧ i ≤ L.length ∧ (L.length ≤ 200 → wL (L.take i) ≤ 3000 → i = L.length))
    (fun m u => u.d = [] ∧ Fr h u.h ∧ u.t.get 0 = some v ∧ ∃ i : Nat, u.t.get 4 = some (.int .i64 (i : Nat)) ∧ u.t.get 3 = some (.int .i64 (wL (L.take i) : Nat)) ∧ i ≤ L.length ∧ wL (L.take i) ≤ i * 12004 ∧ m = L.length - i) ?_ L.length ?_) ?_
  · rintro m ⟨t, g, d⟩ ⟨e2, e1, g0, i, g4, g3, hi, hw, rfl⟩
    dsimp only at e1 e2 g0 g3 g4
    subst e2
    by_cases c1 : (i : Int) < (L.length : Nat)
    · by_cases c2 : (i : Int) ≤ 200
      · by_cases c3 : ((wL (L.take i) : Nat) : Int) ≤ 3000
        · have hil : i < L.length := by omega
          obtain ⟨a, ha⟩ : ∃ a, L[i]? = some a := ⟨_, List.getElem?_eq_getElem hil⟩
          have hok := hL.1 a (List.mem_iff_getElem?.2 ⟨i, ha⟩)
          obtain ⟨lb, sb, ob⟩ := bsLn hok.b.1
          obtain ⟨lp, sp, op⟩ := hok.ps.ln
          rcases hL.2 with ⟨_, rfl⟩ | ⟨id, cs, o, tx, rfl, hg, hid, _, hcs⟩
          · simp at hil
          obtain ⟨hcl, hc⟩ := hcs i a ha
          have hg1 : g.get id = some (.cells cs o tx) := (e1.get id hid).trans hg
          have x1 : cs[i * 6 + 1]? = some (.str a.p) := Ac.get hc 1 (by decide)
          have x2 : cs[i * 6 + 2]? = some (.str a.q) := Ac.get hc 2 (by decide)
          have x3 : cs[i * 6 + 3]? = some a.bv := Ac.get hc 3 (by decide)
          have x5 : cs[i * 6 + 5]? = some a.pv := Ac.get hc 5 (by decide)
          have ls : ∀ g s, evLen Tryd.prog g #[9] (.str s) = some (.int .i64 ((s.length : Nat) : Int)) := fun g s => by simp [evLen, Tryd.underlying9]
          simp (maxSteps := 1000000) -dsimp (disch := first | omega | ((repeat first | rw [AH.nx_new] | rw [AH.nx_put]); done) | ((repeat first | rw [AH.nx_new] | rw [AH.nx_put]); omega)) only [go_sem, Int.reduceEq, Int.reduceNe, Int.reduceLT, Int.reduceLE, Int.reduceAdd, Int.reduceSub, Int.reduceMul, Int.reduceNeg, Int.reduceToNat, Nat.reducePow, reduceCtorEq, Nat.reduceEqDiff, Nat.reduceAdd, Nat.reduceLT, Nat.reduceLeDiff, Nat.reduceMul, Nat.reduceSub, Nat.reduceBEq, Int.reduceToNat, c1, c2, c3, g0, g3, g4, ln]
          refine syDraw.go0 (by kernel_rfl) ?_
          simp (maxSteps := 1000000) -dsimp (disch := first | omega | ((repeat first | rw [AH.nx_new] | rw [AH.nx_put]); done) | ((repeat first | rw [AH.nx_new] | rw [AH.nx_put]); omega)) only [go_sem, Int.reduceEq, Int.reduceNe, Int.reduceLT, Int.reduceLE, Int.reduceAdd, Int.reduceSub, Int.reduceMul, Int.reduceNeg, Int.reduceToNat, Nat.reducePow, reduceCtorEq, Nat.reduceEqDiff, Nat.reduceAdd, Nat.reduceLT, Nat.reduceLeDiff, Nat.reduceMul, Nat.reduceSub, Nat.reduceBEq, Int.reduceToNat, c1, c2, c3, g0, g3, g4, ln, ls, lb, lp, ob, op, hil, hg1, x1, x2, x3, x5]
          have htk : L.take (i + 1) = L.take i ++ [a] := by rw [List.take_add_one, ha]; rfl
          have hws : wL (L.take (i + 1)) = wL (L.take i) + a.w := by rw [htk, wL_snoc]
          have haw : a.w = min a.p.length 3001 + min a.q.length 3001 + min a.l.length 3001 + min a.ps.length 3001 := rfl
          refine ⟨L.length - (i + 1), by omega, trivial, e1.more _ (by omega), trivial, i + 1, rfl, ?_, by omega, by omega, rfl⟩
          congr 1
          rw [hws]
          omega
        · simp (maxSteps := 1000000) -dsimp (disch := first | omega | ((repeat first | rw [AH.nx_new] | rw [AH.nx_put]); done) | ((repeat first | rw [AH.nx_new] | rw [AH.nx_put]); omega)) only [go_sem, Int.reduceEq, Int.reduceNe, Int.reduceLT, Int.reduceLE, Int.reduceAdd, Int.reduceSub, Int.reduceMul, Int.reduceNeg, Int.reduceToNat, Nat.reducePow, reduceCtorEq, Nat.reduceEqDiff, Nat.reduceAdd, Nat.reduceLT, Nat.reduceLeDiff, Nat.reduceMul, Nat.reduceSub, Nat.reduceBEq, Int.reduceToNat, c1, c2, c3, g0, g3, g4, ln]
          exact ⟨trivial, trivial, e1, trivial, i, rfl, hi, fun _ hh => absurd hh (by omega)⟩
      · simp (maxSteps := 1000000) -dsimp (disch := first | omega | ((repeat first | rw [AH.nx_new] | rw [AH.nx_put]); done) | ((repeat first | rw [AH.nx_new] | rw [AH.nx_put]); omega)) only [go_sem, Int.reduceEq, Int.reduceNe, Int.reduceLT, Int.reduceLE, Int.reduceAdd, Int.reduceSub, Int.reduceMul, Int.reduceNeg, Int.reduceToNat, Nat.reducePow, reduceCtorEq, Nat.reduceEqDiff, Nat.reduceAdd, Nat.reduceLT, Nat.reduceLeDiff, Nat.reduceMul, Nat.reduceSub, Nat.reduceBEq, Int.reduceToNat, c1, c2, g0, g3, g4, ln]
        exact ⟨trivial, trivial, e1, trivial, i, rfl, hi, fun hh _ => absurd hh (by omega)⟩
    · simp (maxSteps := 1000000) -dsimp (disch := first | omega | ((repeat first | rw [AH.nx_new] | rw [AH.nx_put]); done) | ((repeat first | rw [AH.nx_new] | rw [AH.nx_put]); omega)) only [go_sem, Int.reduceEq, Int.reduceNe, Int.reduceLT, Int.reduceLE, Int.reduceAdd, Int.reduceSub, Int.reduceMul, Int.reduceNeg, Int.reduceToNat, Nat.reducePow, reduceCtorEq, Nat.reduceEqDiff, Nat.reduceAdd, Nat.reduceLT, Nat.reduceLeDiff, Nat.reduceMul, Nat.reduceSub, Nat.reduceBEq, Int.reduceToNat, c1, g0, g3, g4, ln]
      exact ⟨trivial, trivial, e1, trivial, i, rfl, hi, fun _ _ => by omega⟩
  · simp (maxSteps := 1000000) -dsimp (disch := first | omega | ((repeat first | rw [AH.nx_new] | rw [AH.nx_put]); done) | ((repeat first | rw [AH.nx_new] | rw [AH.nx_put]); omega)) only [go_sem, Int.reduceEq, Int.reduceNe, Int.reduceLT, Int.reduceLE, Int.reduceAdd, Int.reduceSub, Int.reduceMul, Int.reduceNeg, Int.reduceToNat, Nat.reducePow, reduceCtorEq, Nat.reduceEqDiff, Nat.reduceAdd, Nat.reduceLT, Nat.reduceLeDiff, Nat.reduceMul, Nat.reduceSub, Nat.reduceBEq, Int.reduceToNat]
    exact ⟨trivial, Fr.refl _, trivial, 0, rfl, rfl, Nat.zero_le _, Nat.zero_le _, rfl⟩
  · rintro ex ⟨t, g, d⟩ ⟨rfl, rfl, e1, g0, i, g3, hi, hh⟩
    dsimp only at e1 g0 g3
    by_cases c1 : ((L.length : Nat) : Int) ≤ 200
    · by_cases c2 : ((wL (L.take i) : Nat) : Int) ≤ 3000
      · simp (maxSteps := 1000000) -dsimp (disch := first | omega | ((repeat first | rw [AH.nx_new] | rw [AH.nx_put]); done) | ((repeat first | rw [AH.nx_new] | rw [AH.nx_put]); omega)) only [go_sem, Int.reduceEq, Int.reduceNe, Int.reduceLT, Int.reduceLE, Int.reduceAdd, Int.reduceSub, Int.reduceMul, Int.reduceNeg, Int.reduceToNat, Nat.reducePow, reduceCtorEq, Nat.reduceEqDiff, Nat.reduceAdd, Nat.reduceLT, Nat.reduceLeDiff, Nat.reduceMul, Nat.reduceSub, Nat.reduceBEq, Int.reduceToNat, c1, c2, g0, g3, ln]
        refine ⟨e1, true, rfl, fun _ => ⟨by omega, ?_⟩⟩
        have := hh (by omega) (by omega)
        rw [this, List.take_length] at c2
        omega
      · simp (maxSteps := 1000000) -dsimp (disch := first | omega | ((repeat first | rw [AH.nx_new] | rw [AH.nx_put]); done) | ((repeat first | rw [AH.nx_new] | rw [AH.nx_put]); omega)) only [go_sem, Int.reduceEq, Int.reduceNe, Int.reduceLT, Int.reduceLE, Int.reduceAdd, Int.reduceSub, Int.reduceMul, Int.reduceNeg, Int.reduceToNat, Nat.reducePow, reduceCtorEq, Nat.reduceEqDiff, Nat.reduceAdd, Nat.reduceLT, Nat.reduceLeDiff, Nat.reduceMul, Nat.reduceSub, Nat.reduceBEq, Int.reduceToNat, c1, c2, g0, g3, ln]
        exact ⟨e1, false, rfl, fun hx => by cases hx⟩
    · simp (maxSteps := 1000000) -dsimp (disch := first | omega | ((repeat first | rw [AH.nx_new] | rw [AH.nx_put]); done) | ((repeat first | rw [AH.nx_new] | rw [AH.nx_put]); omega)) only [go_sem, Int.reduceEq, Int.reduceNe, Int.reduceLT, Int.reduceLE, Int.reduceAdd, Int.reduceSub, Int.reduceMul, Int.reduceNeg, Int.reduceToNat, Nat.reducePow, reduceCtorEq, Nat.reduceEqDiff, Nat.reduceAdd, Nat.reduceLT, Nat.reduceLeDiff, Nat.reduceMul, Nat.reduceSub, Nat.reduceBEq, Int.reduceToNat, c1, g0, g3, ln]
      exact ⟨e1, false, rfl, fun hx => by cases hx⟩
/-- What all acts of a call ask. -/
structure Cl (S : Sums) : Prop extends St S where
  nc : ∀ f args h, f ∈ [16, 18, 19, 20] → S f args h = none
theorem svStr' (l : List Nat) : sameAV 20 (.str l) (.str l) = true := by simp [sameAV, sameScalar]
theorem bldA0 (b : List Nat) (e : Int) : evBuild Tryd.prog 46 [(0, .str b), (1, .int .i64 e)] = some (.agg [.str b, .int .i64 e]) := by kernel_rfl
theorem bldA (b : List Nat) (e : Nat) : evBuild Tryd.prog 46 [(0, .str b), (1, .int .i64 (e : Int))] = some (.agg [.str b, .int .i64 (e : Int)]) := by kernel_rfl
set_option maxHeartbeats 16000000 in
theorem callC (hS : Cl S) {K p nm sm chv ρ h T} (hT : Tr K p nm sm chv ρ h T) (hm : Sm T) (hc : T.clock < 1152921504606000000) (hks : ∀ n, (keepT T n).safe.length ≤ 16384) {a : Ac} (ha : AcOK K h a) (hl : a.l.length ≤ 3000) (hps : a.ps.length ≤ 3000) :
    RnC Tryd.prog S 20 [.ptr p 0, .agg a.cells] h fun r h' => r = .agg [.str (actT okP T (pk a.k) a.p a.q a.l a.n a.ps).1.1, .int .i64 ((actT okP T (pk a.k) a.p a.q a.l a.n a.ps).1.2 : Nat)] ∧ Res K p h h' (actT okP T (pk a.k) a.p a.q a.l a.n a.ps).2 := by
  refine RnC.enter' Tryd.f20 _ 94 [.cell 4 46] (hS.nc _ _ _ (by simp)) bd20 Tryd.func20 rfl rfl rfl ?_
  obtain ⟨lb, sb, ob⟩ := bsLn ha.b.1
  obtain ⟨lp, sp, op⟩ := ha.ps.ln
  have hpl : p < h.nx := hT.lt (by rw [hT.kp]; decide)
  unfold Ac.cells
  simp (maxSteps := 1000000) -dsimp (disch := first | omega | ((repeat first | rw [AH.nx_new] | rw [AH.nx_put]); done) | ((repeat first | rw [AH.nx_new] | rw [AH.nx_put]); omega)) only [go_sem, Int.reduceEq, Int.reduceNe, Int.reduceLT, Int.reduceLE, Int.reduceAdd, Int.reduceSub, Int.reduceMul, Int.reduceNeg, Int.reduceToNat, Nat.reducePow, reduceCtorEq, Nat.reduceEqDiff, Nat.reduceAdd, Nat.reduceLT, Nat.reduceLeDiff, Nat.reduceMul, Nat.reduceSub, Nat.reduceBEq, Int.reduceToNat, ob, op]
  refine callK_of (pickC (fun _ _ => hS.nc _ _ _ (by simp))) ?_
  rintro r h2 ⟨rfl, h2e⟩
  have f02 : Fr h h2 := by rw [h2e]; exact (Fr.new _ _).news _
  have n2 : h2.nx = h.nx + 2 := by rw [h2e]; rfl
  have cb : h2.get h.nx = some (.cells [.int .i64 a.k, .str a.p, .str a.q, a.bv, .int .i64 a.n, a.pv] true false) := by rw [h2e]; exact (AH.get_new_ne (by simp)).trans (AH.get_new_eq rfl)
  have ct : h2.get (h.nx + 1) = some (.cells [.str [], .int .i64 0] true false) := by rw [h2e]; exact AH.get_new_eq rfl
  clear h2e
  have hT2 := hT.fr f02
  have ha2 := ha.gr (frGr f02 K)
  have k0 : K h.nx = 0 := hT.top _ (Nat.le_refl _)
  have k1 : K (h.nx + 1) = 0 := hT.top _ (by omega)
  have hlt : pk a.k < 10 := by unfold pk; omega
  have hnx1 : ∀ o, (h.new o).nx = h.nx + 1 := fun _ => rfl
  generalize pk a.k = kk at hlt
  have hcases : kk = 0 ∨ kk = 1 ∨ kk = 2 ∨ kk = 3 ∨ kk = 4 ∨ kk = 5 ∨ kk = 6 ∨ kk = 7 ∨ kk = 8 ∨ kk = 9 := by omega
  have c9 : ∀ i : Nat, i < 10 → ∀ j : Int, (((i : Nat) : Int) = j) = (((i : Nat) : Int) = j) := fun _ _ _ => rfl
  rcases hcases with rfl | rfl | rfl | rfl | rfl | rfl | rfl | rfl | rfl | rfl
  · have e : actT okP T 0 a.p a.q a.l a.n a.ps = (([], (makeT T (okP a.p) a.p).1), (makeT T (okP a.p) a.p).2) := rfl
    rw [e]
    simp (maxSteps := 1000000) -dsimp (disch := first | omega | ((repeat first | rw [AH.nx_new] | rw [AH.nx_put]); done) | ((repeat first | rw [AH.nx_new] | rw [AH.nx_put]); omega)) only [go_sem, Int.reduceEq, Int.reduceNe, Int.reduceLT, Int.reduceLE, Int.reduceAdd, Int.reduceSub, Int.reduceMul, Int.reduceNeg, Int.reduceToNat, Nat.reducePow, reduceCtorEq, Nat.reduceEqDiff, Nat.reduceAdd, Nat.reduceLT, Nat.reduceLeDiff, Nat.reduceMul, Nat.reduceSub, Nat.reduceBEq, Int.reduceToNat, cb, ct, hnx1, sv_int]
    refine callK_of (makeC hS.toSt hT2 hm a.p) ?_
    rintro r h3 ⟨rfl, hr⟩
    have hq3 : h3.get (h.nx + 1) = h2.get (h.nx + 1) := by
      obtain ⟨K', nm', sm', chv', ρ', hT', g⟩ := hr
      exact (g.get (h.nx + 1) (by omega) k1).1
    have ct3 := hq3.trans ct
    simp (maxSteps := 1000000) -dsimp (disch := first | omega | ((repeat first | rw [AH.nx_new] | rw [AH.nx_put]); done) | ((repeat first | rw [AH.nx_new] | rw [AH.nx_put]); omega)) only [go_sem, Int.reduceEq, Int.reduceNe, Int.reduceLT, Int.reduceLE, Int.reduceAdd, Int.reduceSub, Int.reduceMul, Int.reduceNeg, Int.reduceToNat, Nat.reducePow, reduceCtorEq, Nat.reduceEqDiff, Nat.reduceAdd, Nat.reduceLT, Nat.reduceLeDiff, Nat.reduceMul, Nat.reduceSub, Nat.reduceBEq, Int.reduceToNat, bldA, ct3, hnx1]
    refine ⟨by first | trivial | rfl, ?_⟩
    exact Res.fin f02 hT.top hr (by omega) (by omega) _
  · have e : actT okP T 1 a.p a.q a.l a.n a.ps = (([], (putT T (okP a.p) a.p fun _ => a.l).1), (putT T (okP a.p) a.p fun _ => a.l).2) := rfl
    rw [e]
    have f9 : Fr h2 { tr := h2.tr, nx := h2.nx + 9 } := (Fr.refl h2).more _ (by omega)
    simp (maxSteps := 1000000) -dsimp (disch := first | omega | ((repeat first | rw [AH.nx_new] | rw [AH.nx_put]); done) | ((repeat first | rw [AH.nx_new] | rw [AH.nx_put]); omega)) only [go_sem, Int.reduceEq, Int.reduceNe, Int.reduceLT, Int.reduceLE, Int.reduceAdd, Int.reduceSub, Int.reduceMul, Int.reduceNeg, Int.reduceToNat, Nat.reducePow, reduceCtorEq, Nat.reduceEqDiff, Nat.reduceAdd, Nat.reduceLT, Nat.reduceLeDiff, Nat.reduceMul, Nat.reduceSub, Nat.reduceBEq, Int.reduceToNat, cb, ct, hnx1, sv_int]
    refine syDraw.keepL (fun id => id = h.nx) (by kernel_rfl) (by kernel_rfl) ?_
    simp (maxSteps := 1000000) -dsimp (disch := first | omega | ((repeat first | rw [AH.nx_new] | rw [AH.nx_put]); done) | ((repeat first | rw [AH.nx_new] | rw [AH.nx_put]); omega)) only [go_sem, Int.reduceEq, Int.reduceNe, Int.reduceLT, Int.reduceLE, Int.reduceAdd, Int.reduceSub, Int.reduceMul, Int.reduceNeg, Int.reduceToNat, Nat.reducePow, reduceCtorEq, Nat.reduceEqDiff, Nat.reduceAdd, Nat.reduceLT, Nat.reduceLeDiff, Nat.reduceMul, Nat.reduceSub, Nat.reduceBEq, Int.reduceToNat, cb, ct, hnx1, ob, sb, svStr', true_and, implies_true, sv_int, sv_bool]
    have ha9 := ha2.gr (frGr f9 K)
    refine callK_of (ownC hS.toSt ha9.b.1 (by omega)) ?_
    rintro r h3 ⟨hbn, hf3⟩
    have f29 := f9.trans hf3
    refine ⟨fun id hid => by rw [hid]; exact f29.get _ (by omega), ?_⟩
    have bp : Bp p h3 r a.l := hbn.bp (p := p) (by show p < h2.nx + 9; omega)
    obtain ⟨lr3, sr3, or3⟩ := bsLn hbn.bs
    refine callK_of (writeC hS.toSt (hT2.fr f29) hm a.p bp ha.bl (by omega)) ?_
    rintro r4 h4 ⟨rfl, hr⟩
    have hsame : ∀ j, j < h2.nx → K j = 0 → h4.get j = h2.get j := fun j hj hk => by
      obtain ⟨K', nm', sm', chv', ρ', hT', g⟩ := hr
      exact (g.get j (Nat.lt_of_lt_of_le hj f29.nx) hk).1.trans (f29.get j hj)
    have ct4 : h4.get (h.nx + 1) = _ := (hsame _ (by omega) k1).trans ct
    refine ⟨fun id hid => by rw [hid]; exact (hsame _ (by omega) k0).trans (f29.get _ (by omega)).symm, ?_⟩
    simp (maxSteps := 1000000) -dsimp (disch := first | omega | ((repeat first | rw [AH.nx_new] | rw [AH.nx_put]); done) | ((repeat first | rw [AH.nx_new] | rw [AH.nx_put]); omega)) only [go_sem, Int.reduceEq, Int.reduceNe, Int.reduceLT, Int.reduceLE, Int.reduceAdd, Int.reduceSub, Int.reduceMul, Int.reduceNeg, Int.reduceToNat, Nat.reducePow, reduceCtorEq, Nat.reduceEqDiff, Nat.reduceAdd, Nat.reduceLT, Nat.reduceLeDiff, Nat.reduceMul, Nat.reduceSub, Nat.reduceBEq, Int.reduceToNat, bldA, ct4, hnx1, true_and, implies_true, sv_int, sv_bool]
    exact ⟨rfl, Res.fin (f02.trans f29) hT.top hr (by omega) (by have := f29.nx; omega) _⟩
  · have e : actT okP T 2 a.p a.q a.l a.n a.ps = (([], (putT T (okP a.p) a.p fun o => o ++ a.l).1), (putT T (okP a.p) a.p fun o => o ++ a.l).2) := rfl
    rw [e]
    have f9 : Fr h2 { tr := h2.tr, nx := h2.nx + 9 } := (Fr.refl h2).more _ (by omega)
    simp (maxSteps := 1000000) -dsimp (disch := first | omega | ((repeat first | rw [AH.nx_new] | rw [AH.nx_put]); done) | ((repeat first | rw [AH.nx_new] | rw [AH.nx_put]); omega)) only [go_sem, Int.reduceEq, Int.reduceNe, Int.reduceLT, Int.reduceLE, Int.reduceAdd, Int.reduceSub, Int.reduceMul, Int.reduceNeg, Int.reduceToNat, Nat.reducePow, reduceCtorEq, Nat.reduceEqDiff, Nat.reduceAdd, Nat.reduceLT, Nat.reduceLeDiff, Nat.reduceMul, Nat.reduceSub, Nat.reduceBEq, Int.reduceToNat, cb, ct, hnx1, sv_int]
    refine syDraw.keepL (fun id => id = h.nx) (by kernel_rfl) (by kernel_rfl) ?_
    simp (maxSteps := 1000000) -dsimp (disch := first | omega | ((repeat first | rw [AH.nx_new] | rw [AH.nx_put]); done) | ((repeat first | rw [AH.nx_new] | rw [AH.nx_put]); omega)) only [go_sem, Int.reduceEq, Int.reduceNe, Int.reduceLT, Int.reduceLE, Int.reduceAdd, Int.reduceSub, Int.reduceMul, Int.reduceNeg, Int.reduceToNat, Nat.reducePow, reduceCtorEq, Nat.reduceEqDiff, Nat.reduceAdd, Nat.reduceLT, Nat.reduceLeDiff, Nat.reduceMul, Nat.reduceSub, Nat.reduceBEq, Int.reduceToNat, cb, ct, hnx1, ob, sb, svStr', true_and, implies_true, sv_int, sv_bool]
    have ha9 := ha2.gr (frGr f9 K)
    refine callK_of (ownC hS.toSt ha9.b.1 (by omega)) ?_
    rintro r h3 ⟨hbn, hf3⟩
    have f29 := f9.trans hf3
    refine ⟨fun id hid => by rw [hid]; exact f29.get _ (by omega), ?_⟩
    have bp : Bp p h3 r a.l := hbn.bp (p := p) (by show p < h2.nx + 9; omega)
    obtain ⟨lr3, sr3, or3⟩ := bsLn hbn.bs
    refine callK_of (appendC hS.toSt (hT2.fr f29) hm a.p bp ha.bl (by omega)) ?_
    rintro r4 h4 ⟨rfl, hr⟩
    have hsame : ∀ j, j < h2.nx → K j = 0 → h4.get j = h2.get j := fun j hj hk => by
      obtain ⟨K', nm', sm', chv', ρ', hT', g⟩ := hr
      exact (g.get j (Nat.lt_of_lt_of_le hj f29.nx) hk).1.trans (f29.get j hj)
    have ct4 : h4.get (h.nx + 1) = _ := (hsame _ (by omega) k1).trans ct
    refine ⟨fun id hid => by rw [hid]; exact (hsame _ (by omega) k0).trans (f29.get _ (by omega)).symm, ?_⟩
    simp (maxSteps := 1000000) -dsimp (disch := first | omega | ((repeat first | rw [AH.nx_new] | rw [AH.nx_put]); done) | ((repeat first | rw [AH.nx_new] | rw [AH.nx_put]); omega)) only [go_sem, Int.reduceEq, Int.reduceNe, Int.reduceLT, Int.reduceLE, Int.reduceAdd, Int.reduceSub, Int.reduceMul, Int.reduceNeg, Int.reduceToNat, Nat.reducePow, reduceCtorEq, Nat.reduceEqDiff, Nat.reduceAdd, Nat.reduceLT, Nat.reduceLeDiff, Nat.reduceMul, Nat.reduceSub, Nat.reduceBEq, Int.reduceToNat, bldA, ct4, hnx1, true_and, implies_true, sv_int, sv_bool]
    exact ⟨rfl, Res.fin (f02.trans f29) hT.top hr (by omega) (by have := f29.nx; omega) _⟩
  · have e : actT okP T 3 a.p a.q a.l a.n a.ps = (([], (syncT T (okP a.p) a.p).1), (syncT T (okP a.p) a.p).2) := rfl
    rw [e]
    simp (maxSteps := 1000000) -dsimp (disch := first | omega | ((repeat first | rw [AH.nx_new] | rw [AH.nx_put]); done) | ((repeat first | rw [AH.nx_new] | rw [AH.nx_put]); omega)) only [go_sem, Int.reduceEq, Int.reduceNe, Int.reduceLT, Int.reduceLE, Int.reduceAdd, Int.reduceSub, Int.reduceMul, Int.reduceNeg, Int.reduceToNat, Nat.reducePow, reduceCtorEq, Nat.reduceEqDiff, Nat.reduceAdd, Nat.reduceLT, Nat.reduceLeDiff, Nat.reduceMul, Nat.reduceSub, Nat.reduceBEq, Int.reduceToNat, cb, ct, hnx1, sv_int]
    refine callK_of (syncC hS.toSt hT2 a.p) ?_
    rintro r h3 ⟨rfl, hr⟩
    have hq3 : h3.get (h.nx + 1) = h2.get (h.nx + 1) := by
      obtain ⟨K', nm', sm', chv', ρ', hT', g⟩ := hr
      exact (g.get (h.nx + 1) (by omega) k1).1
    have ct3 := hq3.trans ct
    simp (maxSteps := 1000000) -dsimp (disch := first | omega | ((repeat first | rw [AH.nx_new] | rw [AH.nx_put]); done) | ((repeat first | rw [AH.nx_new] | rw [AH.nx_put]); omega)) only [go_sem, Int.reduceEq, Int.reduceNe, Int.reduceLT, Int.reduceLE, Int.reduceAdd, Int.reduceSub, Int.reduceMul, Int.reduceNeg, Int.reduceToNat, Nat.reducePow, reduceCtorEq, Nat.reduceEqDiff, Nat.reduceAdd, Nat.reduceLT, Nat.reduceLeDiff, Nat.reduceMul, Nat.reduceSub, Nat.reduceBEq, Int.reduceToNat, bldA, ct3, hnx1]
    refine ⟨by first | trivial | rfl, ?_⟩
    exact Res.fin f02 hT.top hr (by omega) (by omega) _
  · have e : actT okP T 4 a.p a.q a.l a.n a.ps = (([], (syncPT T).1), (syncPT T).2) := rfl
    rw [e]
    simp (maxSteps := 1000000) -dsimp (disch := first | omega | ((repeat first | rw [AH.nx_new] | rw [AH.nx_put]); done) | ((repeat first | rw [AH.nx_new] | rw [AH.nx_put]); omega)) only [go_sem, Int.reduceEq, Int.reduceNe, Int.reduceLT, Int.reduceLE, Int.reduceAdd, Int.reduceSub, Int.reduceMul, Int.reduceNeg, Int.reduceToNat, Nat.reducePow, reduceCtorEq, Nat.reduceEqDiff, Nat.reduceAdd, Nat.reduceLT, Nat.reduceLeDiff, Nat.reduceMul, Nat.reduceSub, Nat.reduceBEq, Int.reduceToNat, cb, ct, hnx1, sv_int]
    refine callK_of (syncPC hS.toSt hT2 hm) ?_
    rintro r h3 ⟨rfl, hr⟩
    have hq3 : h3.get (h.nx + 1) = h2.get (h.nx + 1) := by
      obtain ⟨K', nm', sm', chv', ρ', hT', g⟩ := hr
      exact (g.get (h.nx + 1) (by omega) k1).1
    have ct3 := hq3.trans ct
    simp (maxSteps := 1000000) -dsimp (disch := first | omega | ((repeat first | rw [AH.nx_new] | rw [AH.nx_put]); done) | ((repeat first | rw [AH.nx_new] | rw [AH.nx_put]); omega)) only [go_sem, Int.reduceEq, Int.reduceNe, Int.reduceLT, Int.reduceLE, Int.reduceAdd, Int.reduceSub, Int.reduceMul, Int.reduceNeg, Int.reduceToNat, Nat.reducePow, reduceCtorEq, Nat.reduceEqDiff, Nat.reduceAdd, Nat.reduceLT, Nat.reduceLeDiff, Nat.reduceMul, Nat.reduceSub, Nat.reduceBEq, Int.reduceToNat, bldA, ct3, hnx1]
    refine ⟨by first | trivial | rfl, ?_⟩
    exact Res.fin f02 hT.top hr (by omega) (by omega) _
  · have e : actT okP T 5 a.p a.q a.l a.n a.ps = (([], (renT T (okP a.p && okP a.q) a.p a.q).1), (renT T (okP a.p && okP a.q) a.p a.q).2) := rfl
    rw [e]
    simp (maxSteps := 1000000) -dsimp (disch := first | omega | ((repeat first | rw [AH.nx_new] | rw [AH.nx_put]); done) | ((repeat first | rw [AH.nx_new] | rw [AH.nx_put]); omega)) only [go_sem, Int.reduceEq, Int.reduceNe, Int.reduceLT, Int.reduceLE, Int.reduceAdd, Int.reduceSub, Int.reduceMul, Int.reduceNeg, Int.reduceToNat, Nat.reducePow, reduceCtorEq, Nat.reduceEqDiff, Nat.reduceAdd, Nat.reduceLT, Nat.reduceLeDiff, Nat.reduceMul, Nat.reduceSub, Nat.reduceBEq, Int.reduceToNat, cb, ct, hnx1, sv_int]
    refine callK_of (renC hS.toSt hT2 hm a.p a.q) ?_
    rintro r h3 ⟨rfl, hr⟩
    have hq3 : h3.get (h.nx + 1) = h2.get (h.nx + 1) := by
      obtain ⟨K', nm', sm', chv', ρ', hT', g⟩ := hr
      exact (g.get (h.nx + 1) (by omega) k1).1
    have ct3 := hq3.trans ct
    simp (maxSteps := 1000000) -dsimp (disch := first | omega | ((repeat first | rw [AH.nx_new] | rw [AH.nx_put]); done) | ((repeat first | rw [AH.nx_new] | rw [AH.nx_put]); omega)) only [go_sem, Int.reduceEq, Int.reduceNe, Int.reduceLT, Int.reduceLE, Int.reduceAdd, Int.reduceSub, Int.reduceMul, Int.reduceNeg, Int.reduceToNat, Nat.reducePow, reduceCtorEq, Nat.reduceEqDiff, Nat.reduceAdd, Nat.reduceLT, Nat.reduceLeDiff, Nat.reduceMul, Nat.reduceSub, Nat.reduceBEq, Int.reduceToNat, bldA, ct3, hnx1]
    refine ⟨by first | trivial | rfl, ?_⟩
    exact Res.fin f02 hT.top hr (by omega) (by omega) _
  · have e : actT okP T 6 a.p a.q a.l a.n a.ps = (([], (rmT T (okP a.p) a.p).1), (rmT T (okP a.p) a.p).2) := rfl
    rw [e]
    simp (maxSteps := 1000000) -dsimp (disch := first | omega | ((repeat first | rw [AH.nx_new] | rw [AH.nx_put]); done) | ((repeat first | rw [AH.nx_new] | rw [AH.nx_put]); omega)) only [go_sem, Int.reduceEq, Int.reduceNe, Int.reduceLT, Int.reduceLE, Int.reduceAdd, Int.reduceSub, Int.reduceMul, Int.reduceNeg, Int.reduceToNat, Nat.reducePow, reduceCtorEq, Nat.reduceEqDiff, Nat.reduceAdd, Nat.reduceLT, Nat.reduceLeDiff, Nat.reduceMul, Nat.reduceSub, Nat.reduceBEq, Int.reduceToNat, cb, ct, hnx1, sv_int]
    refine callK_of (rmC hS.toSt hT2 hm a.p) ?_
    rintro r h3 ⟨rfl, hr⟩
    have hq3 : h3.get (h.nx + 1) = h2.get (h.nx + 1) := by
      obtain ⟨K', nm', sm', chv', ρ', hT', g⟩ := hr
      exact (g.get (h.nx + 1) (by omega) k1).1
    have ct3 := hq3.trans ct
    simp (maxSteps := 1000000) -dsimp (disch := first | omega | ((repeat first | rw [AH.nx_new] | rw [AH.nx_put]); done) | ((repeat first | rw [AH.nx_new] | rw [AH.nx_put]); omega)) only [go_sem, Int.reduceEq, Int.reduceNe, Int.reduceLT, Int.reduceLE, Int.reduceAdd, Int.reduceSub, Int.reduceMul, Int.reduceNeg, Int.reduceToNat, Nat.reducePow, reduceCtorEq, Nat.reduceEqDiff, Nat.reduceAdd, Nat.reduceLT, Nat.reduceLeDiff, Nat.reduceMul, Nat.reduceSub, Nat.reduceBEq, Int.reduceToNat, bldA, ct3, hnx1]
    refine ⟨by first | trivial | rfl, ?_⟩
    exact Res.fin f02 hT.top hr (by omega) (by omega) _
  · have e : actT okP T 7 a.p a.q a.l a.n a.ps = (([], 0), { T with fuse := max (-1) a.n }) := rfl
    rw [e]
    simp (maxSteps := 1000000) -dsimp (disch := first | omega | ((repeat first | rw [AH.nx_new] | rw [AH.nx_put]); done) | ((repeat first | rw [AH.nx_new] | rw [AH.nx_put]); omega)) only [go_sem, Int.reduceEq, Int.reduceNe, Int.reduceLT, Int.reduceLE, Int.reduceAdd, Int.reduceSub, Int.reduceMul, Int.reduceNeg, Int.reduceToNat, Nat.reducePow, reduceCtorEq, Nat.reduceEqDiff, Nat.reduceAdd, Nat.reduceLT, Nat.reduceLeDiff, Nat.reduceMul, Nat.reduceSub, Nat.reduceBEq, Int.reduceToNat, cb, ct, hnx1, sv_int]
    refine callK_of (fuseC hS.toSt hT2 a.n ha.n) ?_
    rintro r h3 ⟨rfl, hT3, gr3⟩
    have ct3 : h3.get (h.nx + 1) = _ := (gr3.get (h.nx + 1) (by omega) k1).1.trans ct
    simp (maxSteps := 1000000) -dsimp (disch := first | omega | ((repeat first | rw [AH.nx_new] | rw [AH.nx_put]); done) | ((repeat first | rw [AH.nx_new] | rw [AH.nx_put]); omega)) only [go_sem, Int.reduceEq, Int.reduceNe, Int.reduceLT, Int.reduceLE, Int.reduceAdd, Int.reduceSub, Int.reduceMul, Int.reduceNeg, Int.reduceToNat, Nat.reducePow, reduceCtorEq, Nat.reduceEqDiff, Nat.reduceAdd, Nat.reduceLT, Nat.reduceLeDiff, Nat.reduceMul, Nat.reduceSub, Nat.reduceBEq, Int.reduceToNat, bldA0, ct3, hnx1]
    refine ⟨by first | trivial | rfl, ?_⟩
    exact Res.fin f02 hT.top ⟨K, nm, sm, chv, ρ, hT3, gr3⟩ (by omega) (by omega) _
  · have e : actT okP T 8 a.p a.q a.l a.n a.ps = (([], 0), crashT T a.n a.ps) := rfl
    rw [e]
    simp (maxSteps := 1000000) -dsimp (disch := first | omega | ((repeat first | rw [AH.nx_new] | rw [AH.nx_put]); done) | ((repeat first | rw [AH.nx_new] | rw [AH.nx_put]); omega)) only [go_sem, Int.reduceEq, Int.reduceNe, Int.reduceLT, Int.reduceLE, Int.reduceAdd, Int.reduceSub, Int.reduceMul, Int.reduceNeg, Int.reduceToNat, Nat.reducePow, reduceCtorEq, Nat.reduceEqDiff, Nat.reduceAdd, Nat.reduceLT, Nat.reduceLeDiff, Nat.reduceMul, Nat.reduceSub, Nat.reduceBEq, Int.reduceToNat, cb, ct, hnx1, sv_int]
    refine syDraw.keepL (fun id => id = h.nx) (by kernel_rfl) (by kernel_rfl) ?_
    have fg : Fr h2 (({ tr := h2.tr, nx := h2.nx + 10 } : AH).put (h2.nx + 3) (.cells [] true true)) := ((Fr.refl h2).more (h2.nx + 10) (by omega)).put _ (by omega)
    obtain ⟨w1, g4, hap, f4, iv4, ow4⟩ := Iv.own2 (id := h2.nx + 3) (o := true) (t := true) (ha2.ps.gr (frGr fg K)) (by omega) (AH.get_put_eq rfl) (by show h2.nx + 3 < h2.nx + 10; omega) (hT.top _ (by omega)) (fun j hj => hT.top j (by have : h2.nx + 10 ≤ j := hj; omega))
    have f24 := fg.trans f4
    simp (maxSteps := 1000000) -dsimp (disch := first | omega | ((repeat first | rw [AH.nx_new] | rw [AH.nx_put]); done) | ((repeat first | rw [AH.nx_new] | rw [AH.nx_put]); omega)) only [go_sem, Int.reduceEq, Int.reduceNe, Int.reduceLT, Int.reduceLE, Int.reduceAdd, Int.reduceSub, Int.reduceMul, Int.reduceNeg, Int.reduceToNat, Nat.reducePow, reduceCtorEq, Nat.reduceEqDiff, Nat.reduceAdd, Nat.reduceLT, Nat.reduceLeDiff, Nat.reduceMul, Nat.reduceSub, Nat.reduceBEq, Int.reduceToNat, cb, ct, hnx1, op, sp, true_and, implies_true, sv_int, sv_bool]
    simp only [List.nil_append, absorb_cons, absorb_nil]
    simp (maxSteps := 1000000) -dsimp (disch := first | omega | ((repeat first | rw [AH.nx_new] | rw [AH.nx_put]); done) | ((repeat first | rw [AH.nx_new] | rw [AH.nx_put]); omega)) only [go_sem, Int.reduceEq, Int.reduceNe, Int.reduceLT, Int.reduceLE, Int.reduceAdd, Int.reduceSub, Int.reduceMul, Int.reduceNeg, Int.reduceToNat, Nat.reducePow, reduceCtorEq, Nat.reduceEqDiff, Nat.reduceAdd, Nat.reduceLT, Nat.reduceLeDiff, Nat.reduceMul, Nat.reduceSub, Nat.reduceBEq, Int.reduceToNat, cb, ct, hnx1, op, sp, hap, ow4, true_and, implies_true, sv_int, sv_bool]
    refine ⟨fun id hid => by rw [hid]; exact f24.get _ (by omega), ?_⟩
    refine callK_of (crashC hS.toSt (hT2.fr f24) hm hc a.n iv4 (hks _)) ?_
    rintro r5 h5 ⟨rfl, hr⟩
    have hsame : ∀ j, j < h2.nx → K j = 0 → h5.get j = h2.get j := fun j hj hk => by
      obtain ⟨K', nm', sm', chv', ρ', hT', g⟩ := hr
      exact (g.get j (Nat.lt_of_lt_of_le hj f24.nx) hk).1.trans (f24.get j hj)
    have ct4 := (hsame _ (by omega) k1).trans ct
    refine ⟨fun id hid => by rw [hid]; exact (hsame _ (by omega) k0).trans (f24.get _ (by omega)).symm, ?_⟩
    simp (maxSteps := 1000000) -dsimp (disch := first | omega | ((repeat first | rw [AH.nx_new] | rw [AH.nx_put]); done) | ((repeat first | rw [AH.nx_new] | rw [AH.nx_put]); omega)) only [go_sem, Int.reduceEq, Int.reduceNe, Int.reduceLT, Int.reduceLE, Int.reduceAdd, Int.reduceSub, Int.reduceMul, Int.reduceNeg, Int.reduceToNat, Nat.reducePow, reduceCtorEq, Nat.reduceEqDiff, Nat.reduceAdd, Nat.reduceLT, Nat.reduceLeDiff, Nat.reduceMul, Nat.reduceSub, Nat.reduceBEq, Int.reduceToNat, bldA0, ct4, hnx1, true_and, implies_true, sv_int, sv_bool]
    exact ⟨rfl, Res.fin (f02.trans f24) hT.top hr (by omega) (by have := f24.nx; omega) _⟩
  · have e : actT okP T 9 a.p a.q a.l a.n a.ps = (((readT T (okP a.p) a.p).1, (readT T (okP a.p) a.p).2.1), (readT T (okP a.p) a.p).2.2) := rfl
    rw [e]
    simp (maxSteps := 1000000) -dsimp (disch := first | omega | ((repeat first | rw [AH.nx_new] | rw [AH.nx_put]); done) | ((repeat first | rw [AH.nx_new] | rw [AH.nx_put]); omega)) only [go_sem, Int.reduceEq, Int.reduceNe, Int.reduceLT, Int.reduceLE, Int.reduceAdd, Int.reduceSub, Int.reduceMul, Int.reduceNeg, Int.reduceToNat, Nat.reducePow, reduceCtorEq, Nat.reduceEqDiff, Nat.reduceAdd, Nat.reduceLT, Nat.reduceLeDiff, Nat.reduceMul, Nat.reduceSub, Nat.reduceBEq, Int.reduceToNat, cb, ct, hnx1, sv_int]
    refine callK_of (readC hS.toSt hT2 a.p) ?_
    rintro r h3 ⟨⟨v, rfl, hb3, _⟩, hT3, gr3⟩
    have ct3 : h3.get (h.nx + 1) = _ := (gr3.get (h.nx + 1) (by omega) k1).1.trans ct
    have hby : ∀ x ∈ (readT T (okP a.p) a.p).1, x < 256 := by
      unfold readT
      dsimp only
      split
      · exact fun x hx => by simp at hx
      · split
        · exact fun x hx => by simp at hx
        · exact (fil_ok (hT.wf.op _) _).1
    have tx := hb3.text Tryd.underlying22 Tryd.underlying5 Tryd.underlying9 hby
    have ov := (bsLn hb3).2.2
    simp (maxSteps := 1000000) -dsimp (disch := first | omega | ((repeat first | rw [AH.nx_new] | rw [AH.nx_put]); done) | ((repeat first | rw [AH.nx_new] | rw [AH.nx_put]); omega)) only [go_sem, Int.reduceEq, Int.reduceNe, Int.reduceLT, Int.reduceLE, Int.reduceAdd, Int.reduceSub, Int.reduceMul, Int.reduceNeg, Int.reduceToNat, Nat.reducePow, reduceCtorEq, Nat.reduceEqDiff, Nat.reduceAdd, Nat.reduceLT, Nat.reduceLeDiff, Nat.reduceMul, Nat.reduceSub, Nat.reduceBEq, Int.reduceToNat, bldA, tx, ov, ct3, hnx1]
    refine ⟨by first | trivial | rfl, ?_⟩
    exact Res.fin f02 hT.top ⟨K, nm, sm, chv, ρ, hT3, gr3⟩ (by omega) (by omega) _
end
end Go.Proofs.YtjcidnbgbdibaaaDoor.tre
