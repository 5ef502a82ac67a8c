/- The law TreeKeeps, walked. Conditions: those of its summaries. -/
import Derived.Test.YtjcidnbgbdibaaaDoorTLa
import Derived.Test.YtjcidnbgbdibaaaDoorTKa
namespace Go.Proofs.YtjcidnbgbdibaaaDoor.tre
open Go Go.Abs Go.Proofs
set_option maxRecDepth 100000
set_option linter.unusedVariables false
set_option linter.unusedSimpArgs false

section
variable {S : Sums}
theorem Res.un {K : Nat → Nat} {p : Nat} {h h' : AH} {T' T2 : TT} (hr : Res K p h h' T') (e : T' = T2) : ∃ K' nm sm chv ρ, Tr K' p nm sm chv ρ h' T2 ∧ Gr K h K' h' := e ▸ hr
theorem svStr (l : List Nat) : sameAV 20 (.str l) (.str l) = true := by simp [sameAV, sameScalar]
theorem syDraw_gen {P : Program} {S : Sums} {n : Nat} {ops : Array Oper} {t : Env} {h : AH} {K : Env → AH → Prop} (ks : List Nat) (H : ∀ t' : Env, (∀ k ∈ ks, t'.get k = t.get k) → syDraw P S n ops t' h K ⟨⟩ ⟨⟩ ⟨⟩ ⟨⟩) : syDraw P S n ops t h K ⟨⟩ ⟨⟩ ⟨⟩ ⟨⟩ := H t fun _ _ => rfl
theorem textG {g : AH} {v : AV} {l : List Nat} {id off : Nat} {c : Option Nat} {cs : List AV} {o t : Bool} (h1 : v = .sl id off l.length 1 c) (h2 : g.get id = some (.cells cs o t)) (h4 : off + l.length ≤ cs.length) (h6 : (cs.drop off).take l.length = byC l) (hl : ∀ b ∈ l, b < 256) : evConvert Tryd.prog g 22 9 v = some (.val (.str l) g) := by
  subst h1
  have h7 : firstA g 1 l.length (.sl id off l.length 1 c) = some (byC l) := by
    rw [firstA_sl h2 (Nat.le_refl _) (by omega), Nat.mul_one, h6]
  simp [evConvert, Tryd.underlying22, Tryd.underlying9, Tryd.underlying5, lenA, h7, bytesA_byC l hl]
theorem neBB (h : AH) (x : Bool) : binA Tryd.prog h .neq 4 (.bool x) (.bool x) = some (.bool false) := by cases x <;> kernel_rfl
theorem addSS (h : AH) (t : TypeId) {x y : List Nat} (hl : x.length + y.length ≤ 1000) : binA Tryd.prog h .add t (.str x) (.str y) = some (.str (x ++ y)) := by
  have : ¬ ((x.length + y.length : Nat) : Int) > IntKind.i64.max := by
    have : IntKind.i64.max = 9223372036854775807 := rfl
    rw [this]; omega
  simp only [binA, strA, if_neg this]
theorem neSt' (h : AH) (t : TypeId) (a b : List Nat) (ht : t = 9) : binA Tryd.prog h .neq t (.str a) (.str b) = some (.bool (!decide (a = b))) := by
  simp [binA, strA, eqL_eq]
set_option maxHeartbeats 16000000 in
theorem keeps3 (hS : St S) (hg : ∀ f args h, f = 3 ∨ f = 16 → S f args h = none) (hL : ∀ h, S 6 [] h = some (.bool true, h)) {h : AH} {va vb vc vp : AV} {a b c : List Nat} {ps : List Int} {keep : Int}
    (ha : Bs h va a) (hb : Bs h vb b) (hc : Bs h vc c) (hp : Iv (fun _ => 0) h vp ps) (la : ∀ x ∈ a, x < 256) (lb : ∀ x ∈ b, x < 256) (lc : ∀ x ∈ c, x < 256) :
    RnC Tryd.prog S 3 [va, vb, vc, .int .i64 keep, vp] h fun r _ => r = .bool true := by
  refine RnC.enter' Tryd.f3 _ 186 [.tmp 10] (hg _ _ _ (.inl rfl)) bd3 Tryd.func3 rfl rfl rfl ?_
  obtain ⟨na, sa, oa⟩ := bsLn ha
  obtain ⟨nb, sb, ob⟩ := bsLn hb
  obtain ⟨nc, sc, oc⟩ := bsLn hc
  obtain ⟨np, sp, op⟩ := hp.ln
  simp (maxSteps := 1000000) -dsimp (disch := first | omega | ((repeat first | rw [AH.nx_new] | rw [AH.nx_put]); done) | ((repeat first | rw [AH.nx_new] | rw [AH.nx_put]); omega)) only [go_sem, Int.reduceEq, Int.reduceNe, Int.reduceLT, Int.reduceLE, Int.reduceAdd, Int.reduceSub, Int.reduceMul, Int.reduceNeg, Int.reduceToNat, Nat.reducePow, reduceCtorEq, Nat.reduceEqDiff, Nat.reduceAdd, Nat.reduceLT, Nat.reduceLeDiff, Nat.reduceMul, Nat.reduceSub, Nat.reduceBEq, Int.reduceToNat]
  refine callK_of (RnC.sum (hL _) (Q := fun v h' => v = .bool true ∧ h' = h) ⟨rfl, rfl⟩) ?_
  rintro r g ⟨rfl, rfl⟩
  by_cases c1 : (300 : Int) < ((a.length : Nat) : Int)
  · simp (maxSteps := 1000000) -dsimp (disch := first | omega | ((repeat first | rw [AH.nx_new] | rw [AH.nx_put]); done) | ((repeat first | rw [AH.nx_new] | rw [AH.nx_put]); omega)) only [go_sem, Int.reduceEq, Int.reduceNe, Int.reduceLT, Int.reduceLE, Int.reduceAdd, Int.reduceSub, Int.reduceMul, Int.reduceNeg, Int.reduceToNat, Nat.reducePow, reduceCtorEq, Nat.reduceEqDiff, Nat.reduceAdd, Nat.reduceLT, Nat.reduceLeDiff, Nat.reduceMul, Nat.reduceSub, Nat.reduceBEq, Int.reduceToNat, na, oa, c1]
  by_cases c2 : (300 : Int) < ((b.length : Nat) : Int)
  · simp (maxSteps := 1000000) -dsimp (disch := first | omega | ((repeat first | rw [AH.nx_new] | rw [AH.nx_put]); done) | ((repeat first | rw [AH.nx_new] | rw [AH.nx_put]); omega)) only [go_sem, Int.reduceEq, Int.reduceNe, Int.reduceLT, Int.reduceLE, Int.reduceAdd, Int.reduceSub, Int.reduceMul, Int.reduceNeg, Int.reduceToNat, Nat.reducePow, reduceCtorEq, Nat.reduceEqDiff, Nat.reduceAdd, Nat.reduceLT, Nat.reduceLeDiff, Nat.reduceMul, Nat.reduceSub, Nat.reduceBEq, Int.reduceToNat, na, oa, nb, ob, c1, c2]
  by_cases c3 : (300 : Int) < ((c.length : Nat) : Int)
  · simp (maxSteps := 1000000) -dsimp (disch := first | omega | ((repeat first | rw [AH.nx_new] | rw [AH.nx_put]); done) | ((repeat first | rw [AH.nx_new] | rw [AH.nx_put]); omega)) only [go_sem, Int.reduceEq, Int.reduceNe, Int.reduceLT, Int.reduceLE, Int.reduceAdd, Int.reduceSub, Int.reduceMul, Int.reduceNeg, Int.reduceToNat, Nat.reducePow, reduceCtorEq, Nat.reduceEqDiff, Nat.reduceAdd, Nat.reduceLT, Nat.reduceLeDiff, Nat.reduceMul, Nat.reduceSub, Nat.reduceBEq, Int.reduceToNat, na, oa, nb, ob, nc, oc, c1, c2, c3]
  by_cases c4 : (300 : Int) < ((ps.length : Nat) : Int)
  · simp (maxSteps := 1000000) -dsimp (disch := first | omega | ((repeat first | rw [AH.nx_new] | rw [AH.nx_put]); done) | ((repeat first | rw [AH.nx_new] | rw [AH.nx_put]); omega)) only [go_sem, Int.reduceEq, Int.reduceNe, Int.reduceLT, Int.reduceLE, Int.reduceAdd, Int.reduceSub, Int.reduceMul, Int.reduceNeg, Int.reduceToNat, Nat.reducePow, reduceCtorEq, Nat.reduceEqDiff, Nat.reduceAdd, Nat.reduceLT, Nat.reduceLeDiff, Nat.reduceMul, Nat.reduceSub, Nat.reduceBEq, Int.reduceToNat, na, oa, nb, ob, nc, oc, np, op, c1, c2, c3, c4]
  try simp (maxSteps := 1000000) -dsimp (disch := first | omega | ((repeat first | rw [AH.nx_new] | rw [AH.nx_put]); done) | ((repeat first | rw [AH.nx_new] | rw [AH.nx_put]); omega)) only [go_sem, Int.reduceEq, Int.reduceNe, Int.reduceLT, Int.reduceLE, Int.reduceAdd, Int.reduceSub, Int.reduceMul, Int.reduceNeg, Int.reduceToNat, Nat.reducePow, reduceCtorEq, Nat.reduceEqDiff, Nat.reduceAdd, Nat.reduceLT, Nat.reduceLeDiff, Nat.reduceMul, Nat.reduceSub, Nat.reduceBEq, Int.reduceToNat, na, oa, nb, ob, nc, oc, np, op, c1, c2, c3, c4]
  have la3 : a.length ≤ 300 := by omega
  have lb3 : b.length ≤ 300 := by omega
  have lc3 : c.length ≤ 300 := by omega
  refine callK_of (newC hS (10000 : Int)) ?_
  rintro r g1 ⟨f1, hr⟩
  rw [if_pos (by omega)] at hr
  obtain ⟨rfl, n1, hT0⟩ := hr
  have hk0 : ∀ j, j < g.nx → (fun j => if j = g.nx + 2 then 1 else if j = g.nx then 2 else if j = g.nx + 1 then 3 else 0) j = 0 := fun j hj => (if_neg (by omega)).trans ((if_neg (by omega)).trans (if_neg (by omega)))
  have az0 := Bz.of ha f1 hk0
  have bz0 := Bz.of hb f1 hk0
  have cz0 := Bz.of hc f1 hk0
  have pz0 := Iv.of hp f1 hk0
  generalize (fun j => if j = g.nx + 2 then 1 else if j = g.nx then 2 else if j = g.nx + 1 then 3 else 0) = Ka at hT0 az0 bz0 cz0 pz0
  generalize g.nx + 2 = p at hT0
  simp (maxSteps := 1000000) -dsimp (disch := first | omega | ((repeat first | rw [AH.nx_new] | rw [AH.nx_put]); done) | ((repeat first | rw [AH.nx_new] | rw [AH.nx_put]); omega)) only [go_sem, Int.reduceEq, Int.reduceNe, Int.reduceLT, Int.reduceLE, Int.reduceAdd, Int.reduceSub, Int.reduceMul, Int.reduceNeg, Int.reduceToNat, Nat.reducePow, reduceCtorEq, Nat.reduceEqDiff, Nat.reduceAdd, Nat.reduceLT, Nat.reduceLeDiff, Nat.reduceMul, Nat.reduceSub, Nat.reduceBEq, Int.reduceToNat]
  refine callK_of (makeE hS hT0 ⟨by simp [newT], by simp [newT], by simp [newT], by simp [newT]⟩ (s := pf) (n := 0) (T' := K1) (by rw [ok_f]; first | done | exact k1)) ?_
  rintro r q1 ⟨rfl, hr1⟩
  obtain ⟨J1, nm1, sm1, ch1, ρ1, hT1, gr1⟩ := hr1
  have az1 := az0.gr gr1
  have bz1 := bz0.gr gr1
  have cz1 := cz0.gr gr1
  have pz1 := pz0.gr gr1
  clear az0 bz0 cz0 pz0
  try simp (maxSteps := 1000000) -dsimp (disch := first | omega | ((repeat first | rw [AH.nx_new] | rw [AH.nx_put]); done) | ((repeat first | rw [AH.nx_new] | rw [AH.nx_put]); omega)) only [go_sem, Int.reduceEq, Int.reduceNe, Int.reduceLT, Int.reduceLE, Int.reduceAdd, Int.reduceSub, Int.reduceMul, Int.reduceNeg, Int.reduceToNat, Nat.reducePow, reduceCtorEq, Nat.reduceEqDiff, Nat.reduceAdd, Nat.reduceLT, Nat.reduceLeDiff, Nat.reduceMul, Nat.reduceSub, Nat.reduceBEq, Int.reduceToNat, na, oa, nb, ob, nc, oc, np, op]
  refine callK_of (ownC hS az1.1 (by omega)) ?_
  rintro r o2 ⟨hn2, fo2⟩
  have hTo2 := hT1.fr fo2
  have pl2 : ∀ (j : Nat), J1 j ≠ 0 → j < q1.nx := fun j hj => hT1.lt hj
  have bp2 := hn2.bp (p := p) (pl2 p (by rw [hT1.kp]; decide))
  have on2 := (bsLn hn2.bs).2.2
  have go2 := frGr fo2 J1
  replace az1 := az1.gr go2
  replace bz1 := bz1.gr go2
  replace cz1 := cz1.gr go2
  replace pz1 := pz1.gr go2
  try simp (maxSteps := 1000000) -dsimp (disch := first | omega | ((repeat first | rw [AH.nx_new] | rw [AH.nx_put]); done) | ((repeat first | rw [AH.nx_new] | rw [AH.nx_put]); omega)) only [go_sem, Int.reduceEq, Int.reduceNe, Int.reduceLT, Int.reduceLE, Int.reduceAdd, Int.reduceSub, Int.reduceMul, Int.reduceNeg, Int.reduceToNat, Nat.reducePow, reduceCtorEq, Nat.reduceEqDiff, Nat.reduceAdd, Nat.reduceLT, Nat.reduceLeDiff, Nat.reduceMul, Nat.reduceSub, Nat.reduceBEq, Int.reduceToNat, na, oa, nb, ob, nc, oc, np, op, on2]
  refine callK_of (writeE hS hTo2 ⟨by simp [K1], by simp [K1], by simp [K1], by simp [K1]⟩ (s := pf) bp2 la (by omega) (n := 0) (T' := K2 a) (by rw [ok_f]; exact k2 a la3)) ?_
  rintro r q2 ⟨rfl, hr2⟩
  obtain ⟨J2, nm2, sm2, ch2, ρ2, hT2, gr2⟩ := hr2
  have az2 := az1.gr gr2
  have bz2 := bz1.gr gr2
  have cz2 := cz1.gr gr2
  have pz2 := pz1.gr gr2
  clear az1 bz1 cz1 pz1
  try simp (maxSteps := 1000000) -dsimp (disch := first | omega | ((repeat first | rw [AH.nx_new] | rw [AH.nx_put]); done) | ((repeat first | rw [AH.nx_new] | rw [AH.nx_put]); omega)) only [go_sem, Int.reduceEq, Int.reduceNe, Int.reduceLT, Int.reduceLE, Int.reduceAdd, Int.reduceSub, Int.reduceMul, Int.reduceNeg, Int.reduceToNat, Nat.reducePow, reduceCtorEq, Nat.reduceEqDiff, Nat.reduceAdd, Nat.reduceLT, Nat.reduceLeDiff, Nat.reduceMul, Nat.reduceSub, Nat.reduceBEq, Int.reduceToNat, na, oa, nb, ob, nc, oc, np, op]
  refine callK_of (syncE hS hT2 (s := pf) (n := 0) (T' := K3 a) (by rw [ok_f]; first | done | exact k3 a)) ?_
  rintro r q3 ⟨rfl, hr3⟩
  obtain ⟨J3, nm3, sm3, ch3, ρ3, hT3, gr3⟩ := hr3
  have az3 := az2.gr gr3
  have bz3 := bz2.gr gr3
  have cz3 := cz2.gr gr3
  have pz3 := pz2.gr gr3
  clear az2 bz2 cz2 pz2
  try simp (maxSteps := 1000000) -dsimp (disch := first | omega | ((repeat first | rw [AH.nx_new] | rw [AH.nx_put]); done) | ((repeat first | rw [AH.nx_new] | rw [AH.nx_put]); omega)) only [go_sem, Int.reduceEq, Int.reduceNe, Int.reduceLT, Int.reduceLE, Int.reduceAdd, Int.reduceSub, Int.reduceMul, Int.reduceNeg, Int.reduceToNat, Nat.reducePow, reduceCtorEq, Nat.reduceEqDiff, Nat.reduceAdd, Nat.reduceLT, Nat.reduceLeDiff, Nat.reduceMul, Nat.reduceSub, Nat.reduceBEq, Int.reduceToNat, na, oa, nb, ob, nc, oc, np, op]
  refine callK_of (syncPE hS hT3 ⟨by simp [K3], by simp [K3], by simp [K3], by simp [K3]⟩ (n := 0) (T' := K4 a) (k4 a)) ?_
  rintro r q4 ⟨rfl, hr4⟩
  obtain ⟨J4, nm4, sm4, ch4, ρ4, hT4, gr4⟩ := hr4
  have az4 := az3.gr gr4
  have bz4 := bz3.gr gr4
  have cz4 := cz3.gr gr4
  have pz4 := pz3.gr gr4
  clear az3 bz3 cz3 pz3
  try simp (maxSteps := 1000000) -dsimp (disch := first | omega | ((repeat first | rw [AH.nx_new] | rw [AH.nx_put]); done) | ((repeat first | rw [AH.nx_new] | rw [AH.nx_put]); omega)) only [go_sem, Int.reduceEq, Int.reduceNe, Int.reduceLT, Int.reduceLE, Int.reduceAdd, Int.reduceSub, Int.reduceMul, Int.reduceNeg, Int.reduceToNat, Nat.reducePow, reduceCtorEq, Nat.reduceEqDiff, Nat.reduceAdd, Nat.reduceLT, Nat.reduceLeDiff, Nat.reduceMul, Nat.reduceSub, Nat.reduceBEq, Int.reduceToNat, na, oa, nb, ob, nc, oc, np, op]
  refine callK_of (makeE hS hT4 ⟨by simp [K4], by simp [K4], by simp [K4], by simp [K4]⟩ (s := pg) (n := 0) (T' := K5 a) (by rw [ok_g]; first | done | exact k5 a)) ?_
  rintro r q5 ⟨rfl, hr5⟩
  obtain ⟨J5, nm5, sm5, ch5, ρ5, hT5, gr5⟩ := hr5
  have az5 := az4.gr gr5
  have bz5 := bz4.gr gr5
  have cz5 := cz4.gr gr5
  have pz5 := pz4.gr gr5
  clear az4 bz4 cz4 pz4
  try simp (maxSteps := 1000000) -dsimp (disch := first | omega | ((repeat first | rw [AH.nx_new] | rw [AH.nx_put]); done) | ((repeat first | rw [AH.nx_new] | rw [AH.nx_put]); omega)) only [go_sem, Int.reduceEq, Int.reduceNe, Int.reduceLT, Int.reduceLE, Int.reduceAdd, Int.reduceSub, Int.reduceMul, Int.reduceNeg, Int.reduceToNat, Nat.reducePow, reduceCtorEq, Nat.reduceEqDiff, Nat.reduceAdd, Nat.reduceLT, Nat.reduceLeDiff, Nat.reduceMul, Nat.reduceSub, Nat.reduceBEq, Int.reduceToNat, na, oa, nb, ob, nc, oc, np, op]
  refine callK_of (ownC hS bz5.1 (by omega)) ?_
  rintro r o6 ⟨hn6, fo6⟩
  have hTo6 := hT5.fr fo6
  have pl6 : ∀ (j : Nat), J5 j ≠ 0 → j < q5.nx := fun j hj => hT5.lt hj
  have bp6 := hn6.bp (p := p) (pl6 p (by rw [hT5.kp]; decide))
  have on6 := (bsLn hn6.bs).2.2
  have go6 := frGr fo6 J5
  replace az5 := az5.gr go6
  replace bz5 := bz5.gr go6
  replace cz5 := cz5.gr go6
  replace pz5 := pz5.gr go6
  try simp (maxSteps := 1000000) -dsimp (disch := first | omega | ((repeat first | rw [AH.nx_new] | rw [AH.nx_put]); done) | ((repeat first | rw [AH.nx_new] | rw [AH.nx_put]); omega)) only [go_sem, Int.reduceEq, Int.reduceNe, Int.reduceLT, Int.reduceLE, Int.reduceAdd, Int.reduceSub, Int.reduceMul, Int.reduceNeg, Int.reduceToNat, Nat.reducePow, reduceCtorEq, Nat.reduceEqDiff, Nat.reduceAdd, Nat.reduceLT, Nat.reduceLeDiff, Nat.reduceMul, Nat.reduceSub, Nat.reduceBEq, Int.reduceToNat, na, oa, nb, ob, nc, oc, np, op, on6]
  refine callK_of (writeE hS hTo6 ⟨by simp [K5], by simp [K5], by simp [K5], by simp [K5]⟩ (s := pg) bp6 lb (by omega) (n := 0) (T' := K6 a b) (by rw [ok_g]; exact k6 a b la3 lb3)) ?_
  rintro r q6 ⟨rfl, hr6⟩
  obtain ⟨J6, nm6, sm6, ch6, ρ6, hT6, gr6⟩ := hr6
  have az6 := az5.gr gr6
  have bz6 := bz5.gr gr6
  have cz6 := cz5.gr gr6
  have pz6 := pz5.gr gr6
  clear az5 bz5 cz5 pz5
  try simp (maxSteps := 1000000) -dsimp (disch := first | omega | ((repeat first | rw [AH.nx_new] | rw [AH.nx_put]); done) | ((repeat first | rw [AH.nx_new] | rw [AH.nx_put]); omega)) only [go_sem, Int.reduceEq, Int.reduceNe, Int.reduceLT, Int.reduceLE, Int.reduceAdd, Int.reduceSub, Int.reduceMul, Int.reduceNeg, Int.reduceToNat, Nat.reducePow, reduceCtorEq, Nat.reduceEqDiff, Nat.reduceAdd, Nat.reduceLT, Nat.reduceLeDiff, Nat.reduceMul, Nat.reduceSub, Nat.reduceBEq, Int.reduceToNat, na, oa, nb, ob, nc, oc, np, op]
  refine callK_of (syncE hS hT6 (s := pg) (n := 0) (T' := K7 a b) (by rw [ok_g]; first | done | exact k7 a b)) ?_
  rintro r q7 ⟨rfl, hr7⟩
  obtain ⟨J7, nm7, sm7, ch7, ρ7, hT7, gr7⟩ := hr7
  have az7 := az6.gr gr7
  have bz7 := bz6.gr gr7
  have cz7 := cz6.gr gr7
  have pz7 := pz6.gr gr7
  clear az6 bz6 cz6 pz6
  try simp (maxSteps := 1000000) -dsimp (disch := first | omega | ((repeat first | rw [AH.nx_new] | rw [AH.nx_put]); done) | ((repeat first | rw [AH.nx_new] | rw [AH.nx_put]); omega)) only [go_sem, Int.reduceEq, Int.reduceNe, Int.reduceLT, Int.reduceLE, Int.reduceAdd, Int.reduceSub, Int.reduceMul, Int.reduceNeg, Int.reduceToNat, Nat.reducePow, reduceCtorEq, Nat.reduceEqDiff, Nat.reduceAdd, Nat.reduceLT, Nat.reduceLeDiff, Nat.reduceMul, Nat.reduceSub, Nat.reduceBEq, Int.reduceToNat, na, oa, nb, ob, nc, oc, np, op]
  refine callK_of (renE hS hT7 ⟨by simp [K7], by simp [K7], by simp [K7], by simp [K7]⟩ (a := pg) (b := pf) (n := 0) (T' := K8 a b) (by rw [ok_f, ok_g]; exact k8 a b)) ?_
  rintro r q8 ⟨rfl, hr8⟩
  obtain ⟨J8, nm8, sm8, ch8, ρ8, hT8, gr8⟩ := hr8
  have az8 := az7.gr gr8
  have bz8 := bz7.gr gr8
  have cz8 := cz7.gr gr8
  have pz8 := pz7.gr gr8
  clear az7 bz7 cz7 pz7
  try simp (maxSteps := 1000000) -dsimp (disch := first | omega | ((repeat first | rw [AH.nx_new] | rw [AH.nx_put]); done) | ((repeat first | rw [AH.nx_new] | rw [AH.nx_put]); omega)) only [go_sem, Int.reduceEq, Int.reduceNe, Int.reduceLT, Int.reduceLE, Int.reduceAdd, Int.reduceSub, Int.reduceMul, Int.reduceNeg, Int.reduceToNat, Nat.reducePow, reduceCtorEq, Nat.reduceEqDiff, Nat.reduceAdd, Nat.reduceLT, Nat.reduceLeDiff, Nat.reduceMul, Nat.reduceSub, Nat.reduceBEq, Int.reduceToNat, na, oa, nb, ob, nc, oc, np, op]
  obtain ⟨w1, q9, ha9, f9, iv9, ow9⟩ := pz8.own (by omega) hT8.top
  have go9 := frGr f9 J8
  have az8a := az8.gr go9
  have bz8a := bz8.gr go9
  have cz8a := cz8.gr go9
  have pz8a := pz8.gr go9
  clear az8 bz8 cz8 pz8
  simp (maxSteps := 1000000) -dsimp (disch := first | omega | ((repeat first | rw [AH.nx_new] | rw [AH.nx_put]); done) | ((repeat first | rw [AH.nx_new] | rw [AH.nx_put]); omega)) only [go_sem, Int.reduceEq, Int.reduceNe, Int.reduceLT, Int.reduceLE, Int.reduceAdd, Int.reduceSub, Int.reduceMul, Int.reduceNeg, Int.reduceToNat, Nat.reducePow, reduceCtorEq, Nat.reduceEqDiff, Nat.reduceAdd, Nat.reduceLT, Nat.reduceLeDiff, Nat.reduceMul, Nat.reduceSub, Nat.reduceBEq, Int.reduceToNat, ha9, ow9]
  refine callK_of (crashE hS (hT8.fr f9) ⟨by simp [K8], by simp [K8], by simp [K8], by simp [K8]⟩ (by simp [K8]) keep iv9 (k9s a b _) (k9 a b keep ps)) ?_
  rintro r q10 ⟨rfl, hr10⟩
  obtain ⟨J10, nm10, sm10, ch10, ρ10, hT10, gr10⟩ := hr10
  have az10 := az8a.gr gr10
  have bz10 := bz8a.gr gr10
  have cz10 := cz8a.gr gr10
  have pz10 := pz8a.gr gr10
  clear az8a bz8a cz8a pz8a
  have hk3 : (max 0 keep).toNat % 3 < 3 := Nat.mod_lt _ (by decide)
  have em : (max 0 keep).tmod 3 = (((max 0 keep).toNat % 3 : Nat) : Int) := tmodN (n := 3) (by omega) (by decide)
  have c30 : ¬ (3 : Int) = 0 := by decide
  generalize (max 0 keep).toNat % 3 = k at hT10 hk3 em
  have hk : k = 0 ∨ k = 1 ∨ k = 2 := by omega
  have smc : Sm (Kc a b k) := by rcases hk with rfl | rfl | rfl <;> exact ⟨by simp [Kc], by simp [Kc], by simp [Kc], by simp [Kc]⟩
  have smd : Sm (Kd a b c k) := by rcases hk with rfl | rfl | rfl <;> exact ⟨by simp [Kd], by simp [Kd], by simp [Kd], by simp [Kd]⟩
  have sme : Sm (Ke a b c k) ∧ (Ke a b c k).clock < 1152921504606000000 := by rcases hk with rfl | rfl | rfl <;> exact ⟨⟨by simp [Ke], by simp [Ke], by simp [Ke], by simp [Ke]⟩, by simp [Ke]⟩
  have ta := az10.1.text Tryd.underlying22 Tryd.underlying5 Tryd.underlying9 la
  have tb := bz10.1.text Tryd.underlying22 Tryd.underlying5 Tryd.underlying9 lb
  obtain ⟨r10, s10⟩ := k10 a b hk3
  obtain ⟨p12, p12'⟩ := k12 a b c hk3
  obtain ⟨r14, st, s14, s14'⟩ := k14 a b c hk3
  have hwl : (wk a b k).length + c.length ≤ 1000 := by unfold wk; split <;> omega
  have key : ∀ (x : Bool) (y : Bool), x = y → ∀ h, binA Tryd.prog h .neq 4 (.bool x) (.bool y) = some (.bool false) := fun x y e h => by rw [e]; exact neBB h y
  have ek : ∀ h, binA Tryd.prog h .neq 4 (.bool (decide (k = 1))) (.bool (decide (((k : Nat) : Int) = 1))) = some (.bool false) := key _ _ (by rcases hk with rfl | rfl | rfl <;> rfl)
  have hw : wk a b k = if ((k : Nat) : Int) = 2 then b else a := by rcases hk with rfl | rfl | rfl <;> rfl
  by_cases ck : ((k : Nat) : Int) = 2
  · rw [if_pos ck] at hw
    have ek2 : ∀ h, binA Tryd.prog h .neq 4 (.bool (decide (k = 1))) (.bool false) = some (.bool false) := key _ _ (decide_eq_false (by omega))
    simp (maxSteps := 1000000) -dsimp (disch := first | omega | ((repeat first | rw [AH.nx_new] | rw [AH.nx_put]); done) | ((repeat first | rw [AH.nx_new] | rw [AH.nx_put]); omega)) only [go_sem, Int.reduceEq, Int.reduceNe, Int.reduceLT, Int.reduceLE, Int.reduceAdd, Int.reduceSub, Int.reduceMul, Int.reduceNeg, Int.reduceToNat, Nat.reducePow, reduceCtorEq, Nat.reduceEqDiff, Nat.reduceAdd, Nat.reduceLT, Nat.reduceLeDiff, Nat.reduceMul, Nat.reduceSub, Nat.reduceBEq, Int.reduceToNat, em, c30, ta, tb, oa, ob, ck]
    refine callK_of (statC hS hT10 pg) ?_
    rintro r q11 ⟨rfl, f11⟩
    rw [s10]
    simp (maxSteps := 1000000) -dsimp (disch := first | omega | ((repeat first | rw [AH.nx_new] | rw [AH.nx_put]); done) | ((repeat first | rw [AH.nx_new] | rw [AH.nx_put]); omega)) only [go_sem, Int.reduceEq, Int.reduceNe, Int.reduceLT, Int.reduceLE, Int.reduceAdd, Int.reduceSub, Int.reduceMul, Int.reduceNeg, Int.reduceToNat, Nat.reducePow, reduceCtorEq, Nat.reduceEqDiff, Nat.reduceAdd, Nat.reduceLT, Nat.reduceLeDiff, Nat.reduceMul, Nat.reduceSub, Nat.reduceBEq, Int.reduceToNat, em, c30, ta, tb, oa, ob, ck]
    refine callK_of (gotC hS (fun _ _ => hg _ _ _ (.inr rfl)) (hT10.fr f11) pf) ?_
    rintro r q12 ⟨rfl, hT12, gr12⟩
    rw [ok_f, r10] at hT12
    rw [ok_f, r10, hw]
    have cz12 := (cz10.gr (frGr f11 J10)).gr gr12
    have pz12 := (pz10.gr (frGr f11 J10)).gr gr12
    have nss : ∀ h, binA Tryd.prog h .neq 9 (.str b) (.str b) = some (.bool false) := fun h => by rw [neSt']; simp; rfl
    simp (maxSteps := 1000000) -dsimp (disch := first | omega | ((repeat first | rw [AH.nx_new] | rw [AH.nx_put]); done) | ((repeat first | rw [AH.nx_new] | rw [AH.nx_put]); omega)) only [go_sem, Int.reduceEq, Int.reduceNe, Int.reduceLT, Int.reduceLE, Int.reduceAdd, Int.reduceSub, Int.reduceMul, Int.reduceNeg, Int.reduceToNat, Nat.reducePow, reduceCtorEq, Nat.reduceEqDiff, Nat.reduceAdd, Nat.reduceLT, Nat.reduceLeDiff, Nat.reduceMul, Nat.reduceSub, Nat.reduceBEq, Int.reduceToNat, nss, ek2, ck]
    refine callK_of (ownC hS cz12.1 (by omega)) ?_
    rintro r q13 ⟨hn13, f13⟩
    have pl12 : p < q12.nx := hT12.lt (by rw [hT12.kp]; decide)
    have bp13 := hn13.bp (p := p) pl12
    have cz13 := cz12.gr (frGr f13 J10)
    have pz13 := pz12.gr (frGr f13 J10)
    refine callK_of (appendE hS (hT12.fr f13) smc (s := pf) bp13 lc (by omega) (n := 0) (T' := Kd a b c k) (by rw [ok_f]; exact k11 a b c hk3 la3 lb3 lc3)) ?_
    rintro r q14 ⟨rfl, J14, nm14, sm14, ch14, ρ14, hT14, gr14⟩
    have cz14 := cz13.gr gr14
    have pz14 := pz13.gr gr14
    simp (maxSteps := 1000000) -dsimp (disch := first | omega | ((repeat first | rw [AH.nx_new] | rw [AH.nx_put]); done) | ((repeat first | rw [AH.nx_new] | rw [AH.nx_put]); omega)) only [go_sem, Int.reduceEq, Int.reduceNe, Int.reduceLT, Int.reduceLE, Int.reduceAdd, Int.reduceSub, Int.reduceMul, Int.reduceNeg, Int.reduceToNat, Nat.reducePow, reduceCtorEq, Nat.reduceEqDiff, Nat.reduceAdd, Nat.reduceLT, Nat.reduceLeDiff, Nat.reduceMul, Nat.reduceSub, Nat.reduceBEq, Int.reduceToNat]
    refine callK_of (syncE hS hT14 (s := pf) (n := 0) (T' := Ke a b c k) (by rw [ok_f]; exact p12)) ?_
    rintro r q15 ⟨rfl, J15, nm15, sm15, ch15, ρ15, hT15, gr15⟩
    have cz15 := cz14.gr gr15
    have pz15 := pz14.gr gr15
    simp (maxSteps := 1000000) -dsimp (disch := first | omega | ((repeat first | rw [AH.nx_new] | rw [AH.nx_put]); done) | ((repeat first | rw [AH.nx_new] | rw [AH.nx_put]); omega)) only [go_sem, Int.reduceEq, Int.reduceNe, Int.reduceLT, Int.reduceLE, Int.reduceAdd, Int.reduceSub, Int.reduceMul, Int.reduceNeg, Int.reduceToNat, Nat.reducePow, reduceCtorEq, Nat.reduceEqDiff, Nat.reduceAdd, Nat.reduceLT, Nat.reduceLeDiff, Nat.reduceMul, Nat.reduceSub, Nat.reduceBEq, Int.reduceToNat]
    refine callK_of (syncPE hS hT15 sme.1 (n := 0) (T' := Ke a b c k) p12') ?_
    rintro r q16 ⟨rfl, J16, nm16, sm16, ch16, ρ16, hT16, gr16⟩
    have cz16 := cz15.gr gr16
    have pz16 := pz15.gr gr16
    simp (maxSteps := 1000000) -dsimp (disch := first | omega | ((repeat first | rw [AH.nx_new] | rw [AH.nx_put]); done) | ((repeat first | rw [AH.nx_new] | rw [AH.nx_put]); omega)) only [go_sem, Int.reduceEq, Int.reduceNe, Int.reduceLT, Int.reduceLE, Int.reduceAdd, Int.reduceSub, Int.reduceMul, Int.reduceNeg, Int.reduceToNat, Nat.reducePow, reduceCtorEq, Nat.reduceEqDiff, Nat.reduceAdd, Nat.reduceLT, Nat.reduceLeDiff, Nat.reduceMul, Nat.reduceSub, Nat.reduceBEq, Int.reduceToNat]
    refine callK_of (statC hS hT16 pf) ?_
    rintro r q17 ⟨rfl, f17⟩
    rw [s14]
    have cz17 := cz16.gr (frGr f17 J16)
    have pz17 := pz16.gr (frGr f17 J16)
    obtain ⟨w2, q18, ha18, f18, iv18, ow18⟩ := pz17.own (by omega) (hT16.fr f17).top
    have cz18 := cz17.gr (frGr f18 J16)
    simp (maxSteps := 1000000) -dsimp (disch := first | omega | ((repeat first | rw [AH.nx_new] | rw [AH.nx_put]); done) | ((repeat first | rw [AH.nx_new] | rw [AH.nx_put]); omega)) only [go_sem, Int.reduceEq, Int.reduceNe, Int.reduceLT, Int.reduceLE, Int.reduceAdd, Int.reduceSub, Int.reduceMul, Int.reduceNeg, Int.reduceToNat, Nat.reducePow, reduceCtorEq, Nat.reduceEqDiff, Nat.reduceAdd, Nat.reduceLT, Nat.reduceLeDiff, Nat.reduceMul, Nat.reduceSub, Nat.reduceBEq, Int.reduceToNat, ha18, ow18, op]
    refine callK_of (crashE hS ((hT16.fr f17).fr f18) sme.1 sme.2 keep iv18 (k13s a b c hk3 _) (k13 a b c hk3 keep ps)) ?_
    rintro r q19 ⟨rfl, J19, nm19, sm19, ch19, ρ19, hT19, gr19⟩
    have cz19 := cz18.gr gr19
    simp (maxSteps := 1000000) -dsimp (disch := first | omega | ((repeat first | rw [AH.nx_new] | rw [AH.nx_put]); done) | ((repeat first | rw [AH.nx_new] | rw [AH.nx_put]); omega)) only [go_sem, Int.reduceEq, Int.reduceNe, Int.reduceLT, Int.reduceLE, Int.reduceAdd, Int.reduceSub, Int.reduceMul, Int.reduceNeg, Int.reduceToNat, Nat.reducePow, reduceCtorEq, Nat.reduceEqDiff, Nat.reduceAdd, Nat.reduceLT, Nat.reduceLeDiff, Nat.reduceMul, Nat.reduceSub, Nat.reduceBEq, Int.reduceToNat]
    refine callK_of (statC hS hT19 pf) ?_
    rintro r q20 ⟨rfl, f20⟩
    rw [s14']
    have cz20 := cz19.gr (frGr f20 J19)
    simp (maxSteps := 1000000) -dsimp (disch := first | omega | ((repeat first | rw [AH.nx_new] | rw [AH.nx_put]); done) | ((repeat first | rw [AH.nx_new] | rw [AH.nx_put]); omega)) only [go_sem, Int.reduceEq, Int.reduceNe, Int.reduceLT, Int.reduceLE, Int.reduceAdd, Int.reduceSub, Int.reduceMul, Int.reduceNeg, Int.reduceToNat, Nat.reducePow, reduceCtorEq, Nat.reduceEqDiff, Nat.reduceAdd, Nat.reduceLT, Nat.reduceLeDiff, Nat.reduceMul, Nat.reduceSub, Nat.reduceBEq, Int.reduceToNat]
    refine syDraw_gen [2, 11, 14, 18, 19, 21, 22] ?_
    intro te hte
    have v2 : te.get 2 = some vc := (hte 2 (by simp)).trans (by simp (maxSteps := 1000000) -dsimp (disch := first | omega | ((repeat first | rw [AH.nx_new] | rw [AH.nx_put]); done) | ((repeat first | rw [AH.nx_new] | rw [AH.nx_put]); omega)) only [go_sem, Int.reduceEq, Int.reduceNe, Int.reduceLT, Int.reduceLE, Int.reduceAdd, Int.reduceSub, Int.reduceMul, Int.reduceNeg, Int.reduceToNat, Nat.reducePow, reduceCtorEq, Nat.reduceEqDiff, Nat.reduceAdd, Nat.reduceLT, Nat.reduceLeDiff, Nat.reduceMul, Nat.reduceSub, Nat.reduceBEq, Int.reduceToNat])
    have v11 : te.get 11 = some (.ptr p 0) := (hte 11 (by simp)).trans (by simp (maxSteps := 1000000) -dsimp (disch := first | omega | ((repeat first | rw [AH.nx_new] | rw [AH.nx_put]); done) | ((repeat first | rw [AH.nx_new] | rw [AH.nx_put]); omega)) only [go_sem, Int.reduceEq, Int.reduceNe, Int.reduceLT, Int.reduceLE, Int.reduceAdd, Int.reduceSub, Int.reduceMul, Int.reduceNeg, Int.reduceToNat, Nat.reducePow, reduceCtorEq, Nat.reduceEqDiff, Nat.reduceAdd, Nat.reduceLT, Nat.reduceLeDiff, Nat.reduceMul, Nat.reduceSub, Nat.reduceBEq, Int.reduceToNat])
    have v14 : te.get 14 = some (.str b) := (hte 14 (by simp)).trans (by simp (maxSteps := 1000000) -dsimp (disch := first | omega | ((repeat first | rw [AH.nx_new] | rw [AH.nx_put]); done) | ((repeat first | rw [AH.nx_new] | rw [AH.nx_put]); omega)) only [go_sem, Int.reduceEq, Int.reduceNe, Int.reduceLT, Int.reduceLE, Int.reduceAdd, Int.reduceSub, Int.reduceMul, Int.reduceNeg, Int.reduceToNat, Nat.reducePow, reduceCtorEq, Nat.reduceEqDiff, Nat.reduceAdd, Nat.reduceLT, Nat.reduceLeDiff, Nat.reduceMul, Nat.reduceSub, Nat.reduceBEq, Int.reduceToNat])
    have v18 : te.get 18 = some (.int .i64 ((wk a b k ++ c).length : Nat)) := (hte 18 (by simp)).trans (by simp (maxSteps := 1000000) -dsimp (disch := first | omega | ((repeat first | rw [AH.nx_new] | rw [AH.nx_put]); done) | ((repeat first | rw [AH.nx_new] | rw [AH.nx_put]); omega)) only [go_sem, Int.reduceEq, Int.reduceNe, Int.reduceLT, Int.reduceLE, Int.reduceAdd, Int.reduceSub, Int.reduceMul, Int.reduceNeg, Int.reduceToNat, Nat.reducePow, reduceCtorEq, Nat.reduceEqDiff, Nat.reduceAdd, Nat.reduceLT, Nat.reduceLeDiff, Nat.reduceMul, Nat.reduceSub, Nat.reduceBEq, Int.reduceToNat])
    have v19 : te.get 19 = some (.int .u64 (st : Nat)) := (hte 19 (by simp)).trans (by simp (maxSteps := 1000000) -dsimp (disch := first | omega | ((repeat first | rw [AH.nx_new] | rw [AH.nx_put]); done) | ((repeat first | rw [AH.nx_new] | rw [AH.nx_put]); omega)) only [go_sem, Int.reduceEq, Int.reduceNe, Int.reduceLT, Int.reduceLE, Int.reduceAdd, Int.reduceSub, Int.reduceMul, Int.reduceNeg, Int.reduceToNat, Nat.reducePow, reduceCtorEq, Nat.reduceEqDiff, Nat.reduceAdd, Nat.reduceLT, Nat.reduceLeDiff, Nat.reduceMul, Nat.reduceSub, Nat.reduceBEq, Int.reduceToNat])
    have v21 : te.get 21 = some (.int .i64 ((wk a b k ++ c).length : Nat)) := (hte 21 (by simp)).trans (by simp (maxSteps := 1000000) -dsimp (disch := first | omega | ((repeat first | rw [AH.nx_new] | rw [AH.nx_put]); done) | ((repeat first | rw [AH.nx_new] | rw [AH.nx_put]); omega)) only [go_sem, Int.reduceEq, Int.reduceNe, Int.reduceLT, Int.reduceLE, Int.reduceAdd, Int.reduceSub, Int.reduceMul, Int.reduceNeg, Int.reduceToNat, Nat.reducePow, reduceCtorEq, Nat.reduceEqDiff, Nat.reduceAdd, Nat.reduceLT, Nat.reduceLeDiff, Nat.reduceMul, Nat.reduceSub, Nat.reduceBEq, Int.reduceToNat])
    have v22 : te.get 22 = some (.int .u64 (st : Nat)) := (hte 22 (by simp)).trans (by simp (maxSteps := 1000000) -dsimp (disch := first | omega | ((repeat first | rw [AH.nx_new] | rw [AH.nx_put]); done) | ((repeat first | rw [AH.nx_new] | rw [AH.nx_put]); omega)) only [go_sem, Int.reduceEq, Int.reduceNe, Int.reduceLT, Int.reduceLE, Int.reduceAdd, Int.reduceSub, Int.reduceMul, Int.reduceNeg, Int.reduceToNat, Nat.reducePow, reduceCtorEq, Nat.reduceEqDiff, Nat.reduceAdd, Nat.reduceLT, Nat.reduceLeDiff, Nat.reduceMul, Nat.reduceSub, Nat.reduceBEq, Int.reduceToNat])
    clear hte
    rw [hw] at v18 v21
    refine syDraw.keep (fun id => J19 id = 0 ∧ id < q20.nx) (by kernel_rfl) (by kernel_rfl) ?_
    have f27 : Fr q20 { tr := q20.tr, nx := q20.nx + 27 } := (Fr.refl q20).more _ (by omega)
    simp (maxSteps := 1000000) -dsimp (disch := first | omega | ((repeat first | rw [AH.nx_new] | rw [AH.nx_put]); done) | ((repeat first | rw [AH.nx_new] | rw [AH.nx_put]); omega)) only [go_sem, Int.reduceEq, Int.reduceNe, Int.reduceLT, Int.reduceLE, Int.reduceAdd, Int.reduceSub, Int.reduceMul, Int.reduceNeg, Int.reduceToNat, Nat.reducePow, reduceCtorEq, Nat.reduceEqDiff, Nat.reduceAdd, Nat.reduceLT, Nat.reduceLeDiff, Nat.reduceMul, Nat.reduceSub, Nat.reduceBEq, Int.reduceToNat, v2, v11, v14, v18, v19, v21, v22, true_and, implies_true, sv_int, sv_bool]
    refine callK_of (gotC hS (fun _ _ => hg _ _ _ (.inr rfl)) ((hT19.fr f20).fr f27) pf) ?_
    rintro r q21 ⟨rfl, hT21, gr21⟩
    rw [ok_f, r14, hw]
    have hst : ∀ id, J19 id = 0 ∧ id < q20.nx → q21.get id = q20.get id := fun id hid => (gr21.get id (Nat.lt_of_lt_of_le hid.2 f27.nx) hid.1).1
    have cz21 := (cz20.gr (frGr f27 J19)).gr gr21
    have tc := cz21.1.text Tryd.underlying22 Tryd.underlying5 Tryd.underlying9 lc
    have tcg : ∀ g : AH, (∀ id, J19 id = 0 ∧ id < q20.nx → g.get id = q21.get id) → evConvert Tryd.prog g 22 9 vc = some (.val (.str c) g) := fun g hgi => by
      rcases cz20.1 with ⟨h1, h2⟩ | ⟨id, off, cc, cs, o, t, h1, h2, h3, h4⟩
      · exact (show Bs g vc c from .inl ⟨h1, h2⟩).text Tryd.underlying22 Tryd.underlying5 Tryd.underlying9 lc
      · have hid : J19 id = 0 ∧ id < q20.nx := ⟨cz20.2 _ _ _ _ _ h1, h3⟩
        have hg2 : g.get id = some (.cells cs o t) := ((hgi id hid).trans (hst id hid)).trans h2
        exact textG h1 hg2 h4.1 h4.2.2 lc
    refine ⟨hst, ?_⟩
    have vtc : ∀ g : AH, (∀ id, J19 id = 0 ∧ id < q20.nx → g.get id = q21.get id) → Abs.valOf (evConvert Tryd.prog g 22 9 vc) = some (.str c) := fun g hgi => by rw [tcg g hgi]; rfl
    have vt0 : Abs.valOf (evConvert Tryd.prog q21 22 9 vc) = some (.str c) := vtc q21 fun _ _ => rfl
    have hsum : ∀ h, binA Tryd.prog h .add 9 (.str b) (.str c) = some (.str (b ++ c)) := fun h => addSS h _ (by rw [← hw]; exact hwl)
    have hee : ∀ h, binA Tryd.prog h .eql 9 (.str (b ++ c)) (.str (b ++ c)) = some (.bool true) := fun h => by rw [eqS]; simp
    simp (maxSteps := 1000000) -dsimp (disch := first | omega | ((repeat first | rw [AH.nx_new] | rw [AH.nx_put]); done) | ((repeat first | rw [AH.nx_new] | rw [AH.nx_put]); omega)) only [go_sem, Int.reduceEq, Int.reduceNe, Int.reduceLT, Int.reduceLE, Int.reduceAdd, Int.reduceSub, Int.reduceMul, Int.reduceNeg, Int.reduceToNat, Nat.reducePow, reduceCtorEq, Nat.reduceEqDiff, Nat.reduceAdd, Nat.reduceLT, Nat.reduceLeDiff, Nat.reduceMul, Nat.reduceSub, Nat.reduceBEq, Int.reduceToNat, v2, v11, v14, v18, v19, v21, v22, vt0, hsum, hee, nc, oc, true_and, implies_true, sv_int, sv_bool]
    refine ⟨vtc, svStr _, svStr _, ?_⟩
    have lsW : ∀ g, evLen Tryd.prog g #[9] (.str b) = some (.int .i64 ((b.length : Nat) : Int)) := fun g => by simp [evLen, Tryd.underlying9]
    have hsl : (((b ++ c).length : Nat) : Int) = ((b.length : Nat) : Int) + ((c.length : Nat) : Int) := by rw [List.length_append]; omega
    simp (maxSteps := 1000000) -dsimp (disch := first | omega | ((repeat first | rw [AH.nx_new] | rw [AH.nx_put]); done) | ((repeat first | rw [AH.nx_new] | rw [AH.nx_put]); omega)) only [go_sem, Int.reduceEq, Int.reduceNe, Int.reduceLT, Int.reduceLE, Int.reduceAdd, Int.reduceSub, Int.reduceMul, Int.reduceNeg, Int.reduceToNat, Nat.reducePow, reduceCtorEq, Nat.reduceEqDiff, Nat.reduceAdd, Nat.reduceLT, Nat.reduceLeDiff, Nat.reduceMul, Nat.reduceSub, Nat.reduceBEq, Int.reduceToNat, v2, v11, v14, v18, v19, v21, v22, lsW, hsl, nc, oc, true_and, implies_true, sv_int, sv_bool]
    try exact hst

  · rw [if_neg ck] at hw
    simp (maxSteps := 1000000) -dsimp (disch := first | omega | ((repeat first | rw [AH.nx_new] | rw [AH.nx_put]); done) | ((repeat first | rw [AH.nx_new] | rw [AH.nx_put]); omega)) only [go_sem, Int.reduceEq, Int.reduceNe, Int.reduceLT, Int.reduceLE, Int.reduceAdd, Int.reduceSub, Int.reduceMul, Int.reduceNeg, Int.reduceToNat, Nat.reducePow, reduceCtorEq, Nat.reduceEqDiff, Nat.reduceAdd, Nat.reduceLT, Nat.reduceLeDiff, Nat.reduceMul, Nat.reduceSub, Nat.reduceBEq, Int.reduceToNat, em, c30, ta, tb, oa, ob, ck]
    refine callK_of (statC hS hT10 pg) ?_
    rintro r q11 ⟨rfl, f11⟩
    rw [s10]
    simp (maxSteps := 1000000) -dsimp (disch := first | omega | ((repeat first | rw [AH.nx_new] | rw [AH.nx_put]); done) | ((repeat first | rw [AH.nx_new] | rw [AH.nx_put]); omega)) only [go_sem, Int.reduceEq, Int.reduceNe, Int.reduceLT, Int.reduceLE, Int.reduceAdd, Int.reduceSub, Int.reduceMul, Int.reduceNeg, Int.reduceToNat, Nat.reducePow, reduceCtorEq, Nat.reduceEqDiff, Nat.reduceAdd, Nat.reduceLT, Nat.reduceLeDiff, Nat.reduceMul, Nat.reduceSub, Nat.reduceBEq, Int.reduceToNat, em, c30, ta, tb, oa, ob, ck]
    refine callK_of (gotC hS (fun _ _ => hg _ _ _ (.inr rfl)) (hT10.fr f11) pf) ?_
    rintro r q12 ⟨rfl, hT12, gr12⟩
    rw [ok_f, r10] at hT12
    rw [ok_f, r10, hw]
    have cz12 := (cz10.gr (frGr f11 J10)).gr gr12
    have pz12 := (pz10.gr (frGr f11 J10)).gr gr12
    have nss : ∀ h, binA Tryd.prog h .neq 9 (.str a) (.str a) = some (.bool false) := fun h => by rw [neSt']; simp; rfl
    simp (maxSteps := 1000000) -dsimp (disch := first | omega | ((repeat first | rw [AH.nx_new] | rw [AH.nx_put]); done) | ((repeat first | rw [AH.nx_new] | rw [AH.nx_put]); omega)) only [go_sem, Int.reduceEq, Int.reduceNe, Int.reduceLT, Int.reduceLE, Int.reduceAdd, Int.reduceSub, Int.reduceMul, Int.reduceNeg, Int.reduceToNat, Nat.reducePow, reduceCtorEq, Nat.reduceEqDiff, Nat.reduceAdd, Nat.reduceLT, Nat.reduceLeDiff, Nat.reduceMul, Nat.reduceSub, Nat.reduceBEq, Int.reduceToNat, nss, ek, ck]
    refine callK_of (ownC hS cz12.1 (by omega)) ?_
    rintro r q13 ⟨hn13, f13⟩
    have pl12 : p < q12.nx := hT12.lt (by rw [hT12.kp]; decide)
    have bp13 := hn13.bp (p := p) pl12
    have cz13 := cz12.gr (frGr f13 J10)
    have pz13 := pz12.gr (frGr f13 J10)
    refine callK_of (appendE hS (hT12.fr f13) smc (s := pf) bp13 lc (by omega) (n := 0) (T' := Kd a b c k) (by rw [ok_f]; exact k11 a b c hk3 la3 lb3 lc3)) ?_
    rintro r q14 ⟨rfl, J14, nm14, sm14, ch14, ρ14, hT14, gr14⟩
    have cz14 := cz13.gr gr14
    have pz14 := pz13.gr gr14
    simp (maxSteps := 1000000) -dsimp (disch := first | omega | ((repeat first | rw [AH.nx_new] | rw [AH.nx_put]); done) | ((repeat first | rw [AH.nx_new] | rw [AH.nx_put]); omega)) only [go_sem, Int.reduceEq, Int.reduceNe, Int.reduceLT, Int.reduceLE, Int.reduceAdd, Int.reduceSub, Int.reduceMul, Int.reduceNeg, Int.reduceToNat, Nat.reducePow, reduceCtorEq, Nat.reduceEqDiff, Nat.reduceAdd, Nat.reduceLT, Nat.reduceLeDiff, Nat.reduceMul, Nat.reduceSub, Nat.reduceBEq, Int.reduceToNat]
    refine callK_of (syncE hS hT14 (s := pf) (n := 0) (T' := Ke a b c k) (by rw [ok_f]; exact p12)) ?_
    rintro r q15 ⟨rfl, J15, nm15, sm15, ch15, ρ15, hT15, gr15⟩
    have cz15 := cz14.gr gr15
    have pz15 := pz14.gr gr15
    simp (maxSteps := 1000000) -dsimp (disch := first | omega | ((repeat first | rw [AH.nx_new] | rw [AH.nx_put]); done) | ((repeat first | rw [AH.nx_new] | rw [AH.nx_put]); omega)) only [go_sem, Int.reduceEq, Int.reduceNe, Int.reduceLT, Int.reduceLE, Int.reduceAdd, Int.reduceSub, Int.reduceMul, Int.reduceNeg, Int.reduceToNat, Nat.reducePow, reduceCtorEq, Nat.reduceEqDiff, Nat.reduceAdd, Nat.reduceLT, Nat.reduceLeDiff, Nat.reduceMul, Nat.reduceSub, Nat.reduceBEq, Int.reduceToNat]
    refine callK_of (syncPE hS hT15 sme.1 (n := 0) (T' := Ke a b c k) p12') ?_
    rintro r q16 ⟨rfl, J16, nm16, sm16, ch16, ρ16, hT16, gr16⟩
    have cz16 := cz15.gr gr16
    have pz16 := pz15.gr gr16
    simp (maxSteps := 1000000) -dsimp (disch := first | omega | ((repeat first | rw [AH.nx_new] | rw [AH.nx_put]); done) | ((repeat first | rw [AH.nx_new] | rw [AH.nx_put]); omega)) only [go_sem, Int.reduceEq, Int.reduceNe, Int.reduceLT, Int.reduceLE, Int.reduceAdd, Int.reduceSub, Int.reduceMul, Int.reduceNeg, Int.reduceToNat, Nat.reducePow, reduceCtorEq, Nat.reduceEqDiff, Nat.reduceAdd, Nat.reduceLT, Nat.reduceLeDiff, Nat.reduceMul, Nat.reduceSub, Nat.reduceBEq, Int.reduceToNat]
    refine callK_of (statC hS hT16 pf) ?_
    rintro r q17 ⟨rfl, f17⟩
    rw [s14]
    have cz17 := cz16.gr (frGr f17 J16)
    have pz17 := pz16.gr (frGr f17 J16)
    obtain ⟨w2, q18, ha18, f18, iv18, ow18⟩ := pz17.own (by omega) (hT16.fr f17).top
    have cz18 := cz17.gr (frGr f18 J16)
    simp (maxSteps := 1000000) -dsimp (disch := first | omega | ((repeat first | rw [AH.nx_new] | rw [AH.nx_put]); done) | ((repeat first | rw [AH.nx_new] | rw [AH.nx_put]); omega)) only [go_sem, Int.reduceEq, Int.reduceNe, Int.reduceLT, Int.reduceLE, Int.reduceAdd, Int.reduceSub, Int.reduceMul, Int.reduceNeg, Int.reduceToNat, Nat.reducePow, reduceCtorEq, Nat.reduceEqDiff, Nat.reduceAdd, Nat.reduceLT, Nat.reduceLeDiff, Nat.reduceMul, Nat.reduceSub, Nat.reduceBEq, Int.reduceToNat, ha18, ow18, op]
    refine callK_of (crashE hS ((hT16.fr f17).fr f18) sme.1 sme.2 keep iv18 (k13s a b c hk3 _) (k13 a b c hk3 keep ps)) ?_
    rintro r q19 ⟨rfl, J19, nm19, sm19, ch19, ρ19, hT19, gr19⟩
    have cz19 := cz18.gr gr19
    simp (maxSteps := 1000000) -dsimp (disch := first | omega | ((repeat first | rw [AH.nx_new] | rw [AH.nx_put]); done) | ((repeat first | rw [AH.nx_new] | rw [AH.nx_put]); omega)) only [go_sem, Int.reduceEq, Int.reduceNe, Int.reduceLT, Int.reduceLE, Int.reduceAdd, Int.reduceSub, Int.reduceMul, Int.reduceNeg, Int.reduceToNat, Nat.reducePow, reduceCtorEq, Nat.reduceEqDiff, Nat.reduceAdd, Nat.reduceLT, Nat.reduceLeDiff, Nat.reduceMul, Nat.reduceSub, Nat.reduceBEq, Int.reduceToNat]
    refine callK_of (statC hS hT19 pf) ?_
    rintro r q20 ⟨rfl, f20⟩
    rw [s14']
    have cz20 := cz19.gr (frGr f20 J19)
    simp (maxSteps := 1000000) -dsimp (disch := first | omega | ((repeat first | rw [AH.nx_new] | rw [AH.nx_put]); done) | ((repeat first | rw [AH.nx_new] | rw [AH.nx_put]); omega)) only [go_sem, Int.reduceEq, Int.reduceNe, Int.reduceLT, Int.reduceLE, Int.reduceAdd, Int.reduceSub, Int.reduceMul, Int.reduceNeg, Int.reduceToNat, Nat.reducePow, reduceCtorEq, Nat.reduceEqDiff, Nat.reduceAdd, Nat.reduceLT, Nat.reduceLeDiff, Nat.reduceMul, Nat.reduceSub, Nat.reduceBEq, Int.reduceToNat]
    refine syDraw_gen [2, 11, 14, 18, 19, 21, 22] ?_
    intro te hte
    have v2 : te.get 2 = some vc := (hte 2 (by simp)).trans (by simp (maxSteps := 1000000) -dsimp (disch := first | omega | ((repeat first | rw [AH.nx_new] | rw [AH.nx_put]); done) | ((repeat first | rw [AH.nx_new] | rw [AH.nx_put]); omega)) only [go_sem, Int.reduceEq, Int.reduceNe, Int.reduceLT, Int.reduceLE, Int.reduceAdd, Int.reduceSub, Int.reduceMul, Int.reduceNeg, Int.reduceToNat, Nat.reducePow, reduceCtorEq, Nat.reduceEqDiff, Nat.reduceAdd, Nat.reduceLT, Nat.reduceLeDiff, Nat.reduceMul, Nat.reduceSub, Nat.reduceBEq, Int.reduceToNat])
    have v11 : te.get 11 = some (.ptr p 0) := (hte 11 (by simp)).trans (by simp (maxSteps := 1000000) -dsimp (disch := first | omega | ((repeat first | rw [AH.nx_new] | rw [AH.nx_put]); done) | ((repeat first | rw [AH.nx_new] | rw [AH.nx_put]); omega)) only [go_sem, Int.reduceEq, Int.reduceNe, Int.reduceLT, Int.reduceLE, Int.reduceAdd, Int.reduceSub, Int.reduceMul, Int.reduceNeg, Int.reduceToNat, Nat.reducePow, reduceCtorEq, Nat.reduceEqDiff, Nat.reduceAdd, Nat.reduceLT, Nat.reduceLeDiff, Nat.reduceMul, Nat.reduceSub, Nat.reduceBEq, Int.reduceToNat])
    have v14 : te.get 14 = some (.str a) := (hte 14 (by simp)).trans (by simp (maxSteps := 1000000) -dsimp (disch := first | omega | ((repeat first | rw [AH.nx_new] | rw [AH.nx_put]); done) | ((repeat first | rw [AH.nx_new] | rw [AH.nx_put]); omega)) only [go_sem, Int.reduceEq, Int.reduceNe, Int.reduceLT, Int.reduceLE, Int.reduceAdd, Int.reduceSub, Int.reduceMul, Int.reduceNeg, Int.reduceToNat, Nat.reducePow, reduceCtorEq, Nat.reduceEqDiff, Nat.reduceAdd, Nat.reduceLT, Nat.reduceLeDiff, Nat.reduceMul, Nat.reduceSub, Nat.reduceBEq, Int.reduceToNat])
    have v18 : te.get 18 = some (.int .i64 ((wk a b k ++ c).length : Nat)) := (hte 18 (by simp)).trans (by simp (maxSteps := 1000000) -dsimp (disch := first | omega | ((repeat first | rw [AH.nx_new] | rw [AH.nx_put]); done) | ((repeat first | rw [AH.nx_new] | rw [AH.nx_put]); omega)) only [go_sem, Int.reduceEq, Int.reduceNe, Int.reduceLT, Int.reduceLE, Int.reduceAdd, Int.reduceSub, Int.reduceMul, Int.reduceNeg, Int.reduceToNat, Nat.reducePow, reduceCtorEq, Nat.reduceEqDiff, Nat.reduceAdd, Nat.reduceLT, Nat.reduceLeDiff, Nat.reduceMul, Nat.reduceSub, Nat.reduceBEq, Int.reduceToNat])
    have v19 : te.get 19 = some (.int .u64 (st : Nat)) := (hte 19 (by simp)).trans (by simp (maxSteps := 1000000) -dsimp (disch := first | omega | ((repeat first | rw [AH.nx_new] | rw [AH.nx_put]); done) | ((repeat first | rw [AH.nx_new] | rw [AH.nx_put]); omega)) only [go_sem, Int.reduceEq, Int.reduceNe, Int.reduceLT, Int.reduceLE, Int.reduceAdd, Int.reduceSub, Int.reduceMul, Int.reduceNeg, Int.reduceToNat, Nat.reducePow, reduceCtorEq, Nat.reduceEqDiff, Nat.reduceAdd, Nat.reduceLT, Nat.reduceLeDiff, Nat.reduceMul, Nat.reduceSub, Nat.reduceBEq, Int.reduceToNat])
    have v21 : te.get 21 = some (.int .i64 ((wk a b k ++ c).length : Nat)) := (hte 21 (by simp)).trans (by simp (maxSteps := 1000000) -dsimp (disch := first | omega | ((repeat first | rw [AH.nx_new] | rw [AH.nx_put]); done) | ((repeat first | rw [AH.nx_new] | rw [AH.nx_put]); omega)) only [go_sem, Int.reduceEq, Int.reduceNe, Int.reduceLT, Int.reduceLE, Int.reduceAdd, Int.reduceSub, Int.reduceMul, Int.reduceNeg, Int.reduceToNat, Nat.reducePow, reduceCtorEq, Nat.reduceEqDiff, Nat.reduceAdd, Nat.reduceLT, Nat.reduceLeDiff, Nat.reduceMul, Nat.reduceSub, Nat.reduceBEq, Int.reduceToNat])
    have v22 : te.get 22 = some (.int .u64 (st : Nat)) := (hte 22 (by simp)).trans (by simp (maxSteps := 1000000) -dsimp (disch := first | omega | ((repeat first | rw [AH.nx_new] | rw [AH.nx_put]); done) | ((repeat first | rw [AH.nx_new] | rw [AH.nx_put]); omega)) only [go_sem, Int.reduceEq, Int.reduceNe, Int.reduceLT, Int.reduceLE, Int.reduceAdd, Int.reduceSub, Int.reduceMul, Int.reduceNeg, Int.reduceToNat, Nat.reducePow, reduceCtorEq, Nat.reduceEqDiff, Nat.reduceAdd, Nat.reduceLT, Nat.reduceLeDiff, Nat.reduceMul, Nat.reduceSub, Nat.reduceBEq, Int.reduceToNat])
    clear hte
    rw [hw] at v18 v21
    refine syDraw.keep (fun id => J19 id = 0 ∧ id < q20.nx) (by kernel_rfl) (by kernel_rfl) ?_
    have f27 : Fr q20 { tr := q20.tr, nx := q20.nx + 27 } := (Fr.refl q20).more _ (by omega)
    simp (maxSteps := 1000000) -dsimp (disch := first | omega | ((repeat first | rw [AH.nx_new] | rw [AH.nx_put]); done) | ((repeat first | rw [AH.nx_new] | rw [AH.nx_put]); omega)) only [go_sem, Int.reduceEq, Int.reduceNe, Int.reduceLT, Int.reduceLE, Int.reduceAdd, Int.reduceSub, Int.reduceMul, Int.reduceNeg, Int.reduceToNat, Nat.reducePow, reduceCtorEq, Nat.reduceEqDiff, Nat.reduceAdd, Nat.reduceLT, Nat.reduceLeDiff, Nat.reduceMul, Nat.reduceSub, Nat.reduceBEq, Int.reduceToNat, v2, v11, v14, v18, v19, v21, v22, true_and, implies_true, sv_int, sv_bool]
    refine callK_of (gotC hS (fun _ _ => hg _ _ _ (.inr rfl)) ((hT19.fr f20).fr f27) pf) ?_
    rintro r q21 ⟨rfl, hT21, gr21⟩
    rw [ok_f, r14, hw]
    have hst : ∀ id, J19 id = 0 ∧ id < q20.nx → q21.get id = q20.get id := fun id hid => (gr21.get id (Nat.lt_of_lt_of_le hid.2 f27.nx) hid.1).1
    have cz21 := (cz20.gr (frGr f27 J19)).gr gr21
    have tc := cz21.1.text Tryd.underlying22 Tryd.underlying5 Tryd.underlying9 lc
    have tcg : ∀ g : AH, (∀ id, J19 id = 0 ∧ id < q20.nx → g.get id = q21.get id) → evConvert Tryd.prog g 22 9 vc = some (.val (.str c) g) := fun g hgi => by
      rcases cz20.1 with ⟨h1, h2⟩ | ⟨id, off, cc, cs, o, t, h1, h2, h3, h4⟩
      · exact (show Bs g vc c from .inl ⟨h1, h2⟩).text Tryd.underlying22 Tryd.underlying5 Tryd.underlying9 lc
      · have hid : J19 id = 0 ∧ id < q20.nx := ⟨cz20.2 _ _ _ _ _ h1, h3⟩
        have hg2 : g.get id = some (.cells cs o t) := ((hgi id hid).trans (hst id hid)).trans h2
        exact textG h1 hg2 h4.1 h4.2.2 lc
    refine ⟨hst, ?_⟩
    have vtc : ∀ g : AH, (∀ id, J19 id = 0 ∧ id < q20.nx → g.get id = q21.get id) → Abs.valOf (evConvert Tryd.prog g 22 9 vc) = some (.str c) := fun g hgi => by rw [tcg g hgi]; rfl
    have vt0 : Abs.valOf (evConvert Tryd.prog q21 22 9 vc) = some (.str c) := vtc q21 fun _ _ => rfl
    have hsum : ∀ h, binA Tryd.prog h .add 9 (.str a) (.str c) = some (.str (a ++ c)) := fun h => addSS h _ (by rw [← hw]; exact hwl)
    have hee : ∀ h, binA Tryd.prog h .eql 9 (.str (a ++ c)) (.str (a ++ c)) = some (.bool true) := fun h => by rw [eqS]; simp
    simp (maxSteps := 1000000) -dsimp (disch := first | omega | ((repeat first | rw [AH.nx_new] | rw [AH.nx_put]); done) | ((repeat first | rw [AH.nx_new] | rw [AH.nx_put]); omega)) only [go_sem, Int.reduceEq, Int.reduceNe, Int.reduceLT, Int.reduceLE, Int.reduceAdd, Int.reduceSub, Int.reduceMul, Int.reduceNeg, Int.reduceToNat, Nat.reducePow, reduceCtorEq, Nat.reduceEqDiff, Nat.reduceAdd, Nat.reduceLT, Nat.reduceLeDiff, Nat.reduceMul, Nat.reduceSub, Nat.reduceBEq, Int.reduceToNat, v2, v11, v14, v18, v19, v21, v22, vt0, hsum, hee, nc, oc, true_and, implies_true, sv_int, sv_bool]
    refine ⟨vtc, svStr _, svStr _, ?_⟩
    have lsW : ∀ g, evLen Tryd.prog g #[9] (.str a) = some (.int .i64 ((a.length : Nat) : Int)) := fun g => by simp [evLen, Tryd.underlying9]
    have hsl : (((a ++ c).length : Nat) : Int) = ((a.length : Nat) : Int) + ((c.length : Nat) : Int) := by rw [List.length_append]; omega
    simp (maxSteps := 1000000) -dsimp (disch := first | omega | ((repeat first | rw [AH.nx_new] | rw [AH.nx_put]); done) | ((repeat first | rw [AH.nx_new] | rw [AH.nx_put]); omega)) only [go_sem, Int.reduceEq, Int.reduceNe, Int.reduceLT, Int.reduceLE, Int.reduceAdd, Int.reduceSub, Int.reduceMul, Int.reduceNeg, Int.reduceToNat, Nat.reducePow, reduceCtorEq, Nat.reduceEqDiff, Nat.reduceAdd, Nat.reduceLT, Nat.reduceLeDiff, Nat.reduceMul, Nat.reduceSub, Nat.reduceBEq, Int.reduceToNat, v2, v11, v14, v18, v19, v21, v22, lsW, hsl, nc, oc, true_and, implies_true, sv_int, sv_bool]
    try exact hst

end
end Go.Proofs.YtjcidnbgbdibaaaDoor.tre
