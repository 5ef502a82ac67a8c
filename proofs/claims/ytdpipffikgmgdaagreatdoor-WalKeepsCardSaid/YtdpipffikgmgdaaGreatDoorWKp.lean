/- The law WalKeeps, walked. Conditions: those of its summaries. -/
import Derived.Test.YtdpipffikgmgdaaGreatDoorWRn
namespace Go.Proofs.YtdpipffikgmgdaaGreatDoor.tre
open Go Go.Abs Go.Abs.Wal Go.Proofs
set_option maxRecDepth 100000
set_option linter.unusedVariables false
set_option linter.unusedSimpArgs false

def pl1 : Pth := [108]
theorem l1B : bytesOf { data := #[108] } = pl1 := by decide +kernel
theorem l1Ok : checkS pl1 = 0 := by decide +kernel
theorem l1Ne : ¬ pl1 = tmpS ++ pl1 := by decide +kernel
theorem l1Lt : lessA (tmpS ++ pl1) pl1 = true ∧ lessA pl1 (tmpS ++ pl1) = false := by decide +kernel
theorem append_sz (p : Pth) (L : Lg) (T : TT) (s : List Nat) : (appendL p L T s).2.1.size ≤ L.size + (s.length + 8) ∧ (appendL p L T s).2.1.n ≤ L.n + 1 := by
  unfold appendL
  split
  · exact ⟨Nat.le_add_right _ _, Nat.le_succ _⟩
  · dsimp only
    split
    · exact ⟨Nat.le_add_right _ _, Nat.le_succ _⟩
    · exact ⟨by rw [frm_len]; exact Nat.le_refl _, Nat.le_refl _⟩
theorem AppS.bm {R : Int} {p : Pth} {a b : List (List Nat)} {c0 i : Nat} {L : Lg} {T : TT} (h : AppS R p a b c0 i L T) : Bm 1 (c0 + i) T := by
  obtain ⟨c, st, hc, ⟨hL, φ, hφ, rfl⟩ | ⟨hL, k, rfl⟩⟩ := h
  · exact wt_bm.mono (Nat.le_refl _) hc
  · exact wt_bm.mono (Nat.le_refl _) hc
section
variable {S : Sums}
theorem At5.fuse (hS : Wl S) {h0 h : AH} {p L : Nat} {path : Pth} {l : Lg} {T : TT} (hA : At5 h0 p L path l T h) (n : Int) (hn : n ≤ 9223372036854775807) :
    RnC Tryz.prog S 11 [.ptr p 0, .int .i64 n] h fun r h' => r = .int .i64 0 ∧ At5 h0 p L path l { T with fuse := max (-1) n } h' := by
  obtain ⟨K, nm, sm, chv, ρ, hT, hL, kl, k0, hlo, hf, hk⟩ := hA
  refine (fuseC hS.toSt hT n hn).mono ?_
  rintro r h' ⟨rfl, hT', g⟩
  obtain ⟨f2, k2⟩ := Gr.fr g hf hk
  exact ⟨rfl, K, nm, sm, chv, ρ, hT', hL.gr g kl k0, Nat.lt_of_lt_of_le kl g.nx, k0, hlo, f2, k2⟩
set_option maxHeartbeats 64000000 in
theorem keeps5 (hS : Wl S) (hN : ∀ args h, S 3 args h = none) (hL : ∀ h, S 5 [] h = some (.bool true, h)) {h : AH} {va vb vd vp : AV} {a b d : List Pth} {ps : List Int} {fuse keep : Int} (ha : Go.Abs.Cs h va (a.map AV.str)) (hb : Go.Abs.Cs h vb (b.map AV.str)) (hd : Go.Abs.Cs h vd (d.map AV.str)) (hp : Iv (fun _ => 0) h vp ps) (hfu : fuse ≤ 9223372036854775807)
    (hba : ∀ s ∈ a, ∀ x ∈ s, x < 256) (hbb : ∀ s ∈ b, ∀ x ∈ s, x < 256) (hbd : ∀ s ∈ d, ∀ x ∈ s, x < 256) :
    RnC Tryz.prog S 3 [va, vb, vd, .int .i64 fuse, .int .i64 keep, vp] h fun r _ => r = .bool true := by
  refine RnC.enter' Tryz.f3 _ 168 [.tmp 12] (hN _ _) bd3 Tryz.func3 rfl rfl rfl ?_
  have oa := ha.one.1
  have ob := hb.one.1
  have od := hd.one.1
  obtain ⟨np, sp, op⟩ := hp.ln
  have la : ∀ g, evLen Tryz.prog g #[22] va = some (.int .i64 (a.length : Nat)) := fun g => by have := ha.len Tryz.underlying22 g; rwa [List.length_map] at this
  have lb : ∀ g, evLen Tryz.prog g #[22] vb = some (.int .i64 (b.length : Nat)) := fun g => by have := hb.len Tryz.underlying22 g; rwa [List.length_map] at this
  simp (maxSteps := 1000000) -dsimp (disch := (repeat first | rw [AH.nx_new] | rw [AH.nx_put]); first | done | omega) only [go_sem, Int.reduceEq, Int.reduceNe, Int.reduceLT, Int.reduceLE, Int.reduceAdd, Int.reduceSub, Int.reduceMul, Int.reduceNeg, Int.reduceToNat, Nat.reducePow, reduceCtorEq, Nat.reduceEqDiff, Nat.reduceAdd, Nat.reduceLT, Nat.reduceLeDiff, Nat.reduceMul, Nat.reduceSub, Nat.reduceBEq]
  refine callK_of (RnC.sum (hL _) (Q := fun v h' => v = .bool true ∧ h' = h) ⟨rfl, rfl⟩) ?_
  rintro r g ⟨rfl, rfl⟩
  simp (maxSteps := 1000000) -dsimp (disch := (repeat first | rw [AH.nx_new] | rw [AH.nx_put]); first | done | omega) only [go_sem, Int.reduceEq, Int.reduceNe, Int.reduceLT, Int.reduceLE, Int.reduceAdd, Int.reduceSub, Int.reduceMul, Int.reduceNeg, Int.reduceToNat, Nat.reducePow, reduceCtorEq, Nat.reduceEqDiff, Nat.reduceAdd, Nat.reduceLT, Nat.reduceLeDiff, Nat.reduceMul, Nat.reduceSub, Nat.reduceBEq, oa, ob, od]
  refine callK_of (lightC hS (n := 50) (m := 3000) ha (by decide) (by decide)) ?_
  rintro r g1 ⟨⟨b1, rfl, hl1⟩, f1⟩
  cases b1
  · simp (maxSteps := 1000000) -dsimp (disch := (repeat first | rw [AH.nx_new] | rw [AH.nx_put]); first | done | omega) only [go_sem, Int.reduceEq, Int.reduceNe, Int.reduceLT, Int.reduceLE, Int.reduceAdd, Int.reduceSub, Int.reduceMul, Int.reduceNeg, Int.reduceToNat, Nat.reducePow, reduceCtorEq, Nat.reduceEqDiff, Nat.reduceAdd, Nat.reduceLT, Nat.reduceLeDiff, Nat.reduceMul, Nat.reduceSub, Nat.reduceBEq, oa, ob, od]
  simp (maxSteps := 1000000) -dsimp (disch := (repeat first | rw [AH.nx_new] | rw [AH.nx_put]); first | done | omega) only [go_sem, Int.reduceEq, Int.reduceNe, Int.reduceLT, Int.reduceLE, Int.reduceAdd, Int.reduceSub, Int.reduceMul, Int.reduceNeg, Int.reduceToNat, Nat.reducePow, reduceCtorEq, Nat.reduceEqDiff, Nat.reduceAdd, Nat.reduceLT, Nat.reduceLeDiff, Nat.reduceMul, Nat.reduceSub, Nat.reduceBEq, oa, ob, od]
  refine callK_of (lightC hS (n := 50) (m := 3000) (hb.fr f1) (by decide) (by decide)) ?_
  rintro r g2 ⟨⟨b2, rfl, hl2⟩, f2⟩
  cases b2
  · simp (maxSteps := 1000000) -dsimp (disch := (repeat first | rw [AH.nx_new] | rw [AH.nx_put]); first | done | omega) only [go_sem, Int.reduceEq, Int.reduceNe, Int.reduceLT, Int.reduceLE, Int.reduceAdd, Int.reduceSub, Int.reduceMul, Int.reduceNeg, Int.reduceToNat, Nat.reducePow, reduceCtorEq, Nat.reduceEqDiff, Nat.reduceAdd, Nat.reduceLT, Nat.reduceLeDiff, Nat.reduceMul, Nat.reduceSub, Nat.reduceBEq, oa, ob, od]
  simp (maxSteps := 1000000) -dsimp (disch := (repeat first | rw [AH.nx_new] | rw [AH.nx_put]); first | done | omega) only [go_sem, Int.reduceEq, Int.reduceNe, Int.reduceLT, Int.reduceLE, Int.reduceAdd, Int.reduceSub, Int.reduceMul, Int.reduceNeg, Int.reduceToNat, Nat.reducePow, reduceCtorEq, Nat.reduceEqDiff, Nat.reduceAdd, Nat.reduceLT, Nat.reduceLeDiff, Nat.reduceMul, Nat.reduceSub, Nat.reduceBEq, oa, ob, od]
  refine callK_of (lightC hS (n := 50) (m := 3000) ((hd.fr f1).fr f2) (by decide) (by decide)) ?_
  rintro r g3 ⟨⟨b3, rfl, hl3⟩, f3⟩
  cases b3
  · simp (maxSteps := 1000000) -dsimp (disch := (repeat first | rw [AH.nx_new] | rw [AH.nx_put]); first | done | omega) only [go_sem, Int.reduceEq, Int.reduceNe, Int.reduceLT, Int.reduceLE, Int.reduceAdd, Int.reduceSub, Int.reduceMul, Int.reduceNeg, Int.reduceToNat, Nat.reducePow, reduceCtorEq, Nat.reduceEqDiff, Nat.reduceAdd, Nat.reduceLT, Nat.reduceLeDiff, Nat.reduceMul, Nat.reduceSub, Nat.reduceBEq, oa, ob, od]
  obtain ⟨na, sa⟩ := hl1 rfl
  obtain ⟨nb, sb⟩ := hl2 rfl
  obtain ⟨nd, sd⟩ := hl3 rfl
  have fa := frs_sum a
  have fb := frs_sum b
  have fd := frs_sum d
  have ma : ∀ s ∈ a, s.length ≤ 1048576 := fun s hs => by have := sumL_mem hs; omega
  have mb : ∀ s ∈ b, s.length ≤ 1048576 := fun s hs => by have := sumL_mem hs; omega
  have md : ∀ s ∈ d, s.length ≤ 1048576 := fun s hs => by have := sumL_mem hs; omega
  by_cases cp : (100 : Int) < ((ps.length : Nat) : Int)
  · simp (maxSteps := 1000000) -dsimp (disch := (repeat first | rw [AH.nx_new] | rw [AH.nx_put]); first | done | omega) only [go_sem, Int.reduceEq, Int.reduceNe, Int.reduceLT, Int.reduceLE, Int.reduceAdd, Int.reduceSub, Int.reduceMul, Int.reduceNeg, Int.reduceToNat, Nat.reducePow, reduceCtorEq, Nat.reduceEqDiff, Nat.reduceAdd, Nat.reduceLT, Nat.reduceLeDiff, Nat.reduceMul, Nat.reduceSub, Nat.reduceBEq, oa, ob, od, np, op, cp]
  simp (maxSteps := 1000000) -dsimp (disch := (repeat first | rw [AH.nx_new] | rw [AH.nx_put]); first | done | omega) only [go_sem, Int.reduceEq, Int.reduceNe, Int.reduceLT, Int.reduceLE, Int.reduceAdd, Int.reduceSub, Int.reduceMul, Int.reduceNeg, Int.reduceToNat, Nat.reducePow, reduceCtorEq, Nat.reduceEqDiff, Nat.reduceAdd, Nat.reduceLT, Nat.reduceLeDiff, Nat.reduceMul, Nat.reduceSub, Nat.reduceBEq, oa, ob, od, np, op, cp]
  refine callK_of (newC hS.toSt (100000 : Int)) ?_
  rintro r g4 ⟨f4, hr⟩
  rw [if_pos (by omega)] at hr
  obtain ⟨rfl, n4, hT4⟩ := hr
  have hA4 : At4 g (g3.nx + 2) (newT 100000) g4 := ⟨_, _, _, _, _, hT4, ((f1.trans f2).trans f3).trans f4, fun j hj => by
    have hj2 : j < g3.nx := Nat.lt_of_lt_of_le hj ((f1.trans f2).trans f3).nx
    exact (if_neg (by omega)).trans ((if_neg (by omega)).trans (if_neg (by omega)))⟩
  clear hT4
  generalize g3.nx + 2 = p at hA4
  simp (maxSteps := 1000000) -dsimp (disch := (repeat first | rw [AH.nx_new] | rw [AH.nx_put]); first | done | omega) only [go_sem, Int.reduceEq, Int.reduceNe, Int.reduceLT, Int.reduceLE, Int.reduceAdd, Int.reduceSub, Int.reduceMul, Int.reduceNeg, Int.reduceToNat, Nat.reducePow, reduceCtorEq, Nat.reduceEqDiff, Nat.reduceAdd, Nat.reduceLT, Nat.reduceLeDiff, Nat.reduceMul, Nat.reduceSub, Nat.reduceBEq, oa, ob, od, op, l1B]
  refine callK_of (At4.open hS hA4 (Bm.new _) (by decide) (by decide) l1Ok (fun i hi => by simp [newT, valS] at hi) (wt_new l1Ne (by decide))) ?_
  rintro r g5 ⟨L, sv5, rfl, hA5, hc5⟩
  have o5 := hc5.one.1
  simp (maxSteps := 1000000) -dsimp (disch := (repeat first | rw [AH.nx_new] | rw [AH.nx_put]); first | done | omega) only [go_sem, Int.reduceEq, Int.reduceNe, Int.reduceLT, Int.reduceLE, Int.reduceAdd, Int.reduceSub, Int.reduceMul, Int.reduceNeg, Int.reduceToNat, Nat.reducePow, reduceCtorEq, Nat.reduceEqDiff, Nat.reduceAdd, Nat.reduceLT, Nat.reduceLeDiff, Nat.reduceMul, Nat.reduceSub, Nat.reduceBEq, oa, ob, od, op, o5]
  refine loopK_of (RnL.rounds (Q := fun ex u => ex = .exit 0 ∧ u.d = [] ∧ u.t.get 0 = some va ∧ u.t.get 1 = some vb ∧ u.t.get 2 = some vd ∧ u.t.get 3 = some (.int .i64 fuse) ∧ u.t.get 4 = some (.int .i64 keep) ∧ u.t.get 5 = some vp ∧ u.t.get 13 = some (.ptr p 0) ∧ u.t.get 14 = some (.int .i64 0) ∧ u.t.get 15 = some (.ptr L 0) ∧ ∃ c st, c ≤ 3 + a.length ∧ At5 g p L pl1 ⟨0, (frs (a.take a.length)).length, a.length⟩ (Wt 100000 pl1 c false (-1) (frs (a.take a.length)) [] st) u.h)
    (fun m u => u.d = [] ∧ u.t.get 0 = some va ∧ u.t.get 1 = some vb ∧ u.t.get 2 = some vd ∧ u.t.get 3 = some (.int .i64 fuse) ∧ u.t.get 4 = some (.int .i64 keep) ∧ u.t.get 5 = some vp ∧ u.t.get 13 = some (.ptr p 0) ∧ u.t.get 14 = some (.int .i64 0) ∧ u.t.get 15 = some (.ptr L 0) ∧ ∃ i : Nat, u.t.get 17 = some (.int .i64 (i : Nat)) ∧ i ≤ a.length ∧ m = a.length - i ∧ ∃ c st, c ≤ 3 + i ∧ At5 g p L pl1 ⟨0, (frs (a.take i)).length, i⟩ (Wt 100000 pl1 c false (-1) (frs (a.take i)) [] st) u.h) ?_ a.length ?_) ?_
  · rintro m ⟨t, gx, d⟩ ⟨e2, v0, v1, v2, v3, v4, v5, v13, v14, v15, i, v17, hi, rfl, c, st, hc, hA⟩
    dsimp only at e2 v0 v1 v2 v3 v4 v5 v13 v14 v15 v17 hA
    subst e2
    by_cases c1 : (i : Int) < (a.length : Nat)
    · have hil : i < a.length := by omega
      obtain ⟨s, hsi⟩ : ∃ s, a[i]? = some s := ⟨_, List.getElem?_eq_getElem hil⟩
      have hsm : s ∈ a := List.mem_iff_getElem?.2 ⟨i, hsi⟩
      obtain ⟨idx, ofx, cx, csx, ox', tx, rfl, hgx, hix, hcx⟩ := Tx.get (K := fun _ => 0) ⟨ha.fr hA.old, fun _ _ _ _ _ _ => rfl⟩ hsi
      have hle := frs_take_le' (l := a) i
      simp (maxSteps := 1000000) -dsimp (disch := (repeat first | rw [AH.nx_new] | rw [AH.nx_put]); first | done | omega) only [go_sem, Int.reduceEq, Int.reduceNe, Int.reduceLT, Int.reduceLE, Int.reduceAdd, Int.reduceSub, Int.reduceMul, Int.reduceNeg, Int.reduceToNat, Nat.reducePow, reduceCtorEq, Nat.reduceEqDiff, Nat.reduceAdd, Nat.reduceLT, Nat.reduceLeDiff, Nat.reduceMul, Nat.reduceSub, Nat.reduceBEq, c1, v0, v1, v2, v3, v4, v5, v13, v14, v15, v17, la, hil, hgx, hcx, Nat.mul_one]
      refine callK_of (hA.append hS wt_bm (by decide) (by omega) l1Ok (ma s hsm) (hba s hsm) (by dsimp only; omega) (by dsimp only; omega) (by have := wt_app (R := 100000) (p := pl1) (c := c) (st := st) (x := []) (z0 := 0) (n0 := 0) (pre := []) hsi (by simp; omega); simpa only [Nat.zero_add, List.nil_append] using this)) ?_
      rintro r gy ⟨rfl, hA2⟩
      simp (maxSteps := 1000000) -dsimp (disch := (repeat first | rw [AH.nx_new] | rw [AH.nx_put]); first | done | omega) only [go_sem, Int.reduceEq, Int.reduceNe, Int.reduceLT, Int.reduceLE, Int.reduceAdd, Int.reduceSub, Int.reduceMul, Int.reduceNeg, Int.reduceToNat, Nat.reducePow, reduceCtorEq, Nat.reduceEqDiff, Nat.reduceAdd, Nat.reduceLT, Nat.reduceLeDiff, Nat.reduceMul, Nat.reduceSub, Nat.reduceBEq, c1, v0, v1, v2, v3, v4, v5, v13, v14, v15, v17]
      exact ⟨a.length - (i + 1), by omega, trivial, trivial, trivial, trivial, trivial, trivial, trivial, trivial, trivial, trivial, i + 1, rfl, by omega, rfl, c + 1, c + 1, by omega, hA2⟩
    · obtain rfl : i = a.length := by omega
      simp (maxSteps := 1000000) -dsimp (disch := (repeat first | rw [AH.nx_new] | rw [AH.nx_put]); first | done | omega) only [go_sem, Int.reduceEq, Int.reduceNe, Int.reduceLT, Int.reduceLE, Int.reduceAdd, Int.reduceSub, Int.reduceMul, Int.reduceNeg, Int.reduceToNat, Nat.reducePow, reduceCtorEq, Nat.reduceEqDiff, Nat.reduceAdd, Nat.reduceLT, Nat.reduceLeDiff, Nat.reduceMul, Nat.reduceSub, Nat.reduceBEq, c1, v0, v1, v2, v3, v4, v5, v13, v14, v15, v17, la]
      exact ⟨trivial, trivial, trivial, trivial, trivial, trivial, trivial, trivial, trivial, trivial, trivial, c, st, hc, hA⟩
  · simp (maxSteps := 1000000) -dsimp (disch := (repeat first | rw [AH.nx_new] | rw [AH.nx_put]); first | done | omega) only [go_sem, Int.reduceEq, Int.reduceNe, Int.reduceLT, Int.reduceLE, Int.reduceAdd, Int.reduceSub, Int.reduceMul, Int.reduceNeg, Int.reduceToNat, Nat.reducePow, reduceCtorEq, Nat.reduceEqDiff, Nat.reduceAdd, Nat.reduceLT, Nat.reduceLeDiff, Nat.reduceMul, Nat.reduceSub, Nat.reduceBEq]
    exact ⟨trivial, trivial, trivial, trivial, trivial, trivial, trivial, trivial, trivial, trivial, 0, rfl, Nat.zero_le _, rfl, 3, 2, by omega, hA5⟩
  · rintro ex ⟨t, gx, d'⟩ ⟨rfl, rfl, v0, v1, v2, v3, v4, v5, v13, v14, v15, c, st, hc, hA⟩
    dsimp only at v0 v1 v2 v3 v4 v5 v13 v14 v15 hA
    rw [List.take_length] at hA
    simp (maxSteps := 1000000) -dsimp (disch := (repeat first | rw [AH.nx_new] | rw [AH.nx_put]); first | done | omega) only [go_sem, Int.reduceEq, Int.reduceNe, Int.reduceLT, Int.reduceLE, Int.reduceAdd, Int.reduceSub, Int.reduceMul, Int.reduceNeg, Int.reduceToNat, Nat.reducePow, reduceCtorEq, Nat.reduceEqDiff, Nat.reduceAdd, Nat.reduceLT, Nat.reduceLeDiff, Nat.reduceMul, Nat.reduceSub, Nat.reduceBEq, v0, v1, v2, v3, v4, v5, v13, v14, v15]
    refine callK_of (hA.sync hS l1Ok (wt_sync _ rfl (by decide))) ?_
    rintro r g6 ⟨rfl, hA6⟩
    simp (maxSteps := 1000000) -dsimp (disch := (repeat first | rw [AH.nx_new] | rw [AH.nx_put]); first | done | omega) only [go_sem, Int.reduceEq, Int.reduceNe, Int.reduceLT, Int.reduceLE, Int.reduceAdd, Int.reduceSub, Int.reduceMul, Int.reduceNeg, Int.reduceToNat, Nat.reducePow, reduceCtorEq, Nat.reduceEqDiff, Nat.reduceAdd, Nat.reduceLT, Nat.reduceLeDiff, Nat.reduceMul, Nat.reduceSub, Nat.reduceBEq, v0, v1, v2, v3, v4, v5, v13, v14, v15]
    refine callK_of (hA6.fuse hS fuse hfu) ?_
    rintro r g7 ⟨rfl, hA7⟩
    have hA0 : AppS 100000 pl1 a b c 0 ⟨0, (frs a).length, a.length⟩ (Wt 100000 pl1 c false (max (-1) fuse) (frs a) (frs a) st) := ⟨c, st, by omega, .inl ⟨rfl, max (-1) fuse, by omega, by simp [frs]⟩⟩
    simp (maxSteps := 1000000) -dsimp (disch := (repeat first | rw [AH.nx_new] | rw [AH.nx_put]); first | done | omega) only [go_sem, Int.reduceEq, Int.reduceNe, Int.reduceLT, Int.reduceLE, Int.reduceAdd, Int.reduceSub, Int.reduceMul, Int.reduceNeg, Int.reduceToNat, Nat.reducePow, reduceCtorEq, Nat.reduceEqDiff, Nat.reduceAdd, Nat.reduceLT, Nat.reduceLeDiff, Nat.reduceMul, Nat.reduceSub, Nat.reduceBEq, v0, v1, v2, v3, v4, v5, v13, v14, v15, ob]
    refine loopK_of (RnL.rounds (Q := fun ex u => ex = .exit 2 ∧ u.d = [] ∧ u.t.get 0 = some va ∧ u.t.get 1 = some vb ∧ u.t.get 2 = some vd ∧ u.t.get 4 = some (.int .i64 keep) ∧ u.t.get 5 = some vp ∧ u.t.get 13 = some (.ptr p 0) ∧ u.t.get 15 = some (.ptr L 0) ∧ ∃ l T, AppS 100000 pl1 a b c b.length l T ∧ At5 g p L pl1 l T u.h)
      (fun m u => u.d = [] ∧ u.t.get 0 = some va ∧ u.t.get 1 = some vb ∧ u.t.get 2 = some vd ∧ u.t.get 4 = some (.int .i64 keep) ∧ u.t.get 5 = some vp ∧ u.t.get 13 = some (.ptr p 0) ∧ u.t.get 15 = some (.ptr L 0) ∧ ∃ i : Nat, u.t.get 18 = some (.int .i64 (i : Nat)) ∧ i ≤ b.length ∧ m = b.length - i ∧ ∃ l T, AppS 100000 pl1 a b c i l T ∧ At5 g p L pl1 l T u.h ∧ l.size ≤ 10000 + i * 4000 ∧ l.n ≤ 1000 + i) ?_ b.length ?_) ?_
    · rintro m ⟨t, gx, d⟩ ⟨e2, v0, v1, v2, v4, v5, v13, v15, i, v18, hi, rfl, l, T, hap, hA, hsz, hln⟩
      dsimp only at e2 v0 v1 v2 v4 v5 v13 v15 v18 hA
      subst e2
      by_cases c1 : (i : Int) < (b.length : Nat)
      · have hil : i < b.length := by omega
        obtain ⟨s, hsi⟩ : ∃ s, b[i]? = some s := ⟨_, List.getElem?_eq_getElem hil⟩
        have hsm : s ∈ b := List.mem_iff_getElem?.2 ⟨i, hsi⟩
        have hs3 := sumL_mem hsm
        obtain ⟨idx, ofx, cx, csx, ox', tx, rfl, hgx, hix, hcx⟩ := Tx.get (K := fun _ => 0) ⟨hb.fr hA.old, fun _ _ _ _ _ _ => rfl⟩ hsi
        simp (maxSteps := 1000000) -dsimp (disch := (repeat first | rw [AH.nx_new] | rw [AH.nx_put]); first | done | omega) only [go_sem, Int.reduceEq, Int.reduceNe, Int.reduceLT, Int.reduceLE, Int.reduceAdd, Int.reduceSub, Int.reduceMul, Int.reduceNeg, Int.reduceToNat, Nat.reducePow, reduceCtorEq, Nat.reduceEqDiff, Nat.reduceAdd, Nat.reduceLT, Nat.reduceLeDiff, Nat.reduceMul, Nat.reduceSub, Nat.reduceBEq, c1, v0, v1, v2, v4, v5, v13, v15, v18, lb, hil, hgx, hcx, Nat.mul_one]
        refine callK_of (hA.append hS (AppS.bm hap) (by decide) (by omega) l1Ok (mb s hsm) (hbb s hsm) (by omega) (by omega) (e := (appendL pl1 l T s).1) (l' := (appendL pl1 l T s).2.1) (T' := (appendL pl1 l T s).2.2) rfl) ?_
        rintro r gy ⟨rfl, hA2⟩
        have hz := append_sz pl1 l T s
        try simp (maxSteps := 1000000) -dsimp (disch := (repeat first | rw [AH.nx_new] | rw [AH.nx_put]); first | done | omega) only [go_sem, Int.reduceEq, Int.reduceNe, Int.reduceLT, Int.reduceLE, Int.reduceAdd, Int.reduceSub, Int.reduceMul, Int.reduceNeg, Int.reduceToNat, Nat.reducePow, reduceCtorEq, Nat.reduceEqDiff, Nat.reduceAdd, Nat.reduceLT, Nat.reduceLeDiff, Nat.reduceMul, Nat.reduceSub, Nat.reduceBEq, c1, v0, v1, v2, v4, v5, v13, v15, v18]
        exact ⟨b.length - (i + 1), by omega, trivial, trivial, trivial, trivial, trivial, trivial, trivial, trivial, i + 1, rfl, by omega, rfl, _, _, hap.step hsi (by omega), hA2, by omega, by omega⟩
      · obtain rfl : i = b.length := by omega
        simp (maxSteps := 1000000) -dsimp (disch := (repeat first | rw [AH.nx_new] | rw [AH.nx_put]); first | done | omega) only [go_sem, Int.reduceEq, Int.reduceNe, Int.reduceLT, Int.reduceLE, Int.reduceAdd, Int.reduceSub, Int.reduceMul, Int.reduceNeg, Int.reduceToNat, Nat.reducePow, reduceCtorEq, Nat.reduceEqDiff, Nat.reduceAdd, Nat.reduceLT, Nat.reduceLeDiff, Nat.reduceMul, Nat.reduceSub, Nat.reduceBEq, c1, v0, v1, v2, v4, v5, v13, v15, v18, lb]
        exact ⟨trivial, trivial, trivial, trivial, trivial, trivial, trivial, trivial, trivial, l, T, hap, hA⟩
    · simp (maxSteps := 1000000) -dsimp (disch := (repeat first | rw [AH.nx_new] | rw [AH.nx_put]); first | done | omega) only [go_sem, Int.reduceEq, Int.reduceNe, Int.reduceLT, Int.reduceLE, Int.reduceAdd, Int.reduceSub, Int.reduceMul, Int.reduceNeg, Int.reduceToNat, Nat.reducePow, reduceCtorEq, Nat.reduceEqDiff, Nat.reduceAdd, Nat.reduceLT, Nat.reduceLeDiff, Nat.reduceMul, Nat.reduceSub, Nat.reduceBEq, v0, v1, v2, v3, v4, v5, v13, v14, v15]
      exact ⟨trivial, trivial, trivial, trivial, trivial, trivial, trivial, trivial, 0, rfl, Nat.zero_le _, rfl, _, _, hA0, hA7, by dsimp only; omega, by dsimp only; omega⟩
    · rintro ex ⟨t, gx, d'⟩ ⟨rfl, rfl, v0, v1, v2, v4, v5, v13, v15, l, T, hap, hA⟩
      dsimp only at v0 v1 v2 v4 v5 v13 v15 hA
      obtain ⟨w1, h2, x1, y1, z1, q1⟩ := ownApp (own0 gx) ((hd.fr hA.old).fr (Fr.new gx (.cells [] true true))) (Fr.new _ _) (by simp; omega)
      rw [List.nil_append] at z1
      have hbm := AppS.bm hap
      obtain ⟨hhas, hclk⟩ := asideHas hap l1Ne l1Lt (d := d) (by omega) keep ps
      have hbm2 := hbm.asideL pl1 (tmpS ++ pl1) l d
      simp (maxSteps := 1000000) -dsimp (disch := (repeat first | rw [AH.nx_new] | rw [AH.nx_put]); first | done | omega) only [go_sem, Int.reduceEq, Int.reduceNe, Int.reduceLT, Int.reduceLE, Int.reduceAdd, Int.reduceSub, Int.reduceMul, Int.reduceNeg, Int.reduceToNat, Nat.reducePow, reduceCtorEq, Nat.reduceEqDiff, Nat.reduceAdd, Nat.reduceLT, Nat.reduceLeDiff, Nat.reduceMul, Nat.reduceSub, Nat.reduceBEq, v0, v1, v2, v4, v5, v13, v15, od, x1, q1]
      refine callK_of (hA.aside hS y1 hbm (by decide) (by omega) l1Ok z1 (fun x hx => ⟨md x hx, hbd x hx⟩) (by omega) (e := (asideL pl1 (tmpS ++ pl1) l T d).1) (l' := (asideL pl1 (tmpS ++ pl1) l T d).2.1) (T' := (asideL pl1 (tmpS ++ pl1) l T d).2.2) rfl) ?_
      rintro r h3 ⟨rfl, hA3⟩
      generalize asideL pl1 (tmpS ++ pl1) l T d = O at hA3 hhas hclk hbm2
      obtain ⟨e, l3, T3⟩ := O
      dsimp only at hA3 hhas hclk hbm2
      obtain ⟨K3, nm3, sm3, ch3, ρ3, hT3, hL3, kl3, k03, hlo3, hf3, hk3⟩ := hA3
      have pz3 := Iv.of hp hf3 hk3
      obtain ⟨w4, h4, ha4, f4', iv4, ow4⟩ := pz3.own (by omega) hT3.top
      simp (maxSteps := 1000000) -dsimp (disch := (repeat first | rw [AH.nx_new] | rw [AH.nx_put]); first | done | omega) only [go_sem, Int.reduceEq, Int.reduceNe, Int.reduceLT, Int.reduceLE, Int.reduceAdd, Int.reduceSub, Int.reduceMul, Int.reduceNeg, Int.reduceToNat, Nat.reducePow, reduceCtorEq, Nat.reduceEqDiff, Nat.reduceAdd, Nat.reduceLT, Nat.reduceLeDiff, Nat.reduceMul, Nat.reduceSub, Nat.reduceBEq, v0, v1, v2, v4, v5, v13, v15, od, op, ha4, ow4]
      refine callK_of (crashE hS.toSt (hT3.fr f4') (Bm.sm hbm2 (by omega) (by omega)) (by omega) keep iv4 (Nat.le_trans (Go.Abs.Wal.keepT_len hbm2 _) (by omega)) (T' := crashT T3 keep ps) rfl) ?_
      rintro r h5 ⟨rfl, K5, nm5, sm5, ch5, ρ5, hT5, g5⟩
      obtain ⟨hf5, hk5⟩ := Gr.fr g5 (hf3.trans f4') hk3
      have hbm5 := hbm2.crash keep ps
      obtain ⟨s, l6, T6, T7, l7, o6, o7, z6, z7, hs⟩ := hhas.opens l1Ne ma mb md (by omega)
      simp (maxSteps := 1000000) -dsimp (disch := (repeat first | rw [AH.nx_new] | rw [AH.nx_put]); first | done | omega) only [go_sem, Int.reduceEq, Int.reduceNe, Int.reduceLT, Int.reduceLE, Int.reduceAdd, Int.reduceSub, Int.reduceMul, Int.reduceNeg, Int.reduceToNat, Nat.reducePow, reduceCtorEq, Nat.reduceEqDiff, Nat.reduceAdd, Nat.reduceLT, Nat.reduceLeDiff, Nat.reduceMul, Nat.reduceSub, Nat.reduceBEq, v0, v1, v2, v4, v5, v13, v15, od, op, l1B]
      refine callK_of (openC hS hT5 hbm5 (by omega) (by omega) l1Ok (fun i hi => Nat.le_trans (z6 i hi) (by omega))) ?_
      rw [o6]
      rintro r h6 ⟨K6, nm6, sm6, ch6, ρ6, hT6, g6, ⟨hx, _⟩ | ⟨l62, s62, L6, sv6, e61, e62, rfl, hL6, kl6, hnl6, k06, hx6, hid6⟩⟩
      · cases hx
      cases e61
      obtain ⟨hf6, hk6⟩ := Gr.fr g6 hf5 hk5
      have os6 := hx6.1.one.1
      have hbm6 := hbm5.open pl1 (tmpS ++ pl1)
      rw [o6] at hbm6
      simp (maxSteps := 1000000) -dsimp (disch := (repeat first | rw [AH.nx_new] | rw [AH.nx_put]); first | done | omega) only [go_sem, Int.reduceEq, Int.reduceNe, Int.reduceLT, Int.reduceLE, Int.reduceAdd, Int.reduceSub, Int.reduceMul, Int.reduceNeg, Int.reduceToNat, Nat.reducePow, reduceCtorEq, Nat.reduceEqDiff, Nat.reduceAdd, Nat.reduceLT, Nat.reduceLeDiff, Nat.reduceMul, Nat.reduceSub, Nat.reduceBEq, v0, v1, v2, v4, v5, v13, v15, od, op, os6, l1B]
      refine callK_of (openC hS hT6 hbm6 (by omega) (by omega) l1Ok (fun i hi => Nat.le_trans (z7 i hi) (by omega))) ?_
      rw [o7]
      rintro r h7 ⟨K7, nm7, sm7, ch7, ρ7, hT7, g7, ⟨hx, _⟩ | ⟨l72, s72, L7, sv7, e71, e72, rfl, hL7, kl7, hnl7, k07, hx7, hid7⟩⟩
      · cases hx
      cases e71
      obtain ⟨hf7, hk7⟩ := Gr.fr g7 hf6 hk6
      have hx67 := Tx.gr hx6 g7
      have os7 := hx7.1.one.1
      have hsl : s.length ≤ 1000 := by
        rcases hs with h1 | ⟨_, k, hk, h1⟩
        · rw [h1]; omega
        · rw [h1, List.length_append, List.length_take]; omega
      simp (maxSteps := 1000000) -dsimp (disch := (repeat first | rw [AH.nx_new] | rw [AH.nx_put]); first | done | omega) only [go_sem, Int.reduceEq, Int.reduceNe, Int.reduceLT, Int.reduceLE, Int.reduceAdd, Int.reduceSub, Int.reduceMul, Int.reduceNeg, Int.reduceToNat, Nat.reducePow, reduceCtorEq, Nat.reduceEqDiff, Nat.reduceAdd, Nat.reduceLT, Nat.reduceLeDiff, Nat.reduceMul, Nat.reduceSub, Nat.reduceBEq, v0, v1, v2, v4, v5, v13, v15, od, op, os6, os7]
      refine callK_of (textsG hS hx67.1 hx7.1 (by omega)) ?_
      rintro r h8 ⟨rfl, f8⟩
      simp (maxSteps := 1000000) -dsimp (disch := (repeat first | rw [AH.nx_new] | rw [AH.nx_put]); first | done | omega) only [go_sem, Int.reduceEq, Int.reduceNe, Int.reduceLT, Int.reduceLE, Int.reduceAdd, Int.reduceSub, Int.reduceMul, Int.reduceNeg, Int.reduceToNat, Nat.reducePow, reduceCtorEq, Nat.reduceEqDiff, Nat.reduceAdd, Nat.reduceLT, Nat.reduceLeDiff, Nat.reduceMul, Nat.reduceSub, Nat.reduceBEq, v0, v1, v2, v4, v5, v13, v15, od, op, os6, os7, decide_true]
      refine callK_of (textsG hS (hx67.1.fr f8) ((hd.fr hf7).fr f8) (by omega)) ?_
      rintro r h9 ⟨rfl, f9⟩
      by_cases csd : s = d
      · simp (maxSteps := 1000000) -dsimp (disch := (repeat first | rw [AH.nx_new] | rw [AH.nx_put]); first | done | omega) only [go_sem, Int.reduceEq, Int.reduceNe, Int.reduceLT, Int.reduceLE, Int.reduceAdd, Int.reduceSub, Int.reduceMul, Int.reduceNeg, Int.reduceToNat, Nat.reducePow, reduceCtorEq, Nat.reduceEqDiff, Nat.reduceAdd, Nat.reduceLT, Nat.reduceLeDiff, Nat.reduceMul, Nat.reduceSub, Nat.reduceBEq, csd, decide_true]
      · have hne : e ≠ 0 ∧ ∃ k, k ≤ b.length ∧ s = a ++ b.take k := hs.resolve_left csd
        obtain ⟨he0, k, hkb, hsk⟩ := hne
        have cr : ¬ ((e : Nat) : Int) = 0 := by omega
        have csd' : decide (s = d) = false := decide_eq_false csd
        have f79 := f8.trans f9
        have hf9 := hf7.trans f79
        obtain ⟨w10, h10, x10, y10, zz10, q10⟩ := ownApp (own0 h9) ((ha.fr hf9).fr (Fr.new h9 (.cells [] true true))) (Fr.new _ _) (by simp; omega)
        obtain ⟨w11, h11, x11, y11, zz11, q11⟩ := ownApp zz10 ((hb.fr hf9).fr y10) y10 (by simp; omega)
        rw [List.nil_append] at zz11
        have lsv : ∀ g, evLen Tryz.prog g #[22] sv6 = some (.int .i64 (s.length : Nat)) := fun g => by have := hx6.1.len Tryz.underlying22 g; rwa [List.length_map] at this
        have lw : ∀ g, evLen Tryz.prog g #[22] w11 = some (.int .i64 ((a.length + b.length : Nat) : Int)) := fun g => by have := zz11.cs.len Tryz.underlying22 g; rwa [List.length_map, List.length_append] at this
        have hsl2 : s.length = a.length + k := by rw [hsk, List.length_append, List.length_take]; omega
        have c8 : ((s.length : Nat) : Int) ≥ ((a.length : Nat) : Int) := by omega
        have c8' : ((a.length : Nat) : Int) ≤ ((s.length : Nat) : Int) := by omega
        have c9 : ((s.length : Nat) : Int) ≤ ((a.length + b.length : Nat) : Int) := by omega
        obtain ⟨vv, hsl', hc11, _⟩ := zz11.cs.slice_to Tryz.underlying22 tz9 (hi := s.length) (by rw [List.length_map, List.length_append]; omega)
        have hall : ((a ++ b).map AV.str).take s.length = s.map AV.str := by
          rw [← List.map_take]
          congr 1
          rw [hsl2, List.take_append, List.take_of_length_le (by omega), Nat.add_sub_cancel_left, hsk]
        rw [hall] at hc11
        simp (maxSteps := 1000000) -dsimp (disch := (repeat first | rw [AH.nx_new] | rw [AH.nx_put]); first | done | omega) only [go_sem, Int.reduceEq, Int.reduceNe, Int.reduceLT, Int.reduceLE, Int.reduceAdd, Int.reduceSub, Int.reduceMul, Int.reduceNeg, Int.reduceToNat, Nat.reducePow, reduceCtorEq, Nat.reduceEqDiff, Nat.reduceAdd, Nat.reduceLT, Nat.reduceLeDiff, Nat.reduceMul, Nat.reduceSub, Nat.reduceBEq, csd', cr, v0, v1, v2, v4, v5, v13, v15, oa, ob, os6, x10, q10, x11, q11, lsv, lw, la, c8, c8', c9, hsl']
        refine callK_of (textsG hS (((hx67.1.fr f8).fr f9).fr y11) hc11 (by omega)) ?_
        rintro r h12 ⟨rfl, f12⟩
        first | rfl | simp
end
end Go.Proofs.YtdpipffikgmgdaaGreatDoor.tre
