/- The program's log: frames, a temporary file's path, what an error spoils; the steps of putting a log aside. Conditions: those of its summaries. -/
import Derived.Test.YtdpipffikgmgdaaGreatDoorWLc
namespace Go.Proofs.YtdpipffikgmgdaaGreatDoor.tre
open Go Go.Abs Go.Abs.Wal Go.Proofs
set_option maxRecDepth 100000
set_option linter.unusedVariables false
set_option linter.unusedSimpArgs false

theorem Tx.gr {K K' : Nat → Nat} {h h' : AH} {v : AV} {l : List (List Nat)} (hb : Tx K h v l) (g : Gr K h K' h') : Tx K' h' v l := by
  obtain ⟨hb, hk⟩ := hb
  rcases hb with h1 | ⟨id, off, c, cs, o, t, h1, h2, h3, h4⟩
  · exact ⟨.inl h1, fun id off n z c hh => by rw [h1.1] at hh; cases hh⟩
  · have hk0 := hk _ _ _ _ _ h1
    refine ⟨.inr ⟨id, off, c, cs, o, t, h1, (g.get id h3 hk0).1.trans h2, Nat.lt_of_lt_of_le h3 g.nx, h4⟩, fun id' off' n z c' hh => ?_⟩
    rw [h1] at hh
    cases hh
    exact (g.get _ h3 hk0).2
theorem okP_tmp {p : Pth} (h : checkS p = 0) : okP (tmpS ++ p) = true := by
  have : tempedS (tmpS ++ p) = true := by
    unfold tempedS preS
    have e1 : (tmpS ++ p).take tmpS.length = tmpS := by simp
    have e2 : (tmpS ++ p).drop 5 = p := by simp [tmpS]
    rw [e1, e2, h]
    rfl
  unfold okP
  rw [this, Bool.or_true]
theorem okP_chk {p : Pth} (h : checkS p = 0) : okP p = true := by
  unfold okP
  rw [h]
  rfl
theorem chk_len {p : Pth} (h : checkS p = 0) : p.length ≤ 64 := by
  unfold checkS at h
  split at h
  · cases h
  · omega
theorem frs_take_succ {l : List (List Nat)} {i : Nat} {s : List Nat} (hi : l[i]? = some s) : frs (l.take (i + 1)) = frs (l.take i) ++ frm s := by
  have : l.take (i + 1) = l.take i ++ [s] := by rw [List.take_add_one, hi]; rfl
  rw [this, frs_app]
  simp [frs]
theorem frs_take_le {l : List (List Nat)} (i : Nat) : (frs (l.take i)).length ≤ (frs l).length := by
  have : frs l = frs (l.take i) ++ frs (l.drop i) := by rw [← frs_app, List.take_append_drop]
  rw [this, List.length_append]
  omega
theorem frs_byt : ∀ {l : List (List Nat)}, (∀ s ∈ l, ∀ b ∈ s, b < 256) → ∀ b ∈ frs l, b < 256
  | [], _, b, hb => by simp [frs] at hb
  | s :: r, hl, b, hb => by
    rcases List.mem_append.1 (show b ∈ frm s ++ frs r from hb) with h | h
    · exact frm_byt (hl s (List.mem_cons_self ..)) b h
    · exact frs_byt (fun x hx => hl x (List.mem_cons_of_mem _ hx)) b h
section
variable {S : Sums}
theorem tempC (hS : Wl S) {h : AH} {s : Pth} (hs : checkS s = 0) : RnC Tryz.prog S 24 [.str s] h fun r h' => r = .tup [.str (tmpS ++ s), .int .i64 0] ∧ Fr h h' := by
  refine RnC.enter' Tryz.f24 _ 12 [.tmp 2, .tmp 3] (hS.nw _ _ _ (by simp)) bd24 Tryz.func24 rfl rfl rfl ?_
  simp (maxSteps := 1000000) -dsimp (disch := (repeat first | rw [AH.nx_new] | rw [AH.nx_put]); first | done | omega) only [go_sem, evLen, Int.reduceEq, Int.reduceNe, Int.reduceLT, Int.reduceLE, Int.reduceAdd, Int.reduceSub, Int.reduceMul, Int.reduceNeg, Int.reduceToNat, Nat.reducePow, reduceCtorEq, Nat.reduceEqDiff, Nat.reduceAdd, Nat.reduceLT, Nat.reduceLeDiff, Nat.reduceMul, Nat.reduceSub, Nat.reduceBEq]
  refine callK_of (checkC hS.toSp) ?_
  rintro r h2 ⟨rfl, f2⟩
  have hl := chk_len hs
  have add : ∀ (g : AH) (x : List Nat), x = tmpS → binA Tryz.prog g .add 9 (.str x) (.str s) = some (.str (tmpS ++ s)) := fun g x hx => by
    subst hx
    have : ¬ (((tmpS.length + s.length : Nat) : Int) > IntKind.i64.max) := by
      have h5 : tmpS.length = 5 := rfl
      have hm : IntKind.i64.max = 9223372036854775807 := rfl
      rw [h5, hm]; omega
    simp only [binA, strA, if_neg this]
  have tm : bytesOf { data := #[46, 116, 109, 112, 47] } = tmpS := by decide +kernel
  have add2 := fun g => add g _ tm
  simp (maxSteps := 1000000) -dsimp (disch := (repeat first | rw [AH.nx_new] | rw [AH.nx_put]); first | done | omega) only [go_sem, evLen, Int.reduceEq, Int.reduceNe, Int.reduceLT, Int.reduceLE, Int.reduceAdd, Int.reduceSub, Int.reduceMul, Int.reduceNeg, Int.reduceToNat, Nat.reducePow, reduceCtorEq, Nat.reduceEqDiff, Nat.reduceAdd, Nat.reduceLT, Nat.reduceLeDiff, Nat.reduceMul, Nat.reduceSub, Nat.reduceBEq, hs, add2]
  exact ⟨trivial, f2⟩
theorem noteC (hS : Wl S) {h : AH} {L : Nat} {a b c d : AV} {t : Bool} {x : Nat} (hg : h.get L = some (.cells [.int .i64 0, a, b, c, d] true t)) : RnC Tryz.prog S 27 [.ptr L 0, .int .i64 (x : Nat)] h fun v h' => v = .int .i64 (x : Nat) ∧ h' = h.put L (.cells [.int .i64 (x : Nat), a, b, c, d] true t) := by
  refine RnC.enter' Tryz.f27 _ 15 [.tmp 4] (hS.nw _ _ _ (by simp)) bd27 Tryz.func27 rfl rfl rfl ?_
  simp (maxSteps := 1000000) -dsimp (disch := (repeat first | rw [AH.nx_new] | rw [AH.nx_put]); first | done | omega) only [go_sem, evLen, Int.reduceEq, Int.reduceNe, Int.reduceLT, Int.reduceLE, Int.reduceAdd, Int.reduceSub, Int.reduceMul, Int.reduceNeg, Int.reduceToNat, Nat.reducePow, reduceCtorEq, Nat.reduceEqDiff, Nat.reduceAdd, Nat.reduceLT, Nat.reduceLeDiff, Nat.reduceMul, Nat.reduceSub, Nat.reduceBEq, hg]
  exact ⟨trivial, trivial⟩
set_option maxHeartbeats 4000000 in
theorem framesC (hS : Wl S) {h : AH} {v : AV} {l : List (List Nat)} {K : Nat → Nat} (hv : Tx K h v l) (hs : ∀ s ∈ l, s.length ≤ 1048576 ∧ ∀ b ∈ s, b < 256) (hl : (frs l).length ≤ 1073741824) :
    RnC Tryz.prog S 30 [v] h fun r h' => ∃ w, r = .tup [w, .int .i64 0] ∧ Bn h.nx h' w (frs l) ∧ Fr h h' := by
  refine RnC.enter' Tryz.f30 _ 28 [.tmp 2, .tmp 3] (hS.nw _ _ _ (by simp)) bd30 Tryz.func30 rfl rfl rfl ?_
  have ln := fun g => hv.len Tryz.underlying22 g
  have ov := hv.1.one.1
  have hll := frs_ge l
  simp (maxSteps := 1000000) -dsimp (disch := (repeat first | rw [AH.nx_new] | rw [AH.nx_put]); first | done | omega) only [go_sem, Int.reduceEq, Int.reduceNe, Int.reduceLT, Int.reduceLE, Int.reduceAdd, Int.reduceSub, Int.reduceMul, Int.reduceNeg, Int.reduceToNat, Nat.reducePow, reduceCtorEq, Nat.reduceEqDiff, Nat.reduceAdd, Nat.reduceLT, Nat.reduceLeDiff, Nat.reduceMul, Nat.reduceSub, Nat.reduceBEq, ln, ov]
  refine loopK_of (RnL.rounds (Q := fun ex u => ex = .exit 0 ∧ u.d = [] ∧ Fr h u.h ∧ ∃ w, u.t.get 4 = some w ∧ Bn h.nx u.h w (frs l))
    (fun m u => u.d = [] ∧ Fr h u.h ∧ u.t.get 9 = some v ∧ u.t.get 10 = some (.int .i64 (l.length : Nat)) ∧ ∃ (w : AV) (i : Nat), u.t.get 11 = some (.int .i64 (i : Nat)) ∧ u.t.get 4 = some w ∧ Bn h.nx u.h w (frs (l.take i)) ∧ i ≤ l.length ∧ m = l.length - i) ?_ l.length ?_) ?_
  · rintro m ⟨t, g, d⟩ ⟨e2, e1, g9, g10, w, i, g11, g4, hw, hi, rfl⟩
    dsimp only at e1 e2 g9 g10 g11 g4 hw
    subst e2
    by_cases c1 : (i : Int) < (l.length : Nat)
    · have hil : i < l.length := by omega
      obtain ⟨s, hsi⟩ : ∃ s, l[i]? = some s := ⟨_, List.getElem?_eq_getElem hil⟩
      obtain ⟨id, off, c, cs, o, tx, rfl, hg, hid, hcs⟩ := Tx.get (hv.fr e1) hsi
      obtain ⟨hs1, hs2⟩ := hs s (List.mem_iff_getElem?.2 ⟨i, hsi⟩)
      simp (maxSteps := 1000000) -dsimp (disch := (repeat first | rw [AH.nx_new] | rw [AH.nx_put]); first | done | omega) only [go_sem, Int.reduceEq, Int.reduceNe, Int.reduceLT, Int.reduceLE, Int.reduceAdd, Int.reduceSub, Int.reduceMul, Int.reduceNeg, Int.reduceToNat, Nat.reducePow, reduceCtorEq, Nat.reduceEqDiff, Nat.reduceAdd, Nat.reduceLT, Nat.reduceLeDiff, Nat.reduceMul, Nat.reduceSub, Nat.reduceBEq, c1, g9, g10, g11, g4, hil, hg, hcs, Nat.mul_one]
      refine callK_of (frameC hS hs1 hs2) ?_
      rintro r h2 ⟨f, rfl, hb2, f2⟩
      have ow := (bsLn hw.bs).2.2
      have of := (bsLn hb2.bs).2.2
      have hts := frs_take_succ hsi
      have htl := frs_take_le (l := l) (i + 1)
      rw [hts] at htl
      obtain ⟨v3, h3, ha, f3, hb3⟩ := Bn.app (h0 := h) (hw.fr f2) hb2.bs (e1.trans f2) (by simp at htl; omega)
      have o3 := (bsLn hb3.bs).2.2
      simp (maxSteps := 1000000) -dsimp (disch := (repeat first | rw [AH.nx_new] | rw [AH.nx_put]); first | done | omega) only [go_sem, Int.reduceEq, Int.reduceNe, Int.reduceLT, Int.reduceLE, Int.reduceAdd, Int.reduceSub, Int.reduceMul, Int.reduceNeg, Int.reduceToNat, Nat.reducePow, reduceCtorEq, Nat.reduceEqDiff, Nat.reduceAdd, Nat.reduceLT, Nat.reduceLeDiff, Nat.reduceMul, Nat.reduceSub, Nat.reduceBEq, c1, g9, g10, g11, g4, ow, of, ha, o3]
      exact ⟨l.length - (i + 1), by omega, trivial, f3, trivial, trivial, v3, i + 1, rfl, rfl, by rw [hts]; exact hb3, by omega, rfl⟩
    · simp (maxSteps := 1000000) -dsimp (disch := (repeat first | rw [AH.nx_new] | rw [AH.nx_put]); first | done | omega) only [go_sem, Int.reduceEq, Int.reduceNe, Int.reduceLT, Int.reduceLE, Int.reduceAdd, Int.reduceSub, Int.reduceMul, Int.reduceNeg, Int.reduceToNat, Nat.reducePow, reduceCtorEq, Nat.reduceEqDiff, Nat.reduceAdd, Nat.reduceLT, Nat.reduceLeDiff, Nat.reduceMul, Nat.reduceSub, Nat.reduceBEq, c1, g9, g10, g11, g4]
      have : l.take i = l := List.take_of_length_le (by omega)
      rw [this] at hw
      exact ⟨trivial, trivial, e1, w, rfl, hw⟩
  · simp (maxSteps := 1000000) -dsimp (disch := (repeat first | rw [AH.nx_new] | rw [AH.nx_put]); first | done | omega) only [go_sem, Int.reduceEq, Int.reduceNe, Int.reduceLT, Int.reduceLE, Int.reduceAdd, Int.reduceSub, Int.reduceMul, Int.reduceNeg, Int.reduceToNat, Nat.reducePow, reduceCtorEq, Nat.reduceEqDiff, Nat.reduceAdd, Nat.reduceLT, Nat.reduceLeDiff, Nat.reduceMul, Nat.reduceSub, Nat.reduceBEq]
    exact ⟨trivial, Fr.refl _, trivial, trivial, .nilsl, 0, rfl, rfl, .inl ⟨rfl, rfl⟩, Nat.zero_le _, rfl⟩
  · rintro ex ⟨t, g, d⟩ ⟨rfl, rfl, e1, w, g4, hw⟩
    dsimp only at e1 g4 hw
    have ow := (bsLn hw.bs).2.2
    simp (maxSteps := 1000000) -dsimp (disch := (repeat first | rw [AH.nx_new] | rw [AH.nx_put]); first | done | omega) only [go_sem, Int.reduceEq, Int.reduceNe, Int.reduceLT, Int.reduceLE, Int.reduceAdd, Int.reduceSub, Int.reduceMul, Int.reduceNeg, Int.reduceToNat, Nat.reducePow, reduceCtorEq, Nat.reduceEqDiff, Nat.reduceAdd, Nat.reduceLT, Nat.reduceLeDiff, Nat.reduceMul, Nat.reduceSub, Nat.reduceBEq, g4, ow]
    exact ⟨w, rfl, hw, e1⟩
end
end Go.Proofs.YtdpipffikgmgdaaGreatDoor.tre
