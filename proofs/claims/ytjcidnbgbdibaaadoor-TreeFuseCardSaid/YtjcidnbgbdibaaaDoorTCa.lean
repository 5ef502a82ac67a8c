/- Slices of bytes: copied, compared, put behind one another. Conditions: none. -/
import Derived.Test.YtjcidnbgbdibaaaDoorTPb
import Derived.Test.YtjcidnbgbdibaaaDoorAb7
namespace Go.Proofs.YtjcidnbgbdibaaaDoor.tre
open Go Go.Abs Go.Proofs
set_option maxRecDepth 100000
set_option linter.unusedVariables false
set_option linter.unusedSimpArgs false

theorem ai5 : appI Tryd.prog 5 = some (1, 1) := by kernel_rfl
def Bn (n0 : Nat) (h : AH) (v : AV) (l : List Nat) : Prop := (v = .nilsl ∧ l = []) ∨ Bo n0 h v l
theorem Bn.bs {n0 : Nat} {h : AH} {v : AV} {l : List Nat} (hb : Bn n0 h v l) : Bs h v l := by
  rcases hb with h1 | h1
  · exact .inl h1
  · exact h1.bs
theorem Bn.shape {n0 : Nat} {h : AH} {v : AV} {l : List Nat} (hb : Bn n0 h v l) : v = .nilsl ∨ ∃ a n c, v = .sl a 0 n 1 c := by
  rcases hb with h1 | ⟨id, c, cs, tx, h1, _⟩
  · exact .inl h1.1
  · exact .inr ⟨_, _, _, h1⟩
theorem bsShape {h : AH} {v : AV} {l : List Nat} (hb : Bs h v l) : v = .nilsl ∨ ∃ a b n c, v = .sl a b n 1 c := by
  rcases hb with h1 | ⟨id, off, c, cs, tx, o, h1, _⟩
  · exact .inl h1.1
  · exact .inr ⟨_, _, _, _, h1⟩
theorem Bn.fr {n0 : Nat} {h h' : AH} {v : AV} {l : List Nat} (hb : Bn n0 h v l) (hf : Fr h h') : Bn n0 h' v l := by
  rcases hb with h1 | h1
  · exact .inl h1
  · exact .inr (h1.fr hf)
theorem Bn.app {h0 h : AH} {v x : AV} {l m : List Nat} (hb : Bn h0.nx h v l) (hx : Bs h x m) (hf : Fr h0 h) (hl : l.length + m.length ≤ 1073741824) :
    ∃ v' h', evAppend Tryd.prog h #[22, 22] v x = some (.val v' h') ∧ Fr h0 h' ∧ Bn h0.nx h' v' (l ++ m) := by
  rcases hb with ⟨rfl, rfl⟩ | hb
  · obtain ⟨hn, hnew⟩ := hx.first
    rw [evAppend_eq (len := 0) (old := []) Tryd.underlying22 Tryd.underlying22 rfl ai5 hn hnew rfl rfl (byC_all m) (by omega) (by omega) rfl]
    by_cases hm : m.length = 0
    · rw [if_pos hm]
      have : m = [] := List.length_eq_zero_iff.1 hm
      subst this
      exact ⟨_, _, rfl, hf, .inl ⟨rfl, rfl⟩⟩
    · rw [if_neg hm]
      exact ⟨_, _, rfl, hf.news _, .inr ⟨h.nx, none, byC m, false, by simp, AH.get_new_eq rfl, Nat.lt_succ_self _, hf.nx, by rw [List.nil_append, ← byC_length m, List.take_length], by rw [List.nil_append, byC_length]; exact Nat.le_refl _, .inl rfl⟩⟩
  · obtain ⟨v', h', h1, h2, h3⟩ := Bo.app Tryd.underlying22 ai5 hb hx hf (by omega)
    exact ⟨v', h', h1, h2, .inr h3⟩
theorem bsLn {h : AH} {v : AV} {l : List Nat} (hb : Bs h v l) : (∀ g, evLen Tryd.prog g #[22] v = some (.int .i64 (l.length : Nat))) ∧ sameAV 20 v v = true ∧ oneA v = true := by
  rcases hb with ⟨rfl, rfl⟩ | ⟨id, off, c, cs, o, t, rfl, _⟩
  · exact ⟨fun g => by simp [evLen, Tryd.underlying22], rfl, rfl⟩
  · exact ⟨fun g => by simp [evLen, Tryd.underlying22], by simp [sameAV], rfl⟩
theorem bsCells {h : AH} {v : AV} {l : List Nat} (hb : Bs h v l) : cellsA v = some [v] := by
  rcases hb with ⟨rfl, rfl⟩ | ⟨id, off, c, cs, o, t, rfl, _⟩ <;> rfl
theorem eqNs (h : AH) : binA Tryd.prog h .eql 22 .nilsl .nilsl = some (.bool true) := by kernel_rfl
theorem eqSs (h : AH) (i o n z : Nat) (c : Option Nat) : binA Tryd.prog h .eql 22 (.sl i o n z c) .nilsl = some (.bool false) := by kernel_rfl
theorem capnil (h : AH) : evCap Tryd.prog #[22] .nilsl = some (.int .i64 0) := by simp [evCap, Tryd.underlying22]
theorem snil (h : AH) : evSlice Tryd.prog h 22 .nilsl none (some (.int .i64 0)) none = some .nilsl := by
  simp [evSlice, Tryd.underlying22, tz5, boundsA, boundA, upTo]
theorem rep_all5 (n : Nat) : (repCells [AV.int .u8 0] n).all oneA = true := by
  induction n with
  | zero => rfl
  | succ n ih => simp [repCells, ih, oneA]
theorem grow {h : AH} {n : Nat} (hn : n ≤ 274877906944) (h0 : n ≠ 0) : evAppend Tryd.prog h #[22, 3] .nilsl (.int .i64 (n : Nat)) = some (.val (.sl h.nx 0 n 1 none) (h.new (.cells (repCells [.int .u8 0] n) true false))) := by
  have hi : ∃ i z, Tryd.prog.info? 5 = some i ∧ i.zero = some z ∧ cellsA (toAV z) = some [.int .u8 0] ∧ i.size = 1 ∧ i.bytes = 1 := by
    have hk : (match Tryd.prog.info? 5 with | some i => (match i.zero with | some (.int .u8 0) => true | _ => false) && (Nat.beq i.size 1 && Nat.beq i.bytes 1) | none => false) = true := by kernel_rfl
    split at hk
    · rename_i i hi
      rw [Bool.and_eq_true, Bool.and_eq_true] at hk
      obtain ⟨k1, k2, k3⟩ := hk
      split at k1
      · rename_i hz
        exact ⟨i, _, hi, hz, rfl, Nat.eq_of_beq_eq_true k2, Nat.eq_of_beq_eq_true k3⟩
      · cases k1
    · cases hk
  obtain ⟨i, z, h1, h2, h3, h4, h5⟩ := hi
  have hcast : ((n : Nat) : Int) = Int.ofNat n := rfl
  rw [hcast]
  unfold evAppend
  simp only [List.getElem?_toArray, List.getElem?_cons_zero, List.getElem?_cons_succ, Option.bind_eq_bind, Option.bind_some, Tryd.underlying22, h1, h2, h3, h4, h5]
  rw [if_neg (by simp)]
  have hap : appendedA Tryd.prog h i [.int .u8 0] 3 (.int .i64 (Int.ofNat n)) = some (n, repCells [.int .u8 0] n) := by
    unfold appendedA
    simp only [Tryd.underlying3, Option.bind_eq_bind, Option.bind_some, h5]
    rw [if_pos (by simp; omega)]
  simp only [hap, Option.bind_some, lenA, firstA]
  simp only [if_true, Option.bind_some]
  rw [if_neg h0, if_neg (by simp [rep_all5]), if_neg (by simp; omega)]
  rfl


section
variable {S : Sums}
/-- Functions of the tree that are no summaries. -/
structure St (S : Sums) : Prop extends Sp S where
  nt : ∀ f args h, f ∈ [10, 33, 41, 56, 44, 57, 7, 8, 9, 11, 12, 13, 14, 15, 17, 22, 25, 27, 28, 29, 30, 31, 32, 34, 35, 36, 37, 39, 40, 42, 43, 45, 58, 24, 21] → S f args h = none
  used : ∀ args h, S 49 args h = sumUsed args h
  clone : ∀ args h, S 52 args h = sumClone args h
  sorted : ∀ args h, S 38 args h = sumSorted 55 args h
theorem ownC (hS : St S) {h : AH} {v : AV} {l : List Nat} (hb : Bs h v l) (hl : l.length ≤ 1073741824) : RnC Tryd.prog S 10 [v] h fun r h' => Bn h.nx h' r l ∧ Fr h h' := by
  refine RnC.enter' Tryd.f10 _ 6 [.tmp 2] (hS.nt _ _ _ (by simp)) bd10 Tryd.func10 rfl rfl rfl ?_
  obtain ⟨v2, h2, ha, hf, hb2⟩ := Bo.app (h0 := h) (h := h.new (.cells [] true true)) (v := .sl h.nx 0 0 1 (some 0)) (l := []) Tryd.underlying22 ai5 ⟨h.nx, some 0, [], true, rfl, AH.get_new_eq rfl, Nat.lt_succ_self _, Nat.le_refl _, rfl, Nat.le_refl _, .inr rfl⟩ (hb.fr (Fr.new _ _)) (Fr.new _ _) (by simp; omega)
  simp (maxSteps := 1000000) -dsimp (disch := first | omega | ((repeat first | rw [AH.nx_new] | rw [AH.nx_put]); done) | ((repeat first | rw [AH.nx_new] | rw [AH.nx_put]); omega)) only [go_sem, evLen, Int.reduceEq, Int.reduceNe, Int.reduceLT, Int.reduceLE, Int.reduceAdd, Int.reduceSub, Int.reduceMul, Int.reduceNeg, Int.reduceToNat, Nat.reducePow, reduceCtorEq, Nat.reduceEqDiff, Nat.reduceAdd, Nat.reduceLT, Nat.reduceLeDiff, Nat.reduceMul, Nat.reduceSub, Nat.reduceBEq, Int.reduceToNat, ha]
  exact ⟨.inr (by simpa using hb2), hf⟩
theorem cloneC (hS : St S) {h : AH} {v : AV} {l : List Nat} (hb : Bs h v l) (hl : l.length ≤ 1073741824) : RnC Tryd.prog S 33 [v] h fun r h' => Bn h.nx h' r l ∧ Fr h h' := by
  refine RnC.enter' Tryd.f33 _ 8 [.tmp 2] (hS.nt _ _ _ (by simp)) bd33 Tryd.func33 rfl rfl rfl ?_
  have hb0 := hb
  rcases hb with ⟨rfl, rfl⟩ | ⟨id, off, c, cs, o, t, rfl, h2, h3, h4⟩
  · simp (maxSteps := 1000000) -dsimp (disch := first | omega | ((repeat first | rw [AH.nx_new] | rw [AH.nx_put]); done) | ((repeat first | rw [AH.nx_new] | rw [AH.nx_put]); omega)) only [go_sem, evLen, Int.reduceEq, Int.reduceNe, Int.reduceLT, Int.reduceLE, Int.reduceAdd, Int.reduceSub, Int.reduceMul, Int.reduceNeg, Int.reduceToNat, Nat.reducePow, reduceCtorEq, Nat.reduceEqDiff, Nat.reduceAdd, Nat.reduceLT, Nat.reduceLeDiff, Nat.reduceMul, Nat.reduceSub, Nat.reduceBEq, Int.reduceToNat, eqNs, eqSs]
    exact ⟨.inl ⟨rfl, rfl⟩, Fr.refl _⟩
  · obtain ⟨v2, h2, ha, hf, hb2⟩ := Bo.app (h0 := h) (h := h.new (.cells [] true true)) (v := .sl h.nx 0 0 1 (some 0)) (l := []) Tryd.underlying22 ai5 ⟨h.nx, some 0, [], true, rfl, AH.get_new_eq rfl, Nat.lt_succ_self _, Nat.le_refl _, rfl, Nat.le_refl _, .inr rfl⟩ (hb0.fr (Fr.new _ _)) (Fr.new _ _) (by simp; omega)
    simp (maxSteps := 1000000) -dsimp (disch := first | omega | ((repeat first | rw [AH.nx_new] | rw [AH.nx_put]); done) | ((repeat first | rw [AH.nx_new] | rw [AH.nx_put]); omega)) only [go_sem, evLen, Int.reduceEq, Int.reduceNe, Int.reduceLT, Int.reduceLE, Int.reduceAdd, Int.reduceSub, Int.reduceMul, Int.reduceNeg, Int.reduceToNat, Nat.reducePow, reduceCtorEq, Nat.reduceEqDiff, Nat.reduceAdd, Nat.reduceLT, Nat.reduceLeDiff, Nat.reduceMul, Nat.reduceSub, Nat.reduceBEq, Int.reduceToNat, ha, eqNs, eqSs]
    exact ⟨.inr (by simpa using hb2), hf⟩
theorem equalC (hS : St S) {h : AH} {v w : AV} {l m : List Nat} (hv : Bs h v l) (hw : Bs h w m) (hl : ∀ b ∈ l, b < 256) (hm : ∀ b ∈ m, b < 256) : RnC Tryd.prog S 41 [v, w] h fun r h' => r = .bool (decide (l = m)) ∧ h' = h := by
  refine RnC.enter' Tryd.f41 _ 10 [.tmp 4] (hS.nt _ _ _ (by simp)) bd41 Tryd.func41 rfl rfl rfl ?_
  have t1 := hv.text Tryd.underlying22 Tryd.underlying5 Tryd.underlying9 hl
  have t2 := hw.text Tryd.underlying22 Tryd.underlying5 Tryd.underlying9 hm
  simp (maxSteps := 1000000) -dsimp (disch := first | omega | ((repeat first | rw [AH.nx_new] | rw [AH.nx_put]); done) | ((repeat first | rw [AH.nx_new] | rw [AH.nx_put]); omega)) only [go_sem, evLen, Int.reduceEq, Int.reduceNe, Int.reduceLT, Int.reduceLE, Int.reduceAdd, Int.reduceSub, Int.reduceMul, Int.reduceNeg, Int.reduceToNat, Nat.reducePow, reduceCtorEq, Nat.reduceEqDiff, Nat.reduceAdd, Nat.reduceLT, Nat.reduceLeDiff, Nat.reduceMul, Nat.reduceSub, Nat.reduceBEq, Int.reduceToNat, t1, t2, eqS]
  exact ⟨trivial, trivial⟩
theorem bprefC (hS : St S) {h : AH} {v w : AV} {l m : List Nat} (hv : Bs h v l) (hw : Bs h w m) (hl : ∀ b ∈ l, b < 256) (hm : ∀ b ∈ m, b < 256) : RnC Tryd.prog S 56 [v, w] h fun r h' => r = .bool (decide (l.take m.length = m)) ∧ h' = h := by
  refine RnC.enter' Tryd.f56 _ 18 [.tmp 4] (hS.nt _ _ _ (by simp)) bd56 Tryd.func56 rfl rfl rfl ?_
  obtain ⟨lv, _, ov⟩ := bsLn hv
  obtain ⟨lw, _, ow⟩ := bsLn hw
  by_cases c : ((m.length : Nat) : Int) ≤ ((l.length : Nat) : Int)
  · obtain ⟨x, t1, hx, _, ox⟩ := hv.slice_to (hi := m.length) Tryd.underlying22 tz5 (by omega)
    simp (maxSteps := 1000000) -dsimp (disch := first | omega | ((repeat first | rw [AH.nx_new] | rw [AH.nx_put]); done) | ((repeat first | rw [AH.nx_new] | rw [AH.nx_put]); omega)) only [go_sem, Int.reduceEq, Int.reduceNe, Int.reduceLT, Int.reduceLE, Int.reduceAdd, Int.reduceSub, Int.reduceMul, Int.reduceNeg, Int.reduceToNat, Nat.reducePow, reduceCtorEq, Nat.reduceEqDiff, Nat.reduceAdd, Nat.reduceLT, Nat.reduceLeDiff, Nat.reduceMul, Nat.reduceSub, Nat.reduceBEq, Int.reduceToNat, c, lv, lw, ov, ow, t1, ox]
    refine callK_of (equalC hS hx hw (fun b hb => hl b (List.mem_of_mem_take hb)) hm) ?_
    rintro r h2 ⟨rfl, rfl⟩
    simp (maxSteps := 1000000) -dsimp (disch := first | omega | ((repeat first | rw [AH.nx_new] | rw [AH.nx_put]); done) | ((repeat first | rw [AH.nx_new] | rw [AH.nx_put]); omega)) only [go_sem, Int.reduceEq, Int.reduceNe, Int.reduceLT, Int.reduceLE, Int.reduceAdd, Int.reduceSub, Int.reduceMul, Int.reduceNeg, Int.reduceToNat, Nat.reducePow, reduceCtorEq, Nat.reduceEqDiff, Nat.reduceAdd, Nat.reduceLT, Nat.reduceLeDiff, Nat.reduceMul, Nat.reduceSub, Nat.reduceBEq, Int.reduceToNat]
    exact ⟨trivial, trivial⟩
  · simp (maxSteps := 1000000) -dsimp (disch := first | omega | ((repeat first | rw [AH.nx_new] | rw [AH.nx_put]); done) | ((repeat first | rw [AH.nx_new] | rw [AH.nx_put]); omega)) only [go_sem, Int.reduceEq, Int.reduceNe, Int.reduceLT, Int.reduceLE, Int.reduceAdd, Int.reduceSub, Int.reduceMul, Int.reduceNeg, Int.reduceToNat, Nat.reducePow, reduceCtorEq, Nat.reduceEqDiff, Nat.reduceAdd, Nat.reduceLT, Nat.reduceLeDiff, Nat.reduceMul, Nat.reduceSub, Nat.reduceBEq, Int.reduceToNat, c, lv, lw, ov, ow]
    have : ¬ l.take m.length = m := fun hh => by
      have := congrArg List.length hh
      rw [List.length_take] at this
      omega
    simp [this]
theorem growC (hS : St S) {h : AH} {n : Nat} (hn : n ≤ 1073741824) : RnC Tryd.prog S 57 [.nilsl, .int .i64 (n : Nat)] h fun r h' => Bn h.nx h' r [] ∧ Fr h h' := by
  refine RnC.enter' Tryd.f57 _ 27 [.tmp 4] (hS.nt _ _ _ (by simp)) bd57 Tryd.func57 rfl rfl rfl ?_
  have c1 : ¬ ((n : Nat) : Int) < 0 := by omega
  have e0 : ((n : Nat) : Int) - 0 = ((n : Nat) : Int) := by omega
  by_cases h0 : n = 0
  · subst h0
    simp (maxSteps := 1000000) -dsimp (disch := first | omega | ((repeat first | rw [AH.nx_new] | rw [AH.nx_put]); done) | ((repeat first | rw [AH.nx_new] | rw [AH.nx_put]); omega)) only [go_sem, evLen, Int.reduceEq, Int.reduceNe, Int.reduceLT, Int.reduceLE, Int.reduceAdd, Int.reduceSub, Int.reduceMul, Int.reduceNeg, Int.reduceToNat, Nat.reducePow, reduceCtorEq, Nat.reduceEqDiff, Nat.reduceAdd, Nat.reduceLT, Nat.reduceLeDiff, Nat.reduceMul, Nat.reduceSub, Nat.reduceBEq, Int.reduceToNat, e0, evCap]
    exact ⟨.inl ⟨rfl, rfl⟩, Fr.refl _⟩
  · have c2 : (0 : Int) < ((n : Nat) : Int) := by omega
    have sl0 : ∀ h1, evSlice Tryd.prog h1 22 (.sl h.nx 0 n 1 none) none (some (.int .i64 0)) none = some (.sl h.nx 0 0 1 none) := fun h1 => by
      simp [evSlice, Tryd.underlying22, tz5, boundsA, boundA, upTo]
    simp (maxSteps := 1000000) -dsimp (disch := first | omega | ((repeat first | rw [AH.nx_new] | rw [AH.nx_put]); done) | ((repeat first | rw [AH.nx_new] | rw [AH.nx_put]); omega)) only [go_sem, evLen, Int.reduceEq, Int.reduceNe, Int.reduceLT, Int.reduceLE, Int.reduceAdd, Int.reduceSub, Int.reduceMul, Int.reduceNeg, Int.reduceToNat, Nat.reducePow, reduceCtorEq, Nat.reduceEqDiff, Nat.reduceAdd, Nat.reduceLT, Nat.reduceLeDiff, Nat.reduceMul, Nat.reduceSub, Nat.reduceBEq, Int.reduceToNat, c1, c2, e0, evCap, snil, grow (show n ≤ 274877906944 by omega) h0, sl0]
    exact ⟨.inr ⟨h.nx, none, _, false, rfl, AH.get_new_eq rfl, Nat.lt_succ_self _, Nat.le_refl _, rfl, Nat.zero_le _, .inl rfl⟩, Fr.new _ _⟩
set_option maxHeartbeats 8000000 in
theorem concatC (hS : St S) {h : AH} {id : Nat} {c : Option Nat} {o t : Bool} {x y : AV} {l m : List Nat} (hg : h.get id = some (.cells [x, y] o t)) (hid : id < h.nx) (hx : Bs h x l) (hy : Bs h y m) (hl : l.length + m.length ≤ 1073741824) :
    RnC Tryd.prog S 44 [.sl id 0 2 1 c] h fun r h' => Bn h.nx h' r (l ++ m) ∧ Fr h h' := by
  refine RnC.enter' Tryd.f44 _ 36 [.tmp 2] (hS.nt _ _ _ (by simp)) bd44 Tryd.func44 rfl rfl rfl ?_
  have c1 : ¬ ((l.length : Nat) : Int) < 0 := by omega
  have c2 : ¬ ((l.length : Nat) : Int) + ((m.length : Nat) : Int) < 0 := by omega
  have e1 : ((l.length : Nat) : Int) + ((m.length : Nat) : Int) = ((l.length + m.length : Nat) : Int) := by omega
  obtain ⟨lx, _, ox⟩ := bsLn hx
  obtain ⟨ly, _, oy⟩ := bsLn hy
  have ll : ∀ g, evLen Tryd.prog g #[86] (.sl id 0 2 1 c) = some (.int .i64 2) := fun g => by simp [evLen, Tryd.underlying86]
  simp (maxSteps := 1000000) -dsimp (disch := first | omega | ((repeat first | rw [AH.nx_new] | rw [AH.nx_put]); done) | ((repeat first | rw [AH.nx_new] | rw [AH.nx_put]); omega)) only [go_sem, Int.reduceEq, Int.reduceNe, Int.reduceLT, Int.reduceLE, Int.reduceAdd, Int.reduceSub, Int.reduceMul, Int.reduceNeg, Int.reduceToNat, Nat.reducePow, reduceCtorEq, Nat.reduceEqDiff, Nat.reduceAdd, Nat.reduceLT, Nat.reduceLeDiff, Nat.reduceMul, Nat.reduceSub, Nat.reduceBEq, Int.reduceToNat, ll]
  refine loopK_unroll ?_
  simp (maxSteps := 1000000) -dsimp (disch := first | omega | ((repeat first | rw [AH.nx_new] | rw [AH.nx_put]); done) | ((repeat first | rw [AH.nx_new] | rw [AH.nx_put]); omega)) only [go_sem, Int.reduceEq, Int.reduceNe, Int.reduceLT, Int.reduceLE, Int.reduceAdd, Int.reduceSub, Int.reduceMul, Int.reduceNeg, Int.reduceToNat, Nat.reducePow, reduceCtorEq, Nat.reduceEqDiff, Nat.reduceAdd, Nat.reduceLT, Nat.reduceLeDiff, Nat.reduceMul, Nat.reduceSub, Nat.reduceBEq, Int.reduceToNat, hg, lx, ox, c1, Int.zero_add]
  refine loopK_unroll ?_
  simp (maxSteps := 1000000) -dsimp (disch := first | omega | ((repeat first | rw [AH.nx_new] | rw [AH.nx_put]); done) | ((repeat first | rw [AH.nx_new] | rw [AH.nx_put]); omega)) only [go_sem, Int.reduceEq, Int.reduceNe, Int.reduceLT, Int.reduceLE, Int.reduceAdd, Int.reduceSub, Int.reduceMul, Int.reduceNeg, Int.reduceToNat, Nat.reducePow, reduceCtorEq, Nat.reduceEqDiff, Nat.reduceAdd, Nat.reduceLT, Nat.reduceLeDiff, Nat.reduceMul, Nat.reduceSub, Nat.reduceBEq, Int.reduceToNat, hg, ly, oy, c2, Int.zero_add]
  refine loopK_unroll ?_
  simp (maxSteps := 1000000) -dsimp (disch := first | omega | ((repeat first | rw [AH.nx_new] | rw [AH.nx_put]); done) | ((repeat first | rw [AH.nx_new] | rw [AH.nx_put]); omega)) only [go_sem, Int.reduceEq, Int.reduceNe, Int.reduceLT, Int.reduceLE, Int.reduceAdd, Int.reduceSub, Int.reduceMul, Int.reduceNeg, Int.reduceToNat, Nat.reducePow, reduceCtorEq, Nat.reduceEqDiff, Nat.reduceAdd, Nat.reduceLT, Nat.reduceLeDiff, Nat.reduceMul, Nat.reduceSub, Nat.reduceBEq, Int.reduceToNat, e1]
  refine callK_of (growC (n := l.length + m.length) hS hl) ?_
  rintro r h1 ⟨hb1, hf1⟩
  try simp (maxSteps := 1000000) -dsimp (disch := first | omega | ((repeat first | rw [AH.nx_new] | rw [AH.nx_put]); done) | ((repeat first | rw [AH.nx_new] | rw [AH.nx_put]); omega)) only [go_sem, Int.reduceEq, Int.reduceNe, Int.reduceLT, Int.reduceLE, Int.reduceAdd, Int.reduceSub, Int.reduceMul, Int.reduceNeg, Int.reduceToNat, Nat.reducePow, reduceCtorEq, Nat.reduceEqDiff, Nat.reduceAdd, Nat.reduceLT, Nat.reduceLeDiff, Nat.reduceMul, Nat.reduceSub, Nat.reduceBEq, Int.reduceToNat]
  have hg1 : h1.get id = some (.cells [x, y] o t) := (hf1.get id hid).trans hg
  obtain ⟨v2, h2, ha2, hf2, hb2⟩ := Bn.app hb1 (hx.fr hf1) hf1 (by simp; omega)
  rw [List.nil_append] at hb2
  have hg2 : h2.get id = some (.cells [x, y] o t) := (hf2.get id hid).trans hg
  obtain ⟨v3, h3, ha3, hf3, hb3⟩ := Bn.app hb2 (hy.fr hf2) hf2 hl
  have o2 := (bsLn hb2.bs).2.2
  have o3 := (bsLn hb3.bs).2.2
  have o1 := (bsLn hb1.bs).2.2
  simp (maxSteps := 1000000) -dsimp (disch := first | omega | ((repeat first | rw [AH.nx_new] | rw [AH.nx_put]); done) | ((repeat first | rw [AH.nx_new] | rw [AH.nx_put]); omega)) only [go_sem, Int.reduceEq, Int.reduceNe, Int.reduceLT, Int.reduceLE, Int.reduceAdd, Int.reduceSub, Int.reduceMul, Int.reduceNeg, Int.reduceToNat, Nat.reducePow, reduceCtorEq, Nat.reduceEqDiff, Nat.reduceAdd, Nat.reduceLT, Nat.reduceLeDiff, Nat.reduceMul, Nat.reduceSub, Nat.reduceBEq, Int.reduceToNat, ll, o1]

  refine loopK_unroll ?_
  simp (maxSteps := 1000000) -dsimp (disch := first | omega | ((repeat first | rw [AH.nx_new] | rw [AH.nx_put]); done) | ((repeat first | rw [AH.nx_new] | rw [AH.nx_put]); omega)) only [go_sem, Int.reduceEq, Int.reduceNe, Int.reduceLT, Int.reduceLE, Int.reduceAdd, Int.reduceSub, Int.reduceMul, Int.reduceNeg, Int.reduceToNat, Nat.reducePow, reduceCtorEq, Nat.reduceEqDiff, Nat.reduceAdd, Nat.reduceLT, Nat.reduceLeDiff, Nat.reduceMul, Nat.reduceSub, Nat.reduceBEq, Int.reduceToNat, hg1, ox, ha2, o1, o2]
  refine loopK_unroll ?_
  simp (maxSteps := 1000000) -dsimp (disch := first | omega | ((repeat first | rw [AH.nx_new] | rw [AH.nx_put]); done) | ((repeat first | rw [AH.nx_new] | rw [AH.nx_put]); omega)) only [go_sem, Int.reduceEq, Int.reduceNe, Int.reduceLT, Int.reduceLE, Int.reduceAdd, Int.reduceSub, Int.reduceMul, Int.reduceNeg, Int.reduceToNat, Nat.reducePow, reduceCtorEq, Nat.reduceEqDiff, Nat.reduceAdd, Nat.reduceLT, Nat.reduceLeDiff, Nat.reduceMul, Nat.reduceSub, Nat.reduceBEq, Int.reduceToNat, hg2, oy, ha3, o2, o3]
  refine loopK_unroll ?_
  simp (maxSteps := 1000000) -dsimp (disch := first | omega | ((repeat first | rw [AH.nx_new] | rw [AH.nx_put]); done) | ((repeat first | rw [AH.nx_new] | rw [AH.nx_put]); omega)) only [go_sem, Int.reduceEq, Int.reduceNe, Int.reduceLT, Int.reduceLE, Int.reduceAdd, Int.reduceSub, Int.reduceMul, Int.reduceNeg, Int.reduceToNat, Nat.reducePow, reduceCtorEq, Nat.reduceEqDiff, Nat.reduceAdd, Nat.reduceLT, Nat.reduceLeDiff, Nat.reduceMul, Nat.reduceSub, Nat.reduceBEq, Int.reduceToNat, o3]
  exact ⟨hb3, hf3⟩
end
end Go.Proofs.YtjcidnbgbdibaaaDoor.tre
