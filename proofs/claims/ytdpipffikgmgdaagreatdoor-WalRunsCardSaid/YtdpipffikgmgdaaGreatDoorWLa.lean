/- What is read from bytes: numbers of four bytes, Adler's sum, the frame at the beginning, all whole frames. Conditions: none beyond the stated premises. -/
import Derived.Test.YtdpipffikgmgdaaGreatDoorTLa
import Derived.Test.YtdpipffikgmgdaaGreatDoorTLb
import Derived.Test.YtdpipffikgmgdaaGreatDoorAb7
namespace Go.Proofs.YtdpipffikgmgdaaGreatDoor.tre
open Go Go.Abs Go.Abs.Wal Go.Proofs
set_option maxRecDepth 100000
set_option linter.unusedVariables false
set_option linter.unusedSimpArgs false

def upc (l : List Nat) : List Nat := if unfE l = 0 then piece l else []
def upn (l : List Nat) : Nat := if unfE l = 0 then told l + 8 else 0
theorem unfE_cases (l : List Nat) : unfE l = 5 ∨ unfE l = 0 ∨ unfE l = 4 := by
  unfold unfE
  split
  · exact .inl rfl
  · split
    · exact .inr (.inr rfl)
    · split
      · exact .inl rfl
      · split
        · exact .inr (.inl rfl)
        · exact .inr (.inr rfl)
theorem unfE_okk {l : List Nat} (h : unfE l = 0) : told l ≤ 1048576 ∧ told l + 8 ≤ l.length := by
  unfold unfE at h
  split at h
  · cases h
  · split at h
    · cases h
    · split at h
      · cases h
      · omega
theorem told_lt {l : List Nat} (hl : ∀ b ∈ l, b < 256) : told l < 4294967296 := by
  have h1 : ∀ i, l.getD i 0 < 256 := fun i => by
    rw [List.getD_eq_getElem?_getD]
    cases hi : l[i]? with
    | none => simp
    | some b => simp; exact hl b (List.mem_of_getElem? hi)
  exact four_lt (h1 0) (h1 1) (h1 2) (h1 3)
theorem sum_step {x c : Nat} (hx : x < 65521) (hc : c < 65536) : (iw (BitVec.ofNat 32 x + BitVec.ofNat 32 c)).tmod 65521 = iw (BitVec.ofNat 32 ((x + c) % 65521)) := by
  have h1 : iw (BitVec.ofNat 32 x + BitVec.ofNat 32 c) = ((x + c : Nat) : Int) := by
    rw [iw, BitVec.toNat_add, BitVec.toNat_ofNat, BitVec.toNat_ofNat]
    congr 1
    omega
  rw [h1, iw_ofNat (by omega)]
  exact tmod_nat _ 65521
theorem sum_end {x y : Nat} (hx : x < 65521) (hy : y < 65521) : iw ((BitVec.ofNat 32 y <<< 16 : W32) ||| BitVec.ofNat 32 x) = ((y * 65536 + x : Nat) : Int) := by
  rw [iw, BitVec.toNat_or, bv_shl8, BitVec.toNat_ofNat]
  have e1 : y * 2 ^ 16 % 4294967296 = y * 2 ^ 16 := Nat.mod_eq_of_lt (by omega)
  have e2 : x % 2 ^ 32 = x := Nat.mod_eq_of_lt (by omega)
  rw [e1, e2, or_of_lt (by omega)]
/-- What the functions of the log ask. -/
structure Wl (S : Sums) : Prop extends St S where
  nw : ∀ f args h, f ∈ [8, 9, 10, 12, 15, 16, 21, 23, 24, 26, 27, 30, 43, 44, 45, 47, 49, 50, 54, 57, 58, 59, 60, 77, 78, 86, 6, 14] → S f args h = none
section
variable {S : Sums}
theorem bytes0 : bytesOf { data := #[] } = [] := rfl
theorem cv : ∀ (h : AH) (b : Nat), evConvert Tryz.prog h 5 92 (.int .u8 (b : Int)) = some (.val (.int .u32 (iw (BitVec.ofNat 32 b))) h) := fun h b => conv_w Tryz.underlying5 Tryz.underlying92 h b
theorem cv76 (h : AH) (n : Int) : evConvert Tryz.prog h 92 3 (.int .u32 n) = some (.val (.int .i64 (IntKind.i64.wrap n)) h) := by
  simp only [evConvert, Tryz.underlying92, Tryz.underlying3, val?]
theorem take4 {l : List Nat} (h4 : 4 ≤ l.length) : ∃ b0 b1 b2 b3 r, l = b0 :: b1 :: b2 :: b3 :: r := by
  match l, h4 with
  | b0 :: b1 :: b2 :: b3 :: r, _ => exact ⟨b0, b1, b2, b3, r, rfl⟩

set_option maxHeartbeats 4000000 in
theorem toldC (hS : Wl S) {h : AH} {v : AV} {l : List Nat} (hb : Bs h v l) (h4 : 4 ≤ l.length) (hl : ∀ b ∈ l, b < 256) : RnC Tryz.prog S 77 [v] h fun r h' => r = .int .u32 (told l : Nat) ∧ Fr h h' := by
  obtain ⟨b0, b1, b2, b3, r, rfl⟩ := take4 h4
  rcases hb with ⟨rfl, h0⟩ | ⟨id, off, c, cs, o, tx, rfl, hg, hid, hlen, hc, hx⟩
  · cases h0
  · have q0 := bs_get hx (i := 0) rfl
    have q1 := bs_get hx (i := 1) rfl
    have q2 := bs_get hx (i := 2) rfl
    have q3 := bs_get hx (i := 3) rfl
    rw [Nat.add_zero] at q0
    have a0 : b0 < 256 := hl _ (by simp)
    have a1 : b1 < 256 := hl _ (by simp)
    have a2 : b2 < 256 := hl _ (by simp)
    have a3 : b3 < 256 := hl _ (by simp)
    refine RnC.enter' Tryz.f77 _ 25 [.tmp 2] (hS.nw _ _ _ (by simp)) bd77 Tryz.func77 rfl rfl rfl ?_
    simp (maxSteps := 1000000) -dsimp (disch := (repeat first | rw [AH.nx_new] | rw [AH.nx_put]); first | done | omega) only [go_sem, evLen, Int.reduceEq, Int.reduceNe, Int.reduceLT, Int.reduceLE, Int.reduceAdd, Int.reduceSub, Int.reduceMul, Int.reduceNeg, Int.reduceToNat, Nat.reducePow, reduceCtorEq, Nat.reduceEqDiff, Nat.reduceAdd, Nat.reduceLT, Nat.reduceLeDiff, Nat.reduceMul, Nat.reduceSub, Nat.reduceBEq]
    refine syDraw.go0 (by kernel_rfl) ?_
    simp (maxSteps := 1000000) -dsimp (disch := (repeat first | rw [AH.nx_new] | rw [AH.nx_put]); first | done | omega) only [go_sem, evLen, Int.reduceEq, Int.reduceNe, Int.reduceLT, Int.reduceLE, Int.reduceAdd, Int.reduceSub, Int.reduceMul, Int.reduceNeg, Int.reduceToNat, Nat.reducePow, reduceCtorEq, Nat.reduceEqDiff, Nat.reduceAdd, Nat.reduceLT, Nat.reduceLeDiff, Nat.reduceMul, Nat.reduceSub, Nat.reduceBEq, Tryz.underlying55, Tryz.underlying5, tz5, hg, q0, q1, q2, q3, cv, Nat.mul_one]
    refine ⟨?_, (Fr.refl h).more _ (by omega)⟩
    rw [four_or a0 a1 a2 a3, iw_ofNat (four_lt a0 a1 a2 a3)]
    rfl

set_option maxHeartbeats 4000000 in
theorem sumC (hS : Wl S) {h : AH} {v : AV} {l : List Nat} (hb : Bs h v l) (hl : ∀ b ∈ l, b < 256) (hn : l.length ≤ 1099511627776) : RnC Tryz.prog S 60 [v] h fun r h' => r = .int .u32 (sum l : Nat) ∧ Fr h h' := by
  refine RnC.enter' Tryz.f60 _ 27 [.tmp 2] (hS.nw _ _ _ (by simp)) bd60 Tryz.func60 rfl rfl rfl ?_
  rcases hb with ⟨rfl, rfl⟩ | ⟨id, off, c, cs, o, tx, rfl, hg, hid, hlen, hc, hx⟩
  · simp (maxSteps := 1000000) -dsimp (disch := (repeat first | rw [AH.nx_new] | rw [AH.nx_put]); first | done | omega) only [go_sem, evLen, Int.reduceEq, Int.reduceNe, Int.reduceLT, Int.reduceLE, Int.reduceAdd, Int.reduceSub, Int.reduceMul, Int.reduceNeg, Int.reduceToNat, Nat.reducePow, reduceCtorEq, Nat.reduceEqDiff, Nat.reduceAdd, Nat.reduceLT, Nat.reduceLeDiff, Nat.reduceMul, Nat.reduceSub, Nat.reduceBEq, Tryz.underlying55]
    refine loopK_unroll ?_
    simp (maxSteps := 1000000) -dsimp (disch := (repeat first | rw [AH.nx_new] | rw [AH.nx_put]); first | done | omega) only [go_sem, evLen, Int.reduceEq, Int.reduceNe, Int.reduceLT, Int.reduceLE, Int.reduceAdd, Int.reduceSub, Int.reduceMul, Int.reduceNeg, Int.reduceToNat, Nat.reducePow, reduceCtorEq, Nat.reduceEqDiff, Nat.reduceAdd, Nat.reduceLT, Nat.reduceLeDiff, Nat.reduceMul, Nat.reduceSub, Nat.reduceBEq]
    exact ⟨by kernel_rfl, Fr.refl _⟩
  · simp (maxSteps := 1000000) -dsimp (disch := (repeat first | rw [AH.nx_new] | rw [AH.nx_put]); first | done | omega) only [go_sem, evLen, Int.reduceEq, Int.reduceNe, Int.reduceLT, Int.reduceLE, Int.reduceAdd, Int.reduceSub, Int.reduceMul, Int.reduceNeg, Int.reduceToNat, Nat.reducePow, reduceCtorEq, Nat.reduceEqDiff, Nat.reduceAdd, Nat.reduceLT, Nat.reduceLeDiff, Nat.reduceMul, Nat.reduceSub, Nat.reduceBEq, Tryz.underlying55]
    refine loopK_of (RnL.rounds (Q := fun ex s => ex = .exit 0 ∧ Fr h s.h ∧ s.d = [] ∧ s.t.get 3 = some (.int .u32 (iw (BitVec.ofNat 32 (sumGo l 1 0).1))) ∧ s.t.get 4 = some (.int .u32 (iw (BitVec.ofNat 32 (sumGo l 1 0).2))))
      (fun m s => Fr h s.h ∧ s.d = [] ∧ s.t.get 7 = some (.sl id off l.length 1 c) ∧ s.t.get 8 = some (.int .i64 (l.length : Nat)) ∧ ∃ i x y : Nat, s.t.get 9 = some (.int .i64 (i : Nat)) ∧ s.t.get 3 = some (.int .u32 (iw (BitVec.ofNat 32 x))) ∧ s.t.get 4 = some (.int .u32 (iw (BitVec.ofNat 32 y))) ∧
        i ≤ l.length ∧ x < 65521 ∧ y < 65521 ∧ sumGo (l.drop i) x y = sumGo l 1 0 ∧ m = l.length - i) ?_ l.length ?_) ?_
    · rintro m ⟨t, h1, d⟩ ⟨e1, e2, g7, g8, i, x, y, g9, g3, g4, hi, hx3, hy4, hs, rfl⟩
      dsimp only at e1 e2 g7 g8 g9 g3 g4
      subst e2
      by_cases c1 : (i : Int) < (l.length : Nat)
      · have hil : i < l.length := by omega
        obtain ⟨b, hbi⟩ : ∃ b, l[i]? = some b := ⟨_, List.getElem?_eq_getElem hil⟩
        have hb256 : b < 256 := hl _ (List.mem_of_getElem? hbi)
        have q := bs_get hx hbi
        have hdrop : l.drop i = b :: l.drop (i + 1) := by rw [List.drop_eq_getElem_cons hil, (List.getElem?_eq_some_iff.1 hbi).2]
        have hg1 : h1.get id = some (.cells cs o tx) := (e1.get id hid).trans hg
        have hm1 := sum_step (x := x) (c := b) hx3 (by omega)
        have hm2 := sum_step (x := y) (c := (x + b) % 65521) hy4 (by omega)
        simp (maxSteps := 1000000) -dsimp (disch := (repeat first | rw [AH.nx_new] | rw [AH.nx_put]); first | done | omega) only [go_sem, evLen, Int.reduceEq, Int.reduceNe, Int.reduceLT, Int.reduceLE, Int.reduceAdd, Int.reduceSub, Int.reduceMul, Int.reduceNeg, Int.reduceToNat, Nat.reducePow, reduceCtorEq, Nat.reduceEqDiff, Nat.reduceAdd, Nat.reduceLT, Nat.reduceLeDiff, Nat.reduceMul, Nat.reduceSub, Nat.reduceBEq, c1, g7, g8, g9, g3, g4, Tryz.underlying55, Tryz.underlying5, tz5, hg1, q, cv, hm1, hm2, Nat.mul_one]
        refine ⟨l.length - (i + 1), by omega, e1, trivial, trivial, trivial, i + 1, (x + b) % 65521, (y + (x + b) % 65521) % 65521, rfl, rfl, rfl, by omega, Nat.mod_lt _ (by decide), Nat.mod_lt _ (by decide), ?_, rfl⟩
        rw [← hs, hdrop]; rfl
      · obtain rfl : i = l.length := by omega
        simp (maxSteps := 1000000) -dsimp (disch := (repeat first | rw [AH.nx_new] | rw [AH.nx_put]); first | done | omega) only [go_sem, evLen, Int.reduceEq, Int.reduceNe, Int.reduceLT, Int.reduceLE, Int.reduceAdd, Int.reduceSub, Int.reduceMul, Int.reduceNeg, Int.reduceToNat, Nat.reducePow, reduceCtorEq, Nat.reduceEqDiff, Nat.reduceAdd, Nat.reduceLT, Nat.reduceLeDiff, Nat.reduceMul, Nat.reduceSub, Nat.reduceBEq, c1, g7, g8, g9, g3, g4]
        rw [List.drop_length] at hs
        rw [← hs]
        exact ⟨trivial, e1, trivial, rfl, rfl⟩
    · simp (maxSteps := 1000000) -dsimp (disch := (repeat first | rw [AH.nx_new] | rw [AH.nx_put]); first | done | omega) only [go_sem, evLen, Int.reduceEq, Int.reduceNe, Int.reduceLT, Int.reduceLE, Int.reduceAdd, Int.reduceSub, Int.reduceMul, Int.reduceNeg, Int.reduceToNat, Nat.reducePow, reduceCtorEq, Nat.reduceEqDiff, Nat.reduceAdd, Nat.reduceLT, Nat.reduceLeDiff, Nat.reduceMul, Nat.reduceSub, Nat.reduceBEq]
      exact ⟨Fr.refl _, trivial, trivial, trivial, 0, 1, 0, rfl, rfl, rfl, Nat.zero_le _, by decide, by decide, rfl, rfl⟩
    · rintro ex ⟨t, h1, d⟩ ⟨rfl, e1, rfl, g3, g4⟩
      dsimp only at e1 g3 g4
      simp (maxSteps := 1000000) -dsimp (disch := (repeat first | rw [AH.nx_new] | rw [AH.nx_put]); first | done | omega) only [go_sem, evLen, Int.reduceEq, Int.reduceNe, Int.reduceLT, Int.reduceLE, Int.reduceAdd, Int.reduceSub, Int.reduceMul, Int.reduceNeg, Int.reduceToNat, Nat.reducePow, reduceCtorEq, Nat.reduceEqDiff, Nat.reduceAdd, Nat.reduceLT, Nat.reduceLeDiff, Nat.reduceMul, Nat.reduceSub, Nat.reduceBEq, g3, g4]
      refine ⟨?_, e1⟩
      obtain ⟨l1, l2⟩ := sumGo_lt l 1 0 (by decide) (by decide)
      rw [sum_end l1 l2]
      rfl

theorem unf_short {l : List Nat} (h : l.length < 4) : unfE l = 5 := by unfold unfE; rw [if_pos h]
theorem unf_long {l : List Nat} (h4 : 4 ≤ l.length) (h : 1048576 < told l) : unfE l = 4 := by unfold unfE; rw [if_neg (by omega), if_pos h]
theorem unf_more {l : List Nat} (h4 : 4 ≤ l.length) (h : told l ≤ 1048576) (hm : l.length < told l + 8) : unfE l = 5 := by unfold unfE; rw [if_neg (by omega), if_neg (by omega), if_pos hm]
theorem unf_sum {l : List Nat} (h4 : 4 ≤ l.length) (h : told l ≤ 1048576) (hm : told l + 8 ≤ l.length) : unfE l = if told (l.drop (told l + 4)) = sum (l.take (told l + 4)) then 0 else 4 := by
  unfold unfE; rw [if_neg (by omega), if_neg (by omega), if_neg (by omega)]

set_option maxHeartbeats 8000000 in
theorem unfC (hS : Wl S) {h : AH} {v : AV} {l : List Nat} (hb : Bs h v l) (hl : ∀ b ∈ l, b < 256) (hn : l.length ≤ 1099511627776) :
    RnC Tryz.prog S 54 [v] h fun r h' => r = .tup [.str (upc l), .int .i64 (upn l : Nat), .int .i64 (unfE l : Nat)] ∧ Fr h h' := by
  refine RnC.enter' Tryz.f54 _ 37 [.tmp 2, .tmp 3, .tmp 4] (hS.nw _ _ _ (by simp)) bd54 Tryz.func54 rfl rfl rfl ?_
  have hb0 := hb
  rcases hb with ⟨rfl, rfl⟩ | ⟨id, off, c, cs, o, tx, rfl, hg, hid, hlen, hc, hx⟩
  · simp (maxSteps := 1000000) -dsimp (disch := (repeat first | rw [AH.nx_new] | rw [AH.nx_put]); first | done | omega) only [go_sem, evLen, Int.reduceEq, Int.reduceNe, Int.reduceLT, Int.reduceLE, Int.reduceAdd, Int.reduceSub, Int.reduceMul, Int.reduceNeg, Int.reduceToNat, Nat.reducePow, reduceCtorEq, Nat.reduceEqDiff, Nat.reduceAdd, Nat.reduceLT, Nat.reduceLeDiff, Nat.reduceMul, Nat.reduceSub, Nat.reduceBEq, Tryz.underlying55, bytes0]
    exact ⟨rfl, Fr.refl _⟩
  · by_cases c1 : (l.length : Int) < 4
    · simp (maxSteps := 1000000) -dsimp (disch := (repeat first | rw [AH.nx_new] | rw [AH.nx_put]); first | done | omega) only [go_sem, evLen, Int.reduceEq, Int.reduceNe, Int.reduceLT, Int.reduceLE, Int.reduceAdd, Int.reduceSub, Int.reduceMul, Int.reduceNeg, Int.reduceToNat, Nat.reducePow, reduceCtorEq, Nat.reduceEqDiff, Nat.reduceAdd, Nat.reduceLT, Nat.reduceLeDiff, Nat.reduceMul, Nat.reduceSub, Nat.reduceBEq, Tryz.underlying55, bytes0, c1]
      have k := unf_short (l := l) (by omega)
      exact ⟨by simp only [upc, upn, k]; rfl, Fr.refl _⟩
    · have h4 : 4 ≤ l.length := by omega
      simp (maxSteps := 1000000) -dsimp (disch := (repeat first | rw [AH.nx_new] | rw [AH.nx_put]); first | done | omega) only [go_sem, evLen, Int.reduceEq, Int.reduceNe, Int.reduceLT, Int.reduceLE, Int.reduceAdd, Int.reduceSub, Int.reduceMul, Int.reduceNeg, Int.reduceToNat, Nat.reducePow, reduceCtorEq, Nat.reduceEqDiff, Nat.reduceAdd, Nat.reduceLT, Nat.reduceLeDiff, Nat.reduceMul, Nat.reduceSub, Nat.reduceBEq, Tryz.underlying55, bytes0, c1]
      refine callK_of (toldC hS hb0 h4 hl) ?_
      rintro r h1 ⟨rfl, hf1⟩
      by_cases c2 : (1048576 : Int) < (told l : Nat)
      · simp (maxSteps := 1000000) -dsimp (disch := (repeat first | rw [AH.nx_new] | rw [AH.nx_put]); first | done | omega) only [go_sem, evLen, Int.reduceEq, Int.reduceNe, Int.reduceLT, Int.reduceLE, Int.reduceAdd, Int.reduceSub, Int.reduceMul, Int.reduceNeg, Int.reduceToNat, Nat.reducePow, reduceCtorEq, Nat.reduceEqDiff, Nat.reduceAdd, Nat.reduceLT, Nat.reduceLeDiff, Nat.reduceMul, Nat.reduceSub, Nat.reduceBEq, c2, bytes0]
        have k := unf_long h4 (by omega)
        exact ⟨by simp only [upc, upn, k]; rfl, hf1⟩
      · by_cases c3 : (l.length : Int) < ((told l : Nat) : Int) + 8
        · simp (maxSteps := 1000000) -dsimp (disch := (repeat first | rw [AH.nx_new] | rw [AH.nx_put]); first | done | omega) only [go_sem, evLen, Int.reduceEq, Int.reduceNe, Int.reduceLT, Int.reduceLE, Int.reduceAdd, Int.reduceSub, Int.reduceMul, Int.reduceNeg, Int.reduceToNat, Nat.reducePow, reduceCtorEq, Nat.reduceEqDiff, Nat.reduceAdd, Nat.reduceLT, Nat.reduceLeDiff, Nat.reduceMul, Nat.reduceSub, Nat.reduceBEq, c2, c3, bytes0, cv76, Tryz.underlying55]
          have k := unf_more h4 (by omega) (by omega)
          exact ⟨by simp only [upc, upn, k]; rfl, hf1⟩
        · simp (maxSteps := 1000000) -dsimp (disch := (repeat first | rw [AH.nx_new] | rw [AH.nx_put]); first | done | omega) only [go_sem, evLen, Int.reduceEq, Int.reduceNe, Int.reduceLT, Int.reduceLE, Int.reduceAdd, Int.reduceSub, Int.reduceMul, Int.reduceNeg, Int.reduceToNat, Nat.reducePow, reduceCtorEq, Nat.reduceEqDiff, Nat.reduceAdd, Nat.reduceLT, Nat.reduceLeDiff, Nat.reduceMul, Nat.reduceSub, Nat.reduceBEq, c2, c3, bytes0, cv76, Tryz.underlying55]
          refine syDraw.go0 (by kernel_rfl) ?_
          have k := unf_sum h4 (by omega) (by omega)
          obtain ⟨v1, s1, b1, w1, _⟩ := (hb0.fr hf1).slice_from Tryz.underlying55 tz5 (lo := told l + 4) (by omega)
          obtain ⟨v2, s2, b2, w2, _⟩ := (hb0.fr hf1).slice_to Tryz.underlying55 tz5 (hi := told l + 4) (by omega)
          obtain ⟨v3, s3, b3, w3, _⟩ := (hb0.fr hf1).slice_mid Tryz.underlying55 tz5 (lo := 4) (hi := told l + 4) (by omega) (by omega)
          have e4 : ((told l + 4 : Nat) : Int) = ((told l : Nat) : Int) + 8 - 4 := by omega
          rw [e4] at s1 s2 s3
          rw [show ((4 : Nat) : Int) = 4 from rfl] at s3
          simp (maxSteps := 1000000) -dsimp (disch := (repeat first | rw [AH.nx_new] | rw [AH.nx_put]); first | done | omega) only [go_sem, evLen, Int.reduceEq, Int.reduceNe, Int.reduceLT, Int.reduceLE, Int.reduceAdd, Int.reduceSub, Int.reduceMul, Int.reduceNeg, Int.reduceToNat, Nat.reducePow, reduceCtorEq, Nat.reduceEqDiff, Nat.reduceAdd, Nat.reduceLT, Nat.reduceLeDiff, Nat.reduceMul, Nat.reduceSub, Nat.reduceBEq, c2, c3, bytes0, cv76, Tryz.underlying55, s1]
          refine callK_of (toldC hS (b1.fr ((Fr.refl h1).more _ (by omega))) (by simp; omega) (fun b hm => hl b (List.mem_of_mem_drop hm))) ?_
          rintro r h2 ⟨rfl, hf2⟩
          simp (maxSteps := 1000000) -dsimp (disch := (repeat first | rw [AH.nx_new] | rw [AH.nx_put]); first | done | omega) only [go_sem, evLen, Int.reduceEq, Int.reduceNe, Int.reduceLT, Int.reduceLE, Int.reduceAdd, Int.reduceSub, Int.reduceMul, Int.reduceNeg, Int.reduceToNat, Nat.reducePow, reduceCtorEq, Nat.reduceEqDiff, Nat.reduceAdd, Nat.reduceLT, Nat.reduceLeDiff, Nat.reduceMul, Nat.reduceSub, Nat.reduceBEq, c2, c3, bytes0, cv76, Tryz.underlying55, s2]
          refine callK_of (sumC hS (b2.fr (((Fr.refl h1).more _ (by omega)).trans hf2)) (fun b hm => hl b (List.mem_of_mem_take hm)) (by simp; omega)) ?_
          rintro r h3 ⟨rfl, hf3⟩
          have hfa : Fr h h3 := ((hf1.more _ (by omega)).trans hf2).trans hf3
          by_cases c4 : told (l.drop (told l + 4)) = sum (l.take (told l + 4))
          · have c4' : ((told (l.drop (told l + 4)) : Nat) : Int) = ((sum (l.take (told l + 4)) : Nat) : Int) := by rw [c4]
            rw [if_pos c4] at k
            have tx3 := (b3.fr (((Fr.refl h1).more _ (by omega)).trans (hf2.trans hf3))).text Tryz.underlying55 Tryz.underlying5 Tryz.underlying9 (fun b hm => hl b (List.mem_of_mem_take (List.mem_of_mem_drop hm)))
            simp (maxSteps := 1000000) -dsimp (disch := (repeat first | rw [AH.nx_new] | rw [AH.nx_put]); first | done | omega) only [go_sem, evLen, Int.reduceEq, Int.reduceNe, Int.reduceLT, Int.reduceLE, Int.reduceAdd, Int.reduceSub, Int.reduceMul, Int.reduceNeg, Int.reduceToNat, Nat.reducePow, reduceCtorEq, Nat.reduceEqDiff, Nat.reduceAdd, Nat.reduceLT, Nat.reduceLeDiff, Nat.reduceMul, Nat.reduceSub, Nat.reduceBEq, c4', s3, tx3, Tryz.underlying55]
            refine ⟨?_, hfa⟩
            · simp only [upc, upn, k, if_true]
              rfl
          · have c4' : ¬ ((told (l.drop (told l + 4)) : Nat) : Int) = ((sum (l.take (told l + 4)) : Nat) : Int) := by omega
            rw [if_neg c4] at k
            simp (maxSteps := 1000000) -dsimp (disch := (repeat first | rw [AH.nx_new] | rw [AH.nx_put]); first | done | omega) only [go_sem, evLen, Int.reduceEq, Int.reduceNe, Int.reduceLT, Int.reduceLE, Int.reduceAdd, Int.reduceSub, Int.reduceMul, Int.reduceNeg, Int.reduceToNat, Nat.reducePow, reduceCtorEq, Nat.reduceEqDiff, Nat.reduceAdd, Nat.reduceLT, Nat.reduceLeDiff, Nat.reduceMul, Nat.reduceSub, Nat.reduceBEq, c4', bytes0]
            refine ⟨?_, hfa⟩
            · simp only [upc, upn, k]
              rfl

theorem ai9 : appI Tryz.prog 9 = some (1, 16) := by kernel_rfl
/-- What a scan found. -/
def tot (l : List Nat) : List (List Nat) × Nat × Nat := scn (l.length + 1) l
theorem drop_add {l : List Nat} {w k : Nat} : (l.drop w).drop k = l.drop (w + k) := by rw [List.drop_drop]

set_option maxHeartbeats 8000000 in
theorem scanC (hS : Wl S) {h : AH} {v : AV} {l : List Nat} (hb : Bs h v l) (hl : ∀ b ∈ l, b < 256) (hn : l.length ≤ 1048576) :
    RnC Tryz.prog S 23 [v] h fun r h' => ∃ sv, r = .tup [sv, .int .i64 ((tot l).2.1 : Nat), .int .i64 ((tot l).2.2 : Nat)] ∧ Ss h.nx h' sv (tot l).1 ∧ Fr h h' := by
  refine RnC.enter' Tryz.f23 _ 38 [.tmp 2, .tmp 3, .tmp 4] (hS.nw _ _ _ (by simp)) bd23 Tryz.func23 rfl rfl rfl ?_
  have hb0 := hb
  rcases hb with ⟨rfl, rfl⟩ | ⟨id, off, c, cs, o, tx, rfl, hg, hid, hlen, hc, hx⟩
  · simp (maxSteps := 1000000) -dsimp (disch := (repeat first | rw [AH.nx_new] | rw [AH.nx_put]); first | done | omega) only [go_sem, evLen, Int.reduceEq, Int.reduceNe, Int.reduceLT, Int.reduceLE, Int.reduceAdd, Int.reduceSub, Int.reduceMul, Int.reduceNeg, Int.reduceToNat, Nat.reducePow, reduceCtorEq, Nat.reduceEqDiff, Nat.reduceAdd, Nat.reduceLT, Nat.reduceLeDiff, Nat.reduceMul, Nat.reduceSub, Nat.reduceBEq]
    refine loopK_unroll ?_
    simp (maxSteps := 1000000) -dsimp (disch := (repeat first | rw [AH.nx_new] | rw [AH.nx_put]); first | done | omega) only [go_sem, evLen, Int.reduceEq, Int.reduceNe, Int.reduceLT, Int.reduceLE, Int.reduceAdd, Int.reduceSub, Int.reduceMul, Int.reduceNeg, Int.reduceToNat, Nat.reducePow, reduceCtorEq, Nat.reduceEqDiff, Nat.reduceAdd, Nat.reduceLT, Nat.reduceLeDiff, Nat.reduceMul, Nat.reduceSub, Nat.reduceBEq, Tryz.underlying55]
    exact ⟨.nilsl, rfl, .inl ⟨rfl, rfl⟩, Fr.refl _⟩
  simp (maxSteps := 1000000) -dsimp (disch := (repeat first | rw [AH.nx_new] | rw [AH.nx_put]); first | done | omega) only [go_sem, evLen, Int.reduceEq, Int.reduceNe, Int.reduceLT, Int.reduceLE, Int.reduceAdd, Int.reduceSub, Int.reduceMul, Int.reduceNeg, Int.reduceToNat, Nat.reducePow, reduceCtorEq, Nat.reduceEqDiff, Nat.reduceAdd, Nat.reduceLT, Nat.reduceLeDiff, Nat.reduceMul, Nat.reduceSub, Nat.reduceBEq]
  refine loopK_of (RnL.rounds (Q := fun ex s => Fr h s.h ∧ s.d = [] ∧ ∃ sv, Ss h.nx s.h sv (tot l).1 ∧ s.t.get 2 = some sv ∧ s.t.get 3 = some (.int .i64 ((tot l).2.1 : Nat)) ∧ ((ex = .exit 0 ∧ (tot l).2.2 = 0) ∨ (ex = .ret ∧ s.t.get 4 = some (.int .i64 ((tot l).2.2 : Nat)))))
    (fun m s => Fr h s.h ∧ s.d = [] ∧ s.t.get 0 = some (.sl id off l.length 1 c) ∧ ∃ (sv : AV) (w f : Nat) (acc : List (List Nat)), s.t.get 2 = some sv ∧ Ss h.nx s.h sv acc ∧ s.t.get 3 = some (.int .i64 (w : Nat)) ∧ w ≤ l.length ∧ l.length - w < f ∧
      acc ++ (scn f (l.drop w)).1 = (tot l).1 ∧ w + (scn f (l.drop w)).2.1 = (tot l).2.1 ∧ (scn f (l.drop w)).2.2 = (tot l).2.2 ∧ acc.length ≤ w ∧ m = l.length - w) ?_ l.length ?_) ?_
  · rintro m ⟨t, h1, d⟩ ⟨e1, e2, g0, sv, w, f, acc, g2, hs, g3, hw, hf, r1, r2, r3, hal, rfl⟩
    dsimp only at e1 e2 g0 g2 hs g3
    subst e2
    obtain ⟨f, rfl⟩ : ∃ f', f = f' + 1 := ⟨f - 1, by omega⟩
    by_cases c1 : (w : Int) < (l.length : Nat)
    · obtain ⟨v1, s1, b1, w1, _⟩ := (hb0.fr e1).slice_from Tryz.underlying55 tz5 (lo := w) hw
      have hl1 : ∀ b ∈ l.drop w, b < 256 := fun b hm => hl b (List.mem_of_mem_drop hm)
      simp (maxSteps := 1000000) -dsimp (disch := (repeat first | rw [AH.nx_new] | rw [AH.nx_put]); first | done | omega) only [go_sem, evLen, Int.reduceEq, Int.reduceNe, Int.reduceLT, Int.reduceLE, Int.reduceAdd, Int.reduceSub, Int.reduceMul, Int.reduceNeg, Int.reduceToNat, Nat.reducePow, reduceCtorEq, Nat.reduceEqDiff, Nat.reduceAdd, Nat.reduceLT, Nat.reduceLeDiff, Nat.reduceMul, Nat.reduceSub, Nat.reduceBEq, Tryz.underlying55, c1, g0, g2, g3, s1]
      refine callK_of (unfC hS b1 hl1 (by simp; omega)) ?_
      rintro r h2 ⟨rfl, hf2⟩
      rcases unfE_cases (l.drop w) with k | k | k
      · simp only [scn, k] at r1 r2 r3
        simp (maxSteps := 1000000) -dsimp (disch := (repeat first | rw [AH.nx_new] | rw [AH.nx_put]); first | done | omega) only [go_sem, evLen, Int.reduceEq, Int.reduceNe, Int.reduceLT, Int.reduceLE, Int.reduceAdd, Int.reduceSub, Int.reduceMul, Int.reduceNeg, Int.reduceToNat, Nat.reducePow, reduceCtorEq, Nat.reduceEqDiff, Nat.reduceAdd, Nat.reduceLT, Nat.reduceLeDiff, Nat.reduceMul, Nat.reduceSub, Nat.reduceBEq, k, g0, g2, g3, upc, upn]
        refine ⟨e1.trans hf2, trivial, sv, ?_, rfl, ?_, .inr ⟨trivial, ?_⟩⟩
        · simp at r1
          rw [← r1]; exact hs.fr hf2
        · simp at r2
          rw [← r2]
        · simp at r3
          rw [← r3]; rfl
      · obtain ⟨k1, k2⟩ := unfE_okk k
        have hdl : (l.drop w).length = l.length - w := by simp
        simp only [scn, k, if_true] at r1 r2 r3
        have kc : upc (l.drop w) = piece (l.drop w) := by unfold upc; rw [if_pos k]
        have kn : upn (l.drop w) = told (l.drop w) + 8 := by unfold upn; rw [if_pos k]
        obtain ⟨v4, h4, ha, hf4, hs4, _⟩ := Ss.app (P := Tryz.prog) (h0 := h) (h := h2.new (.cells [.str (piece (l.drop w))] true false)) (id1 := h2.nx) (c := some 1) (o := true) (t := false) (p := piece (l.drop w)) Tryz.underlying22 ai9 (by decide) (hs.fr (hf2.trans (Fr.new _ _))) ((e1.trans hf2).news _) (by omega) (AH.get_new_eq rfl) (Nat.lt_succ_self _) (by
          intro id off n sz c hh
          rcases hs with ⟨hh2, _⟩ | ⟨id', hh2, _, hh4, _⟩
          · rw [hh] at hh2; cases hh2
          · rw [hh] at hh2; cases hh2
            have := hf2.nx
            omega)
        simp (maxSteps := 1000000) -dsimp (disch := (repeat first | rw [AH.nx_new] | rw [AH.nx_put]); first | done | omega) only [go_sem, evLen, Int.reduceEq, Int.reduceNe, Int.reduceLT, Int.reduceLE, Int.reduceAdd, Int.reduceSub, Int.reduceMul, Int.reduceNeg, Int.reduceToNat, Nat.reducePow, reduceCtorEq, Nat.reduceEqDiff, Nat.reduceAdd, Nat.reduceLT, Nat.reduceLeDiff, Nat.reduceMul, Nat.reduceSub, Nat.reduceBEq, k, kc, kn, g0, g2, g3, Tryz.underlying22, Tryz.underlying9, tz9, zc9, ha]
        rw [drop_add] at r1 r2 r3
        refine ⟨l.length - (w + (told (l.drop w) + 8)), by omega, hf4, trivial, trivial, v4, w + (told (l.drop w) + 8), f, acc ++ [piece (l.drop w)], rfl, hs4, ?_, by omega, by omega, ?_, ?_, r3, by simp; omega, rfl⟩
        · rfl
        · simpa using r1
        · omega
      · simp only [scn, k] at r1 r2 r3
        simp (maxSteps := 1000000) -dsimp (disch := (repeat first | rw [AH.nx_new] | rw [AH.nx_put]); first | done | omega) only [go_sem, evLen, Int.reduceEq, Int.reduceNe, Int.reduceLT, Int.reduceLE, Int.reduceAdd, Int.reduceSub, Int.reduceMul, Int.reduceNeg, Int.reduceToNat, Nat.reducePow, reduceCtorEq, Nat.reduceEqDiff, Nat.reduceAdd, Nat.reduceLT, Nat.reduceLeDiff, Nat.reduceMul, Nat.reduceSub, Nat.reduceBEq, k, g0, g2, g3, upc, upn]
        refine ⟨e1.trans hf2, trivial, sv, ?_, rfl, ?_, .inr ⟨trivial, ?_⟩⟩
        · simp at r1
          rw [← r1]; exact hs.fr hf2
        · simp at r2
          rw [← r2]
        · simp at r3
          rw [← r3]; rfl
    · obtain rfl : w = l.length := by omega
      simp (maxSteps := 1000000) -dsimp (disch := (repeat first | rw [AH.nx_new] | rw [AH.nx_put]); first | done | omega) only [go_sem, evLen, Int.reduceEq, Int.reduceNe, Int.reduceLT, Int.reduceLE, Int.reduceAdd, Int.reduceSub, Int.reduceMul, Int.reduceNeg, Int.reduceToNat, Nat.reducePow, reduceCtorEq, Nat.reduceEqDiff, Nat.reduceAdd, Nat.reduceLT, Nat.reduceLeDiff, Nat.reduceMul, Nat.reduceSub, Nat.reduceBEq, Tryz.underlying55, c1, g0, g2, g3]
      have k : unfE (l.drop l.length) = 5 := unf_short (by simp)
      simp only [scn, k] at r1 r2 r3
      refine ⟨e1, trivial, sv, ?_, rfl, ?_, .inl ⟨trivial, ?_⟩⟩
      · simp at r1
        rw [← r1]; exact hs
      · simp at r2
        rw [← r2]
      · simp at r3
        rw [← r3]
  · simp (maxSteps := 1000000) -dsimp (disch := (repeat first | rw [AH.nx_new] | rw [AH.nx_put]); first | done | omega) only [go_sem, evLen, Int.reduceEq, Int.reduceNe, Int.reduceLT, Int.reduceLE, Int.reduceAdd, Int.reduceSub, Int.reduceMul, Int.reduceNeg, Int.reduceToNat, Nat.reducePow, reduceCtorEq, Nat.reduceEqDiff, Nat.reduceAdd, Nat.reduceLT, Nat.reduceLeDiff, Nat.reduceMul, Nat.reduceSub, Nat.reduceBEq]
    exact ⟨Fr.refl _, trivial, trivial, .nilsl, 0, l.length + 1, [], rfl, .inl ⟨rfl, rfl⟩, rfl, Nat.zero_le _, by omega, rfl, by rw [Nat.zero_add]; rfl, rfl, Nat.le_refl _, rfl⟩
  · rintro ex ⟨t, h1, d⟩ ⟨e1, rfl, sv, hs, g2, g3, ⟨rfl, r3⟩ | ⟨rfl, g4⟩⟩
    · dsimp only at e1 hs g2 g3
      simp (maxSteps := 1000000) -dsimp (disch := (repeat first | rw [AH.nx_new] | rw [AH.nx_put]); first | done | omega) only [go_sem, evLen, Int.reduceEq, Int.reduceNe, Int.reduceLT, Int.reduceLE, Int.reduceAdd, Int.reduceSub, Int.reduceMul, Int.reduceNeg, Int.reduceToNat, Nat.reducePow, reduceCtorEq, Nat.reduceEqDiff, Nat.reduceAdd, Nat.reduceLT, Nat.reduceLeDiff, Nat.reduceMul, Nat.reduceSub, Nat.reduceBEq, g2, g3]
      exact ⟨sv, by rw [r3]; rfl, hs, e1⟩
    · dsimp only at e1 hs g2 g3 g4
      simp (maxSteps := 1000000) -dsimp (disch := (repeat first | rw [AH.nx_new] | rw [AH.nx_put]); first | done | omega) only [go_sem, evLen, Int.reduceEq, Int.reduceNe, Int.reduceLT, Int.reduceLE, Int.reduceAdd, Int.reduceSub, Int.reduceMul, Int.reduceNeg, Int.reduceToNat, Nat.reducePow, reduceCtorEq, Nat.reduceEqDiff, Nat.reduceAdd, Nat.reduceLT, Nat.reduceLeDiff, Nat.reduceMul, Nat.reduceSub, Nat.reduceBEq, g2, g3, g4]
      exact ⟨sv, rfl, hs, e1⟩

end
end Go.Proofs.YtdpipffikgmgdaaGreatDoor.tre
