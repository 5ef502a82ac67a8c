/- What the functions that the law WalScans calls compute over bytes: numbers of four bytes, Adler's sum, the frame at the beginning, all whole frames; the program's and the document's compute the same. Conditions: none beyond the stated premises. -/
import Derived.Test.YticccdaomgildaaGreatDoorFacts
import Derived.Test.YticccdaomgildaaGreatDoorAbs42
namespace Go.Proofs.YticccdaomgildaaGreatDoor.walScans
open Go Go.Abs Go.Proofs
set_option maxRecDepth 100000
set_option linter.unusedVariables false
set_option linter.unusedSimpArgs false

/-! ### What is computed -/
def told (l : List Nat) : Nat := four (l.getD 0 0) (l.getD 1 0) (l.getD 2 0) (l.getD 3 0)
def sumGo : List Nat → Nat → Nat → Nat × Nat
  | [], x, y => (x, y)
  | c :: r, x, y => sumGo r ((x + c) % 65521) ((y + (x + c) % 65521) % 65521)
def sum (l : List Nat) : Nat := (sumGo l 1 0).2 * 65536 + (sumGo l 1 0).1
def unfE (l : List Nat) : Nat :=
  if l.length < 4 then 5 else if 1048576 < told l then 4 else if l.length < told l + 8 then 5 else if told (l.drop (told l + 4)) = sum (l.take (told l + 4)) then 0 else 4
def piece (l : List Nat) : List Nat := (l.take (told l + 4)).drop 4
def upc (l : List Nat) : List Nat := if unfE l = 0 then piece l else []
def upn (l : List Nat) : Nat := if unfE l = 0 then told l + 8 else 0
def scn : Nat → List Nat → List (List Nat) × Nat × Nat
  | 0, _ => ([], 0, 0)
  | f + 1, l => if unfE l = 0 then (piece l :: (scn f (l.drop (told l + 8))).1, told l + 8 + (scn f (l.drop (told l + 8))).2.1, (scn f (l.drop (told l + 8))).2.2) else if unfE l = 5 then ([], 0, 0) else ([], 0, 4)

theorem unfE_cases (l : List Nat) : unfE l = 5 ∨ unfE l = 0 ∨ unfE l = 4 := by
  unfold unfE
  split
  · exact .inl rfl
  · split
    · exact .inr (.inr rfl)
    · split
      · exact .inl rfl
      · split
        · exact .inr (.inl rfl)
        · exact .inr (.inr rfl)
theorem unfE_ok {l : List Nat} (h : unfE l = 0) : told l ≤ 1048576 ∧ told l + 8 ≤ l.length := by
  unfold unfE at h
  split at h
  · cases h
  · split at h
    · cases h
    · split at h
      · cases h
      · omega
theorem told_lt {l : List Nat} (hl : ∀ b ∈ l, b < 256) : told l < 4294967296 := by
  have h1 : ∀ i, l.getD i 0 < 256 := fun i => by
    rw [List.getD_eq_getElem?_getD]
    cases hi : l[i]? with
    | none => simp
    | some b => simp; exact hl b (List.mem_of_getElem? hi)
  exact four_lt (h1 0) (h1 1) (h1 2) (h1 3)
theorem sumGo_lt : ∀ (l : List Nat) (x y : Nat), x < 65521 → y < 65521 → (sumGo l x y).1 < 65521 ∧ (sumGo l x y).2 < 65521
  | [], x, y, hx, hy => ⟨hx, hy⟩
  | c :: r, x, y, hx, hy => sumGo_lt r _ _ (Nat.mod_lt _ (by decide)) (Nat.mod_lt _ (by decide))
theorem sum_step {x c : Nat} (hx : x < 65521) (hc : c < 65536) : (iw (BitVec.ofNat 32 x + BitVec.ofNat 32 c)).tmod 65521 = iw (BitVec.ofNat 32 ((x + c) % 65521)) := by
  have h1 : iw (BitVec.ofNat 32 x + BitVec.ofNat 32 c) = ((x + c : Nat) : Int) := by
    rw [iw, BitVec.toNat_add, BitVec.toNat_ofNat, BitVec.toNat_ofNat]
    congr 1
    omega
  rw [h1, iw_ofNat (by omega)]
  exact tmod_nat _ 65521
theorem sum_end {x y : Nat} (hx : x < 65521) (hy : y < 65521) : iw ((BitVec.ofNat 32 y <<< 16 : W32) ||| BitVec.ofNat 32 x) = ((y * 65536 + x : Nat) : Int) := by
  rw [iw, BitVec.toNat_or, bv_shl8, BitVec.toNat_ofNat]
  have e1 : y * 2 ^ 16 % 4294967296 = y * 2 ^ 16 := Nat.mod_eq_of_lt (by omega)
  have e2 : x % 2 ^ 32 = x := Nat.mod_eq_of_lt (by omega)
  rw [e1, e2, or_of_lt (by omega)]
theorem sum_mul {y : Nat} (hy : y < 65521) : IntKind.u32.wrap (iw (BitVec.ofNat 32 y) * 65536) = iw (BitVec.ofNat 32 (y * 65536)) := by
  rw [iw_ofNat (by omega), iw_ofNat (by omega), wrap32_id (by omega) (by omega)]
  omega
theorem sum_end2 {x y : Nat} (hx : x < 65521) (hy : y < 65521) : iw (BitVec.ofNat 32 (y * 65536) + BitVec.ofNat 32 x) = ((y * 65536 + x : Nat) : Int) := by
  rw [iw, BitVec.toNat_add, BitVec.toNat_ofNat, BitVec.toNat_ofNat]
  congr 1
  omega

section
variable {S : Sums}
theorem bytes0 : bytesOf { data := #[] } = [] := rfl
theorem cv : ∀ (h : AH) (b : Nat), evConvert Tryz.prog h 5 76 (.int .u8 (b : Int)) = some (.val (.int .u32 (iw (BitVec.ofNat 32 b))) h) := fun h b => conv_w Tryz.underlying5 Tryz.underlying76 h b
theorem cv76 (h : AH) (n : Int) : evConvert Tryz.prog h 76 3 (.int .u32 n) = some (.val (.int .i64 (IntKind.i64.wrap n)) h) := by
  simp only [evConvert, Tryz.underlying76, Tryz.underlying3, val?]
theorem take4 {l : List Nat} (h4 : 4 ≤ l.length) : ∃ b0 b1 b2 b3 r, l = b0 :: b1 :: b2 :: b3 :: r := by
  match l, h4 with
  | b0 :: b1 :: b2 :: b3 :: r, _ => exact ⟨b0, b1, b2, b3, r, rfl⟩

set_option maxHeartbeats 4000000 in
theorem told37 (hS : ∀ f args h, f ≠ 4 → S f args h = none) {h : AH} {v : AV} {l : List Nat} (hb : Bs h v l) (h4 : 4 ≤ l.length) (hl : ∀ b ∈ l, b < 256) : RnC Tryz.prog S 37 [v] h fun r h' => r = .int .u32 (told l : Nat) ∧ Fr h h' := by
  obtain ⟨b0, b1, b2, b3, r, rfl⟩ := take4 h4
  rcases hb with ⟨rfl, h0⟩ | ⟨id, off, c, cs, o, tx, rfl, hg, hid, hlen, hc, hx⟩
  · cases h0
  · have q0 := bs_get hx (i := 0) rfl
    have q1 := bs_get hx (i := 1) rfl
    have q2 := bs_get hx (i := 2) rfl
    have q3 := bs_get hx (i := 3) rfl
    rw [Nat.add_zero] at q0
    have a0 : b0 < 256 := hl _ (by simp)
    have a1 : b1 < 256 := hl _ (by simp)
    have a2 : b2 < 256 := hl _ (by simp)
    have a3 : b3 < 256 := hl _ (by simp)
    refine RnC.enter' Tryz.f37 _ 25 [.tmp 2] (hS _ _ _ (by decide)) bd37 Tryz.func37 rfl rfl rfl ?_
    simp (maxSteps := 1000000) -dsimp (disch := first | omega | ((repeat first | rw [AH.nx_new] | rw [AH.nx_put]); done) | ((repeat first | rw [AH.nx_new] | rw [AH.nx_put]); omega)) only [go_sem, Int.reduceEq, Int.reduceNe, Int.reduceLT, Int.reduceLE, Int.reduceAdd, Int.reduceSub, Int.reduceMul, Int.reduceNeg, Int.reduceToNat, Nat.reducePow, reduceCtorEq, Nat.reduceEqDiff, Nat.reduceAdd, Nat.reduceLT, Nat.reduceLeDiff, Nat.reduceMul, Nat.reduceSub, Nat.reduceBEq, Int.reduceToNat]
    refine syDraw.go0 (by kernel_rfl) ?_
    simp (maxSteps := 1000000) -dsimp (disch := first | omega | ((repeat first | rw [AH.nx_new] | rw [AH.nx_put]); done) | ((repeat first | rw [AH.nx_new] | rw [AH.nx_put]); omega)) only [go_sem, Int.reduceEq, Int.reduceNe, Int.reduceLT, Int.reduceLE, Int.reduceAdd, Int.reduceSub, Int.reduceMul, Int.reduceNeg, Int.reduceToNat, Nat.reducePow, reduceCtorEq, Nat.reduceEqDiff, Nat.reduceAdd, Nat.reduceLT, Nat.reduceLeDiff, Nat.reduceMul, Nat.reduceSub, Nat.reduceBEq, Int.reduceToNat, Tryz.underlying22, Tryz.underlying5, tz5, hg, q0, q1, q2, q3, cv, Nat.mul_one]
    refine ⟨?_, (Fr.refl h).more _ (by omega)⟩
    rw [four_or a0 a1 a2 a3, iw_ofNat (four_lt a0 a1 a2 a3)]
    rfl

set_option maxHeartbeats 4000000 in
theorem told39 (hS : ∀ f args h, f ≠ 4 → S f args h = none) {h : AH} {v : AV} {l : List Nat} (hb : Bs h v l) (h4 : 4 ≤ l.length) (hl : ∀ b ∈ l, b < 256) : RnC Tryz.prog S 39 [v] h fun r h' => r = .int .u32 (told l : Nat) ∧ Fr h h' := by
  obtain ⟨b0, b1, b2, b3, r, rfl⟩ := take4 h4
  rcases hb with ⟨rfl, h0⟩ | ⟨id, off, c, cs, o, tx, rfl, hg, hid, hlen, hc, hx⟩
  · cases h0
  · have q0 := bs_get hx (i := 0) rfl
    have q1 := bs_get hx (i := 1) rfl
    have q2 := bs_get hx (i := 2) rfl
    have q3 := bs_get hx (i := 3) rfl
    rw [Nat.add_zero] at q0
    have a0 : b0 < 256 := hl _ (by simp)
    have a1 : b1 < 256 := hl _ (by simp)
    have a2 : b2 < 256 := hl _ (by simp)
    have a3 : b3 < 256 := hl _ (by simp)
    refine RnC.enter' Tryz.f39 _ 25 [.tmp 2] (hS _ _ _ (by decide)) bd39 Tryz.func39 rfl rfl rfl ?_
    simp (maxSteps := 1000000) -dsimp (disch := first | omega | ((repeat first | rw [AH.nx_new] | rw [AH.nx_put]); done) | ((repeat first | rw [AH.nx_new] | rw [AH.nx_put]); omega)) only [go_sem, Int.reduceEq, Int.reduceNe, Int.reduceLT, Int.reduceLE, Int.reduceAdd, Int.reduceSub, Int.reduceMul, Int.reduceNeg, Int.reduceToNat, Nat.reducePow, reduceCtorEq, Nat.reduceEqDiff, Nat.reduceAdd, Nat.reduceLT, Nat.reduceLeDiff, Nat.reduceMul, Nat.reduceSub, Nat.reduceBEq, Int.reduceToNat]
    refine syDraw.go0 (by kernel_rfl) ?_
    simp (maxSteps := 1000000) -dsimp (disch := first | omega | ((repeat first | rw [AH.nx_new] | rw [AH.nx_put]); done) | ((repeat first | rw [AH.nx_new] | rw [AH.nx_put]); omega)) only [go_sem, Int.reduceEq, Int.reduceNe, Int.reduceLT, Int.reduceLE, Int.reduceAdd, Int.reduceSub, Int.reduceMul, Int.reduceNeg, Int.reduceToNat, Nat.reducePow, reduceCtorEq, Nat.reduceEqDiff, Nat.reduceAdd, Nat.reduceLT, Nat.reduceLeDiff, Nat.reduceMul, Nat.reduceSub, Nat.reduceBEq, Int.reduceToNat, Tryz.underlying22, Tryz.underlying5, tz5, hg, q0, q1, q2, q3, cv, Nat.mul_one]
    refine ⟨?_, (Fr.refl h).more _ (by omega)⟩
    rw [four_add a0 a1 a2 a3, iw_ofNat (four_lt a0 a1 a2 a3)]
    rfl

set_option maxHeartbeats 4000000 in
theorem sum38 (hS : ∀ f args h, f ≠ 4 → S f args h = none) {h : AH} {v : AV} {l : List Nat} (hb : Bs h v l) (hl : ∀ b ∈ l, b < 256) (hn : l.length ≤ 1099511627776) : RnC Tryz.prog S 38 [v] h fun r h' => r = .int .u32 (sum l : Nat) ∧ Fr h h' := by
  refine RnC.enter' Tryz.f38 _ 27 [.tmp 2] (hS _ _ _ (by decide)) bd38 Tryz.func38 rfl rfl rfl ?_
  rcases hb with ⟨rfl, rfl⟩ | ⟨id, off, c, cs, o, tx, rfl, hg, hid, hlen, hc, hx⟩
  · simp (maxSteps := 1000000) -dsimp (disch := first | omega | ((repeat first | rw [AH.nx_new] | rw [AH.nx_put]); done) | ((repeat first | rw [AH.nx_new] | rw [AH.nx_put]); omega)) only [go_sem, Int.reduceEq, Int.reduceNe, Int.reduceLT, Int.reduceLE, Int.reduceAdd, Int.reduceSub, Int.reduceMul, Int.reduceNeg, Int.reduceToNat, Nat.reducePow, reduceCtorEq, Nat.reduceEqDiff, Nat.reduceAdd, Nat.reduceLT, Nat.reduceLeDiff, Nat.reduceMul, Nat.reduceSub, Nat.reduceBEq, Int.reduceToNat, Tryz.underlying22]
    refine loopK_unroll ?_
    simp (maxSteps := 1000000) -dsimp (disch := first | omega | ((repeat first | rw [AH.nx_new] | rw [AH.nx_put]); done) | ((repeat first | rw [AH.nx_new] | rw [AH.nx_put]); omega)) only [go_sem, Int.reduceEq, Int.reduceNe, Int.reduceLT, Int.reduceLE, Int.reduceAdd, Int.reduceSub, Int.reduceMul, Int.reduceNeg, Int.reduceToNat, Nat.reducePow, reduceCtorEq, Nat.reduceEqDiff, Nat.reduceAdd, Nat.reduceLT, Nat.reduceLeDiff, Nat.reduceMul, Nat.reduceSub, Nat.reduceBEq, Int.reduceToNat]
    exact ⟨by kernel_rfl, Fr.refl _⟩
  · simp (maxSteps := 1000000) -dsimp (disch := first | omega | ((repeat first | rw [AH.nx_new] | rw [AH.nx_put]); done) | ((repeat first | rw [AH.nx_new] | rw [AH.nx_put]); omega)) only [go_sem, Int.reduceEq, Int.reduceNe, Int.reduceLT, Int.reduceLE, Int.reduceAdd, Int.reduceSub, Int.reduceMul, Int.reduceNeg, Int.reduceToNat, Nat.reducePow, reduceCtorEq, Nat.reduceEqDiff, Nat.reduceAdd, Nat.reduceLT, Nat.reduceLeDiff, Nat.reduceMul, Nat.reduceSub, Nat.reduceBEq, Int.reduceToNat, Tryz.underlying22]
    refine loopK_of (RnL.rounds (Q := fun ex s => ex = .exit 0 ∧ Fr h s.h ∧ s.d = [] ∧ s.t.get 3 = some (.int .u32 (iw (BitVec.ofNat 32 (sumGo l 1 0).1))) ∧ s.t.get 4 = some (.int .u32 (iw (BitVec.ofNat 32 (sumGo l 1 0).2))))
      (fun m s => Fr h s.h ∧ s.d = [] ∧ s.t.get 7 = some (.sl id off l.length 1 c) ∧ s.t.get 8 = some (.int .i64 (l.length : Nat)) ∧ ∃ i x y : Nat, s.t.get 9 = some (.int .i64 (i : Nat)) ∧ s.t.get 3 = some (.int .u32 (iw (BitVec.ofNat 32 x))) ∧ s.t.get 4 = some (.int .u32 (iw (BitVec.ofNat 32 y))) ∧
        i ≤ l.length ∧ x < 65521 ∧ y < 65521 ∧ sumGo (l.drop i) x y = sumGo l 1 0 ∧ m = l.length - i) ?_ l.length ?_) ?_
    · rintro m ⟨t, h1, d⟩ ⟨e1, e2, g7, g8, i, x, y, g9, g3, g4, hi, hx3, hy4, hs, rfl⟩
      dsimp only at e1 e2 g7 g8 g9 g3 g4
      subst e2
      by_cases c1 : (i : Int) < (l.length : Nat)
      · have hil : i < l.length := by omega
        obtain ⟨b, hbi⟩ : ∃ b, l[i]? = some b := ⟨_, List.getElem?_eq_getElem hil⟩
        have hb256 : b < 256 := hl _ (List.mem_of_getElem? hbi)
        have q := bs_get hx hbi
        have hdrop : l.drop i = b :: l.drop (i + 1) := by rw [List.drop_eq_getElem_cons hil, (List.getElem?_eq_some_iff.1 hbi).2]
        have hg1 : h1.get id = some (.cells cs o tx) := (e1.get id hid).trans hg
        have hm1 := sum_step (x := x) (c := b) hx3 (by omega)
        have hm2 := sum_step (x := y) (c := (x + b) % 65521) hy4 (by omega)
        simp (maxSteps := 1000000) -dsimp (disch := first | omega | ((repeat first | rw [AH.nx_new] | rw [AH.nx_put]); done) | ((repeat first | rw [AH.nx_new] | rw [AH.nx_put]); omega)) only [go_sem, Int.reduceEq, Int.reduceNe, Int.reduceLT, Int.reduceLE, Int.reduceAdd, Int.reduceSub, Int.reduceMul, Int.reduceNeg, Int.reduceToNat, Nat.reducePow, reduceCtorEq, Nat.reduceEqDiff, Nat.reduceAdd, Nat.reduceLT, Nat.reduceLeDiff, Nat.reduceMul, Nat.reduceSub, Nat.reduceBEq, Int.reduceToNat, c1, g7, g8, g9, g3, g4, Tryz.underlying22, Tryz.underlying5, tz5, hg1, q, cv, hm1, hm2, Nat.mul_one]
        refine ⟨l.length - (i + 1), by omega, e1, trivial, trivial, trivial, i + 1, (x + b) % 65521, (y + (x + b) % 65521) % 65521, rfl, rfl, rfl, by omega, Nat.mod_lt _ (by decide), Nat.mod_lt _ (by decide), ?_, rfl⟩
        rw [← hs, hdrop]; rfl
      · obtain rfl : i = l.length := by omega
        simp (maxSteps := 1000000) -dsimp (disch := first | omega | ((repeat first | rw [AH.nx_new] | rw [AH.nx_put]); done) | ((repeat first | rw [AH.nx_new] | rw [AH.nx_put]); omega)) only [go_sem, Int.reduceEq, Int.reduceNe, Int.reduceLT, Int.reduceLE, Int.reduceAdd, Int.reduceSub, Int.reduceMul, Int.reduceNeg, Int.reduceToNat, Nat.reducePow, reduceCtorEq, Nat.reduceEqDiff, Nat.reduceAdd, Nat.reduceLT, Nat.reduceLeDiff, Nat.reduceMul, Nat.reduceSub, Nat.reduceBEq, Int.reduceToNat, c1, g7, g8, g9, g3, g4]
        rw [List.drop_length] at hs
        rw [← hs]
        exact ⟨trivial, e1, trivial, rfl, rfl⟩
    · simp (maxSteps := 1000000) -dsimp (disch := first | omega | ((repeat first | rw [AH.nx_new] | rw [AH.nx_put]); done) | ((repeat first | rw [AH.nx_new] | rw [AH.nx_put]); omega)) only [go_sem, Int.reduceEq, Int.reduceNe, Int.reduceLT, Int.reduceLE, Int.reduceAdd, Int.reduceSub, Int.reduceMul, Int.reduceNeg, Int.reduceToNat, Nat.reducePow, reduceCtorEq, Nat.reduceEqDiff, Nat.reduceAdd, Nat.reduceLT, Nat.reduceLeDiff, Nat.reduceMul, Nat.reduceSub, Nat.reduceBEq, Int.reduceToNat]
      exact ⟨Fr.refl _, trivial, trivial, trivial, 0, 1, 0, rfl, rfl, rfl, Nat.zero_le _, by decide, by decide, rfl, rfl⟩
    · rintro ex ⟨t, h1, d⟩ ⟨rfl, e1, rfl, g3, g4⟩
      dsimp only at e1 g3 g4
      simp (maxSteps := 1000000) -dsimp (disch := first | omega | ((repeat first | rw [AH.nx_new] | rw [AH.nx_put]); done) | ((repeat first | rw [AH.nx_new] | rw [AH.nx_put]); omega)) only [go_sem, Int.reduceEq, Int.reduceNe, Int.reduceLT, Int.reduceLE, Int.reduceAdd, Int.reduceSub, Int.reduceMul, Int.reduceNeg, Int.reduceToNat, Nat.reducePow, reduceCtorEq, Nat.reduceEqDiff, Nat.reduceAdd, Nat.reduceLT, Nat.reduceLeDiff, Nat.reduceMul, Nat.reduceSub, Nat.reduceBEq, Int.reduceToNat, g3, g4]
      refine ⟨?_, e1⟩
      obtain ⟨l1, l2⟩ := sumGo_lt l 1 0 (by decide) (by decide)
      rw [sum_end l1 l2]
      rfl

set_option maxHeartbeats 4000000 in
theorem sum40 (hS : ∀ f args h, f ≠ 4 → S f args h = none) {h : AH} {v : AV} {l : List Nat} (hb : Bs h v l) (hl : ∀ b ∈ l, b < 256) (hn : l.length ≤ 1099511627776) : RnC Tryz.prog S 40 [v] h fun r h' => r = .int .u32 (sum l : Nat) ∧ Fr h h' := by
  refine RnC.enter' Tryz.f40 _ 28 [.tmp 2] (hS _ _ _ (by decide)) bd40 Tryz.func40 rfl rfl rfl ?_
  rcases hb with ⟨rfl, rfl⟩ | ⟨id, off, c, cs, o, tx, rfl, hg, hid, hlen, hc, hx⟩
  · simp (maxSteps := 1000000) -dsimp (disch := first | omega | ((repeat first | rw [AH.nx_new] | rw [AH.nx_put]); done) | ((repeat first | rw [AH.nx_new] | rw [AH.nx_put]); omega)) only [go_sem, Int.reduceEq, Int.reduceNe, Int.reduceLT, Int.reduceLE, Int.reduceAdd, Int.reduceSub, Int.reduceMul, Int.reduceNeg, Int.reduceToNat, Nat.reducePow, reduceCtorEq, Nat.reduceEqDiff, Nat.reduceAdd, Nat.reduceLT, Nat.reduceLeDiff, Nat.reduceMul, Nat.reduceSub, Nat.reduceBEq, Int.reduceToNat, Tryz.underlying22]
    refine loopK_unroll ?_
    simp (maxSteps := 1000000) -dsimp (disch := first | omega | ((repeat first | rw [AH.nx_new] | rw [AH.nx_put]); done) | ((repeat first | rw [AH.nx_new] | rw [AH.nx_put]); omega)) only [go_sem, Int.reduceEq, Int.reduceNe, Int.reduceLT, Int.reduceLE, Int.reduceAdd, Int.reduceSub, Int.reduceMul, Int.reduceNeg, Int.reduceToNat, Nat.reducePow, reduceCtorEq, Nat.reduceEqDiff, Nat.reduceAdd, Nat.reduceLT, Nat.reduceLeDiff, Nat.reduceMul, Nat.reduceSub, Nat.reduceBEq, Int.reduceToNat, Tryz.underlying22]
    exact ⟨by kernel_rfl, Fr.refl _⟩
  · simp (maxSteps := 1000000) -dsimp (disch := first | omega | ((repeat first | rw [AH.nx_new] | rw [AH.nx_put]); done) | ((repeat first | rw [AH.nx_new] | rw [AH.nx_put]); omega)) only [go_sem, Int.reduceEq, Int.reduceNe, Int.reduceLT, Int.reduceLE, Int.reduceAdd, Int.reduceSub, Int.reduceMul, Int.reduceNeg, Int.reduceToNat, Nat.reducePow, reduceCtorEq, Nat.reduceEqDiff, Nat.reduceAdd, Nat.reduceLT, Nat.reduceLeDiff, Nat.reduceMul, Nat.reduceSub, Nat.reduceBEq, Int.reduceToNat, Tryz.underlying22]
    refine loopK_of (RnL.rounds (Q := fun ex s => ex = .exit 0 ∧ Fr h s.h ∧ s.d = [] ∧ s.t.get 3 = some (.int .u32 (iw (BitVec.ofNat 32 (sumGo l 1 0).1))) ∧ s.t.get 4 = some (.int .u32 (iw (BitVec.ofNat 32 (sumGo l 1 0).2))))
      (fun m s => Fr h s.h ∧ s.d = [] ∧ s.t.get 0 = some (.sl id off l.length 1 c) ∧ ∃ i x y : Nat, s.t.get 5 = some (.int .i64 (i : Nat)) ∧ s.t.get 3 = some (.int .u32 (iw (BitVec.ofNat 32 x))) ∧ s.t.get 4 = some (.int .u32 (iw (BitVec.ofNat 32 y))) ∧
        i ≤ l.length ∧ x < 65521 ∧ y < 65521 ∧ sumGo (l.drop i) x y = sumGo l 1 0 ∧ m = l.length - i) ?_ l.length ?_) ?_
    · rintro m ⟨t, h1, d⟩ ⟨e1, e2, g0, i, x, y, g5, g3, g4, hi, hx3, hy4, hs, rfl⟩
      dsimp only at e1 e2 g0 g5 g3 g4
      subst e2
      by_cases c1 : (i : Int) < (l.length : Nat)
      · have hil : i < l.length := by omega
        obtain ⟨b, hbi⟩ : ∃ b, l[i]? = some b := ⟨_, List.getElem?_eq_getElem hil⟩
        have hb256 : b < 256 := hl _ (List.mem_of_getElem? hbi)
        have q := bs_get hx hbi
        have hdrop : l.drop i = b :: l.drop (i + 1) := by rw [List.drop_eq_getElem_cons hil, (List.getElem?_eq_some_iff.1 hbi).2]
        have hg1 : h1.get id = some (.cells cs o tx) := (e1.get id hid).trans hg
        have hm1 := sum_step (x := x) (c := b) hx3 (by omega)
        have hm2 := sum_step (x := y) (c := (x + b) % 65521) hy4 (by omega)
        simp (maxSteps := 1000000) -dsimp (disch := first | omega | ((repeat first | rw [AH.nx_new] | rw [AH.nx_put]); done) | ((repeat first | rw [AH.nx_new] | rw [AH.nx_put]); omega)) only [go_sem, Int.reduceEq, Int.reduceNe, Int.reduceLT, Int.reduceLE, Int.reduceAdd, Int.reduceSub, Int.reduceMul, Int.reduceNeg, Int.reduceToNat, Nat.reducePow, reduceCtorEq, Nat.reduceEqDiff, Nat.reduceAdd, Nat.reduceLT, Nat.reduceLeDiff, Nat.reduceMul, Nat.reduceSub, Nat.reduceBEq, Int.reduceToNat, c1, g0, g5, g3, g4, Tryz.underlying22, Tryz.underlying5, tz5, hg1, q, cv, hm1, hm2, Nat.mul_one]
        refine ⟨l.length - (i + 1), by omega, e1, trivial, trivial, i + 1, (x + b) % 65521, (y + (x + b) % 65521) % 65521, rfl, rfl, rfl, by omega, Nat.mod_lt _ (by decide), Nat.mod_lt _ (by decide), ?_, rfl⟩
        rw [← hs, hdrop]; rfl
      · obtain rfl : i = l.length := by omega
        simp (maxSteps := 1000000) -dsimp (disch := first | omega | ((repeat first | rw [AH.nx_new] | rw [AH.nx_put]); done) | ((repeat first | rw [AH.nx_new] | rw [AH.nx_put]); omega)) only [go_sem, Int.reduceEq, Int.reduceNe, Int.reduceLT, Int.reduceLE, Int.reduceAdd, Int.reduceSub, Int.reduceMul, Int.reduceNeg, Int.reduceToNat, Nat.reducePow, reduceCtorEq, Nat.reduceEqDiff, Nat.reduceAdd, Nat.reduceLT, Nat.reduceLeDiff, Nat.reduceMul, Nat.reduceSub, Nat.reduceBEq, Int.reduceToNat, c1, g0, g5, g3, g4, Tryz.underlying22]
        rw [List.drop_length] at hs
        rw [← hs]
        exact ⟨trivial, e1, trivial, rfl, rfl⟩
    · simp (maxSteps := 1000000) -dsimp (disch := first | omega | ((repeat first | rw [AH.nx_new] | rw [AH.nx_put]); done) | ((repeat first | rw [AH.nx_new] | rw [AH.nx_put]); omega)) only [go_sem, Int.reduceEq, Int.reduceNe, Int.reduceLT, Int.reduceLE, Int.reduceAdd, Int.reduceSub, Int.reduceMul, Int.reduceNeg, Int.reduceToNat, Nat.reducePow, reduceCtorEq, Nat.reduceEqDiff, Nat.reduceAdd, Nat.reduceLT, Nat.reduceLeDiff, Nat.reduceMul, Nat.reduceSub, Nat.reduceBEq, Int.reduceToNat]
      exact ⟨Fr.refl _, trivial, trivial, 0, 1, 0, rfl, rfl, rfl, Nat.zero_le _, by decide, by decide, rfl, rfl⟩
    · rintro ex ⟨t, h1, d⟩ ⟨rfl, e1, rfl, g3, g4⟩
      dsimp only at e1 g3 g4
      obtain ⟨l1, l2⟩ := sumGo_lt l 1 0 (by decide) (by decide)
      have hm := sum_mul l2
      simp (maxSteps := 1000000) -dsimp (disch := first | omega | ((repeat first | rw [AH.nx_new] | rw [AH.nx_put]); done) | ((repeat first | rw [AH.nx_new] | rw [AH.nx_put]); omega)) only [go_sem, Int.reduceEq, Int.reduceNe, Int.reduceLT, Int.reduceLE, Int.reduceAdd, Int.reduceSub, Int.reduceMul, Int.reduceNeg, Int.reduceToNat, Nat.reducePow, reduceCtorEq, Nat.reduceEqDiff, Nat.reduceAdd, Nat.reduceLT, Nat.reduceLeDiff, Nat.reduceMul, Nat.reduceSub, Nat.reduceBEq, Int.reduceToNat, g3, g4, hm]
      refine ⟨?_, e1⟩
      rw [sum_end2 l1 l2]
      rfl

end
end Go.Proofs.YticccdaomgildaaGreatDoor.walScans
