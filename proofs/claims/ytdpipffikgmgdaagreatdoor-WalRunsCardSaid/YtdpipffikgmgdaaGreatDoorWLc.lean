/- What is put into bytes, continued: a number, a piece, a frame, frames. Conditions: those of its summaries. -/
import Derived.Test.YtdpipffikgmgdaaGreatDoorWLb
namespace Go.Proofs.YtdpipffikgmgdaaGreatDoor.tre
open Go Go.Abs Go.Abs.Wal Go.Proofs
set_option maxRecDepth 100000
set_option linter.unusedVariables false
set_option linter.unusedSimpArgs false

section
variable {S : Sums}
theorem bo1 {n0 : Nat} {h : AH} {c : Option Nat} {b : Nat} (hg : h.get n0 = some (.cells [.int .u8 (b : Int)] true false)) (hlt : n0 < h.nx) (hc : c = none ∨ c = some 1) : Bo n0 h (.sl n0 0 1 1 c) [b] :=
  ⟨n0, c, _, false, rfl, hg, hlt, Nat.le_refl _, rfl, Nat.le_refl _, hc⟩
theorem p128 : ∀ k : Nat, k < 3 → 128 ^ (3 - k) = 128 * 128 ^ (3 - (k + 1)) := by decide
set_option maxHeartbeats 4000000 in
theorem numC (hS : Wl S) {h : AH} {n : Nat} (hn : n < 2097152) : RnC Tryz.prog S 78 [.nilsl, .int .u64 (n : Nat)] h fun r h' => ∃ l, Bn h.nx h' r l ∧ l.length ≤ 3 ∧ Fr h h' := by
  refine RnC.enter' Tryz.f78 _ 28 [.tmp 4] (hS.nw _ _ _ (by simp)) bd78 Tryz.func78 rfl rfl rfl ?_
  simp (maxSteps := 1000000) -dsimp (disch := (repeat first | rw [AH.nx_new] | rw [AH.nx_put]); first | done | omega) only [go_sem, evLen, Int.reduceEq, Int.reduceNe, Int.reduceLT, Int.reduceLE, Int.reduceAdd, Int.reduceSub, Int.reduceMul, Int.reduceNeg, Int.reduceToNat, Nat.reducePow, reduceCtorEq, Nat.reduceEqDiff, Nat.reduceAdd, Nat.reduceLT, Nat.reduceLeDiff, Nat.reduceMul, Nat.reduceSub, Nat.reduceBEq]
  refine loopK_of (RnL.rounds (Q := fun ex u => ex = .exit 0 ∧ u.d = [] ∧ Fr h u.h ∧ u.t.get 0 = some .nilsl ∧ ∃ v l, u.t.get 5 = some v ∧ Bo h.nx u.h v l ∧ 1 ≤ l.length ∧ l.length ≤ 3)
    (fun m u => u.d = [] ∧ Fr h u.h ∧ u.t.get 0 = some .nilsl ∧ ∃ (v : AV) (l : List Nat) (x : Nat), u.t.get 5 = some v ∧ Bn h.nx u.h v l ∧ u.t.get 1 = some (.int .u64 (x : Nat)) ∧ x < 128 ^ (3 - l.length) ∧ l.length < 3 ∧ m = 3 - l.length) ?_ 3 ?_) ?_
  · rintro m ⟨t, g, d⟩ ⟨e2, e1, g0, v, l, x, g5, hb, g1, hx, hl, rfl⟩
    dsimp only at e1 e2 g0 g5 hb g1
    subst e2
    have hx2 : x < 2097152 := by
      have : 128 ^ (3 - l.length) ≤ 128 ^ 3 := Nat.pow_le_pow_right (by decide) (by omega)
      omega
    have q1 := fun h t => and127 h t x (by omega)
    have q2 := fun h => cv8 h (x % 128)
    obtain ⟨y, q3⟩ : ∃ y : Nat, ∀ h t, binA Tryz.prog h .or t (.int .u8 ((x % 128 % 256 : Nat) : Int)) (.int .u8 128) = some (.int .u8 (y : Nat)) := by
      obtain ⟨y, hy⟩ := or128 g 0 (x % 128 % 256)
      exact ⟨y, fun h t => (by rw [← hy]; rfl)⟩
    have hne : ∀ id off n sz c, v = .sl id off n sz c → id < g.nx := fun id off n sz c hh => by
      rcases hb with ⟨hv, _⟩ | ⟨id', c', cs, tx, hv, _, hlt, _⟩
      · rw [hv] at hh; cases hh
      · rw [hv] at hh; cases hh; exact hlt
    obtain ⟨v2, h2, ha, hf, hb2⟩ := Bn.app (h0 := h) (h := g.new (.cells [.int .u8 (y : Int)] true false)) (x := .sl g.nx 0 1 1 (some 1)) (m := [y]) (hb.fr (Fr.new _ _)) (Bo.bs (bo1 (AH.get_new_eq rfl) (Nat.lt_succ_self _) (.inr rfl))) (e1.news _) (by simp; omega)
    have hlen : (l ++ [y]).length = l.length + 1 := by simp
    have ov := (bsLn hb2.bs).2.2
    have hb3 : Bo h.nx h2 v2 (l ++ [y]) := by
      rcases hb2 with ⟨_, h9⟩ | h9
      · simp at h9
      · exact h9
    by_cases c : ((x / 128 : Nat) : Int) = 0
    · simp (maxSteps := 1000000) -dsimp (disch := (repeat first | rw [AH.nx_new] | rw [AH.nx_put]); first | done | omega) only [go_sem, evLen, Int.reduceEq, Int.reduceNe, Int.reduceLT, Int.reduceLE, Int.reduceAdd, Int.reduceSub, Int.reduceMul, Int.reduceNeg, Int.reduceToNat, Nat.reducePow, reduceCtorEq, Nat.reduceEqDiff, Nat.reduceAdd, Nat.reduceLT, Nat.reduceLeDiff, Nat.reduceMul, Nat.reduceSub, Nat.reduceBEq, g0, g5, g1, q1, q2, q3, shr7, ha, ov, c, Tryz.underlying55, Tryz.underlying5, tz5]
      exact ⟨trivial, trivial, hf, trivial, v2, _, rfl, hb3, by omega, by omega⟩
    · simp (maxSteps := 1000000) -dsimp (disch := (repeat first | rw [AH.nx_new] | rw [AH.nx_put]); first | done | omega) only [go_sem, evLen, Int.reduceEq, Int.reduceNe, Int.reduceLT, Int.reduceLE, Int.reduceAdd, Int.reduceSub, Int.reduceMul, Int.reduceNeg, Int.reduceToNat, Nat.reducePow, reduceCtorEq, Nat.reduceEqDiff, Nat.reduceAdd, Nat.reduceLT, Nat.reduceLeDiff, Nat.reduceMul, Nat.reduceSub, Nat.reduceBEq, g0, g5, g1, q1, q2, q3, shr7, ha, ov, c, Tryz.underlying55, Tryz.underlying5, tz5]
      have hp := p128 l.length hl
      have hx3 : x / 128 < 128 ^ (3 - (l.length + 1)) := by
        rw [Nat.div_lt_iff_lt_mul (by decide), Nat.mul_comm, ← hp]; exact hx
      have hl3 : l.length + 1 < 3 := by
        refine Decidable.byContradiction fun hh => ?_
        have : 3 - (l.length + 1) = 0 := by omega
        rw [this] at hx3
        omega
      refine ⟨3 - (l.length + 1), by omega, trivial, hf, trivial, v2, l ++ [y], x / 128, rfl, .inr hb3, rfl, by rw [hlen]; exact hx3, by rw [hlen]; exact hl3, by rw [hlen]⟩
  · simp (maxSteps := 1000000) -dsimp (disch := (repeat first | rw [AH.nx_new] | rw [AH.nx_put]); first | done | omega) only [go_sem, evLen, Int.reduceEq, Int.reduceNe, Int.reduceLT, Int.reduceLE, Int.reduceAdd, Int.reduceSub, Int.reduceMul, Int.reduceNeg, Int.reduceToNat, Nat.reducePow, reduceCtorEq, Nat.reduceEqDiff, Nat.reduceAdd, Nat.reduceLT, Nat.reduceLeDiff, Nat.reduceMul, Nat.reduceSub, Nat.reduceBEq]
    exact ⟨trivial, Fr.refl _, trivial, .nilsl, [], n, rfl, .inl ⟨rfl, rfl⟩, rfl, hn, by decide, rfl⟩
  · rintro ex ⟨t, g, d⟩ ⟨rfl, rfl, e1, g0, v, l, g5, hb, hl⟩
    dsimp only at e1 g0 g5 hb
    obtain ⟨id, c, cs, tx, rfl, h2, h3, h4, h5, h6, h7⟩ := hb
    obtain ⟨a, r, rfl⟩ : ∃ a r, l = a :: r := by
      cases l with
      | nil => simp at hl
      | cons a r => exact ⟨a, r, rfl⟩
    obtain ⟨x, cr, rfl⟩ : ∃ x cr, cs = x :: cr := by
      cases cs with
      | nil => simp at h6
      | cons x cr => exact ⟨x, cr, rfl⟩
    have hxa : x = .int .u8 (a : Int) ∧ cr.take r.length = byC r := by
      simpa [byC] using h5
    obtain ⟨rfl, hcr⟩ := hxa
    obtain ⟨y, q3⟩ : ∃ y : Nat, ∀ h t, binA Tryz.prog h .and t (.int .u8 (a : Int)) (.int .u8 127) = some (.int .u8 (y : Nat)) := by
      obtain ⟨y, hy⟩ := and7 g 0 a
      exact ⟨y, fun h t => (by rw [← hy]; rfl)⟩
    have hz : ¬ r.length + 1 = 0 := by omega
    simp (maxSteps := 1000000) -dsimp (disch := (repeat first | rw [AH.nx_new] | rw [AH.nx_put]); first | done | omega) only [go_sem, evLen, Int.reduceEq, Int.reduceNe, Int.reduceLT, Int.reduceLE, Int.reduceAdd, Int.reduceSub, Int.reduceMul, Int.reduceNeg, Int.reduceToNat, Nat.reducePow, reduceCtorEq, Nat.reduceEqDiff, Nat.reduceAdd, Nat.reduceLT, Nat.reduceLeDiff, Nat.reduceMul, Nat.reduceSub, Nat.reduceBEq, g0, g5, h2, q3, tz5, Tryz.underlying55, Tryz.underlying5]
    have hb2 : Bo h.nx (g.put id (.cells (.int .u8 (y : Int) :: cr) true tx)) (.sl id 0 (r.length + 1) 1 c) (y :: r) := ⟨id, c, _, tx, rfl, AH.get_put_eq rfl, h3, h4, by simpa [byC] using hcr, by simpa using h6, by simpa using h7⟩
    refine callK_of (revC hS hb2 (by simpa using hl)) ?_
    rintro r1 g1 ⟨rfl, l', hb3, hl3, hn3, ho3⟩
    have f1 : Fr h g1 := ⟨Nat.le_trans e1.nx hn3, fun j hj => (ho3 j hj).trans ((AH.get_put_ne (by omega)).trans (e1.get j hj))⟩
    refine callK_of (cloneC hS.toSt (h := g1) (l := []) (.inl ⟨rfl, rfl⟩) (by simp)) ?_
    rintro r2 g2 ⟨hb4, f2⟩
    have hl4 : l'.length ≤ 3 := by rw [hl3]; simpa using hl.2
    obtain ⟨v5, h5', ha5, hf5, hb5⟩ := Bn.app (h0 := g1) hb4 (hb3.bs.fr f2) f2 (by simp; omega)
    have ov2 := (bsLn hb4.bs).2.2
    have ov5 := (bsLn hb5.bs).2.2
    simp (maxSteps := 1000000) -dsimp (disch := (repeat first | rw [AH.nx_new] | rw [AH.nx_put]); first | done | omega) only [go_sem, evLen, Int.reduceEq, Int.reduceNe, Int.reduceLT, Int.reduceLE, Int.reduceAdd, Int.reduceSub, Int.reduceMul, Int.reduceNeg, Int.reduceToNat, Nat.reducePow, reduceCtorEq, Nat.reduceEqDiff, Nat.reduceAdd, Nat.reduceLT, Nat.reduceLeDiff, Nat.reduceMul, Nat.reduceSub, Nat.reduceBEq, g0, g5, ha5, ov2, ov5]
    refine ⟨l', ?_, ?_, f1.trans hf5⟩
    · simp only [List.nil_append] at hb5
      rcases hb5 with hh | ⟨id', c', cs', tx', q1, q2, q3', q4, q5⟩
      · exact .inl hh
      · exact .inr ⟨id', c', cs', tx', q1, q2, q3', Nat.le_trans f1.nx q4, q5⟩
    · exact hl4
theorem pieceC (hS : Wl S) {h : AH} {s : List Nat} (hs : s.length ≤ 1048576) : RnC Tryz.prog S 57 [.nilsl, .str s] h fun r h' => (∃ v, r = .tup [v, .int .i64 0] ∧ oneA v = true) ∧ Fr h h' := by
  refine RnC.enter' Tryz.f57 _ 16 [.tmp 4, .tmp 5] (hS.nw _ _ _ (by simp)) bd57 Tryz.func57 rfl rfl rfl ?_
  have c1 : ¬ (1048576 : Int) < (s.length : Nat) := by omega
  have ls : ∀ g : AH, evLen Tryz.prog g #[9] (.str s) = some (.int .i64 (s.length : Nat)) := fun g => by simp [evLen, Tryz.underlying9]
  simp (maxSteps := 1000000) -dsimp (disch := (repeat first | rw [AH.nx_new] | rw [AH.nx_put]); first | done | omega) only [go_sem, Int.reduceEq, Int.reduceNe, Int.reduceLT, Int.reduceLE, Int.reduceAdd, Int.reduceSub, Int.reduceMul, Int.reduceNeg, Int.reduceToNat, Nat.reducePow, reduceCtorEq, Nat.reduceEqDiff, Nat.reduceAdd, Nat.reduceLT, Nat.reduceLeDiff, Nat.reduceMul, Nat.reduceSub, Nat.reduceBEq, c1, ls, cv64]
  refine callK_of (numC hS (n := s.length) (by omega)) ?_
  rintro r h2 ⟨l, hb, hl, hf⟩
  have ob := (bsLn hb.bs).2.2
  obtain ⟨s1, s2⟩ := str_first h2 s
  obtain ⟨v3, h3, ha, hf3, hb3⟩ := Bn.appG (h0 := h) (d := .string) Tryz.underlying9 rfl hb s1 s2 hf (by omega)
  have ob3 := (bsLn hb3.bs).2.2
  simp (maxSteps := 1000000) -dsimp (disch := (repeat first | rw [AH.nx_new] | rw [AH.nx_put]); first | done | omega) only [go_sem, Int.reduceEq, Int.reduceNe, Int.reduceLT, Int.reduceLE, Int.reduceAdd, Int.reduceSub, Int.reduceMul, Int.reduceNeg, Int.reduceToNat, Nat.reducePow, reduceCtorEq, Nat.reduceEqDiff, Nat.reduceAdd, Nat.reduceLT, Nat.reduceLeDiff, Nat.reduceMul, Nat.reduceSub, Nat.reduceBEq, ha, ob, ob3]
  exact ⟨⟨v3, rfl, ob3⟩, hf3⟩
theorem sh32 (h : AH) (t : TypeId) (k : IntKind) (n : Nat) : binA Tryz.prog h .shr t (.int .u32 (n : Nat)) (.int k 24) = some (.int .u32 ((n / 16777216 : Nat) : Int)) ∧ binA Tryz.prog h .shr t (.int .u32 (n : Nat)) (.int k 16) = some (.int .u32 ((n / 65536 : Nat) : Int)) ∧ binA Tryz.prog h .shr t (.int .u32 (n : Nat)) (.int k 8) = some (.int .u32 ((n / 256 : Nat) : Int)) := by
  refine ⟨?_, ?_, ?_⟩
  · rw [binA_shr, if_neg (by decide)]
    show some (AV.int .u32 ((n : Int).fdiv 16777216)) = _
    rw [Int.fdiv_eq_ediv_of_nonneg _ (by decide)]
    congr 2
  · rw [binA_shr, if_neg (by decide)]
    show some (AV.int .u32 ((n : Int).fdiv 65536)) = _
    rw [Int.fdiv_eq_ediv_of_nonneg _ (by decide)]
    congr 2
  · rw [binA_shr, if_neg (by decide)]
    show some (AV.int .u32 ((n : Int).fdiv 256)) = _
    rw [Int.fdiv_eq_ediv_of_nonneg _ (by decide)]
    congr 2
theorem cv328 (h : AH) (n : Nat) : evConvert Tryz.prog h 92 5 (.int .u32 (n : Nat)) = some (.val (.int .u8 ((n % 256 : Nat) : Int)) h) := by
  have : IntKind.u8.wrap ((n : Nat) : Int) = ((n % 256 : Nat) : Int) := by
    show ((n : Nat) : Int) % 256 = _
    omega
  simp only [evConvert, Tryz.underlying92, Tryz.underlying5, val?, this]
theorem fourC (hS : Wl S) {h : AH} {n : Nat} : RnC Tryz.prog S 59 [.int .u32 (n : Nat)] h fun r h' => Bn h.nx h' r (fourB n) ∧ Fr h h' := by
  refine RnC.enter' Tryz.f59 _ 15 [.tmp 2] (hS.nw _ _ _ (by simp)) bd59 Tryz.func59 rfl rfl rfl ?_
  have q1 := fun h t k => (sh32 h t k n).1
  have q2 := fun h t k => (sh32 h t k n).2.1
  have q3 := fun h t k => (sh32 h t k n).2.2
  simp (maxSteps := 1000000) -dsimp (disch := (repeat first | rw [AH.nx_new] | rw [AH.nx_put]); first | done | omega) only [go_sem, evLen, Int.reduceEq, Int.reduceNe, Int.reduceLT, Int.reduceLE, Int.reduceAdd, Int.reduceSub, Int.reduceMul, Int.reduceNeg, Int.reduceToNat, Nat.reducePow, reduceCtorEq, Nat.reduceEqDiff, Nat.reduceAdd, Nat.reduceLT, Nat.reduceLeDiff, Nat.reduceMul, Nat.reduceSub, Nat.reduceBEq, q1, q2, q3, cv328, tz5, zc5, Tryz.underlying55]
  exact ⟨.inr ⟨h.nx, _, _, _, rfl, AH.get_new_eq rfl, Nat.lt_succ_self _, Nat.le_refl _, by rfl, by simp [fourB], .inr rfl⟩, Fr.new _ _⟩
theorem joinC (hS : Wl S) {h : AH} {id : Nat} {c : Option Nat} {o t : Bool} {x y : AV} {l m : List Nat} (hg : h.get id = some (.cells [x, y] o t)) (hid : id < h.nx) (hx : Bs h x l) (hy : Bs h y m) (hl : l.length + m.length ≤ 1073741824) :
    RnC Tryz.prog S 58 [.sl id 0 2 1 c] h fun r h' => Bn h.nx h' r (l ++ m) ∧ Fr h h' := by
  refine RnC.enter' Tryz.f58 _ 5 [.tmp 2] (hS.nw _ _ _ (by simp)) bd58 Tryz.func58 rfl rfl rfl ?_
  simp (maxSteps := 1000000) -dsimp (disch := (repeat first | rw [AH.nx_new] | rw [AH.nx_put]); first | done | omega) only [go_sem, Int.reduceEq, Int.reduceNe, Int.reduceLT, Int.reduceLE, Int.reduceAdd, Int.reduceSub, Int.reduceMul, Int.reduceNeg, Int.reduceToNat, Nat.reducePow, reduceCtorEq, Nat.reduceEqDiff, Nat.reduceAdd, Nat.reduceLT, Nat.reduceLeDiff, Nat.reduceMul, Nat.reduceSub, Nat.reduceBEq]
  refine callK_of (concatC hS.toSt hg hid hx hy hl) ?_
  rintro r h2 ⟨hb, hf⟩
  exact ⟨hb, hf⟩
theorem cv32 (h : AH) (n : Nat) (hn : n < 4294967296) : evConvert Tryz.prog h 3 92 (.int .i64 (n : Nat)) = some (.val (.int .u32 (n : Nat)) h) := by
  have : IntKind.u32.wrap ((n : Nat) : Int) = ((n : Nat) : Int) := by
    show ((n : Nat) : Int) % 4294967296 = _
    omega
  simp only [evConvert, Tryz.underlying3, Tryz.underlying92, val?, this]
theorem cvStr (h : AH) (s : List Nat) : evConvert Tryz.prog h 9 55 (.str s) = some (.val (.sl h.nx 0 s.length 1 none) (h.new (.cells (byC s) true true))) := by
  simp only [evConvert, Tryz.underlying9, Tryz.underlying55, Tryz.underlying5, newCells, byC]
theorem bsStr (h : AH) (s : List Nat) : Bs (h.new (.cells (byC s) true true)) (.sl h.nx 0 s.length 1 none) s :=
  .inr ⟨h.nx, 0, none, byC s, true, true, rfl, AH.get_new_eq rfl, Nat.lt_succ_self _, by rw [byC_length]; omega, fun k hk => (by cases hk), by rw [List.drop_zero, ← byC_length s, List.take_length]⟩
set_option maxHeartbeats 4000000 in
theorem frameC (hS : Wl S) {h : AH} {s : List Nat} (hs : s.length ≤ 1048576) (hb : ∀ b ∈ s, b < 256) : RnC Tryz.prog S 26 [.str s] h fun r h' => ∃ v, r = .tup [v, .int .i64 0] ∧ Bn h.nx h' v (frm s) ∧ Fr h h' := by
  refine RnC.enter' Tryz.f26 _ 29 [.tmp 2, .tmp 3] (hS.nw _ _ _ (by simp)) bd26 Tryz.func26 rfl rfl rfl ?_
  have ls : ∀ g : AH, evLen Tryz.prog g #[9] (.str s) = some (.int .i64 (s.length : Nat)) := fun g => by simp [evLen, Tryz.underlying9]
  simp (maxSteps := 1000000) -dsimp (disch := (repeat first | rw [AH.nx_new] | rw [AH.nx_put]); first | done | omega) only [go_sem, Int.reduceEq, Int.reduceNe, Int.reduceLT, Int.reduceLE, Int.reduceAdd, Int.reduceSub, Int.reduceMul, Int.reduceNeg, Int.reduceToNat, Nat.reducePow, reduceCtorEq, Nat.reduceEqDiff, Nat.reduceAdd, Nat.reduceLT, Nat.reduceLeDiff, Nat.reduceMul, Nat.reduceSub, Nat.reduceBEq]
  refine callK_of (pieceC hS hs) ?_
  rintro r h2 ⟨⟨v, rfl, ov⟩, f2⟩
  have q1 := fun h => cv32 h s.length (by omega)
  simp (maxSteps := 1000000) -dsimp (disch := (repeat first | rw [AH.nx_new] | rw [AH.nx_put]); first | done | omega) only [go_sem, Int.reduceEq, Int.reduceNe, Int.reduceLT, Int.reduceLE, Int.reduceAdd, Int.reduceSub, Int.reduceMul, Int.reduceNeg, Int.reduceToNat, Nat.reducePow, reduceCtorEq, Nat.reduceEqDiff, Nat.reduceAdd, Nat.reduceLT, Nat.reduceLeDiff, Nat.reduceMul, Nat.reduceSub, Nat.reduceBEq, ov, ls, q1]
  refine callK_of (fourC hS) ?_
  rintro r h3 ⟨hb3, f3⟩
  have o3 := (bsLn hb3.bs).2.2
  have c3 := bsCells hb3.bs
  have f4 : Fr h3 (h3.new (.cells (byC s) true true)) := Fr.new _ _
  have f5 : Fr h3 ((h3.new (.cells (byC s) true true)).new (.cells [r, .sl h3.nx 0 s.length 1 none] true false)) := f4.news _
  simp (maxSteps := 1000000) -dsimp (disch := (repeat first | rw [AH.nx_new] | rw [AH.nx_put]); first | done | omega) only [go_sem, Int.reduceEq, Int.reduceNe, Int.reduceLT, Int.reduceLE, Int.reduceAdd, Int.reduceSub, Int.reduceMul, Int.reduceNeg, Int.reduceToNat, Nat.reducePow, reduceCtorEq, Nat.reduceEqDiff, Nat.reduceAdd, Nat.reduceLT, Nat.reduceLeDiff, Nat.reduceMul, Nat.reduceSub, Nat.reduceBEq, o3, c3, cvStr, tz55, zc55, Tryz.underlying104]
  refine callK_of (joinC hS (id := h3.nx + 1) (x := r) (y := .sl h3.nx 0 s.length 1 none) (l := fourB s.length) (m := s) (AH.get_new_eq rfl) (Nat.lt_succ_self _) (hb3.bs.fr f5) ((bsStr h3 s).fr (Fr.new _ _)) (by simp [fourB]; omega)) ?_
  rintro r6 h6 ⟨hb6, f6⟩
  have o6 := (bsLn hb6.bs).2.2
  have c6 := bsCells hb6.bs
  have h4 : ∀ n, ∀ b ∈ fourB n, b < 256 := fun n b hb => by
    simp only [fourB, List.mem_cons, List.not_mem_nil, or_false] at hb
    omega
  refine callK_of (sumC hS hb6.bs (fun b hm => by
    rcases List.mem_append.1 hm with h1 | h1
    · exact h4 _ b h1
    · exact hb b h1) (by simp [fourB]; omega)) ?_
  rintro r7 h7 ⟨rfl, f7⟩
  refine callK_of (fourC hS) ?_
  rintro r8 h8 ⟨hb8, f8⟩
  have o8 := (bsLn hb8.bs).2.2
  have c8 := bsCells hb8.bs
  simp (maxSteps := 1000000) -dsimp (disch := (repeat first | rw [AH.nx_new] | rw [AH.nx_put]); first | done | omega) only [go_sem, Int.reduceEq, Int.reduceNe, Int.reduceLT, Int.reduceLE, Int.reduceAdd, Int.reduceSub, Int.reduceMul, Int.reduceNeg, Int.reduceToNat, Nat.reducePow, reduceCtorEq, Nat.reduceEqDiff, Nat.reduceAdd, Nat.reduceLT, Nat.reduceLeDiff, Nat.reduceMul, Nat.reduceSub, Nat.reduceBEq, o6, c6, o8, c8, tz55, zc55, Tryz.underlying104]
  refine callK_of (joinC hS (id := h8.nx) (x := r6) (y := r8) (l := fourB s.length ++ s) (m := fourB (sum (fourB s.length ++ s))) (AH.get_new_eq rfl) (Nat.lt_succ_self _) (hb6.bs.fr ((f7.trans f8).news _)) (hb8.bs.fr (Fr.new _ _)) (by simp [fourB]; omega)) ?_
  rintro r9 h9 ⟨hb9, f9⟩
  have fa : Fr h h8 := ((f2.trans f3).trans f5).trans ((f6.trans f7).trans f8)
  refine ⟨r9, rfl, ?_, (fa.news _).trans f9⟩
  have e : fourB s.length ++ s ++ fourB (sum (fourB s.length ++ s)) = frm s := rfl
  rw [e] at hb9
  rcases hb9 with hh | ⟨id', c', cs', tx', q1, q2, q3', q4, q5⟩
  · exact .inl hh
  · exact .inr ⟨id', c', cs', tx', q1, q2, q3', Nat.le_trans (fa.news _).nx q4, q5⟩
end
end Go.Proofs.YtdpipffikgmgdaaGreatDoor.tre
