/- What is put into bytes: numbers, pieces, frames. Conditions: those of its summaries. -/
import Derived.Test.YtdpipffikgmgdaaGreatDoorWLa
import Derived.Test.YtdpipffikgmgdaaGreatDoorAb7
namespace Go.Proofs.YtdpipffikgmgdaaGreatDoor.tre
open Go Go.Abs Go.Abs.Wal Go.Proofs
set_option maxRecDepth 100000
set_option linter.unusedVariables false
set_option linter.unusedSimpArgs false

theorem Bn.appG {xt : TypeId} {d : TypeDesc} {h0 h : AH} {v x : AV} {l m : List Nat} (hd : Tryz.prog.underlying xt = some d) (hni : notInt d = true) (hb : Bn h0.nx h v l) (hn : lenA x = some m.length) (hnew : firstA h 1 m.length x = some (byC m)) (hf : Fr h0 h) (hl : l.length + m.length ≤ 1073741824) :
    ∃ v' h', evAppend Tryz.prog h #[55, xt] v x = some (.val v' h') ∧ Fr h0 h' ∧ Bn h0.nx h' v' (l ++ m) := by
  rcases hb with ⟨rfl, rfl⟩ | ⟨id, c, cs, tx, rfl, h2, h3, h4, h5, h6, h7⟩
  · rw [evAppend_eq (len := 0) (old := []) Tryz.underlying55 hd hni ai5 hn hnew rfl rfl (byC_all m) (by omega) (by omega) rfl]
    by_cases hm : m.length = 0
    · rw [if_pos hm]
      have : m = [] := List.length_eq_zero_iff.1 hm
      subst this
      exact ⟨_, _, rfl, hf, .inl ⟨rfl, rfl⟩⟩
    · rw [if_neg hm]
      exact ⟨_, _, rfl, hf.news _, .inr ⟨h.nx, none, byC m, false, by simp, AH.get_new_eq rfl, Nat.lt_succ_self _, hf.nx, by rw [List.nil_append, ← byC_length m, List.take_length], by rw [List.nil_append, byC_length]; exact Nat.le_refl _, .inl rfl⟩⟩
  · have hold : firstA h 1 l.length (.sl id 0 l.length 1 c) = some (byC l) := by
      rw [firstA_sl h2 (Nat.le_refl _) (by omega), List.drop_zero, Nat.mul_one, h5]
    rw [evAppend_eq Tryz.underlying55 hd hni ai5 hn hnew rfl hold (byC_all m) (by omega) (by omega) rfl]
    by_cases hm : m.length = 0
    · rw [if_pos hm]
      have : m = [] := List.length_eq_zero_iff.1 hm
      subst this
      exact ⟨_, _, rfl, hf, .inr ⟨id, c, cs, tx, by simp, h2, h3, h4, by simpa using h5, by simpa using h6, by simpa using h7⟩⟩
    · rw [if_neg hm]
      have hlm : (l ++ m).length = l.length + m.length := by simp
      have hby : byC l ++ byC m = byC (l ++ m) := by simp [byC]
      have fin : ∀ (g : AH) (tf : Bool), Fr h0 g → g.nx = h.nx → ∃ v' h', newCells g (byC l ++ byC m) tf (fun id => .sl id 0 (l.length + m.length) 1 none) = some (.val v' h') ∧ Fr h0 h' ∧ Bn h0.nx h' v' (l ++ m) := fun g tf hg hgn =>
        ⟨_, _, rfl, hg.news _, .inr ⟨g.nx, none, byC l ++ byC m, tf, by rw [hlm], AH.get_new_eq rfl, Nat.lt_succ_self _, hg.nx, by rw [hby, ← byC_length (l ++ m), List.take_length], by rw [hby, byC_length]; exact Nat.le_refl _, .inl rfl⟩⟩
      rcases h7 with rfl | rfl
      · simp only
        rw [if_pos (by simp [ownBlock, h2])]
        exact fin _ _ (hf.del h4) rfl
      · simp only
        rw [if_pos (by omega)]
        exact fin _ _ hf rfl
theorem str_first (h : AH) (s : List Nat) : lenA (.str s) = some s.length ∧ firstA h 1 s.length (.str s) = some (byC s) := by
  refine ⟨rfl, ?_⟩
  simp [firstA, byC]
/-! ### Numbers -/
theorem and127 (h : AH) (t : TypeId) (n : Nat) (hn : n < 18446744073709551616) : binA Tryz.prog h .and t (.int .u64 (n : Nat)) (.int .u64 127) = some (.int .u64 ((n % 128 : Nat) : Int)) := by
  have e : (BitVec.ofInt 64 (n : Int) &&& BitVec.ofInt 64 127).toNat = n % 128 := by
    rw [BitVec.toNat_and, BitVec.ofInt_natCast, BitVec.toNat_ofNat, Nat.mod_eq_of_lt hn]
    exact Nat.and_two_pow_sub_one_eq_mod n 7
  have e2 : IntKind.u64.wrap ((n % 128 : Nat) : Int) = ((n % 128 : Nat) : Int) := by
    show ((n % 128 : Nat) : Int) % 18446744073709551616 = _
    omega
  rw [binA_and]
  show some (AV.int .u64 (IntKind.u64.wrap ((BitVec.ofInt 64 (n : Int) &&& BitVec.ofInt 64 127).toNat : Int))) = _
  rw [e, e2]
theorem shr7 (h : AH) (t : TypeId) (k : IntKind) (n : Nat) : binA Tryz.prog h .shr t (.int .u64 (n : Nat)) (.int k 7) = some (.int .u64 ((n / 128 : Nat) : Int)) := by
  rw [binA_shr, if_neg (by decide)]
  show some (AV.int .u64 ((n : Int).fdiv 128)) = _
  rw [Int.fdiv_eq_ediv_of_nonneg _ (by decide)]
  congr 2
theorem cv64 (h : AH) (n : Nat) (hn : n < 18446744073709551616) : evConvert Tryz.prog h 3 45 (.int .i64 (n : Nat)) = some (.val (.int .u64 (n : Nat)) h) := by
  have : IntKind.u64.wrap ((n : Nat) : Int) = ((n : Nat) : Int) := by
    show ((n : Nat) : Int) % 18446744073709551616 = _
    omega
  simp only [evConvert, Tryz.underlying3, Tryz.underlying45, val?, this]
theorem cv8 (h : AH) (n : Nat) : evConvert Tryz.prog h 45 5 (.int .u64 (n : Nat)) = some (.val (.int .u8 ((n % 256 : Nat) : Int)) h) := by
  have : IntKind.u8.wrap ((n : Nat) : Int) = ((n % 256 : Nat) : Int) := by
    show ((n : Nat) : Int) % 256 = _
    omega
  simp only [evConvert, Tryz.underlying45, Tryz.underlying5, val?, this]
theorem or128 (h : AH) (t : TypeId) (n : Nat) : ∃ m : Nat, binA Tryz.prog h .or t (.int .u8 (n : Nat)) (.int .u8 128) = some (.int .u8 (m : Nat)) := by
  rw [binA_or]
  refine ⟨(BitVec.ofInt 8 (n : Int) ||| BitVec.ofInt 8 128).toNat, ?_⟩
  have hlt := (BitVec.ofInt 8 (n : Int) ||| BitVec.ofInt 8 128).isLt
  show some (AV.int .u8 (IntKind.u8.wrap ((BitVec.ofInt 8 (n : Int) ||| BitVec.ofInt 8 128).toNat : Int))) = _
  have : IntKind.u8.wrap (((BitVec.ofInt 8 (n : Int) ||| BitVec.ofInt 8 128).toNat : Nat) : Int) = (((BitVec.ofInt 8 (n : Int) ||| BitVec.ofInt 8 128).toNat : Nat) : Int) := by
    show (((BitVec.ofInt 8 (n : Int) ||| BitVec.ofInt 8 128).toNat : Nat) : Int) % 256 = _
    omega
  rw [this]
theorem and7 (h : AH) (t : TypeId) (n : Nat) : ∃ m : Nat, binA Tryz.prog h .and t (.int .u8 (n : Nat)) (.int .u8 127) = some (.int .u8 (m : Nat)) := by
  rw [binA_and]
  refine ⟨(BitVec.ofInt 8 (n : Int) &&& BitVec.ofInt 8 127).toNat, ?_⟩
  have hlt := (BitVec.ofInt 8 (n : Int) &&& BitVec.ofInt 8 127).isLt
  show some (AV.int .u8 (IntKind.u8.wrap ((BitVec.ofInt 8 (n : Int) &&& BitVec.ofInt 8 127).toNat : Int))) = _
  have : IntKind.u8.wrap (((BitVec.ofInt 8 (n : Int) &&& BitVec.ofInt 8 127).toNat : Nat) : Int) = (((BitVec.ofInt 8 (n : Int) &&& BitVec.ofInt 8 127).toNat : Nat) : Int) := by
    show (((BitVec.ofInt 8 (n : Int) &&& BitVec.ofInt 8 127).toNat : Nat) : Int) % 256 = _
    omega
  rw [this]
section
variable {S : Sums}
/-- At most three bytes turned about. -/
theorem revC (hS : Wl S) {n0 : Nat} {h : AH} {v : AV} {l : List Nat} (hb : Bo n0 h v l) (hl : 1 ≤ l.length ∧ l.length ≤ 3) : RnC Tryz.prog S 86 [v] h fun r h' => r = .tup [] ∧ ∃ l', Bo n0 h' v l' ∧ l'.length = l.length ∧ h.nx ≤ h'.nx ∧ ∀ j, j < n0 → h'.get j = h.get j := by
  refine RnC.enter' Tryz.f86 _ 28 [] (hS.nw _ _ _ (by simp)) bd86 Tryz.func86 rfl rfl rfl ?_
  obtain ⟨id, c, cs, tx, rfl, h2, h3, h4, h5, h6, h7⟩ := hb
  match l, hl with
  | [a], _ =>
    simp (maxSteps := 1000000) -dsimp (disch := (repeat first | rw [AH.nx_new] | rw [AH.nx_put]); first | done | omega) only [go_sem, evLen, Int.reduceEq, Int.reduceNe, Int.reduceLT, Int.reduceLE, Int.reduceAdd, Int.reduceSub, Int.reduceMul, Int.reduceNeg, Int.reduceToNat, Nat.reducePow, reduceCtorEq, Nat.reduceEqDiff, Nat.reduceAdd, Nat.reduceLT, Nat.reduceLeDiff, Nat.reduceMul, Nat.reduceSub, Nat.reduceBEq, Tryz.underlying55]
    refine loopK_unroll ?_
    simp (maxSteps := 1000000) -dsimp (disch := (repeat first | rw [AH.nx_new] | rw [AH.nx_put]); first | done | omega) only [go_sem, evLen, Int.reduceEq, Int.reduceNe, Int.reduceLT, Int.reduceLE, Int.reduceAdd, Int.reduceSub, Int.reduceMul, Int.reduceNeg, Int.reduceToNat, Nat.reducePow, reduceCtorEq, Nat.reduceEqDiff, Nat.reduceAdd, Nat.reduceLT, Nat.reduceLeDiff, Nat.reduceMul, Nat.reduceSub, Nat.reduceBEq]
    exact ⟨trivial, [a], ⟨id, c, cs, tx, rfl, h2, h3, h4, h5, h6, h7⟩, by first | trivial | rfl, by first | trivial | exact Nat.le_refl _, fun _ _ => by first | trivial | rfl⟩
  | [a, b], _ =>
    match cs, h5, h6 with
    | x :: y :: r, h5, h6 =>
      obtain ⟨rfl, rfl⟩ : x = .int .u8 (a : Int) ∧ y = .int .u8 (b : Int) := by
        simpa [byC] using h5
      simp (maxSteps := 1000000) -dsimp (disch := (repeat first | rw [AH.nx_new] | rw [AH.nx_put]); first | done | omega) only [go_sem, evLen, Int.reduceEq, Int.reduceNe, Int.reduceLT, Int.reduceLE, Int.reduceAdd, Int.reduceSub, Int.reduceMul, Int.reduceNeg, Int.reduceToNat, Nat.reducePow, reduceCtorEq, Nat.reduceEqDiff, Nat.reduceAdd, Nat.reduceLT, Nat.reduceLeDiff, Nat.reduceMul, Nat.reduceSub, Nat.reduceBEq, Tryz.underlying55]
      refine loopK_unroll ?_
      simp (maxSteps := 1000000) -dsimp (disch := (repeat first | rw [AH.nx_new] | rw [AH.nx_put]); first | done | omega) only [go_sem, evLen, Int.reduceEq, Int.reduceNe, Int.reduceLT, Int.reduceLE, Int.reduceAdd, Int.reduceSub, Int.reduceMul, Int.reduceNeg, Int.reduceToNat, Nat.reducePow, reduceCtorEq, Nat.reduceEqDiff, Nat.reduceAdd, Nat.reduceLT, Nat.reduceLeDiff, Nat.reduceMul, Nat.reduceSub, Nat.reduceBEq]
      refine syDraw.go0 (by kernel_rfl) ?_
      simp (maxSteps := 1000000) -dsimp (disch := (repeat first | rw [AH.nx_new] | rw [AH.nx_put]); first | done | omega) only [go_sem, evLen, Int.reduceEq, Int.reduceNe, Int.reduceLT, Int.reduceLE, Int.reduceAdd, Int.reduceSub, Int.reduceMul, Int.reduceNeg, Int.reduceToNat, Nat.reducePow, reduceCtorEq, Nat.reduceEqDiff, Nat.reduceAdd, Nat.reduceLT, Nat.reduceLeDiff, Nat.reduceMul, Nat.reduceSub, Nat.reduceBEq, Tryz.underlying55, Tryz.underlying5, tz5, h2]
      refine loopK_unroll ?_
      simp (maxSteps := 1000000) -dsimp (disch := (repeat first | rw [AH.nx_new] | rw [AH.nx_put]); first | done | omega) only [go_sem, evLen, Int.reduceEq, Int.reduceNe, Int.reduceLT, Int.reduceLE, Int.reduceAdd, Int.reduceSub, Int.reduceMul, Int.reduceNeg, Int.reduceToNat, Nat.reducePow, reduceCtorEq, Nat.reduceEqDiff, Nat.reduceAdd, Nat.reduceLT, Nat.reduceLeDiff, Nat.reduceMul, Nat.reduceSub, Nat.reduceBEq]
      exact ⟨trivial, [b, a], ⟨id, c, _, tx, rfl, AH.get_put_eq rfl, by show id < h.nx + 16; omega, h4, by simp [byC], h6, h7⟩, by first | trivial | rfl, by show h.nx ≤ h.nx + 16; omega, fun j hj => by
        first | exact (AH.get_put_ne (by omega)).trans (AH.get_put_ne (by omega)) | exact AH.get_put_ne (by omega)⟩
  | [a, b, d], _ =>
    match cs, h5, h6 with
    | x :: y :: z :: r, h5, h6 =>
      obtain ⟨rfl, rfl, rfl⟩ : x = .int .u8 (a : Int) ∧ y = .int .u8 (b : Int) ∧ z = .int .u8 (d : Int) := by
        simpa [byC] using h5
      simp (maxSteps := 1000000) -dsimp (disch := (repeat first | rw [AH.nx_new] | rw [AH.nx_put]); first | done | omega) only [go_sem, evLen, Int.reduceEq, Int.reduceNe, Int.reduceLT, Int.reduceLE, Int.reduceAdd, Int.reduceSub, Int.reduceMul, Int.reduceNeg, Int.reduceToNat, Nat.reducePow, reduceCtorEq, Nat.reduceEqDiff, Nat.reduceAdd, Nat.reduceLT, Nat.reduceLeDiff, Nat.reduceMul, Nat.reduceSub, Nat.reduceBEq, Tryz.underlying55]
      refine loopK_unroll ?_
      simp (maxSteps := 1000000) -dsimp (disch := (repeat first | rw [AH.nx_new] | rw [AH.nx_put]); first | done | omega) only [go_sem, evLen, Int.reduceEq, Int.reduceNe, Int.reduceLT, Int.reduceLE, Int.reduceAdd, Int.reduceSub, Int.reduceMul, Int.reduceNeg, Int.reduceToNat, Nat.reducePow, reduceCtorEq, Nat.reduceEqDiff, Nat.reduceAdd, Nat.reduceLT, Nat.reduceLeDiff, Nat.reduceMul, Nat.reduceSub, Nat.reduceBEq]
      refine syDraw.go0 (by kernel_rfl) ?_
      simp (maxSteps := 1000000) -dsimp (disch := (repeat first | rw [AH.nx_new] | rw [AH.nx_put]); first | done | omega) only [go_sem, evLen, Int.reduceEq, Int.reduceNe, Int.reduceLT, Int.reduceLE, Int.reduceAdd, Int.reduceSub, Int.reduceMul, Int.reduceNeg, Int.reduceToNat, Nat.reducePow, reduceCtorEq, Nat.reduceEqDiff, Nat.reduceAdd, Nat.reduceLT, Nat.reduceLeDiff, Nat.reduceMul, Nat.reduceSub, Nat.reduceBEq, Tryz.underlying55, Tryz.underlying5, tz5, h2]
      refine loopK_unroll ?_
      simp (maxSteps := 1000000) -dsimp (disch := (repeat first | rw [AH.nx_new] | rw [AH.nx_put]); first | done | omega) only [go_sem, evLen, Int.reduceEq, Int.reduceNe, Int.reduceLT, Int.reduceLE, Int.reduceAdd, Int.reduceSub, Int.reduceMul, Int.reduceNeg, Int.reduceToNat, Nat.reducePow, reduceCtorEq, Nat.reduceEqDiff, Nat.reduceAdd, Nat.reduceLT, Nat.reduceLeDiff, Nat.reduceMul, Nat.reduceSub, Nat.reduceBEq]
      exact ⟨trivial, [d, b, a], ⟨id, c, _, tx, rfl, AH.get_put_eq rfl, by show id < h.nx + 16; omega, h4, by simp [byC], h6, h7⟩, by first | trivial | rfl, by show h.nx ≤ h.nx + 16; omega, fun j hj => by
        first | exact (AH.get_put_ne (by omega)).trans (AH.get_put_ne (by omega)) | exact AH.get_put_ne (by omega)⟩
end
end Go.Proofs.YtdpipffikgmgdaaGreatDoor.tre
