/- The constants of the digest, in the document's answer and in the program, as summaries: products of words, first primes, roots. Conditions: none. -/
import Derived.Test.YtmfbcniknjecbaaGreatDoorDigA
namespace Go.Proofs.YtmfbcniknjecbaaGreatDoor
open Go Go.Abs Go.Proofs
set_option maxRecDepth 100000
set_option linter.unusedVariables false
noncomputable section
def mulV (args : List AV) : Option AV := match args with
  | [.int .u64 (.ofNat x), .int .u64 (.ofNat y)] => cond (Nat.blt x 18446744073709551616) (cond (Nat.blt y 18446744073709551616) (some (.tup [.int .u64 (.ofNat (x * y / 18446744073709551616)), .int .u64 (.ofNat (x * y % 18446744073709551616))])) none) none
  | _ => none
theorem mulV_ok : ∀ args v, mulV args = some v → args.all scalarA = true ∧ flatA v = true ∧ RnC Tryz.prog sums 521 args { tr := .nil, nx := 0 } fun u _ => u = v := by
  intro args v h
  unfold mulV at h
  split at h
  · rename_i x y
    cases hx : Nat.blt x 18446744073709551616 <;> rw [hx] at h
    · cases h
    cases hy : Nat.blt y 18446744073709551616 <;> rw [hy] at h
    · cases h
    cases h
    have hx' : x < 18446744073709551616 := by rw [nat_blt_dec, decide_eq_true_eq] at hx; exact hx
    have hy' : y < 18446744073709551616 := by rw [nat_blt_dec, decide_eq_true_eq] at hy; exact hy
    exact ⟨rfl, rfl, mul64 (fun _ _ => rfl) x y hx' hy' _⟩
  · cases h
def sMul : Sums := orS (sumNums 521 mulV) sums
theorem sMul_ok : SumsOK Tryz.prog sMul := orS_ok (sumNums_ok sums_ok mulV_ok) sums_ok
def p64 : List Nat := [2, 3, 5, 7, 11, 13, 17, 19, 23, 29, 31, 37, 41, 43, 47, 53, 59, 61, 67, 71, 73, 79, 83, 89, 97, 101, 103, 107, 109, 113, 127, 131, 137, 139, 149, 151, 157, 163, 167, 173, 179, 181, 191, 193, 197, 199, 211, 223, 227, 229, 233, 239, 241, 251, 257, 263, 269, 271, 277, 281, 283, 293, 307, 311]
def p8 : List Nat := [2, 3, 5, 7, 11, 13, 17, 19]
theorem pst64 : (pst 310).1 = p64 := by kernel_rfl
theorem pst8 : (pst 18).1 = p8 := by kernel_rfl
def ltAll (n N : Nat) : Bool := (List.range N).all fun i => Nat.blt (pst i).1.length n
theorem ltAll_ok {n N : Nat} (h : ltAll n N = true) : ∀ i, i < N → (pst i).1.length < n := fun i hi => by
  unfold ltAll at h
  rw [List.all_eq_true] at h
  have := h i (List.mem_range.2 hi)
  rw [nat_blt_dec, decide_eq_true_eq] at this
  exact this
theorem lt64 : ltAll 64 310 = true := by kernel_rfl
theorem lt8 : ltAll 8 18 = true := by kernel_rfl
theorem u64s_sc (l : List Nat) : (u64s l).all scalarA = true := by
  unfold u64s
  rw [List.all_map]
  simp [scalarA]
def rowT : List (Nat × List AV) := [(64, u64s p64), (8, u64s p8)]
def sRow : Sums := orS (sumRow 518 rowT) sMul
theorem row_of {g : FuncId} {n : Nat} {L : List Nat} (hn : L.length = n) (h : RnC Tryz.prog sMul g [.int .i64 (n : Nat)] { tr := .nil, nx := 0 } fun v h' => PS h' v L) :
    RnC Tryz.prog sMul g [.int .i64 (.ofNat n)] { tr := .nil, nx := 0 } fun v h' => ∃ id, v = .sl id 0 (u64s L).length 1 none ∧ h'.get id = some (.cells (u64s L) true false) := by
  obtain ⟨k, v, h', h1, id, h2, h3, h4⟩ := h
  exact ⟨k, v, h', h1, id, by rw [h2]; simp [u64s], h3⟩
theorem sRow_ok : SumsOK Tryz.prog sRow := by
  refine orS_ok (sumRow_ok sMul_ok ?_) sMul_ok
  · intro e he
    rcases List.mem_cons.1 he with rfl | he
    · refine ⟨u64s_sc _, row_of rfl ?_⟩
      have := primesP (S := sMul) ⟨fun _ _ => rfl, fun _ _ => rfl, fun _ _ => rfl, fun _ _ => rfl⟩ 64 310 (by rw [pst64]; rfl) (ltAll_ok lt64) (by decide) (by decide) (by decide) { tr := .nil, nx := 0 }
      rw [pst64] at this
      exact this
    · rcases List.mem_cons.1 he with rfl | he
      · refine ⟨u64s_sc _, row_of rfl ?_⟩
        have := primesP (S := sMul) ⟨fun _ _ => rfl, fun _ _ => rfl, fun _ _ => rfl, fun _ _ => rfl⟩ 8 18 (by rw [pst8]; rfl) (ltAll_ok lt8) (by decide) (by decide) (by decide) { tr := .nil, nx := 0 }
        rw [pst8] at this
        exact this
      · cases he
def tP0 : List (List Nat × AV) := [([2], .int .u32 (.ofNat 1116352408)), ([3], .int .u32 (.ofNat 1899447441)), ([5], .int .u32 (.ofNat 3049323471)), ([7], .int .u32 (.ofNat 3921009573)), ([11], .int .u32 (.ofNat 961987163)), ([13], .int .u32 (.ofNat 1508970993)), ([17], .int .u32 (.ofNat 2453635748)), ([19], .int .u32 (.ofNat 2870763221))]
theorem okP0 : tP0.all (okCapt Tryz.prog sMul 300 519 520) = true := by kernel_rfl
def tP1 : List (List Nat × AV) := [([23], .int .u32 (.ofNat 3624381080)), ([29], .int .u32 (.ofNat 310598401)), ([31], .int .u32 (.ofNat 607225278)), ([37], .int .u32 (.ofNat 1426881987)), ([41], .int .u32 (.ofNat 1925078388)), ([43], .int .u32 (.ofNat 2162078206)), ([47], .int .u32 (.ofNat 2614888103)), ([53], .int .u32 (.ofNat 3248222580))]
theorem okP1 : tP1.all (okCapt Tryz.prog sMul 300 519 520) = true := by kernel_rfl
def tP2 : List (List Nat × AV) := [([59], .int .u32 (.ofNat 3835390401)), ([61], .int .u32 (.ofNat 4022224774)), ([67], .int .u32 (.ofNat 264347078)), ([71], .int .u32 (.ofNat 604807628)), ([73], .int .u32 (.ofNat 770255983)), ([79], .int .u32 (.ofNat 1249150122)), ([83], .int .u32 (.ofNat 1555081692)), ([89], .int .u32 (.ofNat 1996064986))]
theorem okP2 : tP2.all (okCapt Tryz.prog sMul 300 519 520) = true := by kernel_rfl
def tP3 : List (List Nat × AV) := [([97], .int .u32 (.ofNat 2554220882)), ([101], .int .u32 (.ofNat 2821834349)), ([103], .int .u32 (.ofNat 2952996808)), ([107], .int .u32 (.ofNat 3210313671)), ([109], .int .u32 (.ofNat 3336571891)), ([113], .int .u32 (.ofNat 3584528711)), ([127], .int .u32 (.ofNat 113926993)), ([131], .int .u32 (.ofNat 338241895))]
theorem okP3 : tP3.all (okCapt Tryz.prog sMul 300 519 520) = true := by kernel_rfl
def tP4 : List (List Nat × AV) := [([137], .int .u32 (.ofNat 666307205)), ([139], .int .u32 (.ofNat 773529912)), ([149], .int .u32 (.ofNat 1294757372)), ([151], .int .u32 (.ofNat 1396182291)), ([157], .int .u32 (.ofNat 1695183700)), ([163], .int .u32 (.ofNat 1986661051)), ([167], .int .u32 (.ofNat 2177026350)), ([173], .int .u32 (.ofNat 2456956037))]
theorem okP4 : tP4.all (okCapt Tryz.prog sMul 300 519 520) = true := by kernel_rfl
def tP5 : List (List Nat × AV) := [([179], .int .u32 (.ofNat 2730485921)), ([181], .int .u32 (.ofNat 2820302411)), ([191], .int .u32 (.ofNat 3259730800)), ([193], .int .u32 (.ofNat 3345764771)), ([197], .int .u32 (.ofNat 3516065817)), ([199], .int .u32 (.ofNat 3600352804)), ([211], .int .u32 (.ofNat 4094571909)), ([223], .int .u32 (.ofNat 275423344))]
theorem okP5 : tP5.all (okCapt Tryz.prog sMul 300 519 520) = true := by kernel_rfl
def tP6 : List (List Nat × AV) := [([227], .int .u32 (.ofNat 430227734)), ([229], .int .u32 (.ofNat 506948616)), ([233], .int .u32 (.ofNat 659060556)), ([239], .int .u32 (.ofNat 883997877)), ([241], .int .u32 (.ofNat 958139571)), ([251], .int .u32 (.ofNat 1322822218)), ([257], .int .u32 (.ofNat 1537002063)), ([263], .int .u32 (.ofNat 1747873779))]
theorem okP6 : tP6.all (okCapt Tryz.prog sMul 300 519 520) = true := by kernel_rfl
def tP7 : List (List Nat × AV) := [([269], .int .u32 (.ofNat 1955562222)), ([271], .int .u32 (.ofNat 2024104815)), ([277], .int .u32 (.ofNat 2227730452)), ([281], .int .u32 (.ofNat 2361852424)), ([283], .int .u32 (.ofNat 2428436474)), ([293], .int .u32 (.ofNat 2756734187)), ([307], .int .u32 (.ofNat 3204031479)), ([311], .int .u32 (.ofNat 3329325298))]
theorem okP7 : tP7.all (okCapt Tryz.prog sMul 300 519 520) = true := by kernel_rfl
def tP8 : List (List Nat × AV) := [([2], .int .u32 (.ofNat 1779033703)), ([3], .int .u32 (.ofNat 3144134277)), ([5], .int .u32 (.ofNat 1013904242)), ([7], .int .u32 (.ofNat 2773480762)), ([11], .int .u32 (.ofNat 1359893119)), ([13], .int .u32 (.ofNat 2600822924)), ([17], .int .u32 (.ofNat 528734635)), ([19], .int .u32 (.ofNat 1541459225))]
theorem okP8 : tP8.all (okCapt Tryz.prog sMul 300 519 522) = true := by kernel_rfl
def sRoot : Sums := orS (tableCapt 519 520 tP0) (orS (tableCapt 519 520 tP1) (orS (tableCapt 519 520 tP2) (orS (tableCapt 519 520 tP3) (orS (tableCapt 519 520 tP4) (orS (tableCapt 519 520 tP5) (orS (tableCapt 519 520 tP6) (orS (tableCapt 519 520 tP7) (orS (tableCapt 519 522 tP8) (sRow)))))))))
theorem sRoot_ok : SumsOK Tryz.prog sRoot := orS_ok (tableCapt_ok sMul_ok okP0) (orS_ok (tableCapt_ok sMul_ok okP1) (orS_ok (tableCapt_ok sMul_ok okP2) (orS_ok (tableCapt_ok sMul_ok okP3) (orS_ok (tableCapt_ok sMul_ok okP4) (orS_ok (tableCapt_ok sMul_ok okP5) (orS_ok (tableCapt_ok sMul_ok okP6) (orS_ok (tableCapt_ok sMul_ok okP7) (orS_ok (tableCapt_ok sMul_ok okP8) (sRow_ok)))))))))
def vK : AV := .agg [.int .u32 (.ofNat 1116352408), .int .u32 (.ofNat 1899447441), .int .u32 (.ofNat 3049323471), .int .u32 (.ofNat 3921009573), .int .u32 (.ofNat 961987163), .int .u32 (.ofNat 1508970993), .int .u32 (.ofNat 2453635748), .int .u32 (.ofNat 2870763221), .int .u32 (.ofNat 3624381080), .int .u32 (.ofNat 310598401), .int .u32 (.ofNat 607225278), .int .u32 (.ofNat 1426881987), .int .u32 (.ofNat 1925078388), .int .u32 (.ofNat 2162078206), .int .u32 (.ofNat 2614888103), .int .u32 (.ofNat 3248222580), .int .u32 (.ofNat 3835390401), .int .u32 (.ofNat 4022224774), .int .u32 (.ofNat 264347078), .int .u32 (.ofNat 604807628), .int .u32 (.ofNat 770255983), .int .u32 (.ofNat 1249150122), .int .u32 (.ofNat 1555081692), .int .u32 (.ofNat 1996064986), .int .u32 (.ofNat 2554220882), .int .u32 (.ofNat 2821834349), .int .u32 (.ofNat 2952996808), .int .u32 (.ofNat 3210313671), .int .u32 (.ofNat 3336571891), .int .u32 (.ofNat 3584528711), .int .u32 (.ofNat 113926993), .int .u32 (.ofNat 338241895), .int .u32 (.ofNat 666307205), .int .u32 (.ofNat 773529912), .int .u32 (.ofNat 1294757372), .int .u32 (.ofNat 1396182291), .int .u32 (.ofNat 1695183700), .int .u32 (.ofNat 1986661051), .int .u32 (.ofNat 2177026350), .int .u32 (.ofNat 2456956037), .int .u32 (.ofNat 2730485921), .int .u32 (.ofNat 2820302411), .int .u32 (.ofNat 3259730800), .int .u32 (.ofNat 3345764771), .int .u32 (.ofNat 3516065817), .int .u32 (.ofNat 3600352804), .int .u32 (.ofNat 4094571909), .int .u32 (.ofNat 275423344), .int .u32 (.ofNat 430227734), .int .u32 (.ofNat 506948616), .int .u32 (.ofNat 659060556), .int .u32 (.ofNat 883997877), .int .u32 (.ofNat 958139571), .int .u32 (.ofNat 1322822218), .int .u32 (.ofNat 1537002063), .int .u32 (.ofNat 1747873779), .int .u32 (.ofNat 1955562222), .int .u32 (.ofNat 2024104815), .int .u32 (.ofNat 2227730452), .int .u32 (.ofNat 2361852424), .int .u32 (.ofNat 2428436474), .int .u32 (.ofNat 2756734187), .int .u32 (.ofNat 3204031479), .int .u32 (.ofNat 3329325298)]
def vH : AV := .agg [.int .u32 (.ofNat 1779033703), .int .u32 (.ofNat 3144134277), .int .u32 (.ofNat 1013904242), .int .u32 (.ofNat 2773480762), .int .u32 (.ofNat 1359893119), .int .u32 (.ofNat 2600822924), .int .u32 (.ofNat 528734635), .int .u32 (.ofNat 1541459225)]
theorem runKP : runsTo Tryz.prog sRoot 300 452 [] { tr := .nil, nx := 0 } vK = true := by kernel_rfl
theorem runHP : runsTo Tryz.prog sRoot 300 453 [] { tr := .nil, nx := 0 } vH = true := by kernel_rfl
def sConst : Sums := orS (sumConst 452 vK) (orS (sumConst 453 vH) (sums))
theorem sConst_ok : SumsOK Tryz.prog sConst := orS_ok (sumConst_ok sRoot_ok runKP rfl) (orS_ok (sumConst_ok sRoot_ok runHP rfl) (sums_ok))
end
end Go.Proofs.YtmfbcniknjecbaaGreatDoor
