/- The digest's step over a block of bytes: the program's function and the document's compute the same words from the same bytes. Conditions: none beyond the stated premises. -/
import Derived.Test.YtfhcnoancepgcaaGreatDoorDGa
namespace Go.Proofs.YtfhcnoancepgcaaGreatDoor.dig
open Go Go.Abs Go.Proofs
set_option maxRecDepth 100000
set_option linter.unusedVariables false
set_option linter.unusedSimpArgs false

def w0 : W8 := ⟨0, 0, 0, 0, 0, 0, 0, 0⟩
theorem zc76w : zeroC Tryz.prog 108 = some (c8 w0) := by kernel_rfl
theorem zc74w (W : Nat → W32) : zeroC Tryz.prog 106 = some (wrow W 0) := by kernel_rfl
theorem bld76 (x0 x1 x2 x3 x4 x5 x6 x7 : W32) : evBuild Tryz.prog 108 [(0, .int .u32 (iw x0)), (1, .int .u32 (iw x1)), (2, .int .u32 (iw x2)), (3, .int .u32 (iw x3)), (4, .int .u32 (iw x4)), (5, .int .u32 (iw x5)), (6, .int .u32 (iw x6)), (7, .int .u32 (iw x7))] = some (.agg (c8 ⟨x0, x1, x2, x3, x4, x5, x6, x7⟩)) := by kernel_rfl
theorem cv573 : ∀ (h : AH) (b : Nat), evConvert Tryz.prog h 5 105 (.int .u8 (b : Int)) = some (.val (.int .u32 (iw (BitVec.ofNat 32 b))) h) := fun h b => conv_w Tryz.underlying5 Tryz.underlying105 h b
theorem Wf_lo (b : Nat → Nat) {t : Nat} (h : t < 16) : Wf b t = BitVec.ofNat 32 (four (b (4 * t)) (b (4 * t + 1)) (b (4 * t + 2)) (b (4 * t + 3))) := by rw [Wf, if_pos h]
theorem Wf_hi (b : Nat → Nat) {t : Nat} (h : ¬ t < 16) : Wf b t = ((rots (Wf b (t - 2)) [17, 19] 0 ^^^ Wf b (t - 2) >>> 10) + Wf b (t - 7) + (rots (Wf b (t - 15)) [7, 18] 0 ^^^ Wf b (t - 15) >>> 3)) + Wf b (t - 16) := by rw [Wf, if_neg h]
theorem add8_comm (s v : W8) : add8 s v = add8 v s := by
  unfold add8
  rw [BitVec.add_comm s.a, BitVec.add_comm s.b, BitVec.add_comm s.c, BitVec.add_comm s.d, BitVec.add_comm s.e, BitVec.add_comm s.f, BitVec.add_comm s.g, BitVec.add_comm s.h]
/-- The functions that are walked are no summaries. -/
def NoS (S : Sums) : Prop := ∀ f args h, f = 62 ∨ f = 87 ∨ f = 94 ∨ f = 110 ∨ f = 127 → S f args h = none

section
variable {S : Sums}

set_option maxHeartbeats 40000000 in
theorem blkP (hS : NoS S) {h : AH} {v : AV} {l : List Nat} (K : Nat → W32) (s0 : W8) {kid : Nat} {ko kt : Bool} (hk : h.get kid = some (.cells (wrow K 64) ko kt)) (hkid : kid < h.nx) (hb : Bs h v l) (hl : ∀ b ∈ l, b < 256) (h64 : l.length = 64) :
    RnC Tryz.prog S 94 [.ptr kid 0, .agg (c8 s0), v] h fun r h' => r = .agg (c8 (blk K (fun j => l.getD j 0) s0)) ∧ Fr h h' := by
  refine RnC.enter' Tryz.f94 _ 178 [.cell 6 108] (hS _ _ _ (by simp)) bd94 Tryz.func94 rfl rfl rfl ?_
  generalize hW : Wf (fun j => l.getD j 0) = W
  rcases hb with ⟨rfl, h0⟩ | ⟨id, off, c, cs, o, tx, rfl, hg, hid, hlen, hc, hx⟩
  · subst h0; simp at h64
  simp (maxSteps := 1000000) -dsimp (disch := (repeat first | rw [nxn] | rw [nxp]); try omega) only [go_sem, evLen, Nat.mul_one, zc76w, zc74w W]
  refine loopK_of (RnL.rounds (Q := fun ex s => ex = .exit 0 ∧ Fr h s.h ∧ s.d = [] ∧ h.nx + 3 ≤ s.h.nx ∧ s.h.get (kid) = some (.cells (wrow K 64) ko kt) ∧ s.h.get (h.nx) = some (.cells (c8 s0) true false) ∧ s.h.get (h.nx + 1) = some (.cells (c8 w0) true false) ∧ s.t.get 0 = some (.ptr kid 0) ∧ s.t.get 4 = some (.ptr (h.nx) 0) ∧ s.t.get 6 = some (.ptr (h.nx + 1) 0) ∧ s.t.get 7 = some (.ptr (h.nx + 1 + 1) 0) ∧ s.h.get (h.nx + 1 + 1) = some (.cells (wrow W 64) true false))
    (fun m s => Fr h s.h ∧ s.d = [] ∧ h.nx + 3 ≤ s.h.nx ∧ s.h.get (kid) = some (.cells (wrow K 64) ko kt) ∧ s.h.get (h.nx) = some (.cells (c8 s0) true false) ∧ s.h.get (h.nx + 1) = some (.cells (c8 w0) true false) ∧ s.t.get 0 = some (.ptr kid 0) ∧ s.t.get 4 = some (.ptr (h.nx) 0) ∧ s.t.get 6 = some (.ptr (h.nx + 1) 0) ∧ s.t.get 7 = some (.ptr (h.nx + 1 + 1) 0) ∧ s.t.get 2 = some (.sl id off l.length 1 c) ∧ ∃ i : Nat, s.h.get (h.nx + 1 + 1) = some (.cells (wrow W i) true false) ∧ s.t.get 18 = some (.int .i64 (i : Nat)) ∧ i ≤ 64 ∧ m = 64 - i) ?_ 64 ?_) ?_
  · rintro m ⟨t, h1, d⟩ ⟨e1, e2, en, gk, g4h, g6h, gkt, g4, g6, g7, g2, i, gw, gi, hi, rfl⟩
    dsimp only at e1 e2 en gk g4h g6h gkt g4 g6 g7 g2 gw gi
    subst e2
    have hgid : h1.get id = some (.cells cs o tx) := (e1.get id hid).trans hg
    by_cases c1 : (i : Int) < 64
    · have c3 : i + 1 ≤ 64 := by omega
      by_cases c2 : (i : Int) < 16
      · simp (maxSteps := 1000000) -dsimp (disch := (repeat first | rw [nxn] | rw [nxp]); try omega) only [go_sem, evLen, c1, c2, gi]
        refine syDraw.go0 (by kernel_rfl) ?_
        have t0 : (4 * (i : Int)).toNat = 4 * i := by omega
        have t1 : (4 * (i : Int) + 1).toNat = 4 * i + 1 := by omega
        have t2 : (4 * (i : Int) + 2).toNat = 4 * i + 2 := by omega
        have t3 : (4 * (i : Int) + 3).toNat = 4 * i + 3 := by omega
        have q0 := bs_getD hx (i := 4 * i) (by omega)
        have q1 := bs_getD hx (i := 4 * i + 1) (by omega)
        have q2 := bs_getD hx (i := 4 * i + 2) (by omega)
        have q3 := bs_getD hx (i := 4 * i + 3) (by omega)
        have hput := wrow_put W (i := i) (by omega) ((four_or (getD_lt hl (4 * i)) (getD_lt hl (4 * i + 1)) (getD_lt hl (4 * i + 2)) (getD_lt hl (4 * i + 3))).trans (by rw [← hW, Wf_lo _ (by omega)]))
        simp (maxSteps := 1000000) -dsimp (disch := (repeat first | rw [nxn] | rw [nxp]); try omega) only [go_sem, evLen, Nat.mul_one, gi, g2, g7, gw, hgid, t0, t1, t2, t3, q0, q1, q2, q3, cv573, c3, hput, gk, g4h, g6h, gkt, g4, g6]
        refine ⟨64 - (i + 1), by omega, (e1.more _ (by omega)).put _ (by omega), trivial, by omega, trivial, trivial, trivial, trivial, trivial, trivial, trivial, trivial, i + 1, rfl, rfl, by omega, rfl⟩
      · simp (maxSteps := 1000000) -dsimp (disch := (repeat first | rw [nxn] | rw [nxp]); try omega) only [go_sem, evLen, c1, c2, gi]
        refine syDraw.go0 (by kernel_rfl) ?_
        have j2 : ((i : Int) - 2).toNat = i - 2 := by omega
        have j7 : ((i : Int) - 7).toNat = i - 7 := by omega
        have j15 : ((i : Int) - 15).toNat = i - 15 := by omega
        have j16 : ((i : Int) - 16).toNat = i - 16 := by omega
        have w2 := wrow_lt W (i := i) (j := i - 2) (by omega) (by omega)
        have w7 := wrow_lt W (i := i) (j := i - 7) (by omega) (by omega)
        have w15 := wrow_lt W (i := i) (j := i - 15) (by omega) (by omega)
        have w16 := wrow_lt W (i := i) (j := i - 16) (by omega) (by omega)
        simp (maxSteps := 1000000) -dsimp (disch := (repeat first | rw [nxn] | rw [nxp]); try omega) only [go_sem, evLen, Nat.mul_one, gi, g7, gw, j2, j15, w2, w15]
        refine syDraw.go [(3, 10), (10, 14), (3, 22), (14, 22)] (by kernel_rfl) (by kernel_rfl) ?_
        simp (maxSteps := 1000000) -dsimp (disch := (repeat first | rw [nxn] | rw [nxp]); try omega) only [go_sem, evLen, Nat.mul_one, gi, g7]
        refine callK_of (right64_2 (fun f a g hf => hS f a g (by rcases hf with h | h <;> simp [h])) (W (i - 2)) (n1 := 17) (n2 := 19) (by decide) (by decide) (AH.get_put_eq rfl) (by rw [AH.nx_put]; show _ < h1.nx + 10 + 26; omega)) ?_
        rintro r h2 ⟨rfl, hf2⟩
        have hn2 : h1.nx + 10 + 26 ≤ h2.nx := hf2.nx
        have hg2 : ∀ j, j < h1.nx + 10 + 26 → h2.get j = (AH.put _ _ _).get j := hf2.get
        simp (maxSteps := 1000000) -dsimp (disch := (repeat first | rw [nxn] | rw [nxp]); try omega) only [go_sem, evLen, Nat.mul_one, gi, g7, hg2, gw, j7, w7]
        refine callK_of (right64_2 (fun f a g hf => hS f a g (by rcases hf with h | h <;> simp [h])) (W (i - 15)) (n1 := 7) (n2 := 18) (by decide) (by decide) (AH.get_put_eq rfl) (by rw [AH.nx_put]; omega)) ?_
        rintro r h3 ⟨rfl, hf3⟩
        have hn3 : h2.nx ≤ h3.nx := hf3.nx
        have hg3 : ∀ j, j < h2.nx → h3.get j = (AH.put _ _ _).get j := hf3.get
        have hput := wrow_put W (i := i) (by omega) (show (((rots (W (i - 2)) [17, 19] 0 ^^^ W (i - 2) >>> 10) + W (i - 7) + (rots (W (i - 15)) [7, 18] 0 ^^^ W (i - 15) >>> 3)) + W (i - 16)) = W i by rw [← hW]; exact (Wf_hi _ (by omega)).symm)
        simp (maxSteps := 1000000) -dsimp (disch := (repeat first | rw [nxn] | rw [nxp]); try omega) only [go_sem, evLen, Nat.mul_one, gi, g7, hg3, hg2, gw, j16, w16, c3, hput, gk, g4h, g6h, gkt, g4, g6, g2]
        refine ⟨?_, 64 - (i + 1), by omega, ?_, trivial, by omega, trivial, trivial, trivial, trivial, trivial, trivial, trivial, trivial, i + 1, rfl, rfl, by omega, rfl⟩
        · refine sameAll_low _ _ _ _ _ rfl rfl rfl rfl rfl rfl (sameAt_of (v := .int .u32 (iw (W (i - 7)))) (v' := .int .u32 (iw (W (i - 7)))) rfl (by decide) ?_ ?_ (by simp [sameAV])) (sameAll_eff _ _ _ _ _ rfl rfl rfl rfl rfl rfl (sameAt_of (v := .int .u32 (iw (W (i - 7)))) (v' := .int .u32 (iw (W (i - 7)))) rfl (by decide) ?_ ?_ (by simp [sameAV]))
            (sameAll_low _ _ _ _ _ rfl rfl rfl rfl rfl rfl (sameAt_of (v := .int .u32 (iw (W (i - 16)))) (v' := .int .u32 (iw (W (i - 16)))) rfl (by decide) ?_ ?_ (by simp [sameAV])) (sameAll_low _ _ _ _ _ rfl rfl rfl rfl rfl rfl (sameAt_of (v := .int .u32 (iw (W (i - 16)))) (v' := .int .u32 (iw (W (i - 16)))) rfl (by decide) ?_ ?_ (by simp [sameAV])) rfl)))
          · simp (maxSteps := 1000000) -dsimp (disch := (repeat first | rw [nxn] | rw [nxp]); try omega) only [go_sem, evLen, Nat.mul_one, gw, w7]
          · simp (maxSteps := 1000000) -dsimp (disch := (repeat first | rw [nxn] | rw [nxp]); try omega) only [go_sem, evLen]
          · simp (maxSteps := 1000000) -dsimp (disch := (repeat first | rw [nxn] | rw [nxp]); try omega) only [go_sem, evLen, Nat.mul_one, hg3, hg2, gw, w7]
          · simp (maxSteps := 1000000) -dsimp (disch := (repeat first | rw [nxn] | rw [nxp]); try omega) only [go_sem, evLen]
          · simp (maxSteps := 1000000) -dsimp (disch := (repeat first | rw [nxn] | rw [nxp]); try omega) only [go_sem, evLen, Nat.mul_one, gw, w16]
          · simp (maxSteps := 1000000) -dsimp (disch := (repeat first | rw [nxn] | rw [nxp]); try omega) only [go_sem, evLen]
          · simp (maxSteps := 1000000) -dsimp (disch := (repeat first | rw [nxn] | rw [nxp]); try omega) only [go_sem, evLen, Nat.mul_one, hg2, gw, w16]
          · simp (maxSteps := 1000000) -dsimp (disch := (repeat first | rw [nxn] | rw [nxp]); try omega) only [go_sem, evLen]
        · exact ((((e1.trans (Fr.bare (h' := { tr := h1.tr, nx := h1.nx + 10 + 26 }) rfl (by dsimp only; omega))).put _ (by omega)).trans hf2).put _ (by omega)).trans hf3 |>.put _ (by omega)
    · obtain rfl : i = 64 := by omega
      simp (maxSteps := 1000000) -dsimp (disch := (repeat first | rw [nxn] | rw [nxp]); try omega) only [go_sem, evLen, c1, gi]
      exact ⟨trivial, e1, trivial, en, gk, g4h, g6h, gkt, g4, g6, g7, gw⟩
  · simp (maxSteps := 1000000) -dsimp (disch := (repeat first | rw [nxn] | rw [nxp]); try omega) only [go_sem, evLen, Nat.mul_one, hg]
    refine ⟨((Fr.refl h).news _).news _ |>.news _, trivial, by omega, hk, trivial, trivial, trivial, trivial, trivial, trivial, trivial, 0, rfl, rfl, by omega, rfl⟩
  rintro ex ⟨t, h1, d⟩ ⟨rfl, e1, rfl, en, gk, g4h, g6h, gkt, g4, g6, g7, gw⟩
  dsimp only at e1 en gk g4h g6h gkt g4 g6 g7 gw
  simp (maxSteps := 1000000) -dsimp (disch := (repeat first | rw [nxn] | rw [nxp]); try omega) only [go_sem, evLen, Nat.mul_one, g4, g4h, zc76w]
  obtain ⟨A, hA⟩ : ∃ A, A = h1.nx := ⟨_, rfl⟩
  rw [← hA]
  refine loopK_of (RnL.rounds (Q := fun ex s => ex = .exit 2 ∧ Fr h s.h ∧ s.d = [] ∧ h.nx + 3 ≤ s.h.nx ∧ s.h.get (kid) = some (.cells (wrow K 64) ko kt) ∧ s.h.get (h.nx) = some (.cells (c8 s0) true false) ∧ s.h.get (h.nx + 1) = some (.cells (c8 w0) true false) ∧ s.t.get 0 = some (.ptr kid 0) ∧ s.t.get 4 = some (.ptr (h.nx) 0) ∧ s.t.get 6 = some (.ptr (h.nx + 1) 0) ∧ s.t.get 7 = some (.ptr (h.nx + 1 + 1) 0) ∧ A < s.h.nx ∧ s.t.get 11 = some (.ptr A 0) ∧ s.h.get A = some (.cells (c8 (rnd K W s0 64)) true false))
    (fun m s => Fr h s.h ∧ s.d = [] ∧ h.nx + 3 ≤ s.h.nx ∧ s.h.get (kid) = some (.cells (wrow K 64) ko kt) ∧ s.h.get (h.nx) = some (.cells (c8 s0) true false) ∧ s.h.get (h.nx + 1) = some (.cells (c8 w0) true false) ∧ s.t.get 0 = some (.ptr kid 0) ∧ s.t.get 4 = some (.ptr (h.nx) 0) ∧ s.t.get 6 = some (.ptr (h.nx + 1) 0) ∧ s.t.get 7 = some (.ptr (h.nx + 1 + 1) 0) ∧ s.h.get (h.nx + 1 + 1) = some (.cells (wrow W 64) true false) ∧ A < s.h.nx ∧ s.t.get 11 = some (.ptr A 0) ∧ ∃ i : Nat, s.h.get A = some (.cells (c8 (rnd K W s0 i)) true false) ∧ s.t.get 93 = some (.int .i64 (i : Nat)) ∧ i ≤ 64 ∧ m = 64 - i) ?_ 64 ?_) ?_
  · clear g4h g6h gkt g4 g6 g7 gw gk t
    rintro m ⟨t, h2, d⟩ ⟨f1, e2, fn, gk, g4h, g6h, gkt, g4, g6, g7, gw, fA, g11, i, gv, gi, hi, rfl⟩
    dsimp only at f1 e2 fn gk g4h g6h gkt g4 g6 g7 gw fA g11 gv gi
    subst e2
    by_cases c1 : (i : Int) < 64
    · have c3 : i < 64 := by omega
      have kk := wrow_lt K (i := 64) (j := i) c3 c3
      have ww := wrow_lt W (i := 64) (j := i) c3 c3
      obtain ⟨v, hv⟩ : ∃ v, v = rnd K W s0 i := ⟨_, rfl⟩
      rw [← hv] at gv
      simp (maxSteps := 1000000) -dsimp (disch := (repeat first | rw [nxn] | rw [nxp]); try omega) only [go_sem, evLen, c1, gi]
      refine syDraw.go0 (by kernel_rfl) ?_
      simp (maxSteps := 1000000) -dsimp (disch := (repeat first | rw [nxn] | rw [nxp]); try omega) only [go_sem, evLen, Nat.mul_one, g11, gv]
      refine syDraw.go [(1, 4), (4, 8), (4, 13), (4, 21), (4, 25)] (by kernel_rfl) (by kernel_rfl) ?_
      simp (maxSteps := 1000000) -dsimp (disch := (repeat first | rw [nxn] | rw [nxp]); try omega) only [go_sem, evLen, Nat.mul_one, g11, gv]
      refine callK_of (right64_3 (fun f a g hf => hS f a g (by rcases hf with h | h <;> simp [h])) v.e (n1 := 6) (n2 := 11) (n3 := 25) (by decide) (by decide) (by decide) (AH.get_put_eq rfl) (by rw [AH.nx_put]; show _ < h2.nx + 6 + 28; omega)) ?_
      rintro r h3 ⟨rfl, hf3⟩
      have hn3 : h2.nx + 6 + 28 ≤ h3.nx := hf3.nx
      have hg3 : ∀ j, j < h2.nx + 6 + 28 → h3.get j = (AH.put _ _ _).get j := hf3.get
      simp (maxSteps := 1000000) -dsimp (disch := (repeat first | rw [nxn] | rw [nxp]); try omega) only [go_sem, evLen, Nat.mul_one, g11, hg3, gv, gkt, gk, gi, kk, g7, gw, ww]
      refine ⟨?_, ?_⟩
      · refine sameAll_eff _ _ _ _ _ rfl rfl rfl rfl rfl rfl (sameAt_of (v := .int .u32 (iw (v.h))) (v' := .int .u32 (iw (v.h))) rfl (by decide) ?_ ?_ (by simp [sameAV])) (sameAll_low _ _ _ _ _ rfl rfl rfl rfl rfl rfl (sameAt_of (v := .int .u32 (iw (v.f))) (v' := .int .u32 (iw (v.f))) rfl (by decide) ?_ ?_ (by simp [sameAV])) (sameAll_low _ _ _ _ _ rfl rfl rfl rfl rfl rfl (sameAt_of (v := .int .u32 (iw (v.g))) (v' := .int .u32 (iw (v.g))) rfl (by decide) ?_ ?_ (by simp [sameAV])) (sameAll_low _ _ _ _ _ rfl rfl rfl rfl rfl rfl (sameAt_of (v := .int .u32 (iw (K i))) (v' := .int .u32 (iw (K i))) rfl (by decide) ?_ ?_ (by simp [sameAV])) (sameAll_low _ _ _ _ _ rfl rfl rfl rfl rfl rfl (sameAt_of (v := .int .u32 (iw (W i))) (v' := .int .u32 (iw (W i))) rfl (by decide) ?_ ?_ (by simp [sameAV])) (rfl)))))
        · simp (maxSteps := 1000000) -dsimp (disch := (repeat first | rw [nxn] | rw [nxp]); try omega) only [go_sem, evLen, Nat.mul_one, hg3, gv, gk, kk, gw, ww]
        · simp (maxSteps := 1000000) -dsimp (disch := (repeat first | rw [nxn] | rw [nxp]); try omega) only [go_sem, evLen]
        · simp (maxSteps := 1000000) -dsimp (disch := (repeat first | rw [nxn] | rw [nxp]); try omega) only [go_sem, evLen, Nat.mul_one, hg3, gv, gk, kk, gw, ww]
        · simp (maxSteps := 1000000) -dsimp (disch := (repeat first | rw [nxn] | rw [nxp]); try omega) only [go_sem, evLen]
        · simp (maxSteps := 1000000) -dsimp (disch := (repeat first | rw [nxn] | rw [nxp]); try omega) only [go_sem, evLen, Nat.mul_one, hg3, gv, gk, kk, gw, ww]
        · simp (maxSteps := 1000000) -dsimp (disch := (repeat first | rw [nxn] | rw [nxp]); try omega) only [go_sem, evLen]
        · simp (maxSteps := 1000000) -dsimp (disch := (repeat first | rw [nxn] | rw [nxp]); try omega) only [go_sem, evLen, Nat.mul_one, hg3, gv, gk, kk, gw, ww]
        · simp (maxSteps := 1000000) -dsimp (disch := (repeat first | rw [nxn] | rw [nxp]); try omega) only [go_sem, evLen]
        · simp (maxSteps := 1000000) -dsimp (disch := (repeat first | rw [nxn] | rw [nxp]); try omega) only [go_sem, evLen, Nat.mul_one, hg3, gv, gk, kk, gw, ww]
        · simp (maxSteps := 1000000) -dsimp (disch := (repeat first | rw [nxn] | rw [nxp]); try omega) only [go_sem, evLen]
      refine syDraw.go [(2, 5), (2, 9), (2, 13), (2, 15)] (by kernel_rfl) (by kernel_rfl) ?_
      simp (maxSteps := 1000000) -dsimp (disch := (repeat first | rw [nxn] | rw [nxp]); try omega) only [go_sem, evLen, Nat.mul_one, g11, gv]
      refine callK_of (right64_3 (fun f a g hf => hS f a g (by rcases hf with h | h <;> simp [h])) v.a (n1 := 2) (n2 := 13) (n3 := 22) (by decide) (by decide) (by decide) (AH.get_put_eq rfl) (by rw [AH.nx_put]; show _ < h3.nx + 20; omega)) ?_
      rintro r h4 ⟨rfl, hf4⟩
      have hn4 : h3.nx + 20 ≤ h4.nx := hf4.nx
      have hg4 : ∀ j, j < h3.nx + 20 → h4.get j = (AH.put _ _ _).get j := hf4.get
      simp (maxSteps := 1000000) -dsimp (disch := (repeat first | rw [nxn] | rw [nxp]); try omega) only [go_sem, evLen, Nat.mul_one, g11, hg4, hg3, gv, bld76, gk, g4h, g6h, gkt, g4, g6, g7, gw, gi]
      refine ⟨?_, 64 - (i + 1), by omega, ?_, trivial, by omega, trivial, trivial, trivial, trivial, trivial, trivial, trivial, trivial, by omega, trivial, i + 1, ?_, rfl, by omega, rfl⟩
      · refine sameAll_low _ _ _ _ _ rfl rfl rfl rfl rfl rfl (sameAt_of (v := .int .u32 (iw (v.b))) (v' := .int .u32 (iw (v.b))) rfl (by decide) ?_ ?_ (by simp [sameAV])) (sameAll_low _ _ _ _ _ rfl rfl rfl rfl rfl rfl (sameAt_of (v := .int .u32 (iw (v.c))) (v' := .int .u32 (iw (v.c))) rfl (by decide) ?_ ?_ (by simp [sameAV])) (sameAll_low _ _ _ _ _ rfl rfl rfl rfl rfl rfl (sameAt_of (v := .int .u32 (iw (v.b))) (v' := .int .u32 (iw (v.b))) rfl (by decide) ?_ ?_ (by simp [sameAV])) (sameAll_low _ _ _ _ _ rfl rfl rfl rfl rfl rfl (sameAt_of (v := .int .u32 (iw (v.c))) (v' := .int .u32 (iw (v.c))) rfl (by decide) ?_ ?_ (by simp [sameAV])) (rfl))))
        · simp (maxSteps := 1000000) -dsimp (disch := (repeat first | rw [nxn] | rw [nxp]); try omega) only [go_sem, evLen, Nat.mul_one, hg3, gv]
        · simp (maxSteps := 1000000) -dsimp (disch := (repeat first | rw [nxn] | rw [nxp]); try omega) only [go_sem, evLen]
        · simp (maxSteps := 1000000) -dsimp (disch := (repeat first | rw [nxn] | rw [nxp]); try omega) only [go_sem, evLen, Nat.mul_one, hg3, gv]
        · simp (maxSteps := 1000000) -dsimp (disch := (repeat first | rw [nxn] | rw [nxp]); try omega) only [go_sem, evLen]
        · simp (maxSteps := 1000000) -dsimp (disch := (repeat first | rw [nxn] | rw [nxp]); try omega) only [go_sem, evLen, Nat.mul_one, hg3, gv]
        · simp (maxSteps := 1000000) -dsimp (disch := (repeat first | rw [nxn] | rw [nxp]); try omega) only [go_sem, evLen]
        · simp (maxSteps := 1000000) -dsimp (disch := (repeat first | rw [nxn] | rw [nxp]); try omega) only [go_sem, evLen, Nat.mul_one, hg3, gv]
        · simp (maxSteps := 1000000) -dsimp (disch := (repeat first | rw [nxn] | rw [nxp]); try omega) only [go_sem, evLen]
      · exact (((((f1.trans (Fr.bare (h' := { tr := h2.tr, nx := h2.nx + 6 + 28 }) rfl (by dsimp only; omega))).put _ (by omega)).trans hf3).trans (Fr.bare (h' := { tr := h3.tr, nx := h3.nx + 20 }) rfl (by dsimp only; omega))).put _ (by omega)).trans hf4 |>.put _ (by omega)
      · show AO.cells (c8 _) true false = AO.cells (c8 (stp (rnd K W s0 i) (K i) (W i))) true false
        rw [← hv]
        unfold stp
        rfl
    · obtain rfl : i = 64 := by omega
      simp (maxSteps := 1000000) -dsimp (disch := (repeat first | rw [nxn] | rw [nxp]); try omega) only [go_sem, evLen, c1, gi]
      exact ⟨trivial, f1, trivial, fn, gk, g4h, g6h, gkt, g4, g6, g7, fA, g11, gv⟩
  · simp (maxSteps := 1000000) -dsimp (disch := (repeat first | rw [nxn] | rw [nxp]); try omega) only [go_sem, evLen, Nat.mul_one, g4, g4h, g6, g6h, g7, gw, gkt, gk, hA]
    refine ⟨e1.news _ |>.put _ (by omega), trivial, by omega, trivial, trivial, trivial, trivial, trivial, trivial, trivial, trivial, by omega, trivial, 0, rfl, rfl, by omega, rfl⟩
  rintro ex ⟨t, h2, d⟩ ⟨rfl, f1, rfl, fn, gk, g4h, g6h, gkt, g4, g6, g7, fA, g11, gv⟩
  dsimp only at f1 fn gk g4h g6h gkt g4 g6 g7 fA g11 gv
  obtain ⟨v, hv⟩ : ∃ v, v = rnd K W s0 64 := ⟨_, rfl⟩
  rw [← hv] at gv
  have g4h' : h2.get (h.nx) = some (.cells [.int .u32 (iw s0.a), .int .u32 (iw s0.b), .int .u32 (iw s0.c), .int .u32 (iw s0.d), .int .u32 (iw s0.e), .int .u32 (iw s0.f), .int .u32 (iw s0.g), .int .u32 (iw s0.h)] true false) := g4h
  have gv' : h2.get A = some (.cells [.int .u32 (iw v.a), .int .u32 (iw v.b), .int .u32 (iw v.c), .int .u32 (iw v.d), .int .u32 (iw v.e), .int .u32 (iw v.f), .int .u32 (iw v.g), .int .u32 (iw v.h)] true false) := gv
  simp (maxSteps := 1000000) -dsimp (disch := (repeat first | rw [nxn] | rw [nxp]); try omega) only [go_sem, evLen]
  refine loopK_unroll ?_
  simp (maxSteps := 1000000) -dsimp (disch := (repeat first | rw [nxn] | rw [nxp]); try omega) only [go_sem, evLen]
  refine syDraw.go0 (by kernel_rfl) ?_
  simp (maxSteps := 1000000) -dsimp (disch := (repeat first | rw [nxn] | rw [nxp]); try omega) only [go_sem, evLen, Nat.mul_one, g4, g4h', g11, gv']
  refine loopK_unroll ?_
  simp (maxSteps := 1000000) -dsimp (disch := (repeat first | rw [nxn] | rw [nxp]); try omega) only [go_sem, evLen]
  refine syDraw.go0 (by kernel_rfl) ?_
  simp (maxSteps := 1000000) -dsimp (disch := (repeat first | rw [nxn] | rw [nxp]); try omega) only [go_sem, evLen, Nat.mul_one, g4, g4h', g11, gv']
  refine loopK_unroll ?_
  simp (maxSteps := 1000000) -dsimp (disch := (repeat first | rw [nxn] | rw [nxp]); try omega) only [go_sem, evLen]
  refine syDraw.go0 (by kernel_rfl) ?_
  simp (maxSteps := 1000000) -dsimp (disch := (repeat first | rw [nxn] | rw [nxp]); try omega) only [go_sem, evLen, Nat.mul_one, g4, g4h', g11, gv']
  refine loopK_unroll ?_
  simp (maxSteps := 1000000) -dsimp (disch := (repeat first | rw [nxn] | rw [nxp]); try omega) only [go_sem, evLen]
  refine syDraw.go0 (by kernel_rfl) ?_
  simp (maxSteps := 1000000) -dsimp (disch := (repeat first | rw [nxn] | rw [nxp]); try omega) only [go_sem, evLen, Nat.mul_one, g4, g4h', g11, gv']
  refine loopK_unroll ?_
  simp (maxSteps := 1000000) -dsimp (disch := (repeat first | rw [nxn] | rw [nxp]); try omega) only [go_sem, evLen]
  refine syDraw.go0 (by kernel_rfl) ?_
  simp (maxSteps := 1000000) -dsimp (disch := (repeat first | rw [nxn] | rw [nxp]); try omega) only [go_sem, evLen, Nat.mul_one, g4, g4h', g11, gv']
  refine loopK_unroll ?_
  simp (maxSteps := 1000000) -dsimp (disch := (repeat first | rw [nxn] | rw [nxp]); try omega) only [go_sem, evLen]
  refine syDraw.go0 (by kernel_rfl) ?_
  simp (maxSteps := 1000000) -dsimp (disch := (repeat first | rw [nxn] | rw [nxp]); try omega) only [go_sem, evLen, Nat.mul_one, g4, g4h', g11, gv']
  refine loopK_unroll ?_
  simp (maxSteps := 1000000) -dsimp (disch := (repeat first | rw [nxn] | rw [nxp]); try omega) only [go_sem, evLen]
  refine syDraw.go0 (by kernel_rfl) ?_
  simp (maxSteps := 1000000) -dsimp (disch := (repeat first | rw [nxn] | rw [nxp]); try omega) only [go_sem, evLen, Nat.mul_one, g4, g4h', g11, gv']
  refine loopK_unroll ?_
  simp (maxSteps := 1000000) -dsimp (disch := (repeat first | rw [nxn] | rw [nxp]); try omega) only [go_sem, evLen]
  refine syDraw.go0 (by kernel_rfl) ?_
  simp (maxSteps := 1000000) -dsimp (disch := (repeat first | rw [nxn] | rw [nxp]); try omega) only [go_sem, evLen, Nat.mul_one, g4, g4h', g11, gv']
  refine loopK_unroll ?_
  simp (maxSteps := 1000000) -dsimp (disch := (repeat first | rw [nxn] | rw [nxp]); try omega) only [go_sem, evLen, Nat.mul_one, g4, g4h', g11, gv', g6, g6h]
  refine ⟨?_, ?_⟩
  · show AV.agg (c8 (add8 s0 v)) = AV.agg (c8 (blk K (fun j => l.getD j 0) s0))
    unfold blk
    rw [hW, ← hv]
  · repeat first | exact f1 | refine Fr.put ?_ _ (by omega) | refine Fr.more ?_ _ (by first | omega | (simp only [AH.nx_put]; omega))

set_option maxHeartbeats 40000000 in
theorem blkR (hS : NoS S) {h : AH} {v : AV} {l : List Nat} (K : Nat → W32) (s0 : W8) (hb : Bs h v l) (hl : ∀ b ∈ l, b < 256) (h64 : l.length = 64) :
    RnC Tryz.prog S 62 [.agg (wrow K 64), .agg (c8 s0), v] h fun r h' => r = .agg (c8 (blk K (fun j => l.getD j 0) s0)) ∧ Fr h h' := by
  refine RnC.enter' Tryz.f62 _ 177 [.cell 6 108] (hS _ _ _ (by simp)) bd62 Tryz.func62 rfl rfl rfl ?_
  generalize hW : Wf (fun j => l.getD j 0) = W
  rcases hb with ⟨rfl, h0⟩ | ⟨id, off, c, cs, o, tx, rfl, hg, hid, hlen, hc, hx⟩
  · subst h0; simp at h64
  simp (maxSteps := 1000000) -dsimp (disch := (repeat first | rw [nxn] | rw [nxp]); try omega) only [go_sem, evLen, Nat.mul_one, zc76w, zc74w W]
  refine loopK_of (RnL.rounds (Q := fun ex s => ex = .exit 0 ∧ Fr h s.h ∧ s.d = [] ∧ h.nx + 4 ≤ s.h.nx ∧ s.h.get (h.nx) = some (.cells (wrow K 64) true false) ∧ s.h.get (h.nx + 1) = some (.cells (c8 s0) true false) ∧ s.h.get (h.nx + 1 + 1) = some (.cells (c8 w0) true false) ∧ s.t.get 3 = some (.ptr h.nx 0) ∧ s.t.get 4 = some (.ptr (h.nx + 1) 0) ∧ s.t.get 6 = some (.ptr (h.nx + 1 + 1) 0) ∧ s.t.get 7 = some (.ptr (h.nx + 1 + 1 + 1) 0) ∧ s.h.get (h.nx + 1 + 1 + 1) = some (.cells (wrow W 64) true false))
    (fun m s => Fr h s.h ∧ s.d = [] ∧ h.nx + 4 ≤ s.h.nx ∧ s.h.get (h.nx) = some (.cells (wrow K 64) true false) ∧ s.h.get (h.nx + 1) = some (.cells (c8 s0) true false) ∧ s.h.get (h.nx + 1 + 1) = some (.cells (c8 w0) true false) ∧ s.t.get 3 = some (.ptr h.nx 0) ∧ s.t.get 4 = some (.ptr (h.nx + 1) 0) ∧ s.t.get 6 = some (.ptr (h.nx + 1 + 1) 0) ∧ s.t.get 7 = some (.ptr (h.nx + 1 + 1 + 1) 0) ∧ s.t.get 2 = some (.sl id off l.length 1 c) ∧ ∃ i : Nat, s.h.get (h.nx + 1 + 1 + 1) = some (.cells (wrow W i) true false) ∧ s.t.get 8 = some (.int .i64 (i : Nat)) ∧ i ≤ 64 ∧ m = 64 - i) ?_ 64 ?_) ?_
  · rintro m ⟨t, h1, d⟩ ⟨e1, e2, en, gk, g4h, g6h, gkt, g4, g6, g7, g2, i, gw, gi, hi, rfl⟩
    dsimp only at e1 e2 en gk g4h g6h gkt g4 g6 g7 g2 gw gi
    subst e2
    have hgid : h1.get id = some (.cells cs o tx) := (e1.get id hid).trans hg
    by_cases c1 : (i : Int) < 64
    · have c3 : i + 1 ≤ 64 := by omega
      by_cases c2 : (i : Int) < 16
      · simp (maxSteps := 1000000) -dsimp (disch := (repeat first | rw [nxn] | rw [nxp]); try omega) only [go_sem, evLen, c1, c2, gi]
        refine syDraw.go0 (by kernel_rfl) ?_
        have t0 : (4 * (i : Int)).toNat = 4 * i := by omega
        have t1 : (4 * (i : Int) + 1).toNat = 4 * i + 1 := by omega
        have t2 : (4 * (i : Int) + 2).toNat = 4 * i + 2 := by omega
        have t3 : (4 * (i : Int) + 3).toNat = 4 * i + 3 := by omega
        have q0 := bs_getD hx (i := 4 * i) (by omega)
        have q1 := bs_getD hx (i := 4 * i + 1) (by omega)
        have q2 := bs_getD hx (i := 4 * i + 2) (by omega)
        have q3 := bs_getD hx (i := 4 * i + 3) (by omega)
        have hput := wrow_put W (i := i) (by omega) ((four_add (getD_lt hl (4 * i)) (getD_lt hl (4 * i + 1)) (getD_lt hl (4 * i + 2)) (getD_lt hl (4 * i + 3))).trans (by rw [← hW, Wf_lo _ (by omega)]))
        simp (maxSteps := 1000000) -dsimp (disch := (repeat first | rw [nxn] | rw [nxp]); try omega) only [go_sem, evLen, Nat.mul_one, gi, g2, g7, gw, hgid, t0, t1, t2, t3, q0, q1, q2, q3, cv573, c3, hput, gk, g4h, g6h, gkt, g4, g6]
        refine ⟨64 - (i + 1), by omega, (e1.more _ (by omega)).put _ (by omega), trivial, by omega, trivial, trivial, trivial, trivial, trivial, trivial, trivial, trivial, i + 1, rfl, rfl, by omega, rfl⟩
      · simp (maxSteps := 1000000) -dsimp (disch := (repeat first | rw [nxn] | rw [nxp]); try omega) only [go_sem, evLen, c1, c2, gi]
        refine syDraw.go0 (by kernel_rfl) ?_
        have j2 : ((i : Int) - 2).toNat = i - 2 := by omega
        have j7 : ((i : Int) - 7).toNat = i - 7 := by omega
        have j15 : ((i : Int) - 15).toNat = i - 15 := by omega
        have j16 : ((i : Int) - 16).toNat = i - 16 := by omega
        have w2 := wrow_lt W (i := i) (j := i - 2) (by omega) (by omega)
        have w7 := wrow_lt W (i := i) (j := i - 7) (by omega) (by omega)
        have w15 := wrow_lt W (i := i) (j := i - 15) (by omega) (by omega)
        have w16 := wrow_lt W (i := i) (j := i - 16) (by omega) (by omega)
        simp (maxSteps := 1000000) -dsimp (disch := (repeat first | rw [nxn] | rw [nxp]); try omega) only [go_sem, evLen, Nat.mul_one, gi, g7, gw, j2, j15, w2, w15]
        refine syDraw.go [(3, 10), (10, 14), (3, 22), (14, 22)] (by kernel_rfl) (by kernel_rfl) ?_
        simp (maxSteps := 1000000) -dsimp (disch := (repeat first | rw [nxn] | rw [nxp]); try omega) only [go_sem, evLen, Nat.mul_one, gi, g7]
        refine callK_of (right48_2 (fun a g => hS _ a g (by simp)) (W (i - 2)) (n1 := 17) (n2 := 19) (by decide) (by decide) (AH.get_put_eq rfl) (by rw [AH.nx_put]; show _ < h1.nx + 10 + 26; omega)) ?_
        rintro r h2 ⟨rfl, hf2⟩
        have hn2 : h1.nx + 10 + 26 ≤ h2.nx := hf2.nx
        have hg2 : ∀ j, j < h1.nx + 10 + 26 → h2.get j = (AH.put _ _ _).get j := hf2.get
        simp (maxSteps := 1000000) -dsimp (disch := (repeat first | rw [nxn] | rw [nxp]); try omega) only [go_sem, evLen, Nat.mul_one, gi, g7, hg2, gw, j7, w7]
        refine callK_of (right48_2 (fun a g => hS _ a g (by simp)) (W (i - 15)) (n1 := 7) (n2 := 18) (by decide) (by decide) (AH.get_put_eq rfl) (by rw [AH.nx_put]; omega)) ?_
        rintro r h3 ⟨rfl, hf3⟩
        have hn3 : h2.nx ≤ h3.nx := hf3.nx
        have hg3 : ∀ j, j < h2.nx → h3.get j = (AH.put _ _ _).get j := hf3.get
        have hput := wrow_put W (i := i) (by omega) (show (((rots (W (i - 2)) [17, 19] 0 ^^^ W (i - 2) >>> 10) + W (i - 7) + (rots (W (i - 15)) [7, 18] 0 ^^^ W (i - 15) >>> 3)) + W (i - 16)) = W i by rw [← hW]; exact (Wf_hi _ (by omega)).symm)
        simp (maxSteps := 1000000) -dsimp (disch := (repeat first | rw [nxn] | rw [nxp]); try omega) only [go_sem, evLen, Nat.mul_one, gi, g7, hg3, hg2, gw, j16, w16, c3, hput, gk, g4h, g6h, gkt, g4, g6, g2]
        refine ⟨?_, 64 - (i + 1), by omega, ?_, trivial, by omega, trivial, trivial, trivial, trivial, trivial, trivial, trivial, trivial, i + 1, rfl, rfl, by omega, rfl⟩
        · refine sameAll_low _ _ _ _ _ rfl rfl rfl rfl rfl rfl (sameAt_of (v := .int .u32 (iw (W (i - 7)))) (v' := .int .u32 (iw (W (i - 7)))) rfl (by decide) ?_ ?_ (by simp [sameAV])) (sameAll_eff _ _ _ _ _ rfl rfl rfl rfl rfl rfl (sameAt_of (v := .int .u32 (iw (W (i - 7)))) (v' := .int .u32 (iw (W (i - 7)))) rfl (by decide) ?_ ?_ (by simp [sameAV]))
            (sameAll_low _ _ _ _ _ rfl rfl rfl rfl rfl rfl (sameAt_of (v := .int .u32 (iw (W (i - 16)))) (v' := .int .u32 (iw (W (i - 16)))) rfl (by decide) ?_ ?_ (by simp [sameAV])) (sameAll_low _ _ _ _ _ rfl rfl rfl rfl rfl rfl (sameAt_of (v := .int .u32 (iw (W (i - 16)))) (v' := .int .u32 (iw (W (i - 16)))) rfl (by decide) ?_ ?_ (by simp [sameAV])) rfl)))
          · simp (maxSteps := 1000000) -dsimp (disch := (repeat first | rw [nxn] | rw [nxp]); try omega) only [go_sem, evLen, Nat.mul_one, gw, w7]
          · simp (maxSteps := 1000000) -dsimp (disch := (repeat first | rw [nxn] | rw [nxp]); try omega) only [go_sem, evLen]
          · simp (maxSteps := 1000000) -dsimp (disch := (repeat first | rw [nxn] | rw [nxp]); try omega) only [go_sem, evLen, Nat.mul_one, hg3, hg2, gw, w7]
          · simp (maxSteps := 1000000) -dsimp (disch := (repeat first | rw [nxn] | rw [nxp]); try omega) only [go_sem, evLen]
          · simp (maxSteps := 1000000) -dsimp (disch := (repeat first | rw [nxn] | rw [nxp]); try omega) only [go_sem, evLen, Nat.mul_one, gw, w16]
          · simp (maxSteps := 1000000) -dsimp (disch := (repeat first | rw [nxn] | rw [nxp]); try omega) only [go_sem, evLen]
          · simp (maxSteps := 1000000) -dsimp (disch := (repeat first | rw [nxn] | rw [nxp]); try omega) only [go_sem, evLen, Nat.mul_one, hg2, gw, w16]
          · simp (maxSteps := 1000000) -dsimp (disch := (repeat first | rw [nxn] | rw [nxp]); try omega) only [go_sem, evLen]
        · exact ((((e1.trans (Fr.bare (h' := { tr := h1.tr, nx := h1.nx + 10 + 26 }) rfl (by dsimp only; omega))).put _ (by omega)).trans hf2).put _ (by omega)).trans hf3 |>.put _ (by omega)
    · obtain rfl : i = 64 := by omega
      simp (maxSteps := 1000000) -dsimp (disch := (repeat first | rw [nxn] | rw [nxp]); try omega) only [go_sem, evLen, c1, gi]
      exact ⟨trivial, e1, trivial, en, gk, g4h, g6h, gkt, g4, g6, g7, gw⟩
  · simp (maxSteps := 1000000) -dsimp (disch := (repeat first | rw [nxn] | rw [nxp]); try omega) only [go_sem, evLen, Nat.mul_one, hg]
    refine ⟨(((Fr.refl h).news _).news _).news _ |>.news _, trivial, by omega, trivial, trivial, trivial, trivial, trivial, trivial, trivial, trivial, 0, rfl, rfl, by omega, rfl⟩
  rintro ex ⟨t, h1, d⟩ ⟨rfl, e1, rfl, en, gk, g4h, g6h, gkt, g4, g6, g7, gw⟩
  dsimp only at e1 en gk g4h g6h gkt g4 g6 g7 gw
  simp (maxSteps := 1000000) -dsimp (disch := (repeat first | rw [nxn] | rw [nxp]); try omega) only [go_sem, evLen, Nat.mul_one, g4, g4h, zc76w]
  obtain ⟨A, hA⟩ : ∃ A, A = h1.nx := ⟨_, rfl⟩
  rw [← hA]
  refine loopK_of (RnL.rounds (Q := fun ex s => ex = .exit 2 ∧ Fr h s.h ∧ s.d = [] ∧ h.nx + 4 ≤ s.h.nx ∧ s.h.get (h.nx) = some (.cells (wrow K 64) true false) ∧ s.h.get (h.nx + 1) = some (.cells (c8 s0) true false) ∧ s.h.get (h.nx + 1 + 1) = some (.cells (c8 w0) true false) ∧ s.t.get 3 = some (.ptr h.nx 0) ∧ s.t.get 4 = some (.ptr (h.nx + 1) 0) ∧ s.t.get 6 = some (.ptr (h.nx + 1 + 1) 0) ∧ s.t.get 7 = some (.ptr (h.nx + 1 + 1 + 1) 0) ∧ A < s.h.nx ∧ s.t.get 11 = some (.ptr A 0) ∧ s.h.get A = some (.cells (c8 (rnd K W s0 64)) true false))
    (fun m s => Fr h s.h ∧ s.d = [] ∧ h.nx + 4 ≤ s.h.nx ∧ s.h.get (h.nx) = some (.cells (wrow K 64) true false) ∧ s.h.get (h.nx + 1) = some (.cells (c8 s0) true false) ∧ s.h.get (h.nx + 1 + 1) = some (.cells (c8 w0) true false) ∧ s.t.get 3 = some (.ptr h.nx 0) ∧ s.t.get 4 = some (.ptr (h.nx + 1) 0) ∧ s.t.get 6 = some (.ptr (h.nx + 1 + 1) 0) ∧ s.t.get 7 = some (.ptr (h.nx + 1 + 1 + 1) 0) ∧ s.h.get (h.nx + 1 + 1 + 1) = some (.cells (wrow W 64) true false) ∧ A < s.h.nx ∧ s.t.get 11 = some (.ptr A 0) ∧ ∃ i : Nat, s.h.get A = some (.cells (c8 (rnd K W s0 i)) true false) ∧ s.t.get 12 = some (.int .i64 (i : Nat)) ∧ i ≤ 64 ∧ m = 64 - i) ?_ 64 ?_) ?_
  · clear g4h g6h gkt g4 g6 g7 gw gk t
    rintro m ⟨t, h2, d⟩ ⟨f1, e2, fn, gk, g4h, g6h, gkt, g4, g6, g7, gw, fA, g11, i, gv, gi, hi, rfl⟩
    dsimp only at f1 e2 fn gk g4h g6h gkt g4 g6 g7 gw fA g11 gv gi
    subst e2
    by_cases c1 : (i : Int) < 64
    · have c3 : i < 64 := by omega
      have kk := wrow_lt K (i := 64) (j := i) c3 c3
      have ww := wrow_lt W (i := 64) (j := i) c3 c3
      obtain ⟨v, hv⟩ : ∃ v, v = rnd K W s0 i := ⟨_, rfl⟩
      rw [← hv] at gv
      simp (maxSteps := 1000000) -dsimp (disch := (repeat first | rw [nxn] | rw [nxp]); try omega) only [go_sem, evLen, c1, gi]
      refine syDraw.go0 (by kernel_rfl) ?_
      simp (maxSteps := 1000000) -dsimp (disch := (repeat first | rw [nxn] | rw [nxp]); try omega) only [go_sem, evLen, Nat.mul_one, g11, gv]
      refine syDraw.go [(1, 4), (4, 8), (4, 13), (4, 19), (4, 23)] (by kernel_rfl) (by kernel_rfl) ?_
      simp (maxSteps := 1000000) -dsimp (disch := (repeat first | rw [nxn] | rw [nxp]); try omega) only [go_sem, evLen, Nat.mul_one, g11, gv]
      refine callK_of (right48_3 (fun a g => hS _ a g (by simp)) v.e (n1 := 6) (n2 := 11) (n3 := 25) (by decide) (by decide) (by decide) (AH.get_put_eq rfl) (by rw [AH.nx_put]; show _ < h2.nx + 6 + 26; omega)) ?_
      rintro r h3 ⟨rfl, hf3⟩
      have hn3 : h2.nx + 6 + 26 ≤ h3.nx := hf3.nx
      have hg3 : ∀ j, j < h2.nx + 6 + 26 → h3.get j = (AH.put _ _ _).get j := hf3.get
      simp (maxSteps := 1000000) -dsimp (disch := (repeat first | rw [nxn] | rw [nxp]); try omega) only [go_sem, evLen, Nat.mul_one, g11, hg3, gv, gkt, gk, gi, kk, g7, gw, ww]
      refine ⟨?_, ?_⟩
      · refine sameAll_eff _ _ _ _ _ rfl rfl rfl rfl rfl rfl (sameAt_of (v := .int .u32 (iw (v.h))) (v' := .int .u32 (iw (v.h))) rfl (by decide) ?_ ?_ (by simp [sameAV])) (sameAll_low _ _ _ _ _ rfl rfl rfl rfl rfl rfl (sameAt_of (v := .int .u32 (iw (v.f))) (v' := .int .u32 (iw (v.f))) rfl (by decide) ?_ ?_ (by simp [sameAV])) (sameAll_low _ _ _ _ _ rfl rfl rfl rfl rfl rfl (sameAt_of (v := .int .u32 (iw (v.g))) (v' := .int .u32 (iw (v.g))) rfl (by decide) ?_ ?_ (by simp [sameAV])) (sameAll_low _ _ _ _ _ rfl rfl rfl rfl rfl rfl (sameAt_of (v := .int .u32 (iw (K i))) (v' := .int .u32 (iw (K i))) rfl (by decide) ?_ ?_ (by simp [sameAV])) (sameAll_low _ _ _ _ _ rfl rfl rfl rfl rfl rfl (sameAt_of (v := .int .u32 (iw (W i))) (v' := .int .u32 (iw (W i))) rfl (by decide) ?_ ?_ (by simp [sameAV])) (rfl)))))
        · simp (maxSteps := 1000000) -dsimp (disch := (repeat first | rw [nxn] | rw [nxp]); try omega) only [go_sem, evLen, Nat.mul_one, hg3, gv, gk, kk, gw, ww]
        · simp (maxSteps := 1000000) -dsimp (disch := (repeat first | rw [nxn] | rw [nxp]); try omega) only [go_sem, evLen]
        · simp (maxSteps := 1000000) -dsimp (disch := (repeat first | rw [nxn] | rw [nxp]); try omega) only [go_sem, evLen, Nat.mul_one, hg3, gv, gk, kk, gw, ww]
        · simp (maxSteps := 1000000) -dsimp (disch := (repeat first | rw [nxn] | rw [nxp]); try omega) only [go_sem, evLen]
        · simp (maxSteps := 1000000) -dsimp (disch := (repeat first | rw [nxn] | rw [nxp]); try omega) only [go_sem, evLen, Nat.mul_one, hg3, gv, gk, kk, gw, ww]
        · simp (maxSteps := 1000000) -dsimp (disch := (repeat first | rw [nxn] | rw [nxp]); try omega) only [go_sem, evLen]
        · simp (maxSteps := 1000000) -dsimp (disch := (repeat first | rw [nxn] | rw [nxp]); try omega) only [go_sem, evLen, Nat.mul_one, hg3, gv, gk, kk, gw, ww]
        · simp (maxSteps := 1000000) -dsimp (disch := (repeat first | rw [nxn] | rw [nxp]); try omega) only [go_sem, evLen]
        · simp (maxSteps := 1000000) -dsimp (disch := (repeat first | rw [nxn] | rw [nxp]); try omega) only [go_sem, evLen, Nat.mul_one, hg3, gv, gk, kk, gw, ww]
        · simp (maxSteps := 1000000) -dsimp (disch := (repeat first | rw [nxn] | rw [nxp]); try omega) only [go_sem, evLen]
      refine syDraw.go [(2, 5), (2, 9), (2, 13), (2, 15)] (by kernel_rfl) (by kernel_rfl) ?_
      simp (maxSteps := 1000000) -dsimp (disch := (repeat first | rw [nxn] | rw [nxp]); try omega) only [go_sem, evLen, Nat.mul_one, g11, gv]
      refine callK_of (right48_3 (fun a g => hS _ a g (by simp)) v.a (n1 := 2) (n2 := 13) (n3 := 22) (by decide) (by decide) (by decide) (AH.get_put_eq rfl) (by rw [AH.nx_put]; show _ < h3.nx + 20; omega)) ?_
      rintro r h4 ⟨rfl, hf4⟩
      have hn4 : h3.nx + 20 ≤ h4.nx := hf4.nx
      have hg4 : ∀ j, j < h3.nx + 20 → h4.get j = (AH.put _ _ _).get j := hf4.get
      simp (maxSteps := 1000000) -dsimp (disch := (repeat first | rw [nxn] | rw [nxp]); try omega) only [go_sem, evLen, Nat.mul_one, g11, hg4, hg3, gv, bld76, gk, g4h, g6h, gkt, g4, g6, g7, gw, gi]
      refine ⟨?_, 64 - (i + 1), by omega, ?_, trivial, by omega, trivial, trivial, trivial, trivial, trivial, trivial, trivial, trivial, by omega, trivial, i + 1, ?_, rfl, by omega, rfl⟩
      · refine sameAll_low _ _ _ _ _ rfl rfl rfl rfl rfl rfl (sameAt_of (v := .int .u32 (iw (v.b))) (v' := .int .u32 (iw (v.b))) rfl (by decide) ?_ ?_ (by simp [sameAV])) (sameAll_low _ _ _ _ _ rfl rfl rfl rfl rfl rfl (sameAt_of (v := .int .u32 (iw (v.c))) (v' := .int .u32 (iw (v.c))) rfl (by decide) ?_ ?_ (by simp [sameAV])) (sameAll_low _ _ _ _ _ rfl rfl rfl rfl rfl rfl (sameAt_of (v := .int .u32 (iw (v.b))) (v' := .int .u32 (iw (v.b))) rfl (by decide) ?_ ?_ (by simp [sameAV])) (sameAll_low _ _ _ _ _ rfl rfl rfl rfl rfl rfl (sameAt_of (v := .int .u32 (iw (v.c))) (v' := .int .u32 (iw (v.c))) rfl (by decide) ?_ ?_ (by simp [sameAV])) (rfl))))
        · simp (maxSteps := 1000000) -dsimp (disch := (repeat first | rw [nxn] | rw [nxp]); try omega) only [go_sem, evLen, Nat.mul_one, hg3, gv]
        · simp (maxSteps := 1000000) -dsimp (disch := (repeat first | rw [nxn] | rw [nxp]); try omega) only [go_sem, evLen]
        · simp (maxSteps := 1000000) -dsimp (disch := (repeat first | rw [nxn] | rw [nxp]); try omega) only [go_sem, evLen, Nat.mul_one, hg3, gv]
        · simp (maxSteps := 1000000) -dsimp (disch := (repeat first | rw [nxn] | rw [nxp]); try omega) only [go_sem, evLen]
        · simp (maxSteps := 1000000) -dsimp (disch := (repeat first | rw [nxn] | rw [nxp]); try omega) only [go_sem, evLen, Nat.mul_one, hg3, gv]
        · simp (maxSteps := 1000000) -dsimp (disch := (repeat first | rw [nxn] | rw [nxp]); try omega) only [go_sem, evLen]
        · simp (maxSteps := 1000000) -dsimp (disch := (repeat first | rw [nxn] | rw [nxp]); try omega) only [go_sem, evLen, Nat.mul_one, hg3, gv]
        · simp (maxSteps := 1000000) -dsimp (disch := (repeat first | rw [nxn] | rw [nxp]); try omega) only [go_sem, evLen]
      · exact (((((f1.trans (Fr.bare (h' := { tr := h2.tr, nx := h2.nx + 6 + 26 }) rfl (by dsimp only; omega))).put _ (by omega)).trans hf3).trans (Fr.bare (h' := { tr := h3.tr, nx := h3.nx + 20 }) rfl (by dsimp only; omega))).put _ (by omega)).trans hf4 |>.put _ (by omega)
      · show AO.cells (c8 _) true false = AO.cells (c8 (stp (rnd K W s0 i) (K i) (W i))) true false
        rw [← hv]
        unfold stp
        rw [cho_eq, maj_eq]
    · obtain rfl : i = 64 := by omega
      simp (maxSteps := 1000000) -dsimp (disch := (repeat first | rw [nxn] | rw [nxp]); try omega) only [go_sem, evLen, c1, gi]
      exact ⟨trivial, f1, trivial, fn, gk, g4h, g6h, gkt, g4, g6, g7, fA, g11, gv⟩
  · simp (maxSteps := 1000000) -dsimp (disch := (repeat first | rw [nxn] | rw [nxp]); try omega) only [go_sem, evLen, Nat.mul_one, g4, g4h, g6, g6h, g7, gw, gkt, gk, hA]
    refine ⟨e1.news _ |>.put _ (by omega), trivial, by omega, trivial, trivial, trivial, trivial, trivial, trivial, trivial, trivial, by omega, trivial, 0, rfl, rfl, by omega, rfl⟩
  rintro ex ⟨t, h2, d⟩ ⟨rfl, f1, rfl, fn, gk, g4h, g6h, gkt, g4, g6, g7, fA, g11, gv⟩
  dsimp only at f1 fn gk g4h g6h gkt g4 g6 g7 fA g11 gv
  obtain ⟨v, hv⟩ : ∃ v, v = rnd K W s0 64 := ⟨_, rfl⟩
  rw [← hv] at gv
  have g4h' : h2.get (h.nx + 1) = some (.cells [.int .u32 (iw s0.a), .int .u32 (iw s0.b), .int .u32 (iw s0.c), .int .u32 (iw s0.d), .int .u32 (iw s0.e), .int .u32 (iw s0.f), .int .u32 (iw s0.g), .int .u32 (iw s0.h)] true false) := g4h
  have gv' : h2.get A = some (.cells [.int .u32 (iw v.a), .int .u32 (iw v.b), .int .u32 (iw v.c), .int .u32 (iw v.d), .int .u32 (iw v.e), .int .u32 (iw v.f), .int .u32 (iw v.g), .int .u32 (iw v.h)] true false) := gv
  simp (maxSteps := 1000000) -dsimp (disch := (repeat first | rw [nxn] | rw [nxp]); try omega) only [go_sem, evLen]
  refine loopK_unroll ?_
  simp (maxSteps := 1000000) -dsimp (disch := (repeat first | rw [nxn] | rw [nxp]); try omega) only [go_sem, evLen]
  refine syDraw.go0 (by kernel_rfl) ?_
  simp (maxSteps := 1000000) -dsimp (disch := (repeat first | rw [nxn] | rw [nxp]); try omega) only [go_sem, evLen, Nat.mul_one, g4, g4h', g11, gv']
  refine loopK_unroll ?_
  simp (maxSteps := 1000000) -dsimp (disch := (repeat first | rw [nxn] | rw [nxp]); try omega) only [go_sem, evLen]
  refine syDraw.go0 (by kernel_rfl) ?_
  simp (maxSteps := 1000000) -dsimp (disch := (repeat first | rw [nxn] | rw [nxp]); try omega) only [go_sem, evLen, Nat.mul_one, g4, g4h', g11, gv']
  refine loopK_unroll ?_
  simp (maxSteps := 1000000) -dsimp (disch := (repeat first | rw [nxn] | rw [nxp]); try omega) only [go_sem, evLen]
  refine syDraw.go0 (by kernel_rfl) ?_
  simp (maxSteps := 1000000) -dsimp (disch := (repeat first | rw [nxn] | rw [nxp]); try omega) only [go_sem, evLen, Nat.mul_one, g4, g4h', g11, gv']
  refine loopK_unroll ?_
  simp (maxSteps := 1000000) -dsimp (disch := (repeat first | rw [nxn] | rw [nxp]); try omega) only [go_sem, evLen]
  refine syDraw.go0 (by kernel_rfl) ?_
  simp (maxSteps := 1000000) -dsimp (disch := (repeat first | rw [nxn] | rw [nxp]); try omega) only [go_sem, evLen, Nat.mul_one, g4, g4h', g11, gv']
  refine loopK_unroll ?_
  simp (maxSteps := 1000000) -dsimp (disch := (repeat first | rw [nxn] | rw [nxp]); try omega) only [go_sem, evLen]
  refine syDraw.go0 (by kernel_rfl) ?_
  simp (maxSteps := 1000000) -dsimp (disch := (repeat first | rw [nxn] | rw [nxp]); try omega) only [go_sem, evLen, Nat.mul_one, g4, g4h', g11, gv']
  refine loopK_unroll ?_
  simp (maxSteps := 1000000) -dsimp (disch := (repeat first | rw [nxn] | rw [nxp]); try omega) only [go_sem, evLen]
  refine syDraw.go0 (by kernel_rfl) ?_
  simp (maxSteps := 1000000) -dsimp (disch := (repeat first | rw [nxn] | rw [nxp]); try omega) only [go_sem, evLen, Nat.mul_one, g4, g4h', g11, gv']
  refine loopK_unroll ?_
  simp (maxSteps := 1000000) -dsimp (disch := (repeat first | rw [nxn] | rw [nxp]); try omega) only [go_sem, evLen]
  refine syDraw.go0 (by kernel_rfl) ?_
  simp (maxSteps := 1000000) -dsimp (disch := (repeat first | rw [nxn] | rw [nxp]); try omega) only [go_sem, evLen, Nat.mul_one, g4, g4h', g11, gv']
  refine loopK_unroll ?_
  simp (maxSteps := 1000000) -dsimp (disch := (repeat first | rw [nxn] | rw [nxp]); try omega) only [go_sem, evLen]
  refine syDraw.go0 (by kernel_rfl) ?_
  simp (maxSteps := 1000000) -dsimp (disch := (repeat first | rw [nxn] | rw [nxp]); try omega) only [go_sem, evLen, Nat.mul_one, g4, g4h', g11, gv']
  refine loopK_unroll ?_
  simp (maxSteps := 1000000) -dsimp (disch := (repeat first | rw [nxn] | rw [nxp]); try omega) only [go_sem, evLen, Nat.mul_one, g4, g4h', g11, gv', g6, g6h]
  refine ⟨?_, ?_⟩
  · show AV.agg (c8 (add8 v s0)) = AV.agg (c8 (blk K (fun j => l.getD j 0) s0))
    unfold blk
    rw [hW, ← hv, add8_comm]
  · repeat first | exact f1 | refine Fr.put ?_ _ (by omega) | refine Fr.more ?_ _ (by first | omega | (simp only [AH.nx_put]; omega))

end
end Go.Proofs.YtfhcnoancepgcaaGreatDoor.dig
