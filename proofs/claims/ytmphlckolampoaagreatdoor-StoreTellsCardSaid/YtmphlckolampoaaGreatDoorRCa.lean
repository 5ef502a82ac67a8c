/- Numbers and pieces put into bytes, by the program. Conditions: those of its summaries. -/
import Derived.Test.YtmphlckolampoaaGreatDoorRAf
namespace Go.Proofs.YtmphlckolampoaaGreatDoor.tbl
open Go Go.Abs Go.Abs.Rec Go.Proofs
set_option maxRecDepth 100000
set_option linter.unusedVariables false
set_option linter.unusedSimpArgs false
theorem aiB : appI Tryz.prog 5 = some (1, 1) := by kernel_rfl
/-- Bytes of one's own. -/
def Ey (n0 : Nat) (h : AH) (v : AV) (l : List Nat) : Prop := Ez 1 n0 h v (byC l)
theorem Ey.bs {n0 : Nat} {h : AH} {v : AV} {l : List Nat} (hb : Ey n0 h v l) : Bs h v l := by
 rcases hb with ⟨rfl, h0⟩ | ⟨id, n, c, tx, rfl, h2, h3, h4, h5, h6, h7⟩
 ·exact .inl ⟨rfl, by simpa [byC] using h0⟩
 ·rw [byC_length, Nat.mul_one] at h5
  subst h5
  refine .inr ⟨id, 0, c, byC l, true, tx, rfl, h2, h3, by rw [byC_length]; omega, fun k hk => ?_, by rw [List.drop_zero, ← byC_length l, List.take_length]⟩
  rcases h6 with rfl | rfl
  ·cases hk
  ·cases hk; exact Nat.le_refl _
theorem Ey.fr {n0 : Nat} {h h' : AH} {v : AV} {l : List Nat} (hb : Ey n0 h v l) (hf : Fr h h') : Ey n0 h' v l := Ez.fr hb hf
theorem Ey.one {n0 : Nat} {h : AH} {v : AV} {l : List Nat} (hb : Ey n0 h v l) : oneA v = true := (Ez.one hb).2
theorem Ey.shape {n0 : Nat} {h : AH} {v : AV} {l : List Nat} (hb : Ey n0 h v l) : v = .nilsl ∨ ∃ id n c, v = .sl id 0 n 1 c := by
 rcases hb with ⟨h1, _⟩ | ⟨id, n, c, tx, h1, _⟩
 ·exact .inl h1
 ·exact .inr ⟨id, n, c, h1⟩
theorem Ey.len {n0 : Nat} {h : AH} {v : AV} {l : List Nat} (hb : Ey n0 h v l) (g : AH) : evLen Tryz.prog g #[58] v = some (.int .i64 (l.length : Nat)) :=
 Ez.len hb Tryz.underlying58 (by decide) (by rw [byC_length, Nat.mul_one]) g
theorem Ey.low {n0 n1 : Nat} {h : AH} {v : AV} {l : List Nat} (hb : Ey n0 h v l) (hn : n1 ≤ n0) : Ey n1 h v l := Ez.low hb hn
/-- A new slice of few. -/
theorem ey1 (h : AH) (l : List Nat) (hl : l ≠ []) : Ey h.nx (h.new (.cells (byC l) true false)) (.sl h.nx 0 l.length 1 (some l.length)) l :=
 .inr ⟨h.nx, l.length, some l.length, false, rfl, AH.get_new_eq rfl, Nat.lt_succ_self _, Nat.le_refl _, by rw [byC_length, Nat.mul_one], .inr rfl, .inl rfl⟩
theorem ey0 (h : AH) : Ey h.nx (h.new (.cells [] true true)) (.sl h.nx 0 0 1 (some 0)) [] :=
 .inr ⟨h.nx, 0, some 0, true, rfl, AH.get_new_eq rfl, Nat.lt_succ_self _, Nat.le_refl _, rfl, .inr rfl, .inr ⟨rfl, rfl⟩⟩
theorem appY {h0 h : AH} {v x : AV} {l m : List Nat} (hb : Ey h0.nx h v l) (hx : Bs h x m) (hf : Fr h0 h) (hl : l.length + m.length ≤ 1073741824) :
  ∃ v' h', evAppend Tryz.prog h #[58, 58] v x = some (.val v' h') ∧ Fr h0 h' ∧ Ey h0.nx h' v' (l ++ m) ∧ oneA v' = true := by
 obtain ⟨q1, q2⟩ := hx.first
 obtain ⟨v', h', ha, hf', hz', ov', _⟩ := Ez.app (P := Tryz.prog) (z := 1) (h0 := h0) (h := h) (v := v) (l := byC l) (x := x) (k := m.length) (m := byC m) Tryz.underlying58 Tryz.underlying58 rfl aiB (by decide) (by decide) hb q1 q2 (by rw [byC_length, Nat.mul_one]) (byC_all m) hf (by rw [byC_length, byC_length]; omega)
 exact ⟨v', h', ha, hf', by unfold Ey; rw [show byC (l ++ m) = byC l ++ byC m by simp [byC]]; exact hz', ov'⟩
theorem appS {h0 h : AH} {v : AV} {l m : List Nat} (hb : Ey h0.nx h v l) (hf : Fr h0 h) (hl : l.length + m.length ≤ 1073741824) :
  ∃ v' h', evAppend Tryz.prog h #[58, 9] v (.str m) = some (.val v' h') ∧ Fr h0 h' ∧ Ey h0.nx h' v' (l ++ m) ∧ oneA v' = true := by
 obtain ⟨v', h', ha, hf', hz', ov', _⟩ := Ez.app (P := Tryz.prog) (z := 1) (h0 := h0) (h := h) (v := v) (l := byC l) (x := .str m) (k := m.length) (m := byC m) Tryz.underlying58 Tryz.underlying9 rfl aiB (by decide) (by decide) hb rfl (by simp [firstA, byC]) (by rw [byC_length, Nat.mul_one]) (byC_all m) hf (by rw [byC_length, byC_length]; omega)
 exact ⟨v', h', ha, hf', by unfold Ey; rw [show byC (l ++ m) = byC l ++ byC m by simp [byC]]; exact hz', ov'⟩
/-! ### Words -/
theorem and127 (h : AH) (t : TypeId) (n : Nat) (hn : n < 18446744073709551616) : binA Tryz.prog h .and t (.int .u64 (n : Nat)) (.int .u64 127) = some (.int .u64 ((n % 128 : Nat) : Int)) := by
 have e : (BitVec.ofInt 64 (n : Int) &&& BitVec.ofInt 64 127).toNat = n % 128 := by
  rw [BitVec.toNat_and, BitVec.ofInt_natCast, BitVec.toNat_ofNat, Nat.mod_eq_of_lt hn]
  exact Nat.and_two_pow_sub_one_eq_mod n 7
 have e2 : IntKind.u64.wrap ((n % 128 : Nat) : Int) = ((n % 128 : Nat) : Int) := by
  show ((n % 128 : Nat) : Int) % 18446744073709551616 = _
  omega
 rw [binA_and]
 show some (AV.int .u64 (IntKind.u64.wrap ((BitVec.ofInt 64 (n : Int) &&& BitVec.ofInt 64 127).toNat : Int))) = _
 rw [e, e2]
theorem shr7 (h : AH) (t : TypeId) (k : IntKind) (n : Nat) : binA Tryz.prog h .shr t (.int .u64 (n : Nat)) (.int k 7) = some (.int .u64 ((n / 128 : Nat) : Int)) := by
 rw [binA_shr, if_neg (by decide)]
 show some (AV.int .u64 ((n : Int).fdiv 128)) = _
 rw [Int.fdiv_eq_ediv_of_nonneg _ (by decide)]
 congr 2
theorem cv64 (h : AH) (n : Nat) (hn : n < 18446744073709551616) : evConvert Tryz.prog h 3 60 (.int .i64 (n : Nat)) = some (.val (.int .u64 (n : Nat)) h) := by
 have : IntKind.u64.wrap ((n : Nat) : Int) = ((n : Nat) : Int) := by
  show ((n : Nat) : Int) % 18446744073709551616 = _
  omega
 simp only [evConvert, Tryz.underlying3, Tryz.underlying60, val?, this]
theorem cv8 (h : AH) (n : Nat) (hn : n < 256) : evConvert Tryz.prog h 60 5 (.int .u64 (n : Nat)) = some (.val (.int .u8 (n : Nat)) h) := by
 have : IntKind.u8.wrap ((n : Nat) : Int) = ((n : Nat) : Int) := by
  show ((n : Nat) : Int) % 256 = _
  omega
 simp only [evConvert, Tryz.underlying60, Tryz.underlying5, val?, this]
theorem or128 (h : AH) (t : TypeId) (n : Nat) (hn : n < 128) : binA Tryz.prog h .or t (.int .u8 (n : Nat)) (.int .u8 128) = some (.int .u8 ((n + 128 : Nat) : Int)) := by
 have e : ∀ n : Fin 128, (BitVec.ofInt 8 ((n.val : Nat) : Int) ||| BitVec.ofInt 8 128).toNat = n.val + 128 := by decide
 have e1 := e ⟨n, hn⟩
 have e2 : IntKind.u8.wrap ((n + 128 : Nat) : Int) = ((n + 128 : Nat) : Int) := by
  show ((n + 128 : Nat) : Int) % 256 = _
  omega
 rw [binA_or]
 show some (AV.int .u8 (IntKind.u8.wrap ((BitVec.ofInt 8 (n : Int) ||| BitVec.ofInt 8 128).toNat : Int))) = _
 rw [e1, e2]
theorem and7 (h : AH) (t : TypeId) (n : Nat) (hn : n < 128) : binA Tryz.prog h .and t (.int .u8 ((n + 128 : Nat) : Int)) (.int .u8 127) = some (.int .u8 (n : Nat)) := by
 have e : ∀ n : Fin 128, (BitVec.ofInt 8 ((n.val + 128 : Nat) : Int) &&& BitVec.ofInt 8 127).toNat = n.val := by decide
 have e1 := e ⟨n, hn⟩
 have e2 : IntKind.u8.wrap ((n : Nat) : Int) = ((n : Nat) : Int) := by
  show ((n : Nat) : Int) % 256 = _
  omega
 rw [binA_and]
 show some (AV.int .u8 (IntKind.u8.wrap ((BitVec.ofInt 8 ((n + 128 : Nat) : Int) &&& BitVec.ofInt 8 127).toNat : Int))) = _
 rw [e1, e2]
theorem eqB0 (h : AH) : binA Tryz.prog h .eql 58 .nilsl .nilsl = some (.bool true) := by kernel_rfl
theorem eqBs (h : AH) (id o n z : Nat) (c : Option Nat) : binA Tryz.prog h .eql 58 (.sl id o n z c) .nilsl = some (.bool false) := by kernel_rfl
section
variable {S : Sums}
structure Tw (S : Sums) : Prop where
 nw : ∀ f args h, f ∈ [53, 70, 25, 71, 26, 29, 72, 30] → S f args h = none
set_option maxHeartbeats 8000000 in
theorem cloB (hS : Tw S) {h : AH} {v : AV} {l : List Nat} (hv : Bs h v l) (hl : l.length ≤ 1000000000) :
  RnC Tryz.prog S 53 [v] h fun r h' => Fr h h' ∧ Ey h.nx h' r l := by
 refine RnC.enter' Tryz.f53 _ 8 [.tmp 2] (hS.nw _ _ _ (by simp)) bd53 Tryz.func53 rfl rfl rfl ?_
 obtain ⟨v', h', ha, hf', hz', ov'⟩ := appY (h0 := h) (h := h.new (.cells [] true true)) (m := l) (ey0 h) (hv.fr (Fr.new h _)) (Fr.new h _) (by simp; omega)
 rw [List.nil_append] at hz'
 have sh := hz'.shape
 rcases hv with ⟨rfl, rfl⟩ | ⟨id, off, c, cs, o, tx, rfl, h2, h3, h4, h5, h6⟩
 ·simp (maxSteps := 1000000) -dsimp (disch := (repeat first | rw [nxn] | rw [nxp]); try omega) only [go_sem, b0e, eqB0]
  exact ⟨Fr.refl _, .inl ⟨rfl, rfl⟩⟩
 ·have ov : oneA (.sl id off l.length 1 c) = true := rfl
  rcases sh with rfl | ⟨i5, n5, c5, rfl⟩
  all_goals
   simp (maxSteps := 1000000) -dsimp (disch := (repeat first | rw [nxn] | rw [nxp]); try omega) only [go_sem, eqBs, ov, ha]
   exact ⟨hf', hz'⟩
set_option maxHeartbeats 8000000 in
/-- One byte, or two, turned round. -/
theorem revB (hS : Tw S) {n0 : Nat} {h : AH} {v : AV} {l : List Nat} (hb : Ey n0 h v l) (hl : l.length = 1 ∨ l.length = 2) : RnC Tryz.prog S 70 [v] h fun r h' => Ey n0 h' v l.reverse ∧ h.nx ≤ h'.nx ∧ ∀ j, j < n0 → h'.get j = h.get j := by
 refine RnC.enter' Tryz.f70 _ 28 [] (hS.nw _ _ _ (by simp)) bd70 Tryz.func70 rfl rfl rfl ?_
 rcases hb with ⟨_, h0⟩ | ⟨id, n, c, tx, rfl, h2, h3, h4, h5, h6, h7⟩
 ·have := congrArg List.length h0
  rw [byC_length] at this
  simp at this
  rw [this] at hl; simp at hl
 rw [byC_length, Nat.mul_one] at h5
 subst h5
 match l, hl with
 | [a], _ =>
  simp (maxSteps := 1000000) -dsimp (disch := (repeat first | rw [nxn] | rw [nxp]); try omega) only [go_sem, evLen]
  refine loopK_unroll ?_
  simp (maxSteps := 1000000) -dsimp (disch := (repeat first | rw [nxn] | rw [nxp]); try omega) only [go_sem, evLen]
  exact ⟨.inr ⟨id, 1, c, tx, rfl, h2, h3, h4, rfl, h6, h7⟩, Nat.le_refl _, fun _ _ => by first | trivial | rfl⟩
 | [a, b], _ =>
  have h2' : h.get id = some (.cells [.int .u8 (a : Int), .int .u8 (b : Int)] true tx) := h2
  simp (maxSteps := 1000000) -dsimp (disch := (repeat first | rw [nxn] | rw [nxp]); try omega) only [go_sem, evLen]
  refine loopK_unroll ?_
  simp (maxSteps := 1000000) -dsimp (disch := (repeat first | rw [nxn] | rw [nxp]); try omega) only [go_sem, evLen]
  refine syDraw.keepN 0 (fun _ => True) (by kernel_rfl) (by kernel_rfl) rfl ?_
  simp (maxSteps := 1000000) -dsimp (disch := (repeat first | rw [nxn] | rw [nxp]); try omega) only [go_sem, evLen, h2']
  refine loopK_unroll ?_
  simp (maxSteps := 1000000) -dsimp (disch := (repeat first | rw [nxn] | rw [nxp]); try omega) only [go_sem, evLen]
  exact ⟨.inr ⟨id, 2, c, tx, rfl, AH.get_put_eq rfl, Nat.lt_of_lt_of_le h3 (Nat.le_add_right _ 16), h4, rfl, h6, by rcases h7 with h7 | ⟨h7, _⟩; exact .inl h7; simp [byC] at h7⟩, Nat.le_add_right _ 16, fun j hj => (AH.get_put_ne (by omega)).trans (AH.get_put_ne (by omega))⟩
/-- The groups of a number, the lowest first, each marked. -/
def grp (n : Nat) : List Nat := if n < 128 then [n + 128] else [n % 128 + 128, n / 128 + 128]
set_option maxHeartbeats 16000000 in
theorem numC (hS : Tw S) {h : AH} {v : AV} {l : List Nat} {n : Nat} (hv : Bs h v l) (hl : l.length ≤ 1000000000) (hn : n < 16384) : RnC Tryz.prog S 25 [v, .int .u64 (n : Nat)] h fun r h' => Ey h.nx h' r (l ++ numE n) ∧ Fr h h' := by
 refine RnC.enter' Tryz.f25 _ 28 [.tmp 4] (hS.nw _ _ _ (by simp)) bd25 Tryz.func25 rfl rfl rfl ?_
 have ov : oneA v = true := by rcases hv with ⟨rfl, _⟩ | ⟨_, _, _, _, _, _, rfl, _⟩ <;> rfl
 simp (maxSteps := 1000000) -dsimp (disch := (repeat first | rw [nxn] | rw [nxp]); try omega) only [go_sem, ov]
 refine loopK_of (Q := fun ex u => ex = .exit 0 ∧ u.d = [] ∧ Fr h u.h ∧ u.t.get 0 = some v ∧ ∃ w, u.t.get 5 = some w ∧ Ey h.nx u.h w (grp n)) (RnL.unroll ?_) ?_
 ·have q1 := fun h t => and127 h t n (by omega)
  have q2 := fun h => cv8 h (n % 128) (by omega)
  have q3 := fun h t => or128 h t (n % 128) (by omega)
  obtain ⟨v2, h2, ha, hf, hb2, ov2⟩ := appY (h0 := h) (h := h.new (.cells [.int .u8 ((n % 128 + 128 : Nat) : Int)] true false)) (v := .nilsl) (l := []) (x := .sl h.nx 0 1 1 (some 1)) (m := [n % 128 + 128]) (.inl ⟨rfl, rfl⟩) (Ey.bs (ey1 h [n % 128 + 128] (by simp))) (Fr.new h _) (by simp)
  rw [List.nil_append] at hb2
  by_cases hc : n < 128
  ·have c : ((n / 128 : Nat) : Int) = 0 := by omega
   rcases hb2.shape with rfl | ⟨i5, n5, c5, rfl⟩
   all_goals
    simp (maxSteps := 1000000) -dsimp (disch := (repeat first | rw [nxn] | rw [nxp]); try omega) only [go_sem, q1, q2, q3, shr7, ha, ov2, c]
    refine ⟨trivial, trivial, hf, trivial, _, rfl, ?_⟩
    have : grp n = [n % 128 + 128] := by unfold grp; rw [if_pos hc, Nat.mod_eq_of_lt hc]
    rw [this]; exact hb2
  ·have c : ¬ ((n / 128 : Nat) : Int) = 0 := by omega
   have q4 := fun h t => and127 h t (n / 128) (by omega)
   have e4 : n / 128 % 128 = n / 128 := Nat.mod_eq_of_lt (by omega)
   rw [e4] at q4
   have q5 := fun h => cv8 h (n / 128) (by omega)
   have q6 := fun h t => or128 h t (n / 128) (by omega)
   have q7 : n / 128 / 128 = 0 := by omega
   have q8 : ((0 : Nat) : Int) = 0 := rfl
   obtain ⟨v3, h3, ha3, hf3, hb3, ov3⟩ := appY (h0 := h) (h := h2.new (.cells [.int .u8 ((n / 128 + 128 : Nat) : Int)] true false)) (v := v2) (l := [n % 128 + 128]) (x := .sl h2.nx 0 1 1 (some 1)) (m := [n / 128 + 128]) (hb2.fr (Fr.new _ _)) (Ey.bs (ey1 h2 [n / 128 + 128] (by simp))) (hf.news _) (by simp)
   rcases hb2.shape with rfl | ⟨i5, n5, c5, rfl⟩
   all_goals
    simp (maxSteps := 1000000) -dsimp (disch := (repeat first | rw [nxn] | rw [nxp]); try omega) only [go_sem, q1, q2, q3, shr7, ha, ov2, c]
    refine RnL.unroll ?_
    rcases hb3.shape with rfl | ⟨i6, n6, c6, rfl⟩
    all_goals
     simp (maxSteps := 1000000) -dsimp (disch := (repeat first | rw [nxn] | rw [nxp]); try omega) only [go_sem, q4, q5, q6, q7, shr7, ha3, ov3, q8]
     refine ⟨trivial, trivial, hf3, trivial, _, rfl, ?_⟩
     have : grp n = [n % 128 + 128] ++ [n / 128 + 128] := by unfold grp; rw [if_neg hc]; rfl
     rw [this]; exact hb3
 ·rintro ex ⟨t, g, d⟩ ⟨rfl, rfl, e1, g0, w, g5, hb⟩
  dsimp only at e1 g0 g5 hb
  obtain ⟨r, hr1, hr2, hr3⟩ : ∃ r, grp n = (n % 128 + 128) :: r ∧ (n % 128 :: r).reverse = numE n ∧ (r.length = 0 ∨ r.length = 1) := by
   unfold grp numE
   by_cases hc : n < 128
   ·rw [if_pos hc, if_pos hc, Nat.mod_eq_of_lt hc]; exact ⟨[], rfl, rfl, .inl rfl⟩
   ·rw [if_neg hc, if_neg hc]; exact ⟨[n / 128 + 128], rfl, rfl, .inr rfl⟩
  rw [hr1] at hb
  rcases hb with ⟨_, h0⟩ | ⟨id, k, c, tx, rfl, h2, h3, h4, h5, h6, h7⟩
  ·simp [byC] at h0
  rw [byC_length, Nat.mul_one] at h5
  subst h5
  have h2' : g.get id = some (.cells (.int .u8 ((n % 128 + 128 : Nat) : Int) :: byC r) true tx) := h2
  have q7 := fun h t => and7 h t (n % 128) (by omega)
  have hz : ¬ r.length + 1 = 0 := by omega
  have hz2 : 0 < r.length + 1 := by omega
  simp (maxSteps := 1000000) -dsimp (disch := (repeat first | rw [nxn] | rw [nxp]); try omega) only [go_sem, evLen, g0, g5, h2', q7, hz, hz2]
  have hb2 : Ey h.nx (g.put id (.cells (.int .u8 ((n % 128 : Nat) : Int) :: byC r) true tx)) (.sl id 0 (r.length + 1) 1 c) (n % 128 :: r) :=
   .inr ⟨id, r.length + 1, c, tx, rfl, AH.get_put_eq rfl, h3, h4, by rw [byC_length]; simp, h6, by rcases h7 with h7 | ⟨h7, _⟩; exact .inl h7; simp [byC] at h7⟩
  refine callK_of (revB hS hb2 (by simp only [List.length_cons]; omega)) ?_
  rintro w1 g1 ⟨hb3, hn3, ho3⟩
  rw [hr2] at hb3
  have f1 : Fr h g1 := ⟨Nat.le_trans e1.nx hn3, fun j hj => (ho3 j hj).trans ((AH.get_put_ne (by omega)).trans (e1.get j hj))⟩
  try simp (maxSteps := 1000000) -dsimp (disch := (repeat first | rw [nxn] | rw [nxp]); try omega) only [go_sem, g0, ov]
  refine callK_of (cloB hS (hv.fr f1) hl) ?_
  rintro w2 g2 ⟨f2, hb4⟩
  have hnl : (numE n).length ≤ 2 := by unfold numE; split <;> simp
  obtain ⟨v5, h5', ha5, hf5, hb5, ov5⟩ := appY (h0 := g1) hb4 (hb3.bs.fr f2) f2 (by omega)
  have ov4 := hb4.one
  rcases hb5.shape with rfl | ⟨i6, n6, c6, rfl⟩
  all_goals
   simp (maxSteps := 1000000) -dsimp (disch := (repeat first | rw [nxn] | rw [nxp]); try omega) only [go_sem, g0, g5, ha5, ov4, ov5]
   exact ⟨hb5.low f1.nx, f1.trans hf5⟩
set_option maxHeartbeats 4000000 in
theorem pieC (hS : Tw S) {h : AH} {v : AV} {l s : List Nat} (hv : Bs h v l) (hl : l.length ≤ 1000000000) (hs : s.length < 16384) : RnC Tryz.prog S 71 [v, .str s] h fun r h' => ∃ w, r = .tup [w, .int .i64 0] ∧ Ey h.nx h' w (l ++ pieceE s) ∧ Fr h h' := by
 refine RnC.enter' Tryz.f71 _ 16 [.tmp 4, .tmp 5] (hS.nw _ _ _ (by simp)) bd71 Tryz.func71 rfl rfl rfl ?_
 have ov : oneA v = true := by rcases hv with ⟨rfl, _⟩ | ⟨_, _, _, _, _, _, rfl, _⟩ <;> rfl
 have c1 : ¬ (1048576 : Int) < (s.length : Nat) := by omega
 have ls : ∀ g : AH, evLen Tryz.prog g #[9] (.str s) = some (.int .i64 (s.length : Nat)) := fun g => by simp [evLen, Tryz.underlying9]
 have cv := fun h => cv64 h s.length (by omega)
 simp (maxSteps := 1000000) -dsimp (disch := (repeat first | rw [nxn] | rw [nxp]); try omega) only [go_sem, c1, ls, cv, ov]
 refine callK_of (numC hS hv hl hs) ?_
 rintro w g ⟨hb, f1⟩
 have hnl : (numE s.length).length ≤ 2 := by unfold numE; split <;> simp
 obtain ⟨v5, h5', ha5, hf5, hb5, ov5⟩ := appS (h0 := h) (m := s) hb f1 (by rw [List.length_append]; omega)
 have ow := hb.one
 have e : l ++ numE s.length ++ s = l ++ pieceE s := by simp [pieceE]
 rw [e] at hb5
 rcases hb5.shape with rfl | ⟨i6, n6, c6, rfl⟩
 all_goals
  simp (maxSteps := 1000000) -dsimp (disch := (repeat first | rw [nxn] | rw [nxp]); try omega) only [go_sem, ha5, ow, ov5]
  exact ⟨_, rfl, hb5, hf5⟩
set_option maxHeartbeats 4000000 in
theorem spiC (hS : Tw S) {h : AH} {v : AV} {l s : List Nat} (hv : Bs h v l) (hl : l.length ≤ 1000000000) (hs : s.length < 16384) : RnC Tryz.prog S 26 [v, .str s] h fun r h' => Ey h.nx h' r (l ++ pieceE s) ∧ Fr h h' := by
 refine RnC.enter' Tryz.f26 _ 12 [.tmp 4] (hS.nw _ _ _ (by simp)) bd26 Tryz.func26 rfl rfl rfl ?_
 have ov : oneA v = true := by rcases hv with ⟨rfl, _⟩ | ⟨_, _, _, _, _, _, rfl, _⟩ <;> rfl
 simp (maxSteps := 1000000) -dsimp (disch := (repeat first | rw [nxn] | rw [nxp]); try omega) only [go_sem, ov]
 refine callK_of (pieC hS hv hl hs) ?_
 rintro w g ⟨w2, rfl, hb, f1⟩
 have ow := hb.one
 rcases hb.shape with rfl | ⟨i6, n6, c6, rfl⟩
 all_goals
  simp (maxSteps := 1000000) -dsimp (disch := (repeat first | rw [nxn] | rw [nxp]); try omega) only [go_sem, ow]
  exact ⟨hb, f1⟩
end
end Go.Proofs.YtmphlckolampoaaGreatDoor.tbl
