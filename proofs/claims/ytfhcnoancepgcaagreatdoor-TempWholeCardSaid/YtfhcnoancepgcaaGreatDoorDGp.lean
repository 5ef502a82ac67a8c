/- The digest of bytes of whatever length: the program's function and the document's compute the same thirty-two bytes. Conditions: the constants are summaries; none else. -/
import Derived.Test.YtfhcnoancepgcaaGreatDoorDGb
import Derived.Test.YtfhcnoancepgcaaGreatDoorAb6
namespace Go.Proofs.YtfhcnoancepgcaaGreatDoor.dig
open Go Go.Abs Go.Proofs
set_option maxRecDepth 100000
set_option linter.unusedVariables false
set_option linter.unusedSimpArgs false

/-! ### What is computed -/
def zs (n : Nat) : Nat := (119 - n % 64) % 64
def be8 (m : Nat) : List Nat := [m / 72057594037927936 % 256, m / 281474976710656 % 256, m / 1099511627776 % 256, m / 4294967296 % 256, m / 16777216 % 256, m / 65536 % 256, m / 256 % 256, m / 1 % 256]
def padS (n : Nat) : List Nat := 128 :: List.replicate (zs n) 0 ++ be8 (n * 8)
theorem padS_len (n : Nat) : (padS n).length = 9 + zs n := by simp [padS, be8]; omega
theorem zs_lt (n : Nat) : zs n < 64 := Nat.mod_lt _ (by decide)
theorem zs_mod (n : Nat) : (n + 1 + zs n) % 64 = 56 := by unfold zs; omega
theorem zs_min {n j : Nat} (hj : j ≤ zs n) : (n + (1 + j)) % 64 = 56 ↔ j = zs n := by unfold zs at *; omega
theorem padS_lt (n : Nat) : ∀ b ∈ padS n, b < 256 := by
  intro b hb
  unfold padS be8 at hb
  simp only [List.cons_append, List.mem_cons, List.mem_append, List.mem_replicate, List.not_mem_nil, or_false] at hb
  omega
def Kl : List Nat := [1116352408, 1899447441, 3049323471, 3921009573, 961987163, 1508970993, 2453635748, 2870763221, 3624381080, 310598401, 607225278, 1426881987, 1925078388, 2162078206, 2614888103, 3248222580, 3835390401, 4022224774, 264347078, 604807628, 770255983, 1249150122, 1555081692, 1996064986, 2554220882, 2821834349, 2952996808, 3210313671, 3336571891, 3584528711, 113926993, 338241895, 666307205, 773529912, 1294757372, 1396182291, 1695183700, 1986661051, 2177026350, 2456956037, 2730485921, 2820302411, 3259730800, 3345764771, 3516065817, 3600352804, 4094571909, 275423344, 430227734, 506948616, 659060556, 883997877, 958139571, 1322822218, 1537002063, 1747873779, 1955562222, 2024104815, 2227730452, 2361852424, 2428436474, 2756734187, 3204031479, 3329325298]
def Hl : List Nat := [1779033703, 3144134277, 1013904242, 2773480762, 1359893119, 2600822924, 528734635, 1541459225]
def Kc (j : Nat) : W32 := BitVec.ofNat 32 (Kl.getD j 0)
def H0 : W8 := ⟨BitVec.ofNat 32 (Hl.getD 0 0), BitVec.ofNat 32 (Hl.getD 1 0), BitVec.ofNat 32 (Hl.getD 2 0), BitVec.ofNat 32 (Hl.getD 3 0), BitVec.ofNat 32 (Hl.getD 4 0), BitVec.ofNat 32 (Hl.getD 5 0), BitVec.ofNat 32 (Hl.getD 6 0), BitVec.ofNat 32 (Hl.getD 7 0)⟩
def whole (l : List Nat) : List Nat := l ++ padS l.length
def qs (l : List Nat) : Nat := (whole l).length / 64
theorem whole_len (l : List Nat) : (whole l).length = 64 * qs l := by
  have h1 : (whole l).length % 64 = 0 := by
    unfold whole
    rw [List.length_append, padS_len]
    have := zs_mod l.length
    omega
  unfold qs
  omega
def part (l : List Nat) (i : Nat) : List Nat := ((whole l).take (64 * i + 64)).drop (64 * i)
theorem part_len {l : List Nat} {i : Nat} (hi : i < qs l) : (part l i).length = 64 := by
  unfold part
  rw [List.length_drop, List.length_take, whole_len]
  omega
theorem whole_lt {l : List Nat} (hl : ∀ b ∈ l, b < 256) : ∀ b ∈ whole l, b < 256 := fun b hb => by
  rcases List.mem_append.1 hb with h | h
  · exact hl b h
  · exact padS_lt _ b h
theorem part_lt {l : List Nat} (hl : ∀ b ∈ l, b < 256) (i : Nat) : ∀ b ∈ part l i, b < 256 := fun b hb => whole_lt hl b (List.mem_of_mem_take (List.mem_of_mem_drop hb))
def stt (l : List Nat) : Nat → W8
  | 0 => H0
  | i + 1 => blk Kc (fun j => (part l i).getD j 0) (stt l i)
def w4 (x : W32) : List Nat := [x.toNat / 2 ^ 24 % 256, x.toNat / 2 ^ 16 % 256, x.toNat / 2 ^ 8 % 256, x.toNat % 256]
def out8 (s : W8) : List Nat := w4 s.a ++ w4 s.b ++ w4 s.c ++ w4 s.d ++ w4 s.e ++ w4 s.f ++ w4 s.g ++ w4 s.h
def ofS (l : List Nat) : List Nat := out8 (stt l (qs l))

section
variable {S : Sums}
theorem ai5 : appI Tryz.prog 5 = some (1, 1) := by kernel_rfl
theorem cv385 (h : AH) (n : Int) : evConvert Tryz.prog h 3 79 (.int .i64 n) = some (.val (.int .u64 (IntKind.u64.wrap n)) h) := by
  simp only [evConvert, Tryz.underlying3, Tryz.underlying79, val?]
theorem cv855 (h : AH) (n : Int) : evConvert Tryz.prog h 79 5 (.int .u64 n) = some (.val (.int .u8 (IntKind.u8.wrap n)) h) := by
  simp only [evConvert, Tryz.underlying79, Tryz.underlying5, val?]
theorem byteAt (m k : Nat) (hk : k ≤ 64) : IntKind.u8.wrap (((m : Nat) : Int).fdiv (2 ^ (min k (IntKind.bits .u64)))) = ((m / 2 ^ k % 256 : Nat) : Int) := by
  have h0 : min k (IntKind.bits .u64) = k := Nat.min_eq_left hk
  have h1 : ((2 : Int) ^ k) = ((2 ^ k : Nat) : Int) := by rw [Int.natCast_pow]; rfl
  rw [h0, h1, Int.fdiv_eq_ediv_of_nonneg _ (Int.natCast_nonneg _), wrap8, ← Int.natCast_ediv]
  exact (Int.natCast_emod _ 256).symm
theorem byteAt64 (m k : Nat) (hk : k ≤ 64) : IntKind.u8.wrap (((m : Nat) : Int).fdiv (2 ^ (min k 64))) = ((m / 2 ^ k % 256 : Nat) : Int) := byteAt m k hk
theorem by1 (b : Nat) : [AV.int .u8 (b : Int)] = byC [b] := rfl
/-- One byte in memory of its own. -/
theorem bs1 {h : AH} {id : Nat} {b : Nat} {o t : Bool} {c : Option Nat} (hg : h.get id = some (.cells [.int .u8 (b : Int)] o t)) (hid : id < h.nx) (hc : c = none ∨ c = some 1) : Bs h (.sl id 0 1 1 c) [b] :=
  .inr ⟨id, 0, c, [.int .u8 (b : Int)], o, t, rfl, hg, hid, by simp, fun k hk => by rcases hc with rfl | rfl <;> cases hk; exact Nat.le_refl _, rfl⟩

set_option maxHeartbeats 8000000 in
theorem pad53 (hS : ∀ args h, S 92 args h = none) {h : AH} {n : Nat} (hn : n ≤ 1099511627776) : RnC Tryz.prog S 92 [.int .i64 (n : Nat)] h fun r h' => Bo h.nx h' r (padS n) ∧ Fr h h' := by
  refine RnC.enter' Tryz.f92 _ 34 [.tmp 2] (hS _ _) bd92 Tryz.func92 rfl rfl rfl ?_
  have m0 : max (0 : Int) (n : Nat) = (n : Nat) := by omega
  simp (maxSteps := 1000000) -dsimp (disch := (repeat first | rw [nxn] | rw [nxp]); try omega) only [go_sem, evLen, m0]
  refine loopK_of (RnL.rounds (Q := fun ex s => ex = .exit 0 ∧ Fr h s.h ∧ s.d = [] ∧ s.t.get 0 = some (.int .i64 (n : Nat)) ∧ ∃ v, s.t.get 3 = some v ∧ Bo h.nx s.h v (128 :: List.replicate (zs n) 0))
    (fun m s => Fr h s.h ∧ s.d = [] ∧ s.t.get 0 = some (.int .i64 (n : Nat)) ∧ ∃ (v : AV) (j : Nat), s.t.get 3 = some v ∧ Bo h.nx s.h v (128 :: List.replicate j 0) ∧ j ≤ zs n ∧ m = zs n - j) ?_ (zs n) ?_) ?_
  · rintro m ⟨t, h1, d⟩ ⟨e1, e2, g0, v, j, g3, hb, hj, rfl⟩
    dsimp only at e1 e2 g0 g3 hb
    subst e2
    have hz := zs_lt n
    have hb0 := hb
    obtain ⟨id, c, cs, tx, rfl, _⟩ := hb0
    have hlen : (128 :: List.replicate j 0 : List Nat).length = 1 + j := by simp; omega
    have hmod : ((n : Int) + ((1 + j : Nat) : Int)).tmod 64 = (((n + (1 + j)) % 64 : Nat) : Int) := by
      rw [← Int.natCast_add]; exact tmod_nat _ 64
    by_cases hjz : j = zs n
    · have c1 : (((n + (1 + j)) % 64 : Nat) : Int) = 56 := by rw [(zs_min hj).2 hjz]; rfl
      simp (maxSteps := 1000000) -dsimp (disch := (repeat first | rw [nxn] | rw [nxp]); try omega) only [go_sem, evLen, g0, g3, hlen, hmod, c1]
      exact ⟨trivial, e1, trivial, trivial, _, rfl, hjz ▸ hlen ▸ hb⟩
    · have c1 : ¬ (((n + (1 + j)) % 64 : Nat) : Int) = 56 := fun hh => hjz ((zs_min hj).1 (by omega))
      obtain ⟨v2, h3, ha, hf3, hb3⟩ := Bo.app (h0 := h) (h := h1.new (.cells [.int .u8 0] true false)) (m := [0]) Tryz.underlying22 ai5 (hb.fr (Fr.new _ _)) (bs1 (id := h1.nx) (b := 0) (c := some 1) (AH.get_new_eq rfl) (Nat.lt_succ_self _) (.inr rfl)) (e1.news _) (by rw [hlen]; simp; omega)
      rw [hlen] at ha
      simp (maxSteps := 1000000) -dsimp (disch := (repeat first | rw [nxn] | rw [nxp]); try omega) only [go_sem, evLen, g0, g3, hlen, hmod, c1, ha]
      refine ⟨zs n - (j + 1), by omega, hf3, trivial, trivial, v2, j + 1, rfl, ?_, by omega, rfl⟩
      have : (128 :: List.replicate (j + 1) 0 : List Nat) = (128 :: List.replicate j 0) ++ [0] := by rw [List.replicate_succ']; rfl
      rw [this]; exact hb3
  · simp (maxSteps := 1000000) -dsimp (disch := (repeat first | rw [nxn] | rw [nxp]); try omega) only [go_sem, evLen]
    exact ⟨Fr.new _ _, trivial, trivial, _, 0, rfl, ⟨h.nx, some 1, [.int .u8 128], false, rfl, AH.get_new_eq rfl, Nat.lt_succ_self _, Nat.le_refl _, rfl, Nat.le_refl _, .inr rfl⟩, Nat.zero_le _, by omega⟩
  · rintro ex ⟨t, h1, d⟩ ⟨rfl, e1, rfl, g0, v, g3, hb⟩
    dsimp only at e1 g0 g3 hb
    have hz := zs_lt n
    have un : IntKind.u64.wrap (n : Int) = (n : Int) := u64_id (by omega) (by omega)
    have un8 : IntKind.u64.wrap ((n : Int) * 8) = ((n * 8 : Nat) : Int) := by rw [u64_id (by omega) (by omega)]; omega
    simp (maxSteps := 1000000) -dsimp (disch := (repeat first | rw [nxn] | rw [nxp]); try omega) only [go_sem, evLen, g0, g3, cv385, un, un8]
    refine loopK_unroll ?_
    obtain ⟨v2, h2, ha2, hf2, hb2⟩ := Bo.app (h0 := h) (h := h1.new (.cells [.int .u8 ((n * 8 / 72057594037927936 % 256 : Nat) : Int)] true false)) (m := [n * 8 / 72057594037927936 % 256]) Tryz.underlying22 ai5 (hb.fr (Fr.new _ _)) (bs1 (id := h1.nx) (c := some 1) (AH.get_new_eq rfl) (Nat.lt_succ_self _) (.inr rfl)) (e1.news _) (by simp; omega)
    have o2 := hb2.one
    simp (maxSteps := 1000000) -dsimp (disch := (repeat first | rw [nxn] | rw [nxp]); try omega) only [go_sem, evLen, g0, g3, byteAt64, cv855, ha2]
    refine loopK_unroll ?_
    obtain ⟨v3, h3, ha3, hf3, hb3⟩ := Bo.app (h0 := h) (h := h2.new (.cells [.int .u8 ((n * 8 / 281474976710656 % 256 : Nat) : Int)] true false)) (m := [n * 8 / 281474976710656 % 256]) Tryz.underlying22 ai5 (hb2.fr (Fr.new _ _)) (bs1 (id := h2.nx) (c := some 1) (AH.get_new_eq rfl) (Nat.lt_succ_self _) (.inr rfl)) (hf2.news _) (by simp; omega)
    have o3 := hb3.one
    simp (maxSteps := 1000000) -dsimp (disch := (repeat first | rw [nxn] | rw [nxp]); try omega) only [go_sem, evLen, g0, g3, byteAt64, cv855, ha3]
    refine loopK_unroll ?_
    obtain ⟨v4, h4, ha4, hf4, hb4⟩ := Bo.app (h0 := h) (h := h3.new (.cells [.int .u8 ((n * 8 / 1099511627776 % 256 : Nat) : Int)] true false)) (m := [n * 8 / 1099511627776 % 256]) Tryz.underlying22 ai5 (hb3.fr (Fr.new _ _)) (bs1 (id := h3.nx) (c := some 1) (AH.get_new_eq rfl) (Nat.lt_succ_self _) (.inr rfl)) (hf3.news _) (by simp; omega)
    have o4 := hb4.one
    simp (maxSteps := 1000000) -dsimp (disch := (repeat first | rw [nxn] | rw [nxp]); try omega) only [go_sem, evLen, g0, g3, byteAt64, cv855, ha4]
    refine loopK_unroll ?_
    obtain ⟨v5, h5, ha5, hf5, hb5⟩ := Bo.app (h0 := h) (h := h4.new (.cells [.int .u8 ((n * 8 / 4294967296 % 256 : Nat) : Int)] true false)) (m := [n * 8 / 4294967296 % 256]) Tryz.underlying22 ai5 (hb4.fr (Fr.new _ _)) (bs1 (id := h4.nx) (c := some 1) (AH.get_new_eq rfl) (Nat.lt_succ_self _) (.inr rfl)) (hf4.news _) (by simp; omega)
    have o5 := hb5.one
    simp (maxSteps := 1000000) -dsimp (disch := (repeat first | rw [nxn] | rw [nxp]); try omega) only [go_sem, evLen, g0, g3, byteAt64, cv855, ha5]
    refine loopK_unroll ?_
    obtain ⟨v6, h6, ha6, hf6, hb6⟩ := Bo.app (h0 := h) (h := h5.new (.cells [.int .u8 ((n * 8 / 16777216 % 256 : Nat) : Int)] true false)) (m := [n * 8 / 16777216 % 256]) Tryz.underlying22 ai5 (hb5.fr (Fr.new _ _)) (bs1 (id := h5.nx) (c := some 1) (AH.get_new_eq rfl) (Nat.lt_succ_self _) (.inr rfl)) (hf5.news _) (by simp; omega)
    have o6 := hb6.one
    simp (maxSteps := 1000000) -dsimp (disch := (repeat first | rw [nxn] | rw [nxp]); try omega) only [go_sem, evLen, g0, g3, byteAt64, cv855, ha6]
    refine loopK_unroll ?_
    obtain ⟨v7, h7, ha7, hf7, hb7⟩ := Bo.app (h0 := h) (h := h6.new (.cells [.int .u8 ((n * 8 / 65536 % 256 : Nat) : Int)] true false)) (m := [n * 8 / 65536 % 256]) Tryz.underlying22 ai5 (hb6.fr (Fr.new _ _)) (bs1 (id := h6.nx) (c := some 1) (AH.get_new_eq rfl) (Nat.lt_succ_self _) (.inr rfl)) (hf6.news _) (by simp; omega)
    have o7 := hb7.one
    simp (maxSteps := 1000000) -dsimp (disch := (repeat first | rw [nxn] | rw [nxp]); try omega) only [go_sem, evLen, g0, g3, byteAt64, cv855, ha7]
    refine loopK_unroll ?_
    obtain ⟨v8, h8, ha8, hf8, hb8⟩ := Bo.app (h0 := h) (h := h7.new (.cells [.int .u8 ((n * 8 / 256 % 256 : Nat) : Int)] true false)) (m := [n * 8 / 256 % 256]) Tryz.underlying22 ai5 (hb7.fr (Fr.new _ _)) (bs1 (id := h7.nx) (c := some 1) (AH.get_new_eq rfl) (Nat.lt_succ_self _) (.inr rfl)) (hf7.news _) (by simp; omega)
    have o8 := hb8.one
    simp (maxSteps := 1000000) -dsimp (disch := (repeat first | rw [nxn] | rw [nxp]); try omega) only [go_sem, evLen, g0, g3, byteAt64, cv855, ha8]
    refine loopK_unroll ?_
    obtain ⟨v9, h9, ha9, hf9, hb9⟩ := Bo.app (h0 := h) (h := h8.new (.cells [.int .u8 ((n * 8 / 1 % 256 : Nat) : Int)] true false)) (m := [n * 8 / 1 % 256]) Tryz.underlying22 ai5 (hb8.fr (Fr.new _ _)) (bs1 (id := h8.nx) (c := some 1) (AH.get_new_eq rfl) (Nat.lt_succ_self _) (.inr rfl)) (hf8.news _) (by simp; omega)
    have o9 := hb9.one
    simp (maxSteps := 1000000) -dsimp (disch := (repeat first | rw [nxn] | rw [nxp]); try omega) only [go_sem, evLen, g0, g3, byteAt64, cv855, ha9]
    refine loopK_unroll ?_
    simp (maxSteps := 1000000) -dsimp (disch := (repeat first | rw [nxn] | rw [nxp]); try omega) only [go_sem, evLen, g3]
    exact ⟨by simpa [padS, be8] using hb9, hf9⟩

theorem zs_min2 {n j : Nat} (hj : j ≤ zs n) : (n + (1 + j) + 8) % 64 = 0 ↔ j = zs n := by unfold zs at *; omega
set_option maxHeartbeats 8000000 in
theorem pad39 (hS : ∀ args h, S 61 args h = none) {h : AH} {n : Nat} (hn : n ≤ 1099511627776) : RnC Tryz.prog S 61 [.int .i64 (n : Nat)] h fun r h' => Bo h.nx h' r (padS n) ∧ Fr h h' := by
  refine RnC.enter' Tryz.f61 _ 35 [.tmp 2] (hS _ _) bd61 Tryz.func61 rfl rfl rfl ?_
  have m0 : max (0 : Int) (n : Nat) = (n : Nat) := by omega
  simp (maxSteps := 1000000) -dsimp (disch := (repeat first | rw [nxn] | rw [nxp]); try omega) only [go_sem, evLen, m0]
  refine loopK_of (RnL.rounds (Q := fun ex s => ex = .exit 0 ∧ Fr h s.h ∧ s.d = [] ∧ s.t.get 0 = some (.int .i64 (n : Nat)) ∧ ∃ v, s.t.get 3 = some v ∧ Bo h.nx s.h v (128 :: List.replicate (zs n) 0))
    (fun m s => Fr h s.h ∧ s.d = [] ∧ s.t.get 0 = some (.int .i64 (n : Nat)) ∧ ∃ (v : AV) (j : Nat), s.t.get 3 = some v ∧ Bo h.nx s.h v (128 :: List.replicate j 0) ∧ j ≤ zs n ∧ m = zs n - j) ?_ (zs n) ?_) ?_
  · rintro m ⟨t, h1, d⟩ ⟨e1, e2, g0, v, j, g3, hb, hj, rfl⟩
    dsimp only at e1 e2 g0 g3 hb
    subst e2
    have hz := zs_lt n
    have hb0 := hb
    obtain ⟨id, c, cs, tx, rfl, _⟩ := hb0
    have hlen : (128 :: List.replicate j 0 : List Nat).length = 1 + j := by simp; omega
    have hmod : ((n : Int) + ((1 + j : Nat) : Int) + 8).tmod 64 = (((n + (1 + j) + 8) % 64 : Nat) : Int) := tmod_nat (n + (1 + j) + 8) 64
    by_cases hjz : j = zs n
    · have c1 : (((n + (1 + j) + 8) % 64 : Nat) : Int) = 0 := by rw [(zs_min2 hj).2 hjz]; rfl
      simp (maxSteps := 1000000) -dsimp (disch := (repeat first | rw [nxn] | rw [nxp]); try omega) only [go_sem, evLen, g0, g3, hlen, hmod, c1]
      exact ⟨trivial, e1, trivial, trivial, _, rfl, hjz ▸ hlen ▸ hb⟩
    · have c1 : ¬ (((n + (1 + j) + 8) % 64 : Nat) : Int) = 0 := fun hh => hjz ((zs_min2 hj).1 (by omega))
      obtain ⟨v2, h3, ha, hf3, hb3⟩ := Bo.app (h0 := h) (h := h1.new (.cells [.int .u8 0] true false)) (m := [0]) Tryz.underlying22 ai5 (hb.fr (Fr.new _ _)) (bs1 (id := h1.nx) (b := 0) (c := some 1) (AH.get_new_eq rfl) (Nat.lt_succ_self _) (.inr rfl)) (e1.news _) (by rw [hlen]; simp; omega)
      rw [hlen] at ha
      simp (maxSteps := 1000000) -dsimp (disch := (repeat first | rw [nxn] | rw [nxp]); try omega) only [go_sem, evLen, g0, g3, hlen, hmod, c1, ha]
      refine ⟨zs n - (j + 1), by omega, hf3, trivial, trivial, v2, j + 1, rfl, ?_, by omega, rfl⟩
      have : (128 :: List.replicate (j + 1) 0 : List Nat) = (128 :: List.replicate j 0) ++ [0] := by rw [List.replicate_succ']; rfl
      rw [this]; exact hb3
  · simp (maxSteps := 1000000) -dsimp (disch := (repeat first | rw [nxn] | rw [nxp]); try omega) only [go_sem, evLen]
    exact ⟨Fr.new _ _, trivial, trivial, _, 0, rfl, ⟨h.nx, some 1, [.int .u8 128], false, rfl, AH.get_new_eq rfl, Nat.lt_succ_self _, Nat.le_refl _, rfl, Nat.le_refl _, .inr rfl⟩, Nat.zero_le _, by omega⟩
  · rintro ex ⟨t, h1, d⟩ ⟨rfl, e1, rfl, g0, v, g3, hb⟩
    dsimp only at e1 g0 g3 hb
    have hz := zs_lt n
    have un : IntKind.u64.wrap (n : Int) = (n : Int) := u64_id (by omega) (by omega)
    have un8 : IntKind.u64.wrap ((n : Int) * 8) = ((n * 8 : Nat) : Int) := by rw [u64_id (by omega) (by omega)]; omega
    simp (maxSteps := 1000000) -dsimp (disch := (repeat first | rw [nxn] | rw [nxp]); try omega) only [go_sem, evLen, g0, g3, cv385, un, un8]
    refine loopK_unroll ?_
    obtain ⟨v2, h2, ha2, hf2, hb2⟩ := Bo.app (h0 := h) (h := h1.new (.cells [.int .u8 ((n * 8 / 72057594037927936 % 256 : Nat) : Int)] true false)) (m := [n * 8 / 72057594037927936 % 256]) Tryz.underlying22 ai5 (hb.fr (Fr.new _ _)) (bs1 (id := h1.nx) (c := some 1) (AH.get_new_eq rfl) (Nat.lt_succ_self _) (.inr rfl)) (e1.news _) (by simp; omega)
    have o2 := hb2.one
    simp (maxSteps := 1000000) -dsimp (disch := (repeat first | rw [nxn] | rw [nxp]); try omega) only [go_sem, evLen, g0, g3, byteAt64, cv380, u64_id, cv855, ha2]
    refine loopK_unroll ?_
    obtain ⟨v3, h3, ha3, hf3, hb3⟩ := Bo.app (h0 := h) (h := h2.new (.cells [.int .u8 ((n * 8 / 281474976710656 % 256 : Nat) : Int)] true false)) (m := [n * 8 / 281474976710656 % 256]) Tryz.underlying22 ai5 (hb2.fr (Fr.new _ _)) (bs1 (id := h2.nx) (c := some 1) (AH.get_new_eq rfl) (Nat.lt_succ_self _) (.inr rfl)) (hf2.news _) (by simp; omega)
    have o3 := hb3.one
    simp (maxSteps := 1000000) -dsimp (disch := (repeat first | rw [nxn] | rw [nxp]); try omega) only [go_sem, evLen, g0, g3, byteAt64, cv380, u64_id, cv855, ha3]
    refine loopK_unroll ?_
    obtain ⟨v4, h4, ha4, hf4, hb4⟩ := Bo.app (h0 := h) (h := h3.new (.cells [.int .u8 ((n * 8 / 1099511627776 % 256 : Nat) : Int)] true false)) (m := [n * 8 / 1099511627776 % 256]) Tryz.underlying22 ai5 (hb3.fr (Fr.new _ _)) (bs1 (id := h3.nx) (c := some 1) (AH.get_new_eq rfl) (Nat.lt_succ_self _) (.inr rfl)) (hf3.news _) (by simp; omega)
    have o4 := hb4.one
    simp (maxSteps := 1000000) -dsimp (disch := (repeat first | rw [nxn] | rw [nxp]); try omega) only [go_sem, evLen, g0, g3, byteAt64, cv380, u64_id, cv855, ha4]
    refine loopK_unroll ?_
    obtain ⟨v5, h5, ha5, hf5, hb5⟩ := Bo.app (h0 := h) (h := h4.new (.cells [.int .u8 ((n * 8 / 4294967296 % 256 : Nat) : Int)] true false)) (m := [n * 8 / 4294967296 % 256]) Tryz.underlying22 ai5 (hb4.fr (Fr.new _ _)) (bs1 (id := h4.nx) (c := some 1) (AH.get_new_eq rfl) (Nat.lt_succ_self _) (.inr rfl)) (hf4.news _) (by simp; omega)
    have o5 := hb5.one
    simp (maxSteps := 1000000) -dsimp (disch := (repeat first | rw [nxn] | rw [nxp]); try omega) only [go_sem, evLen, g0, g3, byteAt64, cv380, u64_id, cv855, ha5]
    refine loopK_unroll ?_
    obtain ⟨v6, h6, ha6, hf6, hb6⟩ := Bo.app (h0 := h) (h := h5.new (.cells [.int .u8 ((n * 8 / 16777216 % 256 : Nat) : Int)] true false)) (m := [n * 8 / 16777216 % 256]) Tryz.underlying22 ai5 (hb5.fr (Fr.new _ _)) (bs1 (id := h5.nx) (c := some 1) (AH.get_new_eq rfl) (Nat.lt_succ_self _) (.inr rfl)) (hf5.news _) (by simp; omega)
    have o6 := hb6.one
    simp (maxSteps := 1000000) -dsimp (disch := (repeat first | rw [nxn] | rw [nxp]); try omega) only [go_sem, evLen, g0, g3, byteAt64, cv380, u64_id, cv855, ha6]
    refine loopK_unroll ?_
    obtain ⟨v7, h7, ha7, hf7, hb7⟩ := Bo.app (h0 := h) (h := h6.new (.cells [.int .u8 ((n * 8 / 65536 % 256 : Nat) : Int)] true false)) (m := [n * 8 / 65536 % 256]) Tryz.underlying22 ai5 (hb6.fr (Fr.new _ _)) (bs1 (id := h6.nx) (c := some 1) (AH.get_new_eq rfl) (Nat.lt_succ_self _) (.inr rfl)) (hf6.news _) (by simp; omega)
    have o7 := hb7.one
    simp (maxSteps := 1000000) -dsimp (disch := (repeat first | rw [nxn] | rw [nxp]); try omega) only [go_sem, evLen, g0, g3, byteAt64, cv380, u64_id, cv855, ha7]
    refine loopK_unroll ?_
    obtain ⟨v8, h8, ha8, hf8, hb8⟩ := Bo.app (h0 := h) (h := h7.new (.cells [.int .u8 ((n * 8 / 256 % 256 : Nat) : Int)] true false)) (m := [n * 8 / 256 % 256]) Tryz.underlying22 ai5 (hb7.fr (Fr.new _ _)) (bs1 (id := h7.nx) (c := some 1) (AH.get_new_eq rfl) (Nat.lt_succ_self _) (.inr rfl)) (hf7.news _) (by simp; omega)
    have o8 := hb8.one
    simp (maxSteps := 1000000) -dsimp (disch := (repeat first | rw [nxn] | rw [nxp]); try omega) only [go_sem, evLen, g0, g3, byteAt64, cv380, u64_id, cv855, ha8]
    refine loopK_unroll ?_
    obtain ⟨v9, h9, ha9, hf9, hb9⟩ := Bo.app (h0 := h) (h := h8.new (.cells [.int .u8 ((n * 8 / 1 % 256 : Nat) : Int)] true false)) (m := [n * 8 / 1 % 256]) Tryz.underlying22 ai5 (hb8.fr (Fr.new _ _)) (bs1 (id := h8.nx) (c := some 1) (AH.get_new_eq rfl) (Nat.lt_succ_self _) (.inr rfl)) (hf8.news _) (by simp; omega)
    have o9 := hb9.one
    simp (maxSteps := 1000000) -dsimp (disch := (repeat first | rw [nxn] | rw [nxp]); try omega) only [go_sem, evLen, g0, g3, byteAt64, cv380, u64_id, cv855, ha9]
    refine loopK_unroll ?_
    simp (maxSteps := 1000000) -dsimp (disch := (repeat first | rw [nxn] | rw [nxp]); try omega) only [go_sem, evLen, g3]
    exact ⟨by simpa [padS, be8] using hb9, hf9⟩

/-! ### The program's way -/
theorem capnil (h : AH) : evCap Tryz.prog #[22] .nilsl = some (.int .i64 0) := by simp [evCap, Tryz.underlying22]
theorem snil (h : AH) : evSlice Tryz.prog h 22 .nilsl none (some (.int .i64 0)) none = some .nilsl := by
  simp [evSlice, Tryz.underlying22, tz5, boundsA, boundA, upTo]
theorem rep_len (n : Nat) : (repCells [AV.int .u8 0] n).length = n := by
  induction n with
  | zero => rfl
  | succ n ih => simp [repCells, ih, Nat.add_comm]
theorem rep_all (n : Nat) : (repCells [AV.int .u8 0] n).all oneA = true := by
  induction n with
  | zero => rfl
  | succ n ih => simp [repCells, ih, oneA]
theorem grow {h : AH} {n : Nat} (hn : n ≤ 274877906944) (h0 : n ≠ 0) : evAppend Tryz.prog h #[22, 3] .nilsl (.int .i64 (n : Nat)) = some (.val (.sl h.nx 0 n 1 none) (h.new (.cells (repCells [.int .u8 0] n) true false))) := by
  have hi : ∃ i z, Tryz.prog.info? 5 = some i ∧ i.zero = some z ∧ cellsA (toAV z) = some [.int .u8 0] ∧ i.size = 1 ∧ i.bytes = 1 := by
    have hk : (match Tryz.prog.info? 5 with | some i => (match i.zero with | some (.int .u8 0) => true | _ => false) && (Nat.beq i.size 1 && Nat.beq i.bytes 1) | none => false) = true := by kernel_rfl
    split at hk
    · rename_i i hi
      rw [Bool.and_eq_true, Bool.and_eq_true] at hk
      obtain ⟨k1, k2, k3⟩ := hk
      split at k1
      · rename_i hz
        exact ⟨i, _, hi, hz, rfl, Nat.eq_of_beq_eq_true k2, Nat.eq_of_beq_eq_true k3⟩
      · cases k1
    · cases hk
  obtain ⟨i, z, h1, h2, h3, h4, h5⟩ := hi
  have hcast : ((n : Nat) : Int) = Int.ofNat n := rfl
  rw [hcast]
  unfold evAppend
  simp only [List.getElem?_toArray, List.getElem?_cons_zero, List.getElem?_cons_succ, Option.bind_eq_bind, Option.bind_some, Tryz.underlying22, h1, h2, h3, h4, h5]
  rw [if_neg (by simp)]
  have hap : appendedA Tryz.prog h i [.int .u8 0] 3 (.int .i64 (Int.ofNat n)) = some (n, repCells [.int .u8 0] n) := by
    unfold appendedA
    simp only [Tryz.underlying3, Option.bind_eq_bind, Option.bind_some, h5]
    rw [if_pos (by simp; omega)]
  simp only [hap, Option.bind_some, lenA, firstA]
  simp only [if_true, Option.bind_some]
  rw [if_neg h0, if_neg (by simp [rep_all]), if_neg (by simp; omega)]
  rfl

set_option maxHeartbeats 4000000 in
theorem grow62 (hS : ∀ args h, S 108 args h = none) {h : AH} {n : Nat} (hn : n ≤ 274877906944) (h0 : n ≠ 0) : RnC Tryz.prog S 108 [.nilsl, .int .i64 (n : Nat)] h fun r h' => Bo h.nx h' r [] ∧ Fr h h' := by
  refine RnC.enter' Tryz.f108 _ 27 [.tmp 4] (hS _ _) bd108 Tryz.func108 rfl rfl rfl ?_
  have c1 : ¬ ((n : Nat) : Int) < 0 := by omega
  have c2 : (0 : Int) < ((n : Nat) : Int) := by omega
  have e0 : ((n : Nat) : Int) - 0 = ((n : Nat) : Int) := by omega
  have sl0 : ∀ h1, evSlice Tryz.prog h1 22 (.sl h.nx 0 n 1 none) none (some (.int .i64 0)) none = some (.sl h.nx 0 0 1 none) := fun h1 => by
    simp [evSlice, Tryz.underlying22, tz5, boundsA, boundA, upTo]
  simp (maxSteps := 1000000) -dsimp (disch := (repeat first | rw [nxn] | rw [nxp]); try omega) only [go_sem, evLen, c1, c2, e0, evCap, snil, grow hn h0, sl0]
  exact ⟨⟨h.nx, none, _, false, rfl, AH.get_new_eq rfl, Nat.lt_succ_self _, Nat.le_refl _, rfl, Nat.zero_le _, .inl rfl⟩, Fr.new _ _⟩

set_option maxHeartbeats 8000000 in
theorem concat52 (hS : ∀ f args h, f = 91 ∨ f = 108 → S f args h = none) {h : AH} {id n1 : Nat} {c : Option Nat} {o t : Bool} {x y : AV} {l m : List Nat} (hg : h.get id = some (.cells [x, y] o t)) (hid : id < h.nx) (hx : Bs h x l) (hy : Bo n1 h y m) (hl : l.length + m.length ≤ 274877906944) (hm : m.length ≠ 0) :
    RnC Tryz.prog S 91 [.sl id 0 2 1 c] h fun r h' => Bo h.nx h' r (l ++ m) ∧ Fr h h' := by
  refine RnC.enter' Tryz.f91 _ 36 [.tmp 2] (hS _ _ _ (.inl rfl)) bd91 Tryz.func91 rfl rfl rfl ?_
  have hy0 := hy.bs
  obtain ⟨iy, cy, csy, ty, rfl, _⟩ := hy
  have hx0 := hx
  have c1 : ¬ ((l.length : Nat) : Int) < 0 := by omega
  have c2 : ¬ ((l.length : Nat) : Int) + ((m.length : Nat) : Int) < 0 := by omega
  have c3 : ¬ ((m.length : Nat) : Int) < 0 := by omega
  have e1 : ((l.length : Nat) : Int) + ((m.length : Nat) : Int) = ((l.length + m.length : Nat) : Int) := by omega
  rcases hx with ⟨rfl, rfl⟩ | ⟨ix, ox, cx, csx, px, tx, rfl, _⟩
  · simp (maxSteps := 1000000) -dsimp (disch := (repeat first | rw [nxn] | rw [nxp]); try omega) only [go_sem, evLen]
    refine loopK_unroll ?_
    simp (maxSteps := 1000000) -dsimp (disch := (repeat first | rw [nxn] | rw [nxp]); try omega) only [go_sem, evLen, hg, c1, Int.zero_add]
    refine loopK_unroll ?_
    simp (maxSteps := 1000000) -dsimp (disch := (repeat first | rw [nxn] | rw [nxp]); try omega) only [go_sem, evLen, hg, c2, c3, Int.zero_add]
    refine loopK_unroll ?_
    simp (maxSteps := 1000000) -dsimp (disch := (repeat first | rw [nxn] | rw [nxp]); try omega) only [go_sem, evLen, e1]
    refine callK_of (grow62 (n := m.length) (fun _ _ => hS _ _ _ (.inr rfl)) (by simp at hl; omega) (by omega)) ?_
    rintro r h1 ⟨hb1, hf1⟩
    try simp (maxSteps := 1000000) -dsimp (disch := (repeat first | rw [nxn] | rw [nxp]); try omega) only [go_sem, evLen]
    obtain ⟨v2, h2, ha2, hf2, hb2⟩ := Bo.app Tryz.underlying22 ai5 hb1 (hx0.fr hf1) hf1 (by have := hl; simp only [List.length_nil] at *; omega)
    rw [List.nil_append] at hb2
    refine loopK_unroll ?_
    simp (maxSteps := 1000000) -dsimp (disch := (repeat first | rw [nxn] | rw [nxp]); try omega) only [go_sem, evLen, hf1.get, hg, ha2]
    obtain ⟨v3, h3, ha3, hf3, hb3⟩ := Bo.app Tryz.underlying22 ai5 hb2 (hy0.fr hf2) hf2 hl
    refine loopK_unroll ?_
    simp (maxSteps := 1000000) -dsimp (disch := (repeat first | rw [nxn] | rw [nxp]); try omega) only [go_sem, evLen, hf2.get, hg, ha3]
    refine loopK_unroll ?_
    simp (maxSteps := 1000000) -dsimp (disch := (repeat first | rw [nxn] | rw [nxp]); try omega) only [go_sem, evLen]
    exact ⟨hb3, hf3⟩
  · simp (maxSteps := 1000000) -dsimp (disch := (repeat first | rw [nxn] | rw [nxp]); try omega) only [go_sem, evLen]
    refine loopK_unroll ?_
    simp (maxSteps := 1000000) -dsimp (disch := (repeat first | rw [nxn] | rw [nxp]); try omega) only [go_sem, evLen, hg, c1, Int.zero_add]
    refine loopK_unroll ?_
    simp (maxSteps := 1000000) -dsimp (disch := (repeat first | rw [nxn] | rw [nxp]); try omega) only [go_sem, evLen, hg, c2, c3, Int.zero_add]
    refine loopK_unroll ?_
    simp (maxSteps := 1000000) -dsimp (disch := (repeat first | rw [nxn] | rw [nxp]); try omega) only [go_sem, evLen, e1]
    refine callK_of (grow62 (n := l.length + m.length) (fun _ _ => hS _ _ _ (.inr rfl)) hl (by omega)) ?_
    rintro r h1 ⟨hb1, hf1⟩
    try simp (maxSteps := 1000000) -dsimp (disch := (repeat first | rw [nxn] | rw [nxp]); try omega) only [go_sem, evLen]
    obtain ⟨v2, h2, ha2, hf2, hb2⟩ := Bo.app Tryz.underlying22 ai5 hb1 (hx0.fr hf1) hf1 (by have := hl; simp only [List.length_nil] at *; omega)
    rw [List.nil_append] at hb2
    refine loopK_unroll ?_
    simp (maxSteps := 1000000) -dsimp (disch := (repeat first | rw [nxn] | rw [nxp]); try omega) only [go_sem, evLen, hf1.get, hg, ha2]
    obtain ⟨v3, h3, ha3, hf3, hb3⟩ := Bo.app Tryz.underlying22 ai5 hb2 (hy0.fr hf2) hf2 hl
    refine loopK_unroll ?_
    simp (maxSteps := 1000000) -dsimp (disch := (repeat first | rw [nxn] | rw [nxp]); try omega) only [go_sem, evLen, hf2.get, hg, ha3]
    refine loopK_unroll ?_
    simp (maxSteps := 1000000) -dsimp (disch := (repeat first | rw [nxn] | rw [nxp]); try omega) only [go_sem, evLen]
    exact ⟨hb3, hf3⟩

end
end Go.Proofs.YtfhcnoancepgcaaGreatDoor.dig
