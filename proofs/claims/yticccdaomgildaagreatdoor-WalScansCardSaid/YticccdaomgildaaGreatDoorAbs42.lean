/- The abstract layer, part 42: slices of bytes and of texts, and what they hold; words of thirty-two bits in a walk. Conditions: none. -/
import Derived.Test.YticccdaomgildaaGreatDoorAbs41
namespace Go.Abs
open Go
set_option linter.unusedVariables false
set_option linter.unusedSimpArgs false

section
variable {P : Program} {S : Sums}

theorem Fr.del {h h' : AH} (k : Fr h h') {i : Nat} (hi : h.nx ≤ i) : Fr h (h'.del i) := ⟨k.nx, fun j hj => by rw [AH.get_del, if_neg (by omega)]; exact k.get j hj⟩

/-- Bytes, as cells. -/
def byC (l : List Nat) : List AV := l.map fun (b : Nat) => AV.int .u8 (b : Int)
theorem byC_length (l : List Nat) : (byC l).length = l.length := by simp [byC]
theorem byC_get (l : List Nat) (i : Nat) : (byC l)[i]? = (l[i]?).map fun (b : Nat) => AV.int .u8 (b : Int) := by simp [byC]
theorem byC_drop (l : List Nat) (i : Nat) : (byC l).drop i = byC (l.drop i) := by simp [byC, List.map_drop]
theorem byC_take (l : List Nat) (i : Nat) : (byC l).take i = byC (l.take i) := by simp [byC, List.map_take]
theorem byC_all (l : List Nat) : (byC l).all oneA = true := by
  rw [List.all_eq_true]
  intro c hc
  obtain ⟨b, _, rfl⟩ := List.mem_map.1 hc
  rfl
theorem bytesA_byC : ∀ (l : List Nat), (∀ b ∈ l, b < 256) → bytesA (byC l) = some l
  | [], _ => rfl
  | b :: l, h => by
    have hb : b < 256 := h b (List.mem_cons_self ..)
    have ih := bytesA_byC l fun c hc => h c (List.mem_cons_of_mem _ hc)
    show bytesA (AV.int .u8 ((b : Nat) : Int) :: byC l) = some (b :: l)
    have : ((b : Nat) : Int) = Int.ofNat b := rfl
    rw [this]
    simp only [bytesA, hb, if_true, ih, Option.map_some]

theorem two40 : (2 : Nat) ^ 40 = 1099511627776 := by decide
/-- A slice of bytes, and what it holds. -/
def Bs (h : AH) (v : AV) (l : List Nat) : Prop :=
  (v = .nilsl ∧ l = []) ∨ ∃ id off c cs o t, v = .sl id off l.length 1 c ∧ h.get id = some (.cells cs o t) ∧ id < h.nx ∧ off + l.length ≤ cs.length ∧ (∀ k, c = some k → l.length ≤ k) ∧ (cs.drop off).take l.length = byC l

theorem Bs.fr {h h' : AH} {v : AV} {l : List Nat} (hb : Bs h v l) (hf : Fr h h') : Bs h' v l := by
  rcases hb with h1 | ⟨id, off, c, cs, o, t, h1, h2, h3, h4, h5, h6⟩
  · exact .inl h1
  · exact .inr ⟨id, off, c, cs, o, t, h1, (hf.get id h3).trans h2, Nat.lt_of_lt_of_le h3 hf.nx, h4, h5, h6⟩

theorem bs_get {cs : List AV} {off : Nat} {l : List Nat} (hx : (cs.drop off).take l.length = byC l) {i b : Nat} (hi : l[i]? = some b) : cs[off + i]? = some (.int .u8 (b : Int)) := by
  have h1 : (byC l)[i]? = some (.int .u8 (b : Int)) := by rw [byC_get, hi]; rfl
  have hil : i < l.length := (List.getElem?_eq_some_iff.1 hi).1
  rw [← hx, List.getElem?_take_of_lt hil, List.getElem?_drop] at h1
  exact h1

theorem Bs.slice_from {h : AH} {v : AV} {l : List Nat} {t e : TypeId} {lo : Nat} (hb : Bs h v l) (ht : P.underlying t = some (.slice e)) (he : tsize P e = some 1) (hlo : lo ≤ l.length) :
    ∃ v', (∀ h1, evSlice P h1 t v (some (.int .i64 (lo : Nat))) none none = some v') ∧ Bs h v' (l.drop lo) ∧ sameAV 20 v' v' = true ∧ oneA v' = true := by
  rcases hb with ⟨rfl, rfl⟩ | ⟨id, off, c, cs, o, tx, rfl, h2, h3, h4, h5, h6⟩
  · obtain rfl : lo = 0 := by simpa using hlo
    refine ⟨.nilsl, fun h1 => ?_, .inl ⟨rfl, rfl⟩, rfl, rfl⟩
    simp [evSlice, ht, he, boundsA, boundA, upTo]
  · refine ⟨.sl id (off + lo * 1) (l.length - lo) 1 (c.map (· - lo)), fun h1 => ?_, .inr ⟨id, off + lo * 1, c.map (· - lo), cs, o, tx, ?_, h2, h3, ?_, ?_, ?_⟩, ?_, rfl⟩
    · have hu : upTo ((lo : Nat) : Int) l.length = some lo := by rw [upTo_of (by omega) (by omega)]; simp
      simp [evSlice, ht, he, boundsA, boundA, hu]
    · simp
    · simp; omega
    · intro k hk
      cases c with
      | none => simp at hk
      | some c => simp at hk; have := h5 c rfl; simp; omega
    · rw [List.length_drop, ← byC_drop, ← h6, List.drop_take, List.drop_drop, Nat.mul_one]
    · simp [sameAV]

theorem Bs.slice_to {h : AH} {v : AV} {l : List Nat} {t e : TypeId} {hi : Nat} (hb : Bs h v l) (ht : P.underlying t = some (.slice e)) (he : tsize P e = some 1) (hhi : hi ≤ l.length) :
    ∃ v', (∀ h1, evSlice P h1 t v none (some (.int .i64 (hi : Nat))) none = some v') ∧ Bs h v' (l.take hi) ∧ sameAV 20 v' v' = true ∧ oneA v' = true := by
  rcases hb with ⟨rfl, rfl⟩ | ⟨id, off, c, cs, o, tx, rfl, h2, h3, h4, h5, h6⟩
  · obtain rfl : hi = 0 := by simpa using hhi
    refine ⟨.nilsl, fun h1 => ?_, .inl ⟨rfl, rfl⟩, rfl, rfl⟩
    simp [evSlice, ht, he, boundsA, boundA, upTo]
  · refine ⟨.sl id (off + 0 * 1) (hi - 0) 1 (c.map (· - 0)), fun h1 => ?_, .inr ⟨id, off + 0 * 1, c.map (· - 0), cs, o, tx, ?_, h2, h3, ?_, ?_, ?_⟩, ?_, rfl⟩
    · have hu : upTo ((hi : Nat) : Int) (c.getD l.length) = some hi := by
        rw [upTo_of (by omega) (by cases c with
          | none => simp; omega
          | some c => simp; have := h5 c rfl; omega)]
        simp
      simp [evSlice, ht, he, boundsA, boundA, hu]
    · simp; omega
    · simp; omega
    · intro k hk
      cases c with
      | none => simp at hk
      | some c => simp at hk; have := h5 c rfl; simp; omega
    · have h7 : (byC l).take hi = byC (l.take hi) := byC_take l hi
      rw [← h7, ← h6, List.take_take]
      simp
    · simp [sameAV]

theorem Bs.slice_mid {h : AH} {v : AV} {l : List Nat} {t e : TypeId} {lo hi : Nat} (hb : Bs h v l) (ht : P.underlying t = some (.slice e)) (he : tsize P e = some 1) (hlo : lo ≤ hi) (hhi : hi ≤ l.length) :
    ∃ v', (∀ h1, evSlice P h1 t v (some (.int .i64 (lo : Nat))) (some (.int .i64 (hi : Nat))) none = some v') ∧ Bs h v' ((l.take hi).drop lo) ∧ sameAV 20 v' v' = true ∧ oneA v' = true := by
  rcases hb with ⟨rfl, rfl⟩ | ⟨id, off, c, cs, o, tx, rfl, h2, h3, h4, h5, h6⟩
  · obtain rfl : hi = 0 := by simpa using hhi
    obtain rfl : lo = 0 := by simpa using hlo
    refine ⟨.nilsl, fun h1 => ?_, .inl ⟨rfl, rfl⟩, rfl, rfl⟩
    simp [evSlice, ht, he, boundsA, boundA, upTo]
  · refine ⟨.sl id (off + lo * 1) (hi - lo) 1 (c.map (· - lo)), fun h1 => ?_, .inr ⟨id, off + lo * 1, c.map (· - lo), cs, o, tx, ?_, h2, h3, ?_, ?_, ?_⟩, ?_, rfl⟩
    · have hu : upTo ((hi : Nat) : Int) (c.getD l.length) = some hi := by
        rw [upTo_of (by omega) (by cases c with
          | none => simp; omega
          | some c => simp; have := h5 c rfl; omega)]
        simp
      have hu2 : upTo ((lo : Nat) : Int) hi = some lo := by rw [upTo_of (by omega) (by omega)]; simp
      simp [evSlice, ht, he, boundsA, boundA, hu, hu2]
    · simp; omega
    · simp; omega
    · intro k hk
      cases c with
      | none => simp at hk
      | some c => simp at hk; have := h5 c rfl; simp; omega
    · have h7 : ((byC l).take hi).drop lo = byC ((l.take hi).drop lo) := by rw [byC_take, byC_drop]
      have h8 : ((l.take hi).drop lo).length = hi - lo := by simp; omega
      rw [h8, ← h7, ← h6, List.take_take, Nat.min_eq_left hhi, List.drop_take, List.drop_drop, Nat.mul_one]
    · simp [sameAV]

/-- The text of bytes. -/
theorem Bs.text {h : AH} {v : AV} {l : List Nat} {s e d : TypeId} (hb : Bs h v l) (hs : P.underlying s = some (.slice e)) (he : P.underlying e = some (.int .u8)) (hd : P.underlying d = some .string) (hl : ∀ b ∈ l, b < 256) :
    evConvert P h s d v = some (.val (.str l) h) := by
  rcases hb with ⟨rfl, rfl⟩ | ⟨id, off, c, cs, o, tx, rfl, h2, h3, h4, h5, h6⟩
  · simp [evConvert, hs, hd, he, lenA, firstA, bytesA]
  · have h7 : firstA h 1 l.length (.sl id off l.length 1 c) = some (byC l) := by
      simp only [firstA, cellsAt, h2, Nat.mul_one, h4]
      simp [h6]
    simp only [evConvert, hs, hd, he, lenA, Option.bind_eq_bind, Option.bind_some, h7, bytesA_byC l hl]

/-- What is appended of bytes. -/
theorem Bs.first {h : AH} {v : AV} {l : List Nat} (hb : Bs h v l) : lenA v = some l.length ∧ firstA h 1 l.length v = some (byC l) := by
  rcases hb with ⟨rfl, rfl⟩ | ⟨id, off, c, cs, o, tx, rfl, h2, h3, h4, h5, h6⟩
  · exact ⟨rfl, rfl⟩
  · refine ⟨rfl, ?_⟩
    simp only [firstA, cellsAt, h2, Nat.mul_one, h4]
    simp [h6]

/-- Bytes in memory of their own: appended to a new empty slice. -/
theorem Bs.own {h : AH} {x : AV} {l : List Nat} {id : Nat} {cs0 : List AV} {o t : Bool} {st e : TypeId} {bt : Nat} (hu : P.underlying st = some (.slice e)) (hi : appI P e = some (1, bt)) (hbt : bt ≤ 64) (hb : Bs h x l) (hl : l.length ≤ 1073741824) (hid : h.get id = some (.cells cs0 o t)) (hlt : id < h.nx) :
    ∃ v h', evAppend P h #[st, st] (.sl id 0 0 1 (some 0)) x = some (.val v h') ∧ Fr h h' ∧ Bs h' v l ∧ oneA v = true := by
  have hold : firstA h 1 0 (.sl id 0 0 1 (some 0)) = some [] := by
    rw [firstA_sl hid (Nat.le_refl _) (by omega)]; simp
  obtain ⟨hn, hnew⟩ := hb.first
  have hm : (2 * (0 + l.length) + 1000) * bt ≤ (2 * (0 + l.length) + 1000) * 64 := Nat.mul_le_mul_left _ hbt
  have key : ∀ (h0 : l.length = 0 ∨ ¬ l.length = 0), ∃ v h', evAppend P h #[st, st] (.sl id 0 0 1 (some 0)) x = some (.val v h') ∧ Fr h h' ∧ Bs h' v l ∧ oneA v = true := by
    intro h0
    rw [evAppend_eq hu hu rfl hi hn hnew rfl hold (byC_all l) (Nat.le_trans hm (by omega)) (by omega) rfl]
    rcases h0 with h0 | h0
    · rw [if_pos h0]
      have : l = [] := List.length_eq_zero_iff.1 h0
      subst this
      exact ⟨_, _, rfl, Fr.refl _, .inr ⟨id, 0, some 0, cs0, o, t, rfl, hid, hlt, by simp, (fun k hk => by cases hk; simp), by simp [byC]⟩, rfl⟩
    · rw [if_neg h0]
      simp only
      rw [if_pos (by omega)]
      refine ⟨_, _, rfl, Fr.new _ _, .inr ⟨h.nx, 0, none, [] ++ byC l, true, false, ?_, AH.get_new_eq rfl, Nat.lt_succ_self _, ?_, (fun k hk => by cases hk), ?_⟩, rfl⟩
      · simp
      · simp [byC_length]
      · simp [← byC_length]
  exact key (Decidable.em _)

/-! ### Slices of texts -/
/-- A slice of texts that lies at a place not below n0, and what it holds. -/
def Ss (n0 : Nat) (h : AH) (v : AV) (l : List (List Nat)) : Prop :=
  (v = .nilsl ∧ l = []) ∨ ∃ id, v = .sl id 0 l.length 1 none ∧ h.get id = some (.cells (l.map AV.str) true false) ∧ id < h.nx ∧ n0 ≤ id
theorem Ss.fr {n0 : Nat} {h h' : AH} {v : AV} {l : List (List Nat)} (hb : Ss n0 h v l) (hf : Fr h h') : Ss n0 h' v l := by
  rcases hb with h1 | ⟨id, h1, h2, h3, h4⟩
  · exact .inl h1
  · exact .inr ⟨id, h1, (hf.get id h3).trans h2, Nat.lt_of_lt_of_le h3 hf.nx, h4⟩
theorem Ss.low {n0 n1 : Nat} {h : AH} {v : AV} {l : List (List Nat)} (hb : Ss n0 h v l) (hn : n1 ≤ n0) : Ss n1 h v l := by
  rcases hb with h1 | ⟨id, h1, h2, h3, h4⟩
  · exact .inl h1
  · exact .inr ⟨id, h1, h2, h3, Nat.le_trans hn h4⟩
theorem strs_all (l : List (List Nat)) : (l.map AV.str).all oneA = true := by
  rw [List.all_eq_true]
  intro c hc
  obtain ⟨b, _, rfl⟩ := List.mem_map.1 hc
  rfl
/-- One text is appended. -/
theorem Ss.app {h0 h : AH} {v : AV} {l : List (List Nat)} {p : List Nat} {id1 : Nat} {c : Option Nat} {o t : Bool} {st e : TypeId} {bt : Nat} (hu : P.underlying st = some (.slice e)) (hi : appI P e = some (1, bt)) (hbt : bt ≤ 64) (hs : Ss h0.nx h v l) (hf : Fr h0 h) (hl : l.length ≤ 1073741824)
    (hid : h.get id1 = some (.cells [.str p] o t)) (hlt : id1 < h.nx) (hne : ∀ id off n sz c, v = .sl id off n sz c → id ≠ id1) :
    ∃ v' h', evAppend P h #[st, st] v (.sl id1 0 1 1 c) = some (.val v' h') ∧ Fr h0 h' ∧ Ss h0.nx h' v' (l ++ [p]) ∧ oneA v' = true := by
  have hnew : firstA h 1 1 (.sl id1 0 1 1 c) = some [.str p] := by
    rw [firstA_sl hid (Nat.le_refl _) (by simp)]; rfl
  have hm : (2 * (l.length + 1) + 1000) * bt ≤ (2 * (l.length + 1) + 1000) * 64 := Nat.mul_le_mul_left _ hbt
  rcases hs with ⟨rfl, rfl⟩ | ⟨id, rfl, h2, h3, h4⟩
  · have hm' : (2 * (0 + 1) + 1000) * bt ≤ (2 * (0 + 1) + 1000) * 64 := Nat.mul_le_mul_left _ hbt
    rw [evAppend_eq (len := 0) (old := []) hu hu rfl hi rfl hnew rfl rfl rfl (Nat.le_trans hm' (by omega)) (by omega) rfl]
    rw [if_neg (by decide)]
    exact ⟨_, _, rfl, hf.news _, .inr ⟨h.nx, rfl, AH.get_new_eq rfl, Nat.lt_succ_self _, hf.nx⟩, rfl⟩
  · have hold : firstA h 1 l.length (.sl id 0 l.length 1 none) = some (l.map AV.str) := by
      rw [firstA_sl h2 (Nat.le_refl _) (by simp), List.drop_zero, Nat.mul_one]
      have ht : (l.map AV.str).take (l.map AV.str).length = l.map AV.str := List.take_length
      rw [List.length_map] at ht
      exact congrArg some ht
    rw [evAppend_eq (len := l.length) hu hu rfl hi rfl hnew rfl hold rfl (Nat.le_trans hm (by omega)) (by omega) rfl]
    rw [if_neg (by decide)]
    simp only
    rw [if_pos (by simp [ownBlock, h2])]
    have ht : (textBlock h id || !(Nat.beq 0 0)) = false := by simp [textBlock, h2]
    rw [ht]
    refine ⟨_, _, rfl, (hf.del h4).news _, .inr ⟨h.nx, ?_, ?_, Nat.lt_succ_self _, hf.nx⟩, rfl⟩
    · simp
    · exact (AH.get_new_eq (h := h.del id) rfl).trans (by simp)

/-- Each of two lists' texts. -/
theorem strs_get {l : List (List Nat)} {i : Nat} {p : List Nat} (hi : l[i]? = some p) : (l.map AV.str)[i]? = some (.str p) := by simp [hi]

/-! ### Numbers -/
theorem wrap32_id {n : Int} (h1 : 0 ≤ n) (h2 : n < 4294967296) : IntKind.u32.wrap n = n := by rw [wrap32]; exact Int.emod_eq_of_lt h1 h2
theorem tmod_nat (a b : Nat) : ((a : Nat) : Int).tmod (b : Int) = ((a % b : Nat) : Int) := by
  rw [Int.tmod_eq_emod_of_nonneg (Int.natCast_nonneg _)]; exact (Int.natCast_emod a b).symm

/-! ### Words -/
theorem binA_add32 (h : AH) (t : TypeId) (x y : W32) : binA P h .add t (.int .u32 (iw x)) (.int .u32 (iw y)) = some (.int .u32 (iw (x + y))) := by rw [binA_add, add_w]
theorem binA_xor32 (h : AH) (t : TypeId) (x y : W32) : binA P h .xor t (.int .u32 (iw x)) (.int .u32 (iw y)) = some (.int .u32 (iw (x ^^^ y))) := by rw [binA_xor, xor_w]
theorem binA_and32 (h : AH) (t : TypeId) (x y : W32) : binA P h .and t (.int .u32 (iw x)) (.int .u32 (iw y)) = some (.int .u32 (iw (x &&& y))) := by rw [binA_and, and_w]
theorem binA_or32 (h : AH) (t : TypeId) (x y : W32) : binA P h .or t (.int .u32 (iw x)) (.int .u32 (iw y)) = some (.int .u32 (iw (x ||| y))) := by rw [binA_or, or_w]
theorem unA_not32 (x : W32) : unA .xor (.int .u32 (iw x)) = some (.int .u32 (iw (~~~ x))) := by
  show some (AV.int .u32 _) = _
  rw [not_w]
theorem binA_shl32 (h : AH) (t : TypeId) (k : IntKind) (x : W32) (n : Int) (h0 : 0 ≤ n) (h1 : n ≤ 32) : binA P h .shl t (.int .u32 (iw x)) (.int k n) = some (.int .u32 (iw (x <<< n.toNat))) := by
  rw [binA_shl, if_neg (by omega)]
  have : min n.toNat (IntKind.bits .u32) = n.toNat := Nat.min_eq_left (by show n.toNat ≤ 32; omega)
  rw [this, shl_w]
theorem binA_shr32 (h : AH) (t : TypeId) (k : IntKind) (x : W32) (n : Int) (h0 : 0 ≤ n) (h1 : n ≤ 32) : binA P h .shr t (.int .u32 (iw x)) (.int k n) = some (.int .u32 (iw (x >>> n.toNat))) := by
  rw [binA_shr, if_neg (by omega)]
  have : min n.toNat (IntKind.bits .u32) = n.toNat := Nat.min_eq_left (by show n.toNat ≤ 32; omega)
  rw [this, shr_w]
theorem conv_w {s d : TypeId} {u : TypeDesc} (hs : P.underlying s = some u) (hd : P.underlying d = some (.int .u32)) (h : AH) (b : Nat) : evConvert P h s d (.int .u8 (b : Int)) = some (.val (.int .u32 (iw (BitVec.ofNat 32 b))) h) := by
  simp only [evConvert, hs, hd, val?]
  have : IntKind.u32.wrap ((b : Nat) : Int) = iw (BitVec.ofNat 32 b) := by rw [wrap32_nat, iw, BitVec.toNat_ofNat]
  rw [this]

/-- The number of four bytes, the highest first. -/
def four (a b c d : Nat) : Nat := ((a * 256 + b) * 256 + c) * 256 + d
theorem four_lt {a b c d : Nat} (ha : a < 256) (hb : b < 256) (hc : c < 256) (hd : d < 256) : four a b c d < 4294967296 := by unfold four; omega
theorem bv_shl8 (a k : Nat) : (BitVec.ofNat 32 a <<< k : W32).toNat = a * 2 ^ k % 4294967296 := by
  rw [BitVec.toNat_shiftLeft, BitVec.toNat_ofNat, Nat.shiftLeft_eq]
  simp [Nat.mod_mul_mod]
theorem four_add {a b c d : Nat} (ha : a < 256) (hb : b < 256) (hc : c < 256) (hd : d < 256) :
    (BitVec.ofNat 32 a <<< 24 + BitVec.ofNat 32 b <<< 16 + BitVec.ofNat 32 c <<< 8 + BitVec.ofNat 32 d : W32) = BitVec.ofNat 32 (four a b c d) := by
  apply BitVec.eq_of_toNat_eq
  rw [BitVec.toNat_add, BitVec.toNat_add, BitVec.toNat_add, bv_shl8, bv_shl8, bv_shl8, BitVec.toNat_ofNat, BitVec.toNat_ofNat]
  unfold four
  omega
theorem or_of_lt {x y k : Nat} (hy : y < 2 ^ k) : x * 2 ^ k ||| y = x * 2 ^ k + y := by
  rw [← Nat.shiftLeft_eq, ← Nat.shiftLeft_add_eq_or_of_lt hy]
theorem four_or {a b c d : Nat} (ha : a < 256) (hb : b < 256) (hc : c < 256) (hd : d < 256) :
    (BitVec.ofNat 32 a <<< 24 ||| BitVec.ofNat 32 b <<< 16 ||| BitVec.ofNat 32 c <<< 8 ||| BitVec.ofNat 32 d : W32) = BitVec.ofNat 32 (four a b c d) := by
  apply BitVec.eq_of_toNat_eq
  rw [BitVec.toNat_or, BitVec.toNat_or, BitVec.toNat_or, bv_shl8, bv_shl8, bv_shl8, BitVec.toNat_ofNat, BitVec.toNat_ofNat]
  have e1 : a * 2 ^ 24 % 4294967296 = a * 2 ^ 24 := Nat.mod_eq_of_lt (by omega)
  have e2 : b * 2 ^ 16 % 4294967296 = b * 2 ^ 16 := Nat.mod_eq_of_lt (by omega)
  have e3 : c * 2 ^ 8 % 4294967296 = c * 2 ^ 8 := Nat.mod_eq_of_lt (by omega)
  have e4 : d % 2 ^ 32 = d := Nat.mod_eq_of_lt (by omega)
  have e5 : four a b c d % 2 ^ 32 = four a b c d := Nat.mod_eq_of_lt (four_lt ha hb hc hd)
  rw [e1, e2, e3, e4, e5]
  have f1 : a * 2 ^ 24 ||| b * 2 ^ 16 = (a * 256 + b) * 2 ^ 16 := by
    have := or_of_lt (x := a) (y := b * 2 ^ 16) (k := 24) (by omega)
    rw [this]; omega
  have f2 : (a * 256 + b) * 2 ^ 16 ||| c * 2 ^ 8 = ((a * 256 + b) * 256 + c) * 2 ^ 8 := by
    have := or_of_lt (x := a * 256 + b) (y := c * 2 ^ 8) (k := 16) (by omega)
    rw [this]; omega
  have f3 : ((a * 256 + b) * 256 + c) * 2 ^ 8 ||| d = four a b c d := by
    have := or_of_lt (x := (a * 256 + b) * 256 + c) (y := d) (k := 8) (by omega)
    rw [this]; unfold four; omega
  rw [f1, f2, f3]
theorem iw_ofNat {n : Nat} (h : n < 4294967296) : iw (BitVec.ofNat 32 n) = (n : Int) := by
  rw [iw, BitVec.toNat_ofNat]; rw [Nat.mod_eq_of_lt h]

/-! ### Bytes that are an argument -/
def natOf : AV → Nat
  | .int _ n => n.toNat
  | _ => 0
theorem Sl1.bs {h : AH} {x : AV} {cs : List AV} {e : TypeId} (hx : Sl1 h x cs) (he : ∀ (i : Nat) (c : AV), cs[i]? = some c → Ty P h e [c]) (hu : P.underlying e = some (.int .u8)) :
    ∃ l, cs = byC l ∧ Bs h x l ∧ (∀ b ∈ l, b < 256) ∧ l.length = cs.length := by
  have h1 : ∀ c ∈ cs, ∃ n : Nat, c = .int .u8 (n : Int) ∧ n < 256 := by
    intro c hc
    obtain ⟨i, hi⟩ := List.mem_iff_getElem?.1 hc
    obtain ⟨n, hn, h2, h3⟩ := (he i c hi).int_inv hu
    have h2' : (0 : Int) ≤ n := h2
    have h3' : n ≤ 255 := h3
    exact ⟨n.toNat, by cases hn; rw [Int.toNat_of_nonneg h2'], by omega⟩
  have h2 : cs = byC (cs.map natOf) := by
    unfold byC
    rw [List.map_map]
    have : cs.map ((fun (b : Nat) => AV.int .u8 (b : Int)) ∘ natOf) = cs.map id := List.map_congr_left fun c hc => by
      obtain ⟨n, rfl, _⟩ := h1 c hc
      simp [natOf]
    rw [this, List.map_id]
  refine ⟨cs.map natOf, h2, ?_, fun b hb => ?_, by simp⟩
  · rcases hx with ⟨rfl, rfl⟩ | ⟨id, rfl, hg, hid⟩
    · exact .inl ⟨rfl, rfl⟩
    · refine .inr ⟨id, 0, none, cs, false, false, by simp, hg, hid, by simp, (fun k hk => by cases hk), ?_⟩
      rw [List.drop_zero, List.length_map, List.take_length]
      exact h2
  · obtain ⟨c, hc, rfl⟩ := List.mem_map.1 hb
    obtain ⟨n, rfl, hn⟩ := h1 c hc
    simpa [natOf] using hn

end
attribute [go_sem high] binA_add32 binA_xor32 binA_and32 binA_or32 unA_not32 binA_shl32 binA_shr32
end Go.Abs
