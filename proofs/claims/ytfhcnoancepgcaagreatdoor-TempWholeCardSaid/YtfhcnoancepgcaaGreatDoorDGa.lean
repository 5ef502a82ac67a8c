/- The digest's step over a block of bytes, in the program and in the document's answer: both compute the same words. Conditions: none beyond the stated premises. -/
import Derived.Test.YtfhcnoancepgcaaGreatDoorFacts
import Derived.Test.YtfhcnoancepgcaaGreatDoorAb6
namespace Go.Proofs.YtfhcnoancepgcaaGreatDoor.dig
open Go Go.Abs Go.Proofs
set_option maxRecDepth 100000
set_option linter.unusedVariables false
set_option linter.unusedSimpArgs false

/-! ### What is computed -/
structure W8 where
  a : W32
  b : W32
  c : W32
  d : W32
  e : W32
  f : W32
  g : W32
  h : W32
def c8 (s : W8) : List AV := [.int .u32 (iw s.a), .int .u32 (iw s.b), .int .u32 (iw s.c), .int .u32 (iw s.d), .int .u32 (iw s.e), .int .u32 (iw s.f), .int .u32 (iw s.g), .int .u32 (iw s.h)]
theorem c8_len (s : W8) : (c8 s).length = 8 := rfl
theorem c8_ne (s : W8) : (c8 s).isEmpty = false := rfl
theorem c8_all (s : W8) : (c8 s).all oneA = true := rfl
theorem c8_take (s : W8) : (c8 s).take 8 = c8 s := rfl
theorem c8_drop (s : W8) : (c8 s).drop 8 = [] := rfl
theorem c8_0 (s : W8) : (c8 s)[0]? = some (.int .u32 (iw s.a)) := rfl
theorem c8_1 (s : W8) : (c8 s)[1]? = some (.int .u32 (iw s.b)) := rfl
theorem c8_2 (s : W8) : (c8 s)[2]? = some (.int .u32 (iw s.c)) := rfl
theorem c8_3 (s : W8) : (c8 s)[3]? = some (.int .u32 (iw s.d)) := rfl
theorem c8_4 (s : W8) : (c8 s)[4]? = some (.int .u32 (iw s.e)) := rfl
theorem c8_5 (s : W8) : (c8 s)[5]? = some (.int .u32 (iw s.f)) := rfl
theorem c8_6 (s : W8) : (c8 s)[6]? = some (.int .u32 (iw s.g)) := rfl
theorem c8_7 (s : W8) : (c8 s)[7]? = some (.int .u32 (iw s.h)) := rfl

def Wf (b : Nat → Nat) (t : Nat) : W32 :=
  if t < 16 then BitVec.ofNat 32 (four (b (4 * t)) (b (4 * t + 1)) (b (4 * t + 2)) (b (4 * t + 3)))
  else ((rots (Wf b (t - 2)) [17, 19] 0 ^^^ Wf b (t - 2) >>> 10) + Wf b (t - 7) + (rots (Wf b (t - 15)) [7, 18] 0 ^^^ Wf b (t - 15) >>> 3)) + Wf b (t - 16)
termination_by t
decreasing_by all_goals omega

/-- The first i of 64 words, zeros behind them. -/
def wrow (W : Nat → W32) (i : Nat) : List AV := (List.range 64).map fun j => AV.int .u32 (iw (if j < i then W j else 0))
theorem wrow_len (W : Nat → W32) (i : Nat) : (wrow W i).length = 64 := by simp [wrow]
theorem wrow_ne (W : Nat → W32) (i : Nat) : (wrow W i).isEmpty = false := rfl
attribute [go_sem] c8_len c8_ne c8_all c8_take c8_drop c8_0 c8_1 c8_2 c8_3 c8_4 c8_5 c8_6 c8_7 wrow_len wrow_ne
theorem wrow_get (W : Nat → W32) {i j : Nat} (hj : j < 64) : (wrow W i)[j]? = some (.int .u32 (iw (if j < i then W j else 0))) := by
  simp [wrow, hj]
theorem wrow_lt (W : Nat → W32) {i j : Nat} (hj : j < 64) (hi : j < i) : (wrow W i)[j]? = some (.int .u32 (iw (W j))) := by rw [wrow_get W hj, if_pos hi]
theorem wrow_put (W : Nat → W32) {i : Nat} {x : W32} (hi : i < 64) (hx : x = W i) : (wrow W i).take i ++ [AV.int .u32 (iw x)] ++ (wrow W i).drop (i + 1) = wrow W (i + 1) := by
  subst hx
  refine List.ext_getElem? fun j => ?_
  have hl : ((wrow W i).take i).length = i := by rw [List.length_take, wrow_len]; omega
  by_cases h1 : j < i
  · rw [List.append_assoc, List.getElem?_append_left (by omega), List.getElem?_take_of_lt h1, wrow_lt W (by omega) h1, wrow_lt W (by omega) (by omega)]
  · by_cases h2 : j = i
    · subst h2
      rw [List.append_assoc, List.getElem?_append_right (by omega), hl, Nat.sub_self, wrow_lt W hi (by omega)]
      rfl
    · rw [List.getElem?_append_right (by simp; omega), List.getElem?_drop]
      by_cases h3 : j < 64
      · have : i + 1 + (j - (List.take i (wrow W i) ++ [AV.int .u32 (iw (W i))]).length) = j := by simp [hl]; omega
        rw [this, wrow_get W h3, wrow_get W h3, if_neg (by omega), if_neg (by omega)]
      · rw [List.getElem?_eq_none (by simp [wrow_len, hl]; omega), List.getElem?_eq_none (by rw [wrow_len]; omega)]

def stp (v : W8) (k w : W32) : W8 :=
  let one := v.h + rots v.e [6, 11, 25] 0 + (v.e &&& v.f ^^^ ~~~ v.e &&& v.g) + k + w
  let two := rots v.a [2, 13, 22] 0 + (v.a &&& v.b ^^^ v.a &&& v.c ^^^ v.b &&& v.c)
  ⟨one + two, v.a, v.b, v.c, v.d + one, v.e, v.f, v.g⟩
def rnd (K W : Nat → W32) (s : W8) : Nat → W8
  | 0 => s
  | t + 1 => stp (rnd K W s t) (K t) (W t)
def add8 (s v : W8) : W8 := ⟨s.a + v.a, s.b + v.b, s.c + v.c, s.d + v.d, s.e + v.e, s.f + v.f, s.g + v.g, s.h + v.h⟩
def blk (K : Nat → W32) (b : Nat → Nat) (s : W8) : W8 := add8 s (rnd K (Wf b) s 64)

theorem bs_getD {cs : List AV} {off : Nat} {l : List Nat} (hx : (cs.drop off).take l.length = byC l) {i : Nat} (hi : i < l.length) : cs[off + i]? = some (.int .u8 ((l.getD i 0 : Nat) : Int)) := by
  have h1 : l[i]? = some (l.getD i 0) := by rw [List.getD_eq_getElem?_getD, List.getElem?_eq_getElem hi]; rfl
  exact bs_get hx h1
theorem getD_lt {l : List Nat} (hl : ∀ b ∈ l, b < 256) (i : Nat) : l.getD i 0 < 256 := by
  rw [List.getD_eq_getElem?_getD]
  cases hi : l[i]? with
  | none => simp
  | some b => simp; exact hl b (List.mem_of_getElem? hi)

section
variable {S : Sums}

theorem Fr.bare {h h' : AH} (ht : h'.tr = h.tr) (hn : h.nx ≤ h'.nx) : Fr h h' := ⟨hn, fun j _ => by unfold AH.get; rw [ht]⟩

/-! ### Turning -/
theorem and31 {n : Nat} (h1 : 1 ≤ n) (h2 : n ≤ 31) : IntKind.u64.wrap (((BitVec.ofInt IntKind.u64.bits (IntKind.u64.wrap (0 - (n : Int))) &&& BitVec.ofInt IntKind.u64.bits 31).toNat : Nat) : Int) = ((32 - n : Nat) : Int) := by
  have h : ∀ m : Fin 32, 1 ≤ m.val → IntKind.u64.wrap (((BitVec.ofInt IntKind.u64.bits (IntKind.u64.wrap (0 - (m.val : Int))) &&& BitVec.ofInt IntKind.u64.bits 31).toNat : Nat) : Int) = ((32 - m.val : Nat) : Int) := by decide
  exact h ⟨n, by omega⟩ h1
theorem u64_id {n : Int} (h1 : 0 ≤ n) (h2 : n < 18446744073709551616) : IntKind.u64.wrap n = n := by
  simp only [IntKind.wrap, IntKind.bits, IntKind.signed]
  simp
  omega
theorem cv380 (h : AH) (n : Int) : evConvert Tryz.prog h 3 111 (.int .i64 n) = some (.val (.int .u64 (IntKind.u64.wrap n)) h) := by
  simp only [evConvert, Tryz.underlying3, Tryz.underlying111, val?]
theorem xor0 (h : AH) (t : TypeId) (y : W32) : binA Tryz.prog h .xor t (.int .u32 0) (.int .u32 (iw y)) = some (.int .u32 (iw (0 ^^^ y))) := binA_xor32 h t 0 y

set_option maxHeartbeats 4000000 in
theorem rl67 (hS : ∀ args h, S 127 args h = none) (x : W32) {n : Nat} (h1 : 1 ≤ n) (h2 : n ≤ 31) (h : AH) : RnC Tryz.prog S 127 [.int .u32 (iw x), .int .i64 (0 - (n : Int))] h fun r h' => r = .int .u32 (iw (rotr x n)) ∧ Fr h h' := by
  refine RnC.enter' Tryz.f127 _ 17 [.tmp 4] (hS _ _) bd127 Tryz.func127 rfl rfl rfl ?_
  have e1 : IntKind.u64.wrap (32 - ((32 - n : Nat) : Int)) = (n : Int) := by rw [u64_id (by omega) (by omega)]; omega
  simp (maxSteps := 1000000) -dsimp (disch := (repeat first | rw [nxn] | rw [nxp]); try omega) only [go_sem, evLen, cv380, and31 h1 h2, e1]
  exact ⟨rfl, Fr.refl _⟩

set_option maxHeartbeats 4000000 in
theorem right64_2 (hS : ∀ f args h, f = 110 ∨ f = 127 → S f args h = none) (x : W32) {n1 n2 : Nat} (h1 : 1 ≤ n1 ∧ n1 ≤ 31) (h2 : 1 ≤ n2 ∧ n2 ≤ 31) {h : AH} {id : Nat} {c : Option Nat} {o t : Bool} (hg : h.get id = some (.cells [.int .i64 (n1 : Int), .int .i64 (n2 : Int)] o t)) (hid : id < h.nx) :
    RnC Tryz.prog S 110 [.int .u32 (iw x), .sl id 0 2 1 c] h fun r h' => r = .int .u32 (iw (rots x [n1, n2] 0)) ∧ Fr h h' := by
  refine RnC.enter' Tryz.f110 _ 22 [.tmp 4] (hS _ _ _ (.inl rfl)) bd110 Tryz.func110 rfl rfl rfl ?_
  simp (maxSteps := 1000000) -dsimp (disch := (repeat first | rw [nxn] | rw [nxp]); try omega) only [go_sem, evLen]
  refine loopK_unroll ?_
  simp (maxSteps := 1000000) -dsimp (disch := (repeat first | rw [nxn] | rw [nxp]); try omega) only [go_sem, evLen, hg]
  refine callK_of (rl67 (fun _ _ => hS _ _ _ (.inr rfl)) x h1.1 h1.2 _) ?_
  rintro r h3 ⟨rfl, hf3⟩
  simp (maxSteps := 1000000) -dsimp (disch := (repeat first | rw [nxn] | rw [nxp]); try omega) only [go_sem, evLen, xor0]
  refine loopK_unroll ?_
  simp (maxSteps := 1000000) -dsimp (disch := (repeat first | rw [nxn] | rw [nxp]); try omega) only [go_sem, evLen, hf3.get, hg]
  refine callK_of (rl67 (fun _ _ => hS _ _ _ (.inr rfl)) x h2.1 h2.2 _) ?_
  rintro r h4 ⟨rfl, hf4⟩
  simp (maxSteps := 1000000) -dsimp (disch := (repeat first | rw [nxn] | rw [nxp]); try omega) only [go_sem, evLen]
  refine loopK_unroll ?_
  simp (maxSteps := 1000000) -dsimp (disch := (repeat first | rw [nxn] | rw [nxp]); try omega) only [go_sem, evLen]
  exact ⟨rfl, hf3.trans hf4⟩
set_option maxHeartbeats 4000000 in
theorem right64_3 (hS : ∀ f args h, f = 110 ∨ f = 127 → S f args h = none) (x : W32) {n1 n2 n3 : Nat} (h1 : 1 ≤ n1 ∧ n1 ≤ 31) (h2 : 1 ≤ n2 ∧ n2 ≤ 31) (h3 : 1 ≤ n3 ∧ n3 ≤ 31) {h : AH} {id : Nat} {c : Option Nat} {o t : Bool} (hg : h.get id = some (.cells [.int .i64 (n1 : Int), .int .i64 (n2 : Int), .int .i64 (n3 : Int)] o t)) (hid : id < h.nx) :
    RnC Tryz.prog S 110 [.int .u32 (iw x), .sl id 0 3 1 c] h fun r h' => r = .int .u32 (iw (rots x [n1, n2, n3] 0)) ∧ Fr h h' := by
  refine RnC.enter' Tryz.f110 _ 22 [.tmp 4] (hS _ _ _ (.inl rfl)) bd110 Tryz.func110 rfl rfl rfl ?_
  simp (maxSteps := 1000000) -dsimp (disch := (repeat first | rw [nxn] | rw [nxp]); try omega) only [go_sem, evLen]
  refine loopK_unroll ?_
  simp (maxSteps := 1000000) -dsimp (disch := (repeat first | rw [nxn] | rw [nxp]); try omega) only [go_sem, evLen, hg]
  refine callK_of (rl67 (fun _ _ => hS _ _ _ (.inr rfl)) x h1.1 h1.2 _) ?_
  rintro r g3 ⟨rfl, hf3⟩
  simp (maxSteps := 1000000) -dsimp (disch := (repeat first | rw [nxn] | rw [nxp]); try omega) only [go_sem, evLen, xor0]
  refine loopK_unroll ?_
  simp (maxSteps := 1000000) -dsimp (disch := (repeat first | rw [nxn] | rw [nxp]); try omega) only [go_sem, evLen, hf3.get, hg]
  refine callK_of (rl67 (fun _ _ => hS _ _ _ (.inr rfl)) x h2.1 h2.2 _) ?_
  rintro r g4 ⟨rfl, hf4⟩
  have hid3 : id < g3.nx := Nat.lt_of_lt_of_le hid hf3.nx
  simp (maxSteps := 1000000) -dsimp (disch := (repeat first | rw [nxn] | rw [nxp]); try omega) only [go_sem, evLen]
  refine loopK_unroll ?_
  simp (maxSteps := 1000000) -dsimp (disch := (repeat first | rw [nxn] | rw [nxp]); try omega) only [go_sem, evLen, hf4.get, hf3.get, hg]
  refine callK_of (rl67 (fun _ _ => hS _ _ _ (.inr rfl)) x h3.1 h3.2 _) ?_
  rintro r g5 ⟨rfl, hf5⟩
  simp (maxSteps := 1000000) -dsimp (disch := (repeat first | rw [nxn] | rw [nxp]); try omega) only [go_sem, evLen]
  refine loopK_unroll ?_
  simp (maxSteps := 1000000) -dsimp (disch := (repeat first | rw [nxn] | rw [nxp]); try omega) only [go_sem, evLen]
  exact ⟨rfl, (hf3.trans hf4).trans hf5⟩

/-- The document's turning: each count is at most 31. -/
theorem rot_or (x : W32) (n : Nat) : (x >>> n ||| x <<< (32 - n)) = rotr x n := by unfold rotr; exact BitVec.or_comm _ _
set_option maxHeartbeats 4000000 in
theorem right48_2 (hS : ∀ args h, S 87 args h = none) (x : W32) {n1 n2 : Nat} (h1 : 1 ≤ n1 ∧ n1 ≤ 31) (h2 : 1 ≤ n2 ∧ n2 ≤ 31) {h : AH} {id : Nat} {c : Option Nat} {o t : Bool} (hg : h.get id = some (.cells [.int .i64 (n1 : Int), .int .i64 (n2 : Int)] o t)) (hid : id < h.nx) :
    RnC Tryz.prog S 87 [.int .u32 (iw x), .sl id 0 2 1 c] h fun r h' => r = .int .u32 (iw (rots x [n1, n2] 0)) ∧ Fr h h' := by
  refine RnC.enter' Tryz.f87 _ 32 [.tmp 4] (hS _ _) bd87 Tryz.func87 rfl rfl rfl ?_
  have u1 : IntKind.u64.wrap (n1 : Int) = (n1 : Int) := u64_id (by omega) (by omega)
  have u2 : IntKind.u64.wrap (n2 : Int) = (n2 : Int) := u64_id (by omega) (by omega)
  have s1 : IntKind.u64.wrap (32 - (n1 : Int)) = 32 - (n1 : Int) := u64_id (by omega) (by omega)
  have s2 : IntKind.u64.wrap (32 - (n2 : Int)) = 32 - (n2 : Int) := u64_id (by omega) (by omega)
  have i1 : (32 - (n1 : Int)).toNat = 32 - n1 := by omega
  have i2 : (32 - (n2 : Int)).toNat = 32 - n2 := by omega
  simp (maxSteps := 1000000) -dsimp (disch := (repeat first | rw [nxn] | rw [nxp]); try omega) only [go_sem, evLen]
  refine loopK_unroll ?_
  simp (maxSteps := 1000000) -dsimp (disch := (repeat first | rw [nxn] | rw [nxp]); try omega) only [go_sem, evLen]
  refine syDraw.go0 (by kernel_rfl) ?_
  simp (maxSteps := 1000000) -dsimp (disch := (repeat first | rw [nxn] | rw [nxp]); try omega) only [go_sem, evLen, hg, cv380, u1, s1, i1, rot_or, xor0]
  refine loopK_unroll ?_
  simp (maxSteps := 1000000) -dsimp (disch := (repeat first | rw [nxn] | rw [nxp]); try omega) only [go_sem, evLen]
  refine syDraw.go0 (by kernel_rfl) ?_
  simp (maxSteps := 1000000) -dsimp (disch := (repeat first | rw [nxn] | rw [nxp]); try omega) only [go_sem, evLen, hg, cv380, u2, s2, i2, rot_or]
  refine loopK_unroll ?_
  simp (maxSteps := 1000000) -dsimp (disch := (repeat first | rw [nxn] | rw [nxp]); try omega) only [go_sem, evLen]
  exact ⟨rfl, Fr.bare rfl (by dsimp only; omega)⟩
set_option maxHeartbeats 4000000 in
theorem right48_3 (hS : ∀ args h, S 87 args h = none) (x : W32) {n1 n2 n3 : Nat} (h1 : 1 ≤ n1 ∧ n1 ≤ 31) (h2 : 1 ≤ n2 ∧ n2 ≤ 31) (h3 : 1 ≤ n3 ∧ n3 ≤ 31) {h : AH} {id : Nat} {c : Option Nat} {o t : Bool} (hg : h.get id = some (.cells [.int .i64 (n1 : Int), .int .i64 (n2 : Int), .int .i64 (n3 : Int)] o t)) (hid : id < h.nx) :
    RnC Tryz.prog S 87 [.int .u32 (iw x), .sl id 0 3 1 c] h fun r h' => r = .int .u32 (iw (rots x [n1, n2, n3] 0)) ∧ Fr h h' := by
  refine RnC.enter' Tryz.f87 _ 32 [.tmp 4] (hS _ _) bd87 Tryz.func87 rfl rfl rfl ?_
  have u1 : IntKind.u64.wrap (n1 : Int) = (n1 : Int) := u64_id (by omega) (by omega)
  have u2 : IntKind.u64.wrap (n2 : Int) = (n2 : Int) := u64_id (by omega) (by omega)
  have u3 : IntKind.u64.wrap (n3 : Int) = (n3 : Int) := u64_id (by omega) (by omega)
  have s1 : IntKind.u64.wrap (32 - (n1 : Int)) = 32 - (n1 : Int) := u64_id (by omega) (by omega)
  have s2 : IntKind.u64.wrap (32 - (n2 : Int)) = 32 - (n2 : Int) := u64_id (by omega) (by omega)
  have s3 : IntKind.u64.wrap (32 - (n3 : Int)) = 32 - (n3 : Int) := u64_id (by omega) (by omega)
  have i1 : (32 - (n1 : Int)).toNat = 32 - n1 := by omega
  have i2 : (32 - (n2 : Int)).toNat = 32 - n2 := by omega
  have i3 : (32 - (n3 : Int)).toNat = 32 - n3 := by omega
  simp (maxSteps := 1000000) -dsimp (disch := (repeat first | rw [nxn] | rw [nxp]); try omega) only [go_sem, evLen]
  refine loopK_unroll ?_
  simp (maxSteps := 1000000) -dsimp (disch := (repeat first | rw [nxn] | rw [nxp]); try omega) only [go_sem, evLen]
  refine syDraw.go0 (by kernel_rfl) ?_
  simp (maxSteps := 1000000) -dsimp (disch := (repeat first | rw [nxn] | rw [nxp]); try omega) only [go_sem, evLen, hg, cv380, u1, s1, i1, rot_or, xor0]
  refine loopK_unroll ?_
  simp (maxSteps := 1000000) -dsimp (disch := (repeat first | rw [nxn] | rw [nxp]); try omega) only [go_sem, evLen]
  refine syDraw.go0 (by kernel_rfl) ?_
  simp (maxSteps := 1000000) -dsimp (disch := (repeat first | rw [nxn] | rw [nxp]); try omega) only [go_sem, evLen, hg, cv380, u2, s2, i2, rot_or]
  refine loopK_unroll ?_
  simp (maxSteps := 1000000) -dsimp (disch := (repeat first | rw [nxn] | rw [nxp]); try omega) only [go_sem, evLen]
  refine syDraw.go0 (by kernel_rfl) ?_
  simp (maxSteps := 1000000) -dsimp (disch := (repeat first | rw [nxn] | rw [nxp]); try omega) only [go_sem, evLen, hg, cv380, u3, s3, i3, rot_or]
  refine loopK_unroll ?_
  simp (maxSteps := 1000000) -dsimp (disch := (repeat first | rw [nxn] | rw [nxp]); try omega) only [go_sem, evLen]
  exact ⟨rfl, Fr.bare rfl (by dsimp only; omega)⟩
end
end Go.Proofs.YtfhcnoancepgcaaGreatDoor.dig
