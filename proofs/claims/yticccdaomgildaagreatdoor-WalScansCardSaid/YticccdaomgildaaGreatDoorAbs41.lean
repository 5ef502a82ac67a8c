/- The abstract layer, part 41: words of thirty-two bits: the evaluator's arithmetic on them. -/
import Derived.Test.YticccdaomgildaaGreatDoorAbs40
namespace Go.Abs
open Go
set_option linter.unusedVariables false

abbrev W32 := BitVec 32
/-- A word as a number. -/
def iw (x : W32) : Int := (x.toNat : Int)
theorem iw_def (x : W32) : iw x = (x.toNat : Int) := rfl
theorem wrap32 (n : Int) : IntKind.u32.wrap n = n % 4294967296 := by
  simp [IntKind.wrap, IntKind.bits, IntKind.signed]
theorem wrap8 (n : Int) : IntKind.u8.wrap n = n % 256 := by
  simp [IntKind.wrap, IntKind.bits, IntKind.signed]
theorem wrap32_nat (n : Nat) : IntKind.u32.wrap (n : Int) = ((n % 4294967296 : Nat) : Int) := by
  rw [wrap32]; exact (Int.natCast_emod n 4294967296).symm
theorem ofInt_iw (x : W32) : BitVec.ofInt IntKind.u32.bits (iw x) = x := by
  apply BitVec.eq_of_toNat_eq
  have h1 : (BitVec.ofInt IntKind.u32.bits (x.toNat : Int)).toNat = x.toNat % 2 ^ 32 := bv_ofInt _ _
  rw [iw, h1]
  exact Nat.mod_eq_of_lt x.isLt
theorem wrap_bv (x : W32) : IntKind.u32.wrap ((x.toNat : Nat) : Int) = iw x := by
  rw [wrap32_nat, iw, Nat.mod_eq_of_lt x.isLt]
theorem add_w (x y : W32) : IntKind.u32.wrap (iw x + iw y) = iw (x + y) := by
  rw [iw, iw, ← Int.natCast_add, wrap32_nat, iw, BitVec.toNat_add]
theorem xor_w (x y : W32) : IntKind.u32.wrap ((BitVec.ofInt IntKind.u32.bits (iw x) ^^^ BitVec.ofInt IntKind.u32.bits (iw y)).toNat : Int) = iw (x ^^^ y) := by
  rw [ofInt_iw, ofInt_iw]; exact wrap_bv _
theorem and_w (x y : W32) : IntKind.u32.wrap ((BitVec.ofInt IntKind.u32.bits (iw x) &&& BitVec.ofInt IntKind.u32.bits (iw y)).toNat : Int) = iw (x &&& y) := by
  rw [ofInt_iw, ofInt_iw]; exact wrap_bv _
theorem or_w (x y : W32) : IntKind.u32.wrap ((BitVec.ofInt IntKind.u32.bits (iw x) ||| BitVec.ofInt IntKind.u32.bits (iw y)).toNat : Int) = iw (x ||| y) := by
  rw [ofInt_iw, ofInt_iw]; exact wrap_bv _
theorem not_w (x : W32) : IntKind.u32.wrap ((BitVec.ofInt IntKind.u32.bits (if IntKind.u32.signed then -1 else IntKind.u32.max) ^^^ BitVec.ofInt IntKind.u32.bits (iw x)).toNat : Int) = iw (~~~ x) := by
  rw [ofInt_iw]
  have h1 : (BitVec.ofInt 32 4294967295 : W32) = BitVec.allOnes 32 := by decide
  have h : ((BitVec.ofInt 32 4294967295 : W32) ^^^ x) = ~~~ x := by
    rw [h1, BitVec.allOnes_xor]
  exact (congrArg (fun y : W32 => IntKind.u32.wrap (y.toNat : Int)) h).trans (wrap_bv _)
theorem shl_w (x : W32) (k : Nat) : IntKind.u32.wrap (iw x * 2 ^ k) = iw (x <<< k) := by
  have h : iw x * 2 ^ k = ((x.toNat * 2 ^ k : Nat) : Int) := by rw [iw, Int.natCast_mul, Int.natCast_pow]; rfl
  rw [h, wrap32_nat, iw, BitVec.toNat_shiftLeft, Nat.shiftLeft_eq]
theorem shr_w (x : W32) (k : Nat) : (iw x).fdiv (2 ^ k) = iw (x >>> k) := by
  have h : (2 ^ k : Int) = ((2 ^ k : Nat) : Int) := by rw [Int.natCast_pow]; rfl
  rw [h, Int.fdiv_eq_ediv_of_nonneg _ (Int.natCast_nonneg _), iw, iw, BitVec.toNat_ushiftRight, Nat.shiftRight_eq_div_pow]
  exact (Int.natCast_ediv _ _).symm
theorem byte_w (b : Nat) (hb : b < 256) : IntKind.u32.wrap ((b : Nat) : Int) = iw (BitVec.ofNat 32 b) := by
  rw [wrap32_nat, iw, BitVec.toNat_ofNat]
theorem w_byte (x : W32) : IntKind.u8.wrap (iw x) = ((x.toNat % 256 : Nat) : Int) := by
  rw [wrap8, iw]; exact (Int.natCast_emod _ 256).symm
theorem iw_inj {x y : W32} : iw x = iw y ↔ x = y := by
  unfold iw
  rw [Int.natCast_inj]
  exact ⟨fun h => BitVec.eq_of_toNat_eq h, fun h => by rw [h]⟩

/-! ### The digest's functions -/
def rotr (x : W32) (n : Nat) : W32 := (x <<< (32 - n)) ||| (x >>> n)
def rots (x : W32) : List Nat → W32 → W32
  | [], o => o
  | n :: r, o => rots x r (o ^^^ rotr x n)
theorem maj_eq (a b c : W32) : ((a &&& b) ^^^ (a &&& c) ^^^ (b &&& c)) = ((a &&& b) ||| (a &&& c) ||| (b &&& c)) := by
  ext i hi
  simp only [BitVec.getElem_xor, BitVec.getElem_and, BitVec.getElem_or]
  cases a[i] <;> cases b[i] <;> cases c[i] <;> rfl
theorem cho_eq (e f g : W32) : ((e &&& f) ^^^ (~~~ e &&& g)) = ((e &&& f) ||| (~~~ e &&& g)) := by
  ext i hi
  simp only [BitVec.getElem_xor, BitVec.getElem_and, BitVec.getElem_or, BitVec.getElem_not]
  cases e[i] <;> cases f[i] <;> cases g[i] <;> rfl

end Go.Abs
