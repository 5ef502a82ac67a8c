/- The plain part of TempSame: what fits. Conditions: the stated premises only. -/
import Derived.Test.YtfhcnoancepgcaaGreatDoorTMk
namespace Go.Proofs.YtfhcnoancepgcaaGreatDoor.dig
open Go Go.Abs Go.Proofs
set_option maxRecDepth 100000
set_option linter.unusedVariables false
set_option linter.unusedSimpArgs false

theorem chk_ok {ln s : Nat} (h1 : ln ≤ 4194304) (h2 : 1 ≤ s) (h3 : s ≤ 65536) (h4 : cnt (ln : Int) (s : Int) ≤ 1024) : chk (s : Int) (ln : Int) (cnt (ln : Int) (s : Int)).toNat = 0 := by
  have cb := cnt_b (ln := (ln : Int)) (s := (s : Int)) (by omega) (by omega) (by omega) (by omega)
  unfold chk
  rw [if_neg (by omega), if_neg (by omega)]
theorem stre_len (l : List Nat) (s i : Nat) : (stre l s i).length = min s (l.length - i * s) := by
  unfold stre
  rw [List.length_take, List.length_drop]
theorem fit_ok {l : List Nat} {s i : Nat} (h1 : l.length ≤ 4194304) (h2 : 1 ≤ s) (h3 : s ≤ 65536) (h4 : cnt (l.length : Int) (s : Int) ≤ 1024) (hi : (i : Int) < cnt (l.length : Int) (s : Int)) :
    fit (s : Int) (l.length : Int) (digs l s (cnt (l.length : Int) (s : Int)).toNat) (i : Int) (stre l s i) = 0 := by
  have hc := chk_ok h1 h2 h3 h4
  have hlt := (cnt_iff (ln := l.length) (i := i) h2).1 hi
  unfold fit
  rw [digs_len, hc, if_neg (by simp), if_neg (fun hh => hh ⟨hc, by omega, by omega⟩), if_neg]
  rintro (h | h)
  · apply h
    rw [stre_len]
    unfold too frm
    rw [Int.add_mul, Int.one_mul, ← Int.natCast_mul]
    omega
  · apply h
    rw [Int.toNat_natCast, List.getD_eq_getElem?_getD, digs_get l s (by omega)]
    rfl
end Go.Proofs.YtfhcnoancepgcaaGreatDoor.dig
