/- The plain part of TempSame, continued: the stretches make the whole; how many are missing. Conditions: the stated premises only. -/
import Derived.Test.YtfhcnoancepgcaaGreatDoorTMl
namespace Go.Proofs.YtfhcnoancepgcaaGreatDoor.dig
open Go Go.Abs Go.Proofs
set_option linter.unusedVariables false
set_option linter.unusedSimpArgs false

/-- The stretches below n make the first n * s bytes. -/
theorem cat_stre {l : List Nat} {s : Nat} {B : Int → Option (List Nat)} : ∀ (n : Nat), (∀ i : Nat, i < n → B i = some (stre l s i)) → cat B n = l.take (n * s)
  | 0, _ => by simp [cat]
  | n + 1, h => by
    show cat B n ++ (B (n : Nat)).getD [] = _
    rw [cat_stre n fun i hi => h i (by omega), h n (by omega)]
    show l.take (n * s) ++ (l.drop (n * s)).take s = _
    rw [Nat.add_mul, Nat.one_mul, List.take_add]
/-- The last k blocks are there, the others missing. -/
theorem mis_last {B : Int → Option (List Nat)} {k c : Nat} (h1 : ∀ i : Nat, c ≤ i + k → i < c → (B i).isSome = true) (h2 : ∀ i : Nat, i + k < c → B i = none) (hk : k ≤ c) : ∀ (n : Nat), n ≤ c → (mis B n).length = min n (c - k)
  | 0, h => by simp [mis]
  | n + 1, h => by
    unfold mis
    by_cases hn : n + k < c
    · have hb : ¬ (B (n : Nat)).isSome = true := by rw [h2 n hn]; simp
      rw [if_neg hb, List.length_append, mis_last h1 h2 hk n (by omega)]
      simp
      omega
    · rw [if_pos (h1 n (by omega) (by omega)), mis_last h1 h2 hk n (by omega)]
      omega
end Go.Proofs.YtfhcnoancepgcaaGreatDoor.dig
