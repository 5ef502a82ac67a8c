/- Arguments of a law: five of them, numbers in a slice. Conditions: none. -/
import Derived.Test.YthkdhdcbhpknnaaGreatDoorTLa
import Derived.Test.YthkdhdcbhpknnaaGreatDoorAb6
import Derived.ChangeShapes
namespace Go.Proofs.YthkdhdcbhpknnaaGreatDoor.tre
open Go Go.Abs Go.Proofs Go.ChangeShapes Go.RowKit
set_option linter.unusedVariables false
set_option linter.unusedSimpArgs false

section
variable {H : Type} {enc : TypeId × Value → H} {P : Program} {w : World} {base : Nat} {spare : Nat → Bool} {held : Bool}
end
theorem Iv.le {h h2 : AH} {v : AV} {l : List Int} (hb : Iv (fun _ => 0) h v l) (hl : ∀ id o, h.get id = some o → h2.get id = some o) (hn : h.nx ≤ h2.nx) : Iv (fun _ => 0) h2 v l := by
 rcases hb with h1 | ⟨id, off, c, cs, o, t, h1, h3, h4, h5⟩
 ·exact .inl h1
 ·exact .inr ⟨id, off, c, cs, o, t, h1, hl _ _ h3, Nat.lt_of_lt_of_le h4 hn, h5⟩
end Go.Proofs.YthkdhdcbhpknnaaGreatDoor.tre
