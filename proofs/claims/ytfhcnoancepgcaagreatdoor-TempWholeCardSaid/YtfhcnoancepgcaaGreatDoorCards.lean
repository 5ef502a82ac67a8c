/-
  DERIVED. GIVEN WITH THE SEED: THE CARDS: each row of YtfhcnoancepgcaaGreatDoorRows.lean that lists a variable, with what it lists TIED to the program's text (the seventh form; the later family's looks); each row that meets fmt, with fmt's text TOLD by the authors' own Lean function (tested against real Go, not proved from fmt's source: count such statements apart). THE CARD IS WHAT COUNTS. Prove the row's statement (the work); the ties are given (YtfhcnoancepgcaaGreatDoorTie.lean); close each card by the builder's one call (the guide's Derived/Test/ToyasCard.lean, 'card_holds'). Laid BY PROGRAM, IN A SANDBOX (cutbox-door.mjs). By AI agents, Wed Nov 11 2026. No macro, syntax, notation, axiom, sorry.
-/
import Derived.Test.YtfhcnoancepgcaaGreatDoorRows
import GoSem.ClaimSeven
namespace Go.Proofs.YtfhcnoancepgcaaGreatDoor
namespace Rows

/-- THE TIED CARD OF 'packtrainlaw19.TempWhole'. -/
def tempWholeCard : Claim7 := { stood := { row := tempWholeRow, standIns := [], harness := (true, "2b4fc2addaecb70d0f5d9e87ed0ba7940a2d62d270767ccc17a509c6b3f3253f"), looks := true }, kinds := [], alts := [], laidByText := true, laidKinds := [.data, .pinned], laidTests := true, laidLooks := .later }
def TempWholeCardSaid : Prop := Claim7.holds Tryz.pinned (.plain (OpenSpec.ofChange tempWholeSpec)) tempWholeCard

/-- THE SECOND FORM's CARD OF 'packtrainlaw19.TempWhole'. -/
def tempWholeUptoCard : Claim7 := { stood := { row := tempWholeUptoRow, standIns := [], harness := (true, "2b4fc2addaecb70d0f5d9e87ed0ba7940a2d62d270767ccc17a509c6b3f3253f"), looks := true }, kinds := [], alts := [], laidByText := true, laidKinds := [.data, .pinned], laidTests := true, laidLooks := .later }
def TempWholeUptoCardSaid : Prop := Claim7.holds Tryz.pinned (.plain (OpenSpec.upto tempWholeSpec)) tempWholeUptoCard
end Rows
end Go.Proofs.YtfhcnoancepgcaaGreatDoor
