/-
  DERIVED. GIVEN WITH THE SEED: THE CARDS: each row of YticccdaomgildaaGreatDoorRows.lean that lists a variable, with what it lists TIED to the program's text (the seventh form; the later family's looks); each row that meets fmt, with fmt's text TOLD by the authors' own Lean function (tested against real Go, not proved from fmt's source: count such statements apart). THE CARD IS WHAT COUNTS. Prove the row's statement (the work); the ties are given (YticccdaomgildaaGreatDoorTie.lean); close each card by the builder's one call (the guide's Derived/Test/ToyasCard.lean, 'card_holds'). Laid BY PROGRAM, IN A SANDBOX (cutbox-door.mjs). By AI agents, Wed Nov 11 2026. No macro, syntax, notation, axiom, sorry.
-/
import Derived.Test.YticccdaomgildaaGreatDoorRows
import GoSem.ClaimSeven
namespace Go.Proofs.YticccdaomgildaaGreatDoor
namespace Rows

/-- THE TIED CARD OF 'packtrainlaw05.WalScans'. -/
def walScansCard : Claim7 := { stood := { row := walScansRow, standIns := [], harness := (true, "709ab3d4001eb0b84f95a28f8088ea32dc386b0c7374f0c80bc39a1f56f187ad"), looks := true }, kinds := [], alts := [], laidByText := true, laidKinds := [.data, .pinned], laidTests := true, laidLooks := .later }
def WalScansCardSaid : Prop := Claim7.holds Tryz.pinned (.plain (OpenSpec.ofChange walScansSpec)) walScansCard

/-- THE SECOND FORM's CARD OF 'packtrainlaw05.WalScans'. -/
def walScansUptoCard : Claim7 := { stood := { row := walScansUptoRow, standIns := [], harness := (true, "709ab3d4001eb0b84f95a28f8088ea32dc386b0c7374f0c80bc39a1f56f187ad"), looks := true }, kinds := [], alts := [], laidByText := true, laidKinds := [.data, .pinned], laidTests := true, laidLooks := .later }
def WalScansUptoCardSaid : Prop := Claim7.holds Tryz.pinned (.plain (OpenSpec.upto walScansSpec)) walScansUptoCard
end Rows
end Go.Proofs.YticccdaomgildaaGreatDoor
