/-
  DERIVED. GIVEN WITH THE SEED: THE CARDS: each row of YthkdhdcbhpknnaaGreatDoorRows.lean that lists a variable, with what it lists TIED to the program's text (the seventh form; the later family's looks); each row that meets fmt, with fmt's text TOLD by the authors' own Lean function (tested against real Go, not proved from fmt's source: count such statements apart). THE CARD IS WHAT COUNTS. Prove the row's statement (the work); the ties are given (YthkdhdcbhpknnaaGreatDoorTie.lean); close each card by the builder's one call (the guide's Derived/Test/ToyasCard.lean, 'card_holds'). Laid BY PROGRAM, IN A SANDBOX (cutbox-door.mjs). By AI agents, Wed Nov 11 2026. No macro, syntax, notation, axiom, sorry.
-/
import Derived.Test.YthkdhdcbhpknnaaGreatDoorRows
import GoSem.ClaimSeven
namespace Go.Proofs.YthkdhdcbhpknnaaGreatDoor
namespace Rows

/-- THE TIED CARD OF 'packtrainlaw19.TempWhole'. -/
def tempWholeCard : Claim7 := { stood := { row := tempWholeRow, standIns := [], harness := (true, "fdca350932d7dfc3bcbc25e2c9542cd37ae1cdf1f37984f0414186a616a11dd8"), looks := true }, kinds := [], alts := [], laidByText := true, laidKinds := [.data, .pinned], laidTests := true, laidLooks := .later }
def TempWholeCardSaid : Prop := Claim7.holds Tryz.pinned (.plain (OpenSpec.ofChange tempWholeSpec)) tempWholeCard

/-- THE TIED CARD OF 'packtrainlaw19.TempLays'. -/
def tempLaysCard : Claim7 := { stood := { row := tempLaysRow, standIns := [], harness := (true, "fdca350932d7dfc3bcbc25e2c9542cd37ae1cdf1f37984f0414186a616a11dd8"), looks := true }, kinds := [], alts := [], laidByText := true, laidKinds := [.data, .pinned], laidTests := true, laidLooks := .later }
def TempLaysCardSaid : Prop := Claim7.holds Tryz.pinned (.plain (OpenSpec.ofChange tempLaysSpec)) tempLaysCard

/-- THE SECOND FORM's CARD OF 'packtrainlaw19.TempWhole'. -/
def tempWholeUptoCard : Claim7 := { stood := { row := tempWholeUptoRow, standIns := [], harness := (true, "fdca350932d7dfc3bcbc25e2c9542cd37ae1cdf1f37984f0414186a616a11dd8"), looks := true }, kinds := [], alts := [], laidByText := true, laidKinds := [.data, .pinned], laidTests := true, laidLooks := .later }
def TempWholeUptoCardSaid : Prop := Claim7.holds Tryz.pinned (.plain (OpenSpec.upto tempWholeSpec)) tempWholeUptoCard

/-- THE SECOND FORM's CARD OF 'packtrainlaw19.TempLays'. -/
def tempLaysUptoCard : Claim7 := { stood := { row := tempLaysUptoRow, standIns := [], harness := (true, "fdca350932d7dfc3bcbc25e2c9542cd37ae1cdf1f37984f0414186a616a11dd8"), looks := true }, kinds := [], alts := [], laidByText := true, laidKinds := [.data, .pinned], laidTests := true, laidLooks := .later }
def TempLaysUptoCardSaid : Prop := Claim7.holds Tryz.pinned (.plain (OpenSpec.upto tempLaysSpec)) tempLaysUptoCard
end Rows
end Go.Proofs.YthkdhdcbhpknnaaGreatDoor
