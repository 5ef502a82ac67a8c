/-
  DERIVED. GIVEN WITH THE SEED: THE CARDS: each row of YtmfbcniknjecbaaGreatDoorRows.lean that lists a variable, with what it lists TIED to the program's text (the seventh form; the later family's looks); each row that meets fmt, with fmt's text TOLD by the authors' own Lean function (tested against real Go, not proved from fmt's source: count such statements apart). THE CARD IS WHAT COUNTS. Prove the row's statement (the work); the ties are given (YtmfbcniknjecbaaGreatDoorTie.lean); close each card by the builder's one call (the guide's Derived/Test/ToyasCard.lean, 'card_holds'). Laid BY PROGRAM, IN A SANDBOX (cutbox-door.mjs). By AI agents, Wed Nov 11 2026. No macro, syntax, notation, axiom, sorry.
-/
import Derived.Test.YtmfbcniknjecbaaGreatDoorRows
import GoSem.ClaimSeven
namespace Go.Proofs.YtmfbcniknjecbaaGreatDoor
namespace Rows

/-- THE TIED CARD OF 'packtrainlaw25.DeviceNames'. -/
def deviceNamesCard : Claim7 := { stood := { row := deviceNamesRow, standIns := [], harness := (true, "4dfc451b2ef3bdcc1fcd4b9f478f41c65c4696a3a2877438d285a200ff618afb"), looks := true }, kinds := [], alts := [], laidByText := true, laidKinds := [.pinned, .data, .sentinel, .sentinel, .data, .data, .data], laidTests := true, laidLooks := .later }
def DeviceNamesCardSaid : Prop := Claim7.holds Tryz.pinned (.plain (OpenSpec.ofChange deviceNamesSpec)) deviceNamesCard

/-- THE SECOND FORM's CARD OF 'packtrainlaw25.DeviceNames'. -/
def deviceNamesUptoCard : Claim7 := { stood := { row := deviceNamesUptoRow, standIns := [], harness := (true, "4dfc451b2ef3bdcc1fcd4b9f478f41c65c4696a3a2877438d285a200ff618afb"), looks := true }, kinds := [], alts := [], laidByText := true, laidKinds := [.pinned, .data, .sentinel, .sentinel, .data, .data, .data], laidTests := true, laidLooks := .later }
def DeviceNamesUptoCardSaid : Prop := Claim7.holds Tryz.pinned (.plain (OpenSpec.upto deviceNamesSpec)) deviceNamesUptoCard
end Rows
end Go.Proofs.YtmfbcniknjecbaaGreatDoor
