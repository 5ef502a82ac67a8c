/-
  DERIVED. GIVEN WITH THE SEED: THE CARDS: each row of YtcnekpoaaihjpaaGreatDoorRows.lean that lists a variable, with what it lists TIED to the program's text (the seventh form; the later family's looks); each row that meets fmt, with fmt's text TOLD by the authors' own Lean function (tested against real Go, not proved from fmt's source: count such statements apart). THE CARD IS WHAT COUNTS. Prove the row's statement (the work); the ties are given (YtcnekpoaaihjpaaGreatDoorTie.lean); close each card by the builder's one call (the guide's Derived/Test/ToyasCard.lean, 'card_holds'). Laid BY PROGRAM, IN A SANDBOX (cutbox-door.mjs). By AI agents, Wed Nov 11 2026. No macro, syntax, notation, axiom, sorry.
-/
import Derived.Test.YtcnekpoaaihjpaaGreatDoorRows
import GoSem.ClaimSeven
namespace Go.Proofs.YtcnekpoaaihjpaaGreatDoor
namespace Rows

/-- THE TIED CARD OF 'packtrainlaw19.TempNil'. -/
def tempNilCard : Claim7 := { stood := { row := tempNilRow, standIns := [], harness := (true, "00b67ed2c6e27556500d2e3c599d6030423651cbc417ab0e2dd25d43bd62fcaf"), looks := false }, kinds := [], alts := [], laidByText := true, laidKinds := [.data, .pinned], laidTests := true, laidLooks := .later }
def TempNilCardSaid : Prop := Claim7.holds Tryz.pinned (.plain (OpenSpec.ofChange tempNilSpec)) tempNilCard

/-- THE TIED CARD OF 'packtrainlaw19.TempNames'. -/
def tempNamesCard : Claim7 := { stood := { row := tempNamesRow, standIns := [], harness := (true, "00b67ed2c6e27556500d2e3c599d6030423651cbc417ab0e2dd25d43bd62fcaf"), looks := false }, kinds := [], alts := [], laidByText := true, laidKinds := [.data, .pinned], laidTests := true, laidLooks := .later }
def TempNamesCardSaid : Prop := Claim7.holds Tryz.pinned (.plain (OpenSpec.ofChange tempNamesSpec)) tempNamesCard

/-- THE SECOND FORM's CARD OF 'packtrainlaw19.TempNil'. -/
def tempNilUptoCard : Claim7 := { stood := { row := tempNilUptoRow, standIns := [], harness := (true, "00b67ed2c6e27556500d2e3c599d6030423651cbc417ab0e2dd25d43bd62fcaf"), looks := false }, kinds := [], alts := [], laidByText := true, laidKinds := [.data, .pinned], laidTests := true, laidLooks := .later }
def TempNilUptoCardSaid : Prop := Claim7.holds Tryz.pinned (.plain (OpenSpec.upto tempNilSpec)) tempNilUptoCard

/-- THE SECOND FORM's CARD OF 'packtrainlaw19.TempNames'. -/
def tempNamesUptoCard : Claim7 := { stood := { row := tempNamesUptoRow, standIns := [], harness := (true, "00b67ed2c6e27556500d2e3c599d6030423651cbc417ab0e2dd25d43bd62fcaf"), looks := false }, kinds := [], alts := [], laidByText := true, laidKinds := [.data, .pinned], laidTests := true, laidLooks := .later }
def TempNamesUptoCardSaid : Prop := Claim7.holds Tryz.pinned (.plain (OpenSpec.upto tempNamesSpec)) tempNamesUptoCard
end Rows
end Go.Proofs.YtcnekpoaaihjpaaGreatDoor
