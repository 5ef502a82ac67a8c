/-
  DERIVED. GIVEN WITH THE SEED: THE CARDS: each row of YtihigekgnnoejaaGreatDoorRows.lean that lists a variable, with what it lists TIED to the program's text (the seventh form; the later family's looks); each row that meets fmt, with fmt's text TOLD by the authors' own Lean function (tested against real Go, not proved from fmt's source: count such statements apart). THE CARD IS WHAT COUNTS. Prove the row's statement (the work); the ties are given (YtihigekgnnoejaaGreatDoorTie.lean); close each card by the builder's one call (the guide's Derived/Test/ToyasCard.lean, 'card_holds'). Laid BY PROGRAM, IN A SANDBOX (cutbox-door.mjs). By AI agents, Wed Nov 11 2026. No macro, syntax, notation, axiom, sorry.
-/
import Derived.Test.YtihigekgnnoejaaGreatDoorRows
import GoSem.ClaimSeven
namespace Go.Proofs.YtihigekgnnoejaaGreatDoor
namespace Rows

/-- THE TIED CARD OF 'packtrainlaw27.ModelGrows'. -/
def modelGrowsCard : Claim7 := { stood := { row := modelGrowsRow, standIns := [], harness := (true, "611f31bc47e1d9efde16e26d5c1e8cdc0b5ae93954670b0c42d4cd34c61d5c9c"), looks := true }, kinds := [], alts := [], laidByText := true, laidKinds := [.data, .data, .data, .data, .sentinel, .sentinel, .pinned], laidTests := true, laidLooks := .later }
def ModelGrowsCardSaid : Prop := Claim7.holds Tryz.pinned (.plain (OpenSpec.ofChange modelGrowsSpec)) modelGrowsCard

/-- THE TIED CARD OF 'packtrainlaw27.ModelKnows'. -/
def modelKnowsCard : Claim7 := { stood := { row := modelKnowsRow, standIns := [], harness := (true, "611f31bc47e1d9efde16e26d5c1e8cdc0b5ae93954670b0c42d4cd34c61d5c9c"), looks := true }, kinds := [], alts := [], laidByText := true, laidKinds := [.data, .data, .data, .data, .sentinel, .sentinel, .pinned], laidTests := true, laidLooks := .later }
def ModelKnowsCardSaid : Prop := Claim7.holds Tryz.pinned (.plain (OpenSpec.ofChange modelKnowsSpec)) modelKnowsCard

/-- THE SECOND FORM's CARD OF 'packtrainlaw27.ModelGrows'. -/
def modelGrowsUptoCard : Claim7 := { stood := { row := modelGrowsUptoRow, standIns := [], harness := (true, "611f31bc47e1d9efde16e26d5c1e8cdc0b5ae93954670b0c42d4cd34c61d5c9c"), looks := true }, kinds := [], alts := [], laidByText := true, laidKinds := [.data, .data, .data, .data, .sentinel, .sentinel, .pinned], laidTests := true, laidLooks := .later }
def ModelGrowsUptoCardSaid : Prop := Claim7.holds Tryz.pinned (.plain (OpenSpec.upto modelGrowsSpec)) modelGrowsUptoCard

/-- THE SECOND FORM's CARD OF 'packtrainlaw27.ModelKnows'. -/
def modelKnowsUptoCard : Claim7 := { stood := { row := modelKnowsUptoRow, standIns := [], harness := (true, "611f31bc47e1d9efde16e26d5c1e8cdc0b5ae93954670b0c42d4cd34c61d5c9c"), looks := true }, kinds := [], alts := [], laidByText := true, laidKinds := [.data, .data, .data, .data, .sentinel, .sentinel, .pinned], laidTests := true, laidLooks := .later }
def ModelKnowsUptoCardSaid : Prop := Claim7.holds Tryz.pinned (.plain (OpenSpec.upto modelKnowsSpec)) modelKnowsUptoCard
end Rows
end Go.Proofs.YtihigekgnnoejaaGreatDoor
