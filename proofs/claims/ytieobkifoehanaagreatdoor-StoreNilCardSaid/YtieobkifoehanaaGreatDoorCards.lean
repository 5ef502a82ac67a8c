/-
  DERIVED. GIVEN WITH THE SEED: THE CARDS: each row of YtieobkifoehanaaGreatDoorRows.lean that lists a variable, with what it lists TIED to the program's text (the seventh form; the later family's looks); each row that meets fmt, with fmt's text TOLD by the authors' own Lean function (tested against real Go, not proved from fmt's source: count such statements apart). THE CARD IS WHAT COUNTS. Prove the row's statement (the work); the ties are given (YtieobkifoehanaaGreatDoorTie.lean); close each card by the builder's one call (the guide's Derived/Test/ToyasCard.lean, 'card_holds'). Laid BY PROGRAM, IN A SANDBOX (cutbox-door.mjs). By AI agents, Wed Nov 11 2026. No macro, syntax, notation, axiom, sorry.
-/
import Derived.Test.YtieobkifoehanaaGreatDoorRows
import GoSem.ClaimSeven
namespace Go.Proofs.YtieobkifoehanaaGreatDoor
namespace Rows

/-- THE TIED CARD OF 'packtrainlaw05.WalNames'. -/
def walNamesCard : Claim7 := { stood := { row := walNamesRow, standIns := [], harness := (true, "16dec8af794787b75041ab5bd40b1d1646dbbd620adaf5c6abd91234cac1a87d"), looks := true }, kinds := [], alts := [], laidByText := true, laidKinds := [.data, .pinned], laidTests := true, laidLooks := .later }
def WalNamesCardSaid : Prop := Claim7.holds Tryz.pinned (.plain (OpenSpec.ofChange walNamesSpec)) walNamesCard

/-- THE TIED CARD OF 'packtrainlaw05.WalScans'. -/
def walScansCard : Claim7 := { stood := { row := walScansRow, standIns := [], harness := (true, "16dec8af794787b75041ab5bd40b1d1646dbbd620adaf5c6abd91234cac1a87d"), looks := true }, kinds := [], alts := [], laidByText := true, laidKinds := [.data, .pinned], laidTests := true, laidLooks := .later }
def WalScansCardSaid : Prop := Claim7.holds Tryz.pinned (.plain (OpenSpec.ofChange walScansSpec)) walScansCard

/-- THE TIED CARD OF 'packtrainlaw05.WalKeeps'. -/
def walKeepsCard : Claim7 := { stood := { row := walKeepsRow, standIns := [], harness := (true, "16dec8af794787b75041ab5bd40b1d1646dbbd620adaf5c6abd91234cac1a87d"), looks := true }, kinds := [], alts := [], laidByText := true, laidKinds := [.data, .pinned], laidTests := true, laidLooks := .later }
def WalKeepsCardSaid : Prop := Claim7.holds Tryz.pinned (.plain (OpenSpec.ofChange walKeepsSpec)) walKeepsCard

/-- THE TIED CARD OF 'packtrainlaw05.WalNil'. -/
def walNilCard : Claim7 := { stood := { row := walNilRow, standIns := [], harness := (true, "16dec8af794787b75041ab5bd40b1d1646dbbd620adaf5c6abd91234cac1a87d"), looks := true }, kinds := [], alts := [], laidByText := true, laidKinds := [.data, .pinned], laidTests := true, laidLooks := .later }
def WalNilCardSaid : Prop := Claim7.holds Tryz.pinned (.plain (OpenSpec.ofChange walNilSpec)) walNilCard

/-- THE TIED CARD OF 'packtrainlaw19.TempNil'. -/
def tempNilCard : Claim7 := { stood := { row := tempNilRow, standIns := [], harness := (true, "16dec8af794787b75041ab5bd40b1d1646dbbd620adaf5c6abd91234cac1a87d"), looks := true }, kinds := [], alts := [], laidByText := true, laidKinds := [.data, .pinned], laidTests := true, laidLooks := .later }
def TempNilCardSaid : Prop := Claim7.holds Tryz.pinned (.plain (OpenSpec.ofChange tempNilSpec)) tempNilCard

/-- THE TIED CARD OF 'packtrainlaw19.TempNames'. -/
def tempNamesCard : Claim7 := { stood := { row := tempNamesRow, standIns := [], harness := (true, "16dec8af794787b75041ab5bd40b1d1646dbbd620adaf5c6abd91234cac1a87d"), looks := true }, kinds := [], alts := [], laidByText := true, laidKinds := [.data, .pinned], laidTests := true, laidLooks := .later }
def TempNamesCardSaid : Prop := Claim7.holds Tryz.pinned (.plain (OpenSpec.ofChange tempNamesSpec)) tempNamesCard

/-- THE TIED CARD OF 'packtrainlaw05.WalRuns'. -/
def walRunsCard : Claim7 := { stood := { row := walRunsRow, standIns := [], harness := (true, "16dec8af794787b75041ab5bd40b1d1646dbbd620adaf5c6abd91234cac1a87d"), looks := true }, kinds := [], alts := [], laidByText := true, laidKinds := [.data, .pinned], laidTests := true, laidLooks := .later }
def WalRunsCardSaid : Prop := Claim7.holds Tryz.pinned (.plain (OpenSpec.ofChange walRunsSpec)) walRunsCard

/-- THE TIED CARD OF 'packtrainlaw19.TempWhole'. -/
def tempWholeCard : Claim7 := { stood := { row := tempWholeRow, standIns := [], harness := (true, "16dec8af794787b75041ab5bd40b1d1646dbbd620adaf5c6abd91234cac1a87d"), looks := true }, kinds := [], alts := [], laidByText := true, laidKinds := [.data, .pinned], laidTests := true, laidLooks := .later }
def TempWholeCardSaid : Prop := Claim7.holds Tryz.pinned (.plain (OpenSpec.ofChange tempWholeSpec)) tempWholeCard

/-- THE TIED CARD OF 'packtrainlaw19.TempLays'. -/
def tempLaysCard : Claim7 := { stood := { row := tempLaysRow, standIns := [], harness := (true, "16dec8af794787b75041ab5bd40b1d1646dbbd620adaf5c6abd91234cac1a87d"), looks := true }, kinds := [], alts := [], laidByText := true, laidKinds := [.data, .pinned], laidTests := true, laidLooks := .later }
def TempLaysCardSaid : Prop := Claim7.holds Tryz.pinned (.plain (OpenSpec.ofChange tempLaysSpec)) tempLaysCard

/-- THE TIED CARD OF 'packtrainlaw07.StoreNames'. -/
def storeNamesCard : Claim7 := { stood := { row := storeNamesRow, standIns := [], harness := (true, "16dec8af794787b75041ab5bd40b1d1646dbbd620adaf5c6abd91234cac1a87d"), looks := true }, kinds := [], alts := [], laidByText := true, laidKinds := [.data, .pinned], laidTests := true, laidLooks := .later }
def StoreNamesCardSaid : Prop := Claim7.holds Tryz.pinned (.plain (OpenSpec.ofChange storeNamesSpec)) storeNamesCard

/-- THE TIED CARD OF 'packtrainlaw07.StoreTells'. -/
def storeTellsCard : Claim7 := { stood := { row := storeTellsRow, standIns := [], harness := (true, "16dec8af794787b75041ab5bd40b1d1646dbbd620adaf5c6abd91234cac1a87d"), looks := true }, kinds := [], alts := [], laidByText := true, laidKinds := [.data, .pinned], laidTests := true, laidLooks := .later }
def StoreTellsCardSaid : Prop := Claim7.holds Tryz.pinned (.plain (OpenSpec.ofChange storeTellsSpec)) storeTellsCard

/-- THE TIED CARD OF 'packtrainlaw07.StoreParts'. -/
def storePartsCard : Claim7 := { stood := { row := storePartsRow, standIns := [], harness := (true, "16dec8af794787b75041ab5bd40b1d1646dbbd620adaf5c6abd91234cac1a87d"), looks := true }, kinds := [], alts := [], laidByText := true, laidKinds := [.data, .pinned], laidTests := true, laidLooks := .later }
def StorePartsCardSaid : Prop := Claim7.holds Tryz.pinned (.plain (OpenSpec.ofChange storePartsSpec)) storePartsCard

/-- THE TIED CARD OF 'packtrainlaw07.StoreKeeps'. -/
def storeKeepsCard : Claim7 := { stood := { row := storeKeepsRow, standIns := [], harness := (true, "16dec8af794787b75041ab5bd40b1d1646dbbd620adaf5c6abd91234cac1a87d"), looks := true }, kinds := [], alts := [], laidByText := true, laidKinds := [.data, .pinned], laidTests := true, laidLooks := .later }
def StoreKeepsCardSaid : Prop := Claim7.holds Tryz.pinned (.plain (OpenSpec.ofChange storeKeepsSpec)) storeKeepsCard

/-- THE TIED CARD OF 'packtrainlaw07.StoreNil'. -/
def storeNilCard : Claim7 := { stood := { row := storeNilRow, standIns := [], harness := (true, "16dec8af794787b75041ab5bd40b1d1646dbbd620adaf5c6abd91234cac1a87d"), looks := true }, kinds := [], alts := [], laidByText := true, laidKinds := [.data, .pinned], laidTests := true, laidLooks := .later }
def StoreNilCardSaid : Prop := Claim7.holds Tryz.pinned (.plain (OpenSpec.ofChange storeNilSpec)) storeNilCard

/-- THE TIED CARD OF 'packtrainlaw07.StoreOrders'. -/
def storeOrdersCard : Claim7 := { stood := { row := storeOrdersRow, standIns := [], harness := (true, "16dec8af794787b75041ab5bd40b1d1646dbbd620adaf5c6abd91234cac1a87d"), looks := true }, kinds := [], alts := [], laidByText := true, laidKinds := [.data, .pinned], laidTests := true, laidLooks := .later }
def StoreOrdersCardSaid : Prop := Claim7.holds Tryz.pinned (.plain (OpenSpec.ofChange storeOrdersSpec)) storeOrdersCard

/-- THE SECOND FORM's CARD OF 'packtrainlaw05.WalNames'. -/
def walNamesUptoCard : Claim7 := { stood := { row := walNamesUptoRow, standIns := [], harness := (true, "16dec8af794787b75041ab5bd40b1d1646dbbd620adaf5c6abd91234cac1a87d"), looks := true }, kinds := [], alts := [], laidByText := true, laidKinds := [.data, .pinned], laidTests := true, laidLooks := .later }
def WalNamesUptoCardSaid : Prop := Claim7.holds Tryz.pinned (.plain (OpenSpec.upto walNamesSpec)) walNamesUptoCard

/-- THE SECOND FORM's CARD OF 'packtrainlaw05.WalScans'. -/
def walScansUptoCard : Claim7 := { stood := { row := walScansUptoRow, standIns := [], harness := (true, "16dec8af794787b75041ab5bd40b1d1646dbbd620adaf5c6abd91234cac1a87d"), looks := true }, kinds := [], alts := [], laidByText := true, laidKinds := [.data, .pinned], laidTests := true, laidLooks := .later }
def WalScansUptoCardSaid : Prop := Claim7.holds Tryz.pinned (.plain (OpenSpec.upto walScansSpec)) walScansUptoCard

/-- THE SECOND FORM's CARD OF 'packtrainlaw05.WalKeeps'. -/
def walKeepsUptoCard : Claim7 := { stood := { row := walKeepsUptoRow, standIns := [], harness := (true, "16dec8af794787b75041ab5bd40b1d1646dbbd620adaf5c6abd91234cac1a87d"), looks := true }, kinds := [], alts := [], laidByText := true, laidKinds := [.data, .pinned], laidTests := true, laidLooks := .later }
def WalKeepsUptoCardSaid : Prop := Claim7.holds Tryz.pinned (.plain (OpenSpec.upto walKeepsSpec)) walKeepsUptoCard

/-- THE SECOND FORM's CARD OF 'packtrainlaw05.WalNil'. -/
def walNilUptoCard : Claim7 := { stood := { row := walNilUptoRow, standIns := [], harness := (true, "16dec8af794787b75041ab5bd40b1d1646dbbd620adaf5c6abd91234cac1a87d"), looks := true }, kinds := [], alts := [], laidByText := true, laidKinds := [.data, .pinned], laidTests := true, laidLooks := .later }
def WalNilUptoCardSaid : Prop := Claim7.holds Tryz.pinned (.plain (OpenSpec.upto walNilSpec)) walNilUptoCard

/-- THE SECOND FORM's CARD OF 'packtrainlaw19.TempNil'. -/
def tempNilUptoCard : Claim7 := { stood := { row := tempNilUptoRow, standIns := [], harness := (true, "16dec8af794787b75041ab5bd40b1d1646dbbd620adaf5c6abd91234cac1a87d"), looks := true }, kinds := [], alts := [], laidByText := true, laidKinds := [.data, .pinned], laidTests := true, laidLooks := .later }
def TempNilUptoCardSaid : Prop := Claim7.holds Tryz.pinned (.plain (OpenSpec.upto tempNilSpec)) tempNilUptoCard

/-- THE SECOND FORM's CARD OF 'packtrainlaw19.TempNames'. -/
def tempNamesUptoCard : Claim7 := { stood := { row := tempNamesUptoRow, standIns := [], harness := (true, "16dec8af794787b75041ab5bd40b1d1646dbbd620adaf5c6abd91234cac1a87d"), looks := true }, kinds := [], alts := [], laidByText := true, laidKinds := [.data, .pinned], laidTests := true, laidLooks := .later }
def TempNamesUptoCardSaid : Prop := Claim7.holds Tryz.pinned (.plain (OpenSpec.upto tempNamesSpec)) tempNamesUptoCard

/-- THE SECOND FORM's CARD OF 'packtrainlaw05.WalRuns'. -/
def walRunsUptoCard : Claim7 := { stood := { row := walRunsUptoRow, standIns := [], harness := (true, "16dec8af794787b75041ab5bd40b1d1646dbbd620adaf5c6abd91234cac1a87d"), looks := true }, kinds := [], alts := [], laidByText := true, laidKinds := [.data, .pinned], laidTests := true, laidLooks := .later }
def WalRunsUptoCardSaid : Prop := Claim7.holds Tryz.pinned (.plain (OpenSpec.upto walRunsSpec)) walRunsUptoCard

/-- THE SECOND FORM's CARD OF 'packtrainlaw19.TempWhole'. -/
def tempWholeUptoCard : Claim7 := { stood := { row := tempWholeUptoRow, standIns := [], harness := (true, "16dec8af794787b75041ab5bd40b1d1646dbbd620adaf5c6abd91234cac1a87d"), looks := true }, kinds := [], alts := [], laidByText := true, laidKinds := [.data, .pinned], laidTests := true, laidLooks := .later }
def TempWholeUptoCardSaid : Prop := Claim7.holds Tryz.pinned (.plain (OpenSpec.upto tempWholeSpec)) tempWholeUptoCard

/-- THE SECOND FORM's CARD OF 'packtrainlaw19.TempLays'. -/
def tempLaysUptoCard : Claim7 := { stood := { row := tempLaysUptoRow, standIns := [], harness := (true, "16dec8af794787b75041ab5bd40b1d1646dbbd620adaf5c6abd91234cac1a87d"), looks := true }, kinds := [], alts := [], laidByText := true, laidKinds := [.data, .pinned], laidTests := true, laidLooks := .later }
def TempLaysUptoCardSaid : Prop := Claim7.holds Tryz.pinned (.plain (OpenSpec.upto tempLaysSpec)) tempLaysUptoCard

/-- THE SECOND FORM's CARD OF 'packtrainlaw07.StoreNames'. -/
def storeNamesUptoCard : Claim7 := { stood := { row := storeNamesUptoRow, standIns := [], harness := (true, "16dec8af794787b75041ab5bd40b1d1646dbbd620adaf5c6abd91234cac1a87d"), looks := true }, kinds := [], alts := [], laidByText := true, laidKinds := [.data, .pinned], laidTests := true, laidLooks := .later }
def StoreNamesUptoCardSaid : Prop := Claim7.holds Tryz.pinned (.plain (OpenSpec.upto storeNamesSpec)) storeNamesUptoCard

/-- THE SECOND FORM's CARD OF 'packtrainlaw07.StoreTells'. -/
def storeTellsUptoCard : Claim7 := { stood := { row := storeTellsUptoRow, standIns := [], harness := (true, "16dec8af794787b75041ab5bd40b1d1646dbbd620adaf5c6abd91234cac1a87d"), looks := true }, kinds := [], alts := [], laidByText := true, laidKinds := [.data, .pinned], laidTests := true, laidLooks := .later }
def StoreTellsUptoCardSaid : Prop := Claim7.holds Tryz.pinned (.plain (OpenSpec.upto storeTellsSpec)) storeTellsUptoCard

/-- THE SECOND FORM's CARD OF 'packtrainlaw07.StoreParts'. -/
def storePartsUptoCard : Claim7 := { stood := { row := storePartsUptoRow, standIns := [], harness := (true, "16dec8af794787b75041ab5bd40b1d1646dbbd620adaf5c6abd91234cac1a87d"), looks := true }, kinds := [], alts := [], laidByText := true, laidKinds := [.data, .pinned], laidTests := true, laidLooks := .later }
def StorePartsUptoCardSaid : Prop := Claim7.holds Tryz.pinned (.plain (OpenSpec.upto storePartsSpec)) storePartsUptoCard

/-- THE SECOND FORM's CARD OF 'packtrainlaw07.StoreKeeps'. -/
def storeKeepsUptoCard : Claim7 := { stood := { row := storeKeepsUptoRow, standIns := [], harness := (true, "16dec8af794787b75041ab5bd40b1d1646dbbd620adaf5c6abd91234cac1a87d"), looks := true }, kinds := [], alts := [], laidByText := true, laidKinds := [.data, .pinned], laidTests := true, laidLooks := .later }
def StoreKeepsUptoCardSaid : Prop := Claim7.holds Tryz.pinned (.plain (OpenSpec.upto storeKeepsSpec)) storeKeepsUptoCard

/-- THE SECOND FORM's CARD OF 'packtrainlaw07.StoreNil'. -/
def storeNilUptoCard : Claim7 := { stood := { row := storeNilUptoRow, standIns := [], harness := (true, "16dec8af794787b75041ab5bd40b1d1646dbbd620adaf5c6abd91234cac1a87d"), looks := true }, kinds := [], alts := [], laidByText := true, laidKinds := [.data, .pinned], laidTests := true, laidLooks := .later }
def StoreNilUptoCardSaid : Prop := Claim7.holds Tryz.pinned (.plain (OpenSpec.upto storeNilSpec)) storeNilUptoCard

/-- THE SECOND FORM's CARD OF 'packtrainlaw07.StoreOrders'. -/
def storeOrdersUptoCard : Claim7 := { stood := { row := storeOrdersUptoRow, standIns := [], harness := (true, "16dec8af794787b75041ab5bd40b1d1646dbbd620adaf5c6abd91234cac1a87d"), looks := true }, kinds := [], alts := [], laidByText := true, laidKinds := [.data, .pinned], laidTests := true, laidLooks := .later }
def StoreOrdersUptoCardSaid : Prop := Claim7.holds Tryz.pinned (.plain (OpenSpec.upto storeOrdersSpec)) storeOrdersUptoCard
end Rows
end Go.Proofs.YtieobkifoehanaaGreatDoor
