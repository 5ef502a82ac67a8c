/-
  DERIVED. GIVEN WITH THE SEED: THE CARDS: each row of YtieobkifoehanaaDoorRows.lean that lists a variable, with what it lists TIED to the program's text (the seventh form; the later family's looks); each row that meets fmt, with fmt's text TOLD by the authors' own Lean function (tested against real Go, not proved from fmt's source: count such statements apart). THE CARD IS WHAT COUNTS. Prove the row's statement (the work); the ties are given (YtieobkifoehanaaDoorTie.lean); close each card by the builder's one call (the guide's Derived/Test/ToyasCard.lean, 'card_holds'). Laid BY PROGRAM, IN A SANDBOX (cutbox-door.mjs). By AI agents, Wed Nov 11 2026. No macro, syntax, notation, axiom, sorry.
-/
import Derived.Test.YtieobkifoehanaaDoorRows
import GoSem.ClaimSeven
namespace Go.Proofs.YtieobkifoehanaaDoor
namespace Rows

/-- THE TIED CARD OF 'packtrainlaw04.TreeKeeps'. -/
def treeKeepsCard : Claim7 := { stood := { row := treeKeepsRow, standIns := [], harness := (true, "a69408287b757cadc4b17283f92c51fada4409c063c3f740e625cdb153c41513"), looks := true }, kinds := [], alts := [], laidByText := true, laidKinds := [.data, .pinned], laidTests := true, laidLooks := .later }
def TreeKeepsCardSaid : Prop := Claim7.holds Tryd.pinned (.plain (OpenSpec.ofChange treeKeepsSpec)) treeKeepsCard

/-- THE TIED CARD OF 'packtrainlaw04.TreeNames'. -/
def treeNamesCard : Claim7 := { stood := { row := treeNamesRow, standIns := [], harness := (true, "a69408287b757cadc4b17283f92c51fada4409c063c3f740e625cdb153c41513"), looks := true }, kinds := [], alts := [], laidByText := true, laidKinds := [.data, .pinned], laidTests := true, laidLooks := .later }
def TreeNamesCardSaid : Prop := Claim7.holds Tryd.pinned (.plain (OpenSpec.ofChange treeNamesSpec)) treeNamesCard

/-- THE TIED CARD OF 'packtrainlaw04.TreeStamps'. -/
def treeStampsCard : Claim7 := { stood := { row := treeStampsRow, standIns := [], harness := (true, "a69408287b757cadc4b17283f92c51fada4409c063c3f740e625cdb153c41513"), looks := true }, kinds := [], alts := [], laidByText := true, laidKinds := [.data, .pinned], laidTests := true, laidLooks := .later }
def TreeStampsCardSaid : Prop := Claim7.holds Tryd.pinned (.plain (OpenSpec.ofChange treeStampsSpec)) treeStampsCard

/-- THE TIED CARD OF 'packtrainlaw04.TreeFuse'. -/
def treeFuseCard : Claim7 := { stood := { row := treeFuseRow, standIns := [], harness := (true, "a69408287b757cadc4b17283f92c51fada4409c063c3f740e625cdb153c41513"), looks := true }, kinds := [], alts := [], laidByText := true, laidKinds := [.data, .pinned], laidTests := true, laidLooks := .later }
def TreeFuseCardSaid : Prop := Claim7.holds Tryd.pinned (.plain (OpenSpec.ofChange treeFuseSpec)) treeFuseCard

/-- THE TIED CARD OF 'packtrainlaw04.TreeNil'. -/
def treeNilCard : Claim7 := { stood := { row := treeNilRow, standIns := [], harness := (true, "a69408287b757cadc4b17283f92c51fada4409c063c3f740e625cdb153c41513"), looks := true }, kinds := [], alts := [], laidByText := true, laidKinds := [.data, .pinned], laidTests := true, laidLooks := .later }
def TreeNilCardSaid : Prop := Claim7.holds Tryd.pinned (.plain (OpenSpec.ofChange treeNilSpec)) treeNilCard

/-- THE SECOND FORM's CARD OF 'packtrainlaw04.TreeKeeps'. -/
def treeKeepsUptoCard : Claim7 := { stood := { row := treeKeepsUptoRow, standIns := [], harness := (true, "a69408287b757cadc4b17283f92c51fada4409c063c3f740e625cdb153c41513"), looks := true }, kinds := [], alts := [], laidByText := true, laidKinds := [.data, .pinned], laidTests := true, laidLooks := .later }
def TreeKeepsUptoCardSaid : Prop := Claim7.holds Tryd.pinned (.plain (OpenSpec.upto treeKeepsSpec)) treeKeepsUptoCard

/-- THE SECOND FORM's CARD OF 'packtrainlaw04.TreeNames'. -/
def treeNamesUptoCard : Claim7 := { stood := { row := treeNamesUptoRow, standIns := [], harness := (true, "a69408287b757cadc4b17283f92c51fada4409c063c3f740e625cdb153c41513"), looks := true }, kinds := [], alts := [], laidByText := true, laidKinds := [.data, .pinned], laidTests := true, laidLooks := .later }
def TreeNamesUptoCardSaid : Prop := Claim7.holds Tryd.pinned (.plain (OpenSpec.upto treeNamesSpec)) treeNamesUptoCard

/-- THE SECOND FORM's CARD OF 'packtrainlaw04.TreeStamps'. -/
def treeStampsUptoCard : Claim7 := { stood := { row := treeStampsUptoRow, standIns := [], harness := (true, "a69408287b757cadc4b17283f92c51fada4409c063c3f740e625cdb153c41513"), looks := true }, kinds := [], alts := [], laidByText := true, laidKinds := [.data, .pinned], laidTests := true, laidLooks := .later }
def TreeStampsUptoCardSaid : Prop := Claim7.holds Tryd.pinned (.plain (OpenSpec.upto treeStampsSpec)) treeStampsUptoCard

/-- THE SECOND FORM's CARD OF 'packtrainlaw04.TreeFuse'. -/
def treeFuseUptoCard : Claim7 := { stood := { row := treeFuseUptoRow, standIns := [], harness := (true, "a69408287b757cadc4b17283f92c51fada4409c063c3f740e625cdb153c41513"), looks := true }, kinds := [], alts := [], laidByText := true, laidKinds := [.data, .pinned], laidTests := true, laidLooks := .later }
def TreeFuseUptoCardSaid : Prop := Claim7.holds Tryd.pinned (.plain (OpenSpec.upto treeFuseSpec)) treeFuseUptoCard

/-- THE SECOND FORM's CARD OF 'packtrainlaw04.TreeNil'. -/
def treeNilUptoCard : Claim7 := { stood := { row := treeNilUptoRow, standIns := [], harness := (true, "a69408287b757cadc4b17283f92c51fada4409c063c3f740e625cdb153c41513"), looks := true }, kinds := [], alts := [], laidByText := true, laidKinds := [.data, .pinned], laidTests := true, laidLooks := .later }
def TreeNilUptoCardSaid : Prop := Claim7.holds Tryd.pinned (.plain (OpenSpec.upto treeNilSpec)) treeNilUptoCard
end Rows
end Go.Proofs.YtieobkifoehanaaDoor
