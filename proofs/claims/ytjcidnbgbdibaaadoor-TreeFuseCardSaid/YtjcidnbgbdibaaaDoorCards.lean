/-
  DERIVED. GIVEN WITH THE SEED: THE CARDS: each row of YtjcidnbgbdibaaaDoorRows.lean that lists a variable, with what it lists TIED to the program's text (the seventh form; the later family's looks); each row that meets fmt, with fmt's text TOLD by the authors' own Lean function (tested against real Go, not proved from fmt's source: count such statements apart). THE CARD IS WHAT COUNTS. Prove the row's statement (the work); the ties are given (YtjcidnbgbdibaaaDoorTie.lean); close each card by the builder's one call (the guide's Derived/Test/ToyasCard.lean, 'card_holds'). Laid BY PROGRAM, IN A SANDBOX (cutbox-door.mjs). By AI agents, Wed Nov 11 2026. No macro, syntax, notation, axiom, sorry.
-/
import Derived.Test.YtjcidnbgbdibaaaDoorRows
import GoSem.ClaimSeven
namespace Go.Proofs.YtjcidnbgbdibaaaDoor
namespace Rows

/-- THE TIED CARD OF 'packtrainlaw04.TreeKeeps'. -/
def treeKeepsCard : Claim7 := { stood := { row := treeKeepsRow, standIns := [], harness := (true, "fb8e0f6da6493ccaffd43b9f13f2eb46b05b7b9a4565b40c1df1ab12601fd0d7"), looks := true }, kinds := [], alts := [], laidByText := true, laidKinds := [.data, .pinned], laidTests := true, laidLooks := .later }
def TreeKeepsCardSaid : Prop := Claim7.holds Tryd.pinned (.plain (OpenSpec.ofChange treeKeepsSpec)) treeKeepsCard

/-- THE TIED CARD OF 'packtrainlaw04.TreeStamps'. -/
def treeStampsCard : Claim7 := { stood := { row := treeStampsRow, standIns := [], harness := (true, "fb8e0f6da6493ccaffd43b9f13f2eb46b05b7b9a4565b40c1df1ab12601fd0d7"), looks := true }, kinds := [], alts := [], laidByText := true, laidKinds := [.data, .pinned], laidTests := true, laidLooks := .later }
def TreeStampsCardSaid : Prop := Claim7.holds Tryd.pinned (.plain (OpenSpec.ofChange treeStampsSpec)) treeStampsCard

/-- THE TIED CARD OF 'packtrainlaw04.TreeFuse'. -/
def treeFuseCard : Claim7 := { stood := { row := treeFuseRow, standIns := [], harness := (true, "fb8e0f6da6493ccaffd43b9f13f2eb46b05b7b9a4565b40c1df1ab12601fd0d7"), looks := true }, kinds := [], alts := [], laidByText := true, laidKinds := [.data, .pinned], laidTests := true, laidLooks := .later }
def TreeFuseCardSaid : Prop := Claim7.holds Tryd.pinned (.plain (OpenSpec.ofChange treeFuseSpec)) treeFuseCard

/-- THE SECOND FORM's CARD OF 'packtrainlaw04.TreeKeeps'. -/
def treeKeepsUptoCard : Claim7 := { stood := { row := treeKeepsUptoRow, standIns := [], harness := (true, "fb8e0f6da6493ccaffd43b9f13f2eb46b05b7b9a4565b40c1df1ab12601fd0d7"), looks := true }, kinds := [], alts := [], laidByText := true, laidKinds := [.data, .pinned], laidTests := true, laidLooks := .later }
def TreeKeepsUptoCardSaid : Prop := Claim7.holds Tryd.pinned (.plain (OpenSpec.upto treeKeepsSpec)) treeKeepsUptoCard

/-- THE SECOND FORM's CARD OF 'packtrainlaw04.TreeStamps'. -/
def treeStampsUptoCard : Claim7 := { stood := { row := treeStampsUptoRow, standIns := [], harness := (true, "fb8e0f6da6493ccaffd43b9f13f2eb46b05b7b9a4565b40c1df1ab12601fd0d7"), looks := true }, kinds := [], alts := [], laidByText := true, laidKinds := [.data, .pinned], laidTests := true, laidLooks := .later }
def TreeStampsUptoCardSaid : Prop := Claim7.holds Tryd.pinned (.plain (OpenSpec.upto treeStampsSpec)) treeStampsUptoCard

/-- THE SECOND FORM's CARD OF 'packtrainlaw04.TreeFuse'. -/
def treeFuseUptoCard : Claim7 := { stood := { row := treeFuseUptoRow, standIns := [], harness := (true, "fb8e0f6da6493ccaffd43b9f13f2eb46b05b7b9a4565b40c1df1ab12601fd0d7"), looks := true }, kinds := [], alts := [], laidByText := true, laidKinds := [.data, .pinned], laidTests := true, laidLooks := .later }
def TreeFuseUptoCardSaid : Prop := Claim7.holds Tryd.pinned (.plain (OpenSpec.upto treeFuseSpec)) treeFuseUptoCard
end Rows
end Go.Proofs.YtjcidnbgbdibaaaDoor
