/-
  DERIVED. GIVEN WITH THE SEED: THE CARDS: each row of YtaooopaemphfjaaGreatDoorRows.lean that lists a variable, with what it lists TIED to the program's text (the seventh form; the later family's looks); each row that meets fmt, with fmt's text TOLD by the authors' own Lean function (tested against real Go, not proved from fmt's source: count such statements apart). THE CARD IS WHAT COUNTS. Prove the row's statement (the work); the ties are given (YtaooopaemphfjaaGreatDoorTie.lean); close each card by the builder's one call (the guide's Derived/Test/ToyasCard.lean, 'card_holds'). Laid BY PROGRAM, IN A SANDBOX (cutbox-door.mjs). By AI agents, Wed Nov 11 2026. No macro, syntax, notation, axiom, sorry.
-/
import Derived.Test.YtaooopaemphfjaaGreatDoorRows
import GoSem.ClaimSeven
namespace Go.Proofs.YtaooopaemphfjaaGreatDoor
namespace Rows

/-- THE TIED CARD OF 'packtrainlaw07.StoreParts'. -/
def storePartsCard : Claim7 := { stood := { row := storePartsRow, standIns := [], harness := (true, "9cc47dc3117e6ecbf2bae7c3ae1497731f404a12884ed84bdc40befde0096721"), looks := true }, kinds := [], alts := [], laidByText := true, laidKinds := [.data, .pinned], laidTests := true, laidLooks := .later }
def StorePartsCardSaid : Prop := Claim7.holds Tryz.pinned (.plain (OpenSpec.ofChange storePartsSpec)) storePartsCard

/-- THE TIED CARD OF 'packtrainlaw07.StoreKeeps'. -/
def storeKeepsCard : Claim7 := { stood := { row := storeKeepsRow, standIns := [], harness := (true, "9cc47dc3117e6ecbf2bae7c3ae1497731f404a12884ed84bdc40befde0096721"), looks := true }, kinds := [], alts := [], laidByText := true, laidKinds := [.data, .pinned], laidTests := true, laidLooks := .later }
def StoreKeepsCardSaid : Prop := Claim7.holds Tryz.pinned (.plain (OpenSpec.ofChange storeKeepsSpec)) storeKeepsCard

/-- THE TIED CARD OF 'packtrainlaw07.StoreOrders'. -/
def storeOrdersCard : Claim7 := { stood := { row := storeOrdersRow, standIns := [], harness := (true, "9cc47dc3117e6ecbf2bae7c3ae1497731f404a12884ed84bdc40befde0096721"), looks := true }, kinds := [], alts := [], laidByText := true, laidKinds := [.data, .pinned], laidTests := true, laidLooks := .later }
def StoreOrdersCardSaid : Prop := Claim7.holds Tryz.pinned (.plain (OpenSpec.ofChange storeOrdersSpec)) storeOrdersCard

/-- THE SECOND FORM's CARD OF 'packtrainlaw07.StoreParts'. -/
def storePartsUptoCard : Claim7 := { stood := { row := storePartsUptoRow, standIns := [], harness := (true, "9cc47dc3117e6ecbf2bae7c3ae1497731f404a12884ed84bdc40befde0096721"), looks := true }, kinds := [], alts := [], laidByText := true, laidKinds := [.data, .pinned], laidTests := true, laidLooks := .later }
def StorePartsUptoCardSaid : Prop := Claim7.holds Tryz.pinned (.plain (OpenSpec.upto storePartsSpec)) storePartsUptoCard

/-- THE SECOND FORM's CARD OF 'packtrainlaw07.StoreKeeps'. -/
def storeKeepsUptoCard : Claim7 := { stood := { row := storeKeepsUptoRow, standIns := [], harness := (true, "9cc47dc3117e6ecbf2bae7c3ae1497731f404a12884ed84bdc40befde0096721"), looks := true }, kinds := [], alts := [], laidByText := true, laidKinds := [.data, .pinned], laidTests := true, laidLooks := .later }
def StoreKeepsUptoCardSaid : Prop := Claim7.holds Tryz.pinned (.plain (OpenSpec.upto storeKeepsSpec)) storeKeepsUptoCard

/-- THE SECOND FORM's CARD OF 'packtrainlaw07.StoreOrders'. -/
def storeOrdersUptoCard : Claim7 := { stood := { row := storeOrdersUptoRow, standIns := [], harness := (true, "9cc47dc3117e6ecbf2bae7c3ae1497731f404a12884ed84bdc40befde0096721"), looks := true }, kinds := [], alts := [], laidByText := true, laidKinds := [.data, .pinned], laidTests := true, laidLooks := .later }
def StoreOrdersUptoCardSaid : Prop := Claim7.holds Tryz.pinned (.plain (OpenSpec.upto storeOrdersSpec)) storeOrdersUptoCard
end Rows
end Go.Proofs.YtaooopaemphfjaaGreatDoor
