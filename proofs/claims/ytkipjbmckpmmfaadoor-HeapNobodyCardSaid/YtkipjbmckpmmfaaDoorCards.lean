/-
  DERIVED. GIVEN WITH THE SEED: THE CARDS: each row of YtkipjbmckpmmfaaDoorRows.lean that lists a variable, with what it lists TIED to the program's text (the seventh form; the later family's looks); each row that meets fmt, with fmt's text TOLD by the authors' own Lean function (tested against real Go, not proved from fmt's source: count such statements apart). THE CARD IS WHAT COUNTS. Prove the row's statement (the work); the ties are given (YtkipjbmckpmmfaaDoorTie.lean); close each card by the builder's one call (the guide's Derived/Test/ToyasCard.lean, 'card_holds'). Laid BY PROGRAM, IN A SANDBOX (cutbox-door.mjs). By AI agents, Wed Nov 11 2026. No macro, syntax, notation, axiom, sorry.
-/
import Derived.Test.YtkipjbmckpmmfaaDoorRows
import GoSem.ClaimSeven
namespace Go.Proofs.YtkipjbmckpmmfaaDoor
namespace Rows

/-- THE TIED CARD OF 'heddlelaw03.HeapBack'. -/
def heapBackCard : Claim7 := { stood := { row := heapBackRow, standIns := [], harness := (true, "f571402c9d782706461b6096b43a81086eb627594a907d4f74e9a8a662174544"), looks := true }, kinds := [], alts := [], laidByText := true, laidKinds := [.data, .handle, .pinned], laidTests := true, laidLooks := .later }
def HeapBackCardSaid : Prop := Claim7.holds Tryd.pinned (.plain (OpenSpec.ofChange heapBackSpec)) heapBackCard

/-- THE TIED CARD OF 'heddlelaw03.HeapNobody'. -/
def heapNobodyCard : Claim7 := { stood := { row := heapNobodyRow, standIns := [], harness := (true, "f571402c9d782706461b6096b43a81086eb627594a907d4f74e9a8a662174544"), looks := true }, kinds := [], alts := [], laidByText := true, laidKinds := [.data, .handle, .pinned], laidTests := true, laidLooks := .later }
def HeapNobodyCardSaid : Prop := Claim7.holds Tryd.pinned (.plain (OpenSpec.ofChange heapNobodySpec)) heapNobodyCard

/-- THE SECOND FORM's CARD OF 'heddlelaw03.HeapBack'. -/
def heapBackUptoCard : Claim7 := { stood := { row := heapBackUptoRow, standIns := [], harness := (true, "f571402c9d782706461b6096b43a81086eb627594a907d4f74e9a8a662174544"), looks := true }, kinds := [], alts := [], laidByText := true, laidKinds := [.data, .handle, .pinned], laidTests := true, laidLooks := .later }
def HeapBackUptoCardSaid : Prop := Claim7.holds Tryd.pinned (.plain (OpenSpec.upto heapBackSpec)) heapBackUptoCard

/-- THE SECOND FORM's CARD OF 'heddlelaw03.HeapNobody'. -/
def heapNobodyUptoCard : Claim7 := { stood := { row := heapNobodyUptoRow, standIns := [], harness := (true, "f571402c9d782706461b6096b43a81086eb627594a907d4f74e9a8a662174544"), looks := true }, kinds := [], alts := [], laidByText := true, laidKinds := [.data, .handle, .pinned], laidTests := true, laidLooks := .later }
def HeapNobodyUptoCardSaid : Prop := Claim7.holds Tryd.pinned (.plain (OpenSpec.upto heapNobodySpec)) heapNobodyUptoCard
end Rows
end Go.Proofs.YtkipjbmckpmmfaaDoor
