/-
  DERIVED. GIVEN WITH THE SEED: THE CARDS: each row of YtokkokgdjnkbnaaDoorRows.lean that lists a variable, with what it lists TIED to the program's text (the seventh form; the later family's looks); each row that meets fmt, with fmt's text TOLD by the authors' own Lean function (tested against real Go, not proved from fmt's source: count such statements apart). THE CARD IS WHAT COUNTS. Prove the row's statement (the work); the ties are given (YtokkokgdjnkbnaaDoorTie.lean); close each card by the builder's one call (the guide's Derived/Test/ToyasCard.lean, 'card_holds'). Laid BY PROGRAM, IN A SANDBOX (cutbox-door.mjs). By AI agents, Wed Nov 11 2026. No macro, syntax, notation, axiom, sorry.
-/
import Derived.Test.YtokkokgdjnkbnaaDoorRows
import GoSem.ClaimSeven
namespace Go.Proofs.YtokkokgdjnkbnaaDoor
namespace Rows

/-- THE TIED CARD OF 'heddlelaw08.ShakeBack'. -/
def shakeBackCard : Claim7 := { stood := { row := shakeBackRow, standIns := [], harness := (true, "d57b5dadbc429d28a93a4b23098a12bb5b6a11867ab2347e773268722d99490d"), looks := true }, kinds := [], alts := [], laidByText := true, laidKinds := [.data, .data, .data, .handle], laidTests := true, laidLooks := .later }
def ShakeBackCardSaid : Prop := Claim7.holds Tryd.pinned (.plain (OpenSpec.ofChange shakeBackSpec)) shakeBackCard

/-- THE TIED CARD OF 'heddlelaw08.ShakeNobody'. -/
def shakeNobodyCard : Claim7 := { stood := { row := shakeNobodyRow, standIns := [], harness := (true, "d57b5dadbc429d28a93a4b23098a12bb5b6a11867ab2347e773268722d99490d"), looks := true }, kinds := [], alts := [], laidByText := true, laidKinds := [.data, .data, .data, .handle], laidTests := true, laidLooks := .later }
def ShakeNobodyCardSaid : Prop := Claim7.holds Tryd.pinned (.plain (OpenSpec.ofChange shakeNobodySpec)) shakeNobodyCard

/-- THE SECOND FORM's CARD OF 'heddlelaw08.ShakeBack'. -/
def shakeBackUptoCard : Claim7 := { stood := { row := shakeBackUptoRow, standIns := [], harness := (true, "d57b5dadbc429d28a93a4b23098a12bb5b6a11867ab2347e773268722d99490d"), looks := true }, kinds := [], alts := [], laidByText := true, laidKinds := [.data, .data, .data, .handle], laidTests := true, laidLooks := .later }
def ShakeBackUptoCardSaid : Prop := Claim7.holds Tryd.pinned (.plain (OpenSpec.upto shakeBackSpec)) shakeBackUptoCard

/-- THE SECOND FORM's CARD OF 'heddlelaw08.ShakeNobody'. -/
def shakeNobodyUptoCard : Claim7 := { stood := { row := shakeNobodyUptoRow, standIns := [], harness := (true, "d57b5dadbc429d28a93a4b23098a12bb5b6a11867ab2347e773268722d99490d"), looks := true }, kinds := [], alts := [], laidByText := true, laidKinds := [.data, .data, .data, .handle], laidTests := true, laidLooks := .later }
def ShakeNobodyUptoCardSaid : Prop := Claim7.holds Tryd.pinned (.plain (OpenSpec.upto shakeNobodySpec)) shakeNobodyUptoCard
end Rows
end Go.Proofs.YtokkokgdjnkbnaaDoor
