/-
  DERIVED. GIVEN WITH THE SEED: THE CARDS: each row of YtokkokgdjnkbnaaGreatDoorRows.lean that lists a variable, with what it lists TIED to the program's text (the seventh form; the later family's looks); each row that meets fmt, with fmt's text TOLD by the authors' own Lean function (tested against real Go, not proved from fmt's source: count such statements apart). THE CARD IS WHAT COUNTS. Prove the row's statement (the work); the ties are given (YtokkokgdjnkbnaaGreatDoorTie.lean); close each card by the builder's one call (the guide's Derived/Test/ToyasCard.lean, 'card_holds'). Laid BY PROGRAM, IN A SANDBOX (cutbox-door.mjs). By AI agents, Wed Nov 11 2026. No macro, syntax, notation, axiom, sorry.
-/
import Derived.Test.YtokkokgdjnkbnaaGreatDoorRows
import GoSem.ClaimSeven
namespace Go.Proofs.YtokkokgdjnkbnaaGreatDoor
namespace Rows

/-- THE TIED CARD OF 'heddlelaw08.ShakeWrites'. -/
def shakeWritesCard : Claim7 := { stood := { row := shakeWritesRow, standIns := [], harness := (true, "2abfb48919fe867d3484c84d64585f244e422d4186f89a2c602b39117b27cda3"), looks := true }, kinds := [], alts := [], laidByText := true, laidKinds := [.data, .data, .data, .handle], laidTests := true, laidLooks := .later }
def ShakeWritesCardSaid : Prop := Claim7.holds Tryz.pinned (.plain (OpenSpec.ofChange shakeWritesSpec)) shakeWritesCard

/-- THE TIED CARD OF 'heddlelaw08.ShakeReads'. -/
def shakeReadsCard : Claim7 := { stood := { row := shakeReadsRow, standIns := [], harness := (true, "2abfb48919fe867d3484c84d64585f244e422d4186f89a2c602b39117b27cda3"), looks := true }, kinds := [], alts := [], laidByText := true, laidKinds := [.data, .data, .data, .handle], laidTests := true, laidLooks := .later }
def ShakeReadsCardSaid : Prop := Claim7.holds Tryz.pinned (.plain (OpenSpec.ofChange shakeReadsSpec)) shakeReadsCard

/-- THE TIED CARD OF 'heddlelaw08.ShakePlays'. -/
def shakePlaysCard : Claim7 := { stood := { row := shakePlaysRow, standIns := [], harness := (true, "2abfb48919fe867d3484c84d64585f244e422d4186f89a2c602b39117b27cda3"), looks := true }, kinds := [], alts := [], laidByText := true, laidKinds := [.data, .data, .data, .handle], laidTests := true, laidLooks := .later }
def ShakePlaysCardSaid : Prop := Claim7.holds Tryz.pinned (.plain (OpenSpec.ofChange shakePlaysSpec)) shakePlaysCard

/-- THE TIED CARD OF 'heddlelaw08.ShakeMeets'. -/
def shakeMeetsCard : Claim7 := { stood := { row := shakeMeetsRow, standIns := [], harness := (true, "2abfb48919fe867d3484c84d64585f244e422d4186f89a2c602b39117b27cda3"), looks := true }, kinds := [], alts := [], laidByText := true, laidKinds := [.data, .data, .data, .handle], laidTests := true, laidLooks := .later }
def ShakeMeetsCardSaid : Prop := Claim7.holds Tryz.pinned (.plain (OpenSpec.ofChange shakeMeetsSpec)) shakeMeetsCard

/-- THE TIED CARD OF 'heddlelaw08.ShakeKnows'. -/
def shakeKnowsCard : Claim7 := { stood := { row := shakeKnowsRow, standIns := [], harness := (true, "2abfb48919fe867d3484c84d64585f244e422d4186f89a2c602b39117b27cda3"), looks := true }, kinds := [], alts := [], laidByText := true, laidKinds := [.data, .data, .data, .handle], laidTests := true, laidLooks := .later }
def ShakeKnowsCardSaid : Prop := Claim7.holds Tryz.pinned (.plain (OpenSpec.ofChange shakeKnowsSpec)) shakeKnowsCard

/-- THE TIED CARD OF 'heddlelaw08.ShakeOwn'. -/
def shakeOwnCard : Claim7 := { stood := { row := shakeOwnRow, standIns := [], harness := (true, "2abfb48919fe867d3484c84d64585f244e422d4186f89a2c602b39117b27cda3"), looks := true }, kinds := [], alts := [], laidByText := true, laidKinds := [.data, .data, .data, .handle], laidTests := true, laidLooks := .later }
def ShakeOwnCardSaid : Prop := Claim7.holds Tryz.pinned (.plain (OpenSpec.ofChange shakeOwnSpec)) shakeOwnCard

/-- THE SECOND FORM's CARD OF 'heddlelaw08.ShakeWrites'. -/
def shakeWritesUptoCard : Claim7 := { stood := { row := shakeWritesUptoRow, standIns := [], harness := (true, "2abfb48919fe867d3484c84d64585f244e422d4186f89a2c602b39117b27cda3"), looks := true }, kinds := [], alts := [], laidByText := true, laidKinds := [.data, .data, .data, .handle], laidTests := true, laidLooks := .later }
def ShakeWritesUptoCardSaid : Prop := Claim7.holds Tryz.pinned (.plain (OpenSpec.upto shakeWritesSpec)) shakeWritesUptoCard

/-- THE SECOND FORM's CARD OF 'heddlelaw08.ShakeReads'. -/
def shakeReadsUptoCard : Claim7 := { stood := { row := shakeReadsUptoRow, standIns := [], harness := (true, "2abfb48919fe867d3484c84d64585f244e422d4186f89a2c602b39117b27cda3"), looks := true }, kinds := [], alts := [], laidByText := true, laidKinds := [.data, .data, .data, .handle], laidTests := true, laidLooks := .later }
def ShakeReadsUptoCardSaid : Prop := Claim7.holds Tryz.pinned (.plain (OpenSpec.upto shakeReadsSpec)) shakeReadsUptoCard

/-- THE SECOND FORM's CARD OF 'heddlelaw08.ShakePlays'. -/
def shakePlaysUptoCard : Claim7 := { stood := { row := shakePlaysUptoRow, standIns := [], harness := (true, "2abfb48919fe867d3484c84d64585f244e422d4186f89a2c602b39117b27cda3"), looks := true }, kinds := [], alts := [], laidByText := true, laidKinds := [.data, .data, .data, .handle], laidTests := true, laidLooks := .later }
def ShakePlaysUptoCardSaid : Prop := Claim7.holds Tryz.pinned (.plain (OpenSpec.upto shakePlaysSpec)) shakePlaysUptoCard

/-- THE SECOND FORM's CARD OF 'heddlelaw08.ShakeMeets'. -/
def shakeMeetsUptoCard : Claim7 := { stood := { row := shakeMeetsUptoRow, standIns := [], harness := (true, "2abfb48919fe867d3484c84d64585f244e422d4186f89a2c602b39117b27cda3"), looks := true }, kinds := [], alts := [], laidByText := true, laidKinds := [.data, .data, .data, .handle], laidTests := true, laidLooks := .later }
def ShakeMeetsUptoCardSaid : Prop := Claim7.holds Tryz.pinned (.plain (OpenSpec.upto shakeMeetsSpec)) shakeMeetsUptoCard

/-- THE SECOND FORM's CARD OF 'heddlelaw08.ShakeKnows'. -/
def shakeKnowsUptoCard : Claim7 := { stood := { row := shakeKnowsUptoRow, standIns := [], harness := (true, "2abfb48919fe867d3484c84d64585f244e422d4186f89a2c602b39117b27cda3"), looks := true }, kinds := [], alts := [], laidByText := true, laidKinds := [.data, .data, .data, .handle], laidTests := true, laidLooks := .later }
def ShakeKnowsUptoCardSaid : Prop := Claim7.holds Tryz.pinned (.plain (OpenSpec.upto shakeKnowsSpec)) shakeKnowsUptoCard

/-- THE SECOND FORM's CARD OF 'heddlelaw08.ShakeOwn'. -/
def shakeOwnUptoCard : Claim7 := { stood := { row := shakeOwnUptoRow, standIns := [], harness := (true, "2abfb48919fe867d3484c84d64585f244e422d4186f89a2c602b39117b27cda3"), looks := true }, kinds := [], alts := [], laidByText := true, laidKinds := [.data, .data, .data, .handle], laidTests := true, laidLooks := .later }
def ShakeOwnUptoCardSaid : Prop := Claim7.holds Tryz.pinned (.plain (OpenSpec.upto shakeOwnSpec)) shakeOwnUptoCard
end Rows
end Go.Proofs.YtokkokgdjnkbnaaGreatDoor
