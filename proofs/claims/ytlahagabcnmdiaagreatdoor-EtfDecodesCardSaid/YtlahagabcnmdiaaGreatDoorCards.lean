/-
  DERIVED. GIVEN WITH THE SEED: THE CARDS: each row of YtlahagabcnmdiaaGreatDoorRows.lean that lists a variable, with what it lists TIED to the program's text (the seventh form; the later family's looks); each row that meets fmt, with fmt's text TOLD by the authors' own Lean function (tested against real Go, not proved from fmt's source: count such statements apart). THE CARD IS WHAT COUNTS. Prove the row's statement (the work); the ties are given (YtlahagabcnmdiaaGreatDoorTie.lean); close each card by the builder's one call (the guide's Derived/Test/ToyasCard.lean, 'card_holds'). Laid BY PROGRAM, IN A SANDBOX (cutbox-door.mjs). By AI agents, Wed Nov 11 2026. No macro, syntax, notation, axiom, sorry.
-/
import Derived.Test.YtlahagabcnmdiaaGreatDoorRows
import GoSem.ClaimSeven
namespace Go.Proofs.YtlahagabcnmdiaaGreatDoor
namespace Rows

/-- THE TIED CARD OF 'heddlelaw17.MailRuns'. -/
def mailRunsCard : Claim7 := { stood := { row := mailRunsRow, standIns := [], harness := (true, "3c07d742695378a80d992685a2c1a7cc00e167488034e08ee27474192b65ea02"), looks := true }, kinds := [], alts := [], laidByText := true, laidKinds := [.data, .handle, .pinned], laidTests := true, laidLooks := .later }
def MailRunsCardSaid : Prop := Claim7.holds Tryz.pinned (.plain (OpenSpec.ofChange mailRunsSpec)) mailRunsCard

/-- THE TIED CARD OF 'heddlelaw04.EtfWide'. -/
def etfWideCard : Claim7 := { stood := { row := etfWideRow, standIns := [], harness := (true, "3c07d742695378a80d992685a2c1a7cc00e167488034e08ee27474192b65ea02"), looks := true }, kinds := [], alts := [], laidByText := true, laidKinds := [.data, .handle, .pinned], laidTests := true, laidLooks := .later }
def EtfWideCardSaid : Prop := Claim7.holds Tryz.pinned (.plain (OpenSpec.ofChange etfWideSpec)) etfWideCard

/-- THE TIED CARD OF 'heddlelaw04.EtfEncodes'. -/
def etfEncodesCard : Claim7 := { stood := { row := etfEncodesRow, standIns := [], harness := (true, "3c07d742695378a80d992685a2c1a7cc00e167488034e08ee27474192b65ea02"), looks := true }, kinds := [], alts := [], laidByText := true, laidKinds := [.data, .handle, .pinned], laidTests := true, laidLooks := .later }
def EtfEncodesCardSaid : Prop := Claim7.holds Tryz.pinned (.plain (OpenSpec.ofChange etfEncodesSpec)) etfEncodesCard

/-- THE TIED CARD OF 'heddlelaw04.EtfDecodes'. -/
def etfDecodesCard : Claim7 := { stood := { row := etfDecodesRow, standIns := [], harness := (true, "3c07d742695378a80d992685a2c1a7cc00e167488034e08ee27474192b65ea02"), looks := true }, kinds := [], alts := [], laidByText := true, laidKinds := [.data, .handle, .pinned], laidTests := true, laidLooks := .later }
def EtfDecodesCardSaid : Prop := Claim7.holds Tryz.pinned (.plain (OpenSpec.ofChange etfDecodesSpec)) etfDecodesCard

/-- THE TIED CARD OF 'heddlelaw04.EtfWhole'. -/
def etfWholeCard : Claim7 := { stood := { row := etfWholeRow, standIns := [], harness := (true, "3c07d742695378a80d992685a2c1a7cc00e167488034e08ee27474192b65ea02"), looks := true }, kinds := [], alts := [], laidByText := true, laidKinds := [.data, .handle, .pinned], laidTests := true, laidLooks := .later }
def EtfWholeCardSaid : Prop := Claim7.holds Tryz.pinned (.plain (OpenSpec.ofChange etfWholeSpec)) etfWholeCard

/-- THE SECOND FORM's CARD OF 'heddlelaw17.MailRuns'. -/
def mailRunsUptoCard : Claim7 := { stood := { row := mailRunsUptoRow, standIns := [], harness := (true, "3c07d742695378a80d992685a2c1a7cc00e167488034e08ee27474192b65ea02"), looks := true }, kinds := [], alts := [], laidByText := true, laidKinds := [.data, .handle, .pinned], laidTests := true, laidLooks := .later }
def MailRunsUptoCardSaid : Prop := Claim7.holds Tryz.pinned (.plain (OpenSpec.upto mailRunsSpec)) mailRunsUptoCard

/-- THE SECOND FORM's CARD OF 'heddlelaw04.EtfWide'. -/
def etfWideUptoCard : Claim7 := { stood := { row := etfWideUptoRow, standIns := [], harness := (true, "3c07d742695378a80d992685a2c1a7cc00e167488034e08ee27474192b65ea02"), looks := true }, kinds := [], alts := [], laidByText := true, laidKinds := [.data, .handle, .pinned], laidTests := true, laidLooks := .later }
def EtfWideUptoCardSaid : Prop := Claim7.holds Tryz.pinned (.plain (OpenSpec.upto etfWideSpec)) etfWideUptoCard

/-- THE SECOND FORM's CARD OF 'heddlelaw04.EtfEncodes'. -/
def etfEncodesUptoCard : Claim7 := { stood := { row := etfEncodesUptoRow, standIns := [], harness := (true, "3c07d742695378a80d992685a2c1a7cc00e167488034e08ee27474192b65ea02"), looks := true }, kinds := [], alts := [], laidByText := true, laidKinds := [.data, .handle, .pinned], laidTests := true, laidLooks := .later }
def EtfEncodesUptoCardSaid : Prop := Claim7.holds Tryz.pinned (.plain (OpenSpec.upto etfEncodesSpec)) etfEncodesUptoCard

/-- THE SECOND FORM's CARD OF 'heddlelaw04.EtfDecodes'. -/
def etfDecodesUptoCard : Claim7 := { stood := { row := etfDecodesUptoRow, standIns := [], harness := (true, "3c07d742695378a80d992685a2c1a7cc00e167488034e08ee27474192b65ea02"), looks := true }, kinds := [], alts := [], laidByText := true, laidKinds := [.data, .handle, .pinned], laidTests := true, laidLooks := .later }
def EtfDecodesUptoCardSaid : Prop := Claim7.holds Tryz.pinned (.plain (OpenSpec.upto etfDecodesSpec)) etfDecodesUptoCard

/-- THE SECOND FORM's CARD OF 'heddlelaw04.EtfWhole'. -/
def etfWholeUptoCard : Claim7 := { stood := { row := etfWholeUptoRow, standIns := [], harness := (true, "3c07d742695378a80d992685a2c1a7cc00e167488034e08ee27474192b65ea02"), looks := true }, kinds := [], alts := [], laidByText := true, laidKinds := [.data, .handle, .pinned], laidTests := true, laidLooks := .later }
def EtfWholeUptoCardSaid : Prop := Claim7.holds Tryz.pinned (.plain (OpenSpec.upto etfWholeSpec)) etfWholeUptoCard
end Rows
end Go.Proofs.YtlahagabcnmdiaaGreatDoor
