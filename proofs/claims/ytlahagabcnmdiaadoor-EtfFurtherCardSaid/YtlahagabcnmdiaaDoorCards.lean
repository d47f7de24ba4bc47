/-
  DERIVED. GIVEN WITH THE SEED: THE CARDS: each row of YtlahagabcnmdiaaDoorRows.lean that lists a variable, with what it lists TIED to the program's text (the seventh form; the later family's looks); each row that meets fmt, with fmt's text TOLD by the authors' own Lean function (tested against real Go, not proved from fmt's source: count such statements apart). THE CARD IS WHAT COUNTS. Prove the row's statement (the work); the ties are given (YtlahagabcnmdiaaDoorTie.lean); close each card by the builder's one call (the guide's Derived/Test/ToyasCard.lean, 'card_holds'). Laid BY PROGRAM, IN A SANDBOX (cutbox-door.mjs). By AI agents, Wed Nov 11 2026. No macro, syntax, notation, axiom, sorry.
-/
import Derived.Test.YtlahagabcnmdiaaDoorRows
import GoSem.ClaimSeven
namespace Go.Proofs.YtlahagabcnmdiaaDoor
namespace Rows

/-- THE TIED CARD OF 'heddlelaw17.MailOrders'. -/
def mailOrdersCard : Claim7 := { stood := { row := mailOrdersRow, standIns := [], harness := (true, "edaa1676cd637df2a4b6f1bb14be1c195a2e824cce91f6934c26bfbad9966dc8"), looks := true }, kinds := [], alts := [], laidByText := true, laidKinds := [.data, .handle, .pinned], laidTests := true, laidLooks := .later }
def MailOrdersCardSaid : Prop := Claim7.holds Tryd.pinned (.plain (OpenSpec.ofChange mailOrdersSpec)) mailOrdersCard

/-- THE TIED CARD OF 'heddlelaw17.MailFull'. -/
def mailFullCard : Claim7 := { stood := { row := mailFullRow, standIns := [], harness := (true, "edaa1676cd637df2a4b6f1bb14be1c195a2e824cce91f6934c26bfbad9966dc8"), looks := true }, kinds := [], alts := [], laidByText := true, laidKinds := [.data, .handle, .pinned], laidTests := true, laidLooks := .later }
def MailFullCardSaid : Prop := Claim7.holds Tryd.pinned (.plain (OpenSpec.ofChange mailFullSpec)) mailFullCard

/-- THE TIED CARD OF 'heddlelaw17.MailDeadlines'. -/
def mailDeadlinesCard : Claim7 := { stood := { row := mailDeadlinesRow, standIns := [], harness := (true, "edaa1676cd637df2a4b6f1bb14be1c195a2e824cce91f6934c26bfbad9966dc8"), looks := true }, kinds := [], alts := [], laidByText := true, laidKinds := [.data, .handle, .pinned], laidTests := true, laidLooks := .later }
def MailDeadlinesCardSaid : Prop := Claim7.holds Tryd.pinned (.plain (OpenSpec.ofChange mailDeadlinesSpec)) mailDeadlinesCard

/-- THE TIED CARD OF 'heddlelaw17.MailNobody'. -/
def mailNobodyCard : Claim7 := { stood := { row := mailNobodyRow, standIns := [], harness := (true, "edaa1676cd637df2a4b6f1bb14be1c195a2e824cce91f6934c26bfbad9966dc8"), looks := true }, kinds := [], alts := [], laidByText := true, laidKinds := [.data, .handle, .pinned], laidTests := true, laidLooks := .later }
def MailNobodyCardSaid : Prop := Claim7.holds Tryd.pinned (.plain (OpenSpec.ofChange mailNobodySpec)) mailNobodyCard

/-- THE TIED CARD OF 'heddlelaw04.EtfBack'. -/
def etfBackCard : Claim7 := { stood := { row := etfBackRow, standIns := [], harness := (true, "edaa1676cd637df2a4b6f1bb14be1c195a2e824cce91f6934c26bfbad9966dc8"), looks := true }, kinds := [], alts := [], laidByText := true, laidKinds := [.data, .handle, .pinned], laidTests := true, laidLooks := .later }
def EtfBackCardSaid : Prop := Claim7.holds Tryd.pinned (.plain (OpenSpec.ofChange etfBackSpec)) etfBackCard

/-- THE TIED CARD OF 'heddlelaw04.EtfShortest'. -/
def etfShortestCard : Claim7 := { stood := { row := etfShortestRow, standIns := [], harness := (true, "edaa1676cd637df2a4b6f1bb14be1c195a2e824cce91f6934c26bfbad9966dc8"), looks := true }, kinds := [], alts := [], laidByText := true, laidKinds := [.data, .handle, .pinned], laidTests := true, laidLooks := .later }
def EtfShortestCardSaid : Prop := Claim7.holds Tryd.pinned (.plain (OpenSpec.ofChange etfShortestSpec)) etfShortestCard

/-- THE TIED CARD OF 'heddlelaw04.EtfFurther'. -/
def etfFurtherCard : Claim7 := { stood := { row := etfFurtherRow, standIns := [], harness := (true, "edaa1676cd637df2a4b6f1bb14be1c195a2e824cce91f6934c26bfbad9966dc8"), looks := true }, kinds := [], alts := [], laidByText := true, laidKinds := [.data, .handle, .pinned], laidTests := true, laidLooks := .later }
def EtfFurtherCardSaid : Prop := Claim7.holds Tryd.pinned (.plain (OpenSpec.ofChange etfFurtherSpec)) etfFurtherCard

/-- THE SECOND FORM's CARD OF 'heddlelaw17.MailOrders'. -/
def mailOrdersUptoCard : Claim7 := { stood := { row := mailOrdersUptoRow, standIns := [], harness := (true, "edaa1676cd637df2a4b6f1bb14be1c195a2e824cce91f6934c26bfbad9966dc8"), looks := true }, kinds := [], alts := [], laidByText := true, laidKinds := [.data, .handle, .pinned], laidTests := true, laidLooks := .later }
def MailOrdersUptoCardSaid : Prop := Claim7.holds Tryd.pinned (.plain (OpenSpec.upto mailOrdersSpec)) mailOrdersUptoCard

/-- THE SECOND FORM's CARD OF 'heddlelaw17.MailFull'. -/
def mailFullUptoCard : Claim7 := { stood := { row := mailFullUptoRow, standIns := [], harness := (true, "edaa1676cd637df2a4b6f1bb14be1c195a2e824cce91f6934c26bfbad9966dc8"), looks := true }, kinds := [], alts := [], laidByText := true, laidKinds := [.data, .handle, .pinned], laidTests := true, laidLooks := .later }
def MailFullUptoCardSaid : Prop := Claim7.holds Tryd.pinned (.plain (OpenSpec.upto mailFullSpec)) mailFullUptoCard

/-- THE SECOND FORM's CARD OF 'heddlelaw17.MailDeadlines'. -/
def mailDeadlinesUptoCard : Claim7 := { stood := { row := mailDeadlinesUptoRow, standIns := [], harness := (true, "edaa1676cd637df2a4b6f1bb14be1c195a2e824cce91f6934c26bfbad9966dc8"), looks := true }, kinds := [], alts := [], laidByText := true, laidKinds := [.data, .handle, .pinned], laidTests := true, laidLooks := .later }
def MailDeadlinesUptoCardSaid : Prop := Claim7.holds Tryd.pinned (.plain (OpenSpec.upto mailDeadlinesSpec)) mailDeadlinesUptoCard

/-- THE SECOND FORM's CARD OF 'heddlelaw17.MailNobody'. -/
def mailNobodyUptoCard : Claim7 := { stood := { row := mailNobodyUptoRow, standIns := [], harness := (true, "edaa1676cd637df2a4b6f1bb14be1c195a2e824cce91f6934c26bfbad9966dc8"), looks := true }, kinds := [], alts := [], laidByText := true, laidKinds := [.data, .handle, .pinned], laidTests := true, laidLooks := .later }
def MailNobodyUptoCardSaid : Prop := Claim7.holds Tryd.pinned (.plain (OpenSpec.upto mailNobodySpec)) mailNobodyUptoCard

/-- THE SECOND FORM's CARD OF 'heddlelaw04.EtfBack'. -/
def etfBackUptoCard : Claim7 := { stood := { row := etfBackUptoRow, standIns := [], harness := (true, "edaa1676cd637df2a4b6f1bb14be1c195a2e824cce91f6934c26bfbad9966dc8"), looks := true }, kinds := [], alts := [], laidByText := true, laidKinds := [.data, .handle, .pinned], laidTests := true, laidLooks := .later }
def EtfBackUptoCardSaid : Prop := Claim7.holds Tryd.pinned (.plain (OpenSpec.upto etfBackSpec)) etfBackUptoCard

/-- THE SECOND FORM's CARD OF 'heddlelaw04.EtfShortest'. -/
def etfShortestUptoCard : Claim7 := { stood := { row := etfShortestUptoRow, standIns := [], harness := (true, "edaa1676cd637df2a4b6f1bb14be1c195a2e824cce91f6934c26bfbad9966dc8"), looks := true }, kinds := [], alts := [], laidByText := true, laidKinds := [.data, .handle, .pinned], laidTests := true, laidLooks := .later }
def EtfShortestUptoCardSaid : Prop := Claim7.holds Tryd.pinned (.plain (OpenSpec.upto etfShortestSpec)) etfShortestUptoCard

/-- THE SECOND FORM's CARD OF 'heddlelaw04.EtfFurther'. -/
def etfFurtherUptoCard : Claim7 := { stood := { row := etfFurtherUptoRow, standIns := [], harness := (true, "edaa1676cd637df2a4b6f1bb14be1c195a2e824cce91f6934c26bfbad9966dc8"), looks := true }, kinds := [], alts := [], laidByText := true, laidKinds := [.data, .handle, .pinned], laidTests := true, laidLooks := .later }
def EtfFurtherUptoCardSaid : Prop := Claim7.holds Tryd.pinned (.plain (OpenSpec.upto etfFurtherSpec)) etfFurtherUptoCard
end Rows
end Go.Proofs.YtlahagabcnmdiaaDoor
