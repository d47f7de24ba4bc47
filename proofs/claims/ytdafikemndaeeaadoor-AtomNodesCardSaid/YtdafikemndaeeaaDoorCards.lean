/-
  DERIVED. GIVEN WITH THE SEED: THE CARDS: each row of YtdafikemndaeeaaDoorRows.lean that lists a variable, with what it lists TIED to the program's text (the seventh form; the later family's looks); each row that meets fmt, with fmt's text TOLD by the authors' own Lean function (tested against real Go, not proved from fmt's source: count such statements apart). THE CARD IS WHAT COUNTS. Prove the row's statement (the work); the ties are given (YtdafikemndaeeaaDoorTie.lean); close each card by the builder's one call (the guide's Derived/Test/ToyasCard.lean, 'card_holds'). Laid BY PROGRAM, IN A SANDBOX (cutbox-door.mjs). By AI agents, Wed Nov 11 2026. No macro, syntax, notation, axiom, sorry.
-/
import Derived.Test.YtdafikemndaeeaaDoorRows
import GoSem.ClaimSeven
namespace Go.Proofs.YtdafikemndaeeaaDoor
namespace Rows

/-- THE TIED CARD OF 'heddlelaw01.AtomBack'. -/
def atomBackCard : Claim7 := { stood := { row := atomBackRow, standIns := [], harness := (true, "d9b20ae7e1e35ac457122290620fbfda31416e4c0df5436a5f14ab88d8ef550b"), looks := true }, kinds := [], alts := [], laidByText := true, laidKinds := [.data, .pinned], laidTests := true, laidLooks := .later }
def AtomBackCardSaid : Prop := Claim7.holds Tryd.pinned (.plain (OpenSpec.ofChange atomBackSpec)) atomBackCard

/-- THE TIED CARD OF 'heddlelaw01.AtomReads'. -/
def atomReadsCard : Claim7 := { stood := { row := atomReadsRow, standIns := [], harness := (true, "d9b20ae7e1e35ac457122290620fbfda31416e4c0df5436a5f14ab88d8ef550b"), looks := true }, kinds := [], alts := [], laidByText := true, laidKinds := [.data, .pinned], laidTests := true, laidLooks := .later }
def AtomReadsCardSaid : Prop := Claim7.holds Tryd.pinned (.plain (OpenSpec.ofChange atomReadsSpec)) atomReadsCard

/-- THE TIED CARD OF 'heddlelaw01.AtomOrders'. -/
def atomOrdersCard : Claim7 := { stood := { row := atomOrdersRow, standIns := [], harness := (true, "d9b20ae7e1e35ac457122290620fbfda31416e4c0df5436a5f14ab88d8ef550b"), looks := true }, kinds := [], alts := [], laidByText := true, laidKinds := [.data, .pinned], laidTests := true, laidLooks := .later }
def AtomOrdersCardSaid : Prop := Claim7.holds Tryd.pinned (.plain (OpenSpec.ofChange atomOrdersSpec)) atomOrdersCard

/-- THE TIED CARD OF 'heddlelaw07.MixKnows'. -/
def mixKnowsCard : Claim7 := { stood := { row := mixKnowsRow, standIns := [], harness := (true, "d9b20ae7e1e35ac457122290620fbfda31416e4c0df5436a5f14ab88d8ef550b"), looks := true }, kinds := [], alts := [], laidByText := true, laidKinds := [.data, .data, .data], laidTests := true, laidLooks := .later }
def MixKnowsCardSaid : Prop := Claim7.holds Tryd.pinned (.plain (OpenSpec.ofChange mixKnowsSpec)) mixKnowsCard

/-- THE TIED CARD OF 'heddlelaw07.MixChallenges'. -/
def mixChallengesCard : Claim7 := { stood := { row := mixChallengesRow, standIns := [], harness := (true, "d9b20ae7e1e35ac457122290620fbfda31416e4c0df5436a5f14ab88d8ef550b"), looks := true }, kinds := [], alts := [], laidByText := true, laidKinds := [.data, .data, .data], laidTests := true, laidLooks := .later }
def MixChallengesCardSaid : Prop := Claim7.holds Tryd.pinned (.plain (OpenSpec.ofChange mixChallengesSpec)) mixChallengesCard

/-- THE TIED CARD OF 'heddlelaw01.AtomQuotes'. -/
def atomQuotesCard : Claim7 := { stood := { row := atomQuotesRow, standIns := [], harness := (true, "d9b20ae7e1e35ac457122290620fbfda31416e4c0df5436a5f14ab88d8ef550b"), looks := true }, kinds := [], alts := [], laidByText := true, laidKinds := [.data, .handle, .pinned], laidTests := true, laidLooks := .later }
def AtomQuotesCardSaid : Prop := Claim7.holds Tryd.pinned (.plain (OpenSpec.ofChange atomQuotesSpec)) atomQuotesCard

/-- THE TIED CARD OF 'heddlelaw01.AtomNobody'. -/
def atomNobodyCard : Claim7 := { stood := { row := atomNobodyRow, standIns := [], harness := (true, "d9b20ae7e1e35ac457122290620fbfda31416e4c0df5436a5f14ab88d8ef550b"), looks := true }, kinds := [], alts := [], laidByText := true, laidKinds := [.data, .handle, .pinned], laidTests := true, laidLooks := .later }
def AtomNobodyCardSaid : Prop := Claim7.holds Tryd.pinned (.plain (OpenSpec.ofChange atomNobodySpec)) atomNobodyCard

/-- THE TIED CARD OF 'heddlelaw01.AtomTables'. -/
def atomTablesCard : Claim7 := { stood := { row := atomTablesRow, standIns := [], harness := (true, "d9b20ae7e1e35ac457122290620fbfda31416e4c0df5436a5f14ab88d8ef550b"), looks := true }, kinds := [], alts := [], laidByText := true, laidKinds := [.data, .handle, .pinned], laidTests := true, laidLooks := .later }
def AtomTablesCardSaid : Prop := Claim7.holds Tryd.pinned (.plain (OpenSpec.ofChange atomTablesSpec)) atomTablesCard

/-- THE TIED CARD OF 'heddlelaw07.MixCookies'. -/
def mixCookiesCard : Claim7 := { stood := { row := mixCookiesRow, standIns := [], harness := (true, "d9b20ae7e1e35ac457122290620fbfda31416e4c0df5436a5f14ab88d8ef550b"), looks := true }, kinds := [], alts := [], laidByText := true, laidKinds := [.data, .data, .data, .handle], laidTests := true, laidLooks := .later }
def MixCookiesCardSaid : Prop := Claim7.holds Tryd.pinned (.plain (OpenSpec.ofChange mixCookiesSpec)) mixCookiesCard

/-- THE TIED CARD OF 'heddlelaw07.MixDigests'. -/
def mixDigestsCard : Claim7 := { stood := { row := mixDigestsRow, standIns := [], harness := (true, "d9b20ae7e1e35ac457122290620fbfda31416e4c0df5436a5f14ab88d8ef550b"), looks := true }, kinds := [], alts := [], laidByText := true, laidKinds := [.data, .data, .data, .handle], laidTests := true, laidLooks := .later }
def MixDigestsCardSaid : Prop := Claim7.holds Tryd.pinned (.plain (OpenSpec.ofChange mixDigestsSpec)) mixDigestsCard

/-- THE TIED CARD OF 'heddlelaw07.MixOwn'. -/
def mixOwnCard : Claim7 := { stood := { row := mixOwnRow, standIns := [], harness := (true, "d9b20ae7e1e35ac457122290620fbfda31416e4c0df5436a5f14ab88d8ef550b"), looks := true }, kinds := [], alts := [], laidByText := true, laidKinds := [.data, .data, .data, .handle], laidTests := true, laidLooks := .later }
def MixOwnCardSaid : Prop := Claim7.holds Tryd.pinned (.plain (OpenSpec.ofChange mixOwnSpec)) mixOwnCard

/-- THE TIED CARD OF 'heddlelaw01.AtomNodes'. -/
def atomNodesCard : Claim7 := { stood := { row := atomNodesRow, standIns := [], harness := (true, "d9b20ae7e1e35ac457122290620fbfda31416e4c0df5436a5f14ab88d8ef550b"), looks := true }, kinds := [], alts := [], laidByText := true, laidKinds := [.data, .handle, .pinned], laidTests := true, laidLooks := .later }
def AtomNodesCardSaid : Prop := Claim7.holds Tryd.pinned (.plain (OpenSpec.ofChange atomNodesSpec)) atomNodesCard

/-- THE SECOND FORM's CARD OF 'heddlelaw01.AtomBack'. -/
def atomBackUptoCard : Claim7 := { stood := { row := atomBackUptoRow, standIns := [], harness := (true, "d9b20ae7e1e35ac457122290620fbfda31416e4c0df5436a5f14ab88d8ef550b"), looks := true }, kinds := [], alts := [], laidByText := true, laidKinds := [.data, .pinned], laidTests := true, laidLooks := .later }
def AtomBackUptoCardSaid : Prop := Claim7.holds Tryd.pinned (.plain (OpenSpec.upto atomBackSpec)) atomBackUptoCard

/-- THE SECOND FORM's CARD OF 'heddlelaw01.AtomReads'. -/
def atomReadsUptoCard : Claim7 := { stood := { row := atomReadsUptoRow, standIns := [], harness := (true, "d9b20ae7e1e35ac457122290620fbfda31416e4c0df5436a5f14ab88d8ef550b"), looks := true }, kinds := [], alts := [], laidByText := true, laidKinds := [.data, .pinned], laidTests := true, laidLooks := .later }
def AtomReadsUptoCardSaid : Prop := Claim7.holds Tryd.pinned (.plain (OpenSpec.upto atomReadsSpec)) atomReadsUptoCard

/-- THE SECOND FORM's CARD OF 'heddlelaw01.AtomOrders'. -/
def atomOrdersUptoCard : Claim7 := { stood := { row := atomOrdersUptoRow, standIns := [], harness := (true, "d9b20ae7e1e35ac457122290620fbfda31416e4c0df5436a5f14ab88d8ef550b"), looks := true }, kinds := [], alts := [], laidByText := true, laidKinds := [.data, .pinned], laidTests := true, laidLooks := .later }
def AtomOrdersUptoCardSaid : Prop := Claim7.holds Tryd.pinned (.plain (OpenSpec.upto atomOrdersSpec)) atomOrdersUptoCard

/-- THE SECOND FORM's CARD OF 'heddlelaw07.MixKnows'. -/
def mixKnowsUptoCard : Claim7 := { stood := { row := mixKnowsUptoRow, standIns := [], harness := (true, "d9b20ae7e1e35ac457122290620fbfda31416e4c0df5436a5f14ab88d8ef550b"), looks := true }, kinds := [], alts := [], laidByText := true, laidKinds := [.data, .data, .data], laidTests := true, laidLooks := .later }
def MixKnowsUptoCardSaid : Prop := Claim7.holds Tryd.pinned (.plain (OpenSpec.upto mixKnowsSpec)) mixKnowsUptoCard

/-- THE SECOND FORM's CARD OF 'heddlelaw07.MixChallenges'. -/
def mixChallengesUptoCard : Claim7 := { stood := { row := mixChallengesUptoRow, standIns := [], harness := (true, "d9b20ae7e1e35ac457122290620fbfda31416e4c0df5436a5f14ab88d8ef550b"), looks := true }, kinds := [], alts := [], laidByText := true, laidKinds := [.data, .data, .data], laidTests := true, laidLooks := .later }
def MixChallengesUptoCardSaid : Prop := Claim7.holds Tryd.pinned (.plain (OpenSpec.upto mixChallengesSpec)) mixChallengesUptoCard

/-- THE SECOND FORM's CARD OF 'heddlelaw01.AtomQuotes'. -/
def atomQuotesUptoCard : Claim7 := { stood := { row := atomQuotesUptoRow, standIns := [], harness := (true, "d9b20ae7e1e35ac457122290620fbfda31416e4c0df5436a5f14ab88d8ef550b"), looks := true }, kinds := [], alts := [], laidByText := true, laidKinds := [.data, .handle, .pinned], laidTests := true, laidLooks := .later }
def AtomQuotesUptoCardSaid : Prop := Claim7.holds Tryd.pinned (.plain (OpenSpec.upto atomQuotesSpec)) atomQuotesUptoCard

/-- THE SECOND FORM's CARD OF 'heddlelaw01.AtomNobody'. -/
def atomNobodyUptoCard : Claim7 := { stood := { row := atomNobodyUptoRow, standIns := [], harness := (true, "d9b20ae7e1e35ac457122290620fbfda31416e4c0df5436a5f14ab88d8ef550b"), looks := true }, kinds := [], alts := [], laidByText := true, laidKinds := [.data, .handle, .pinned], laidTests := true, laidLooks := .later }
def AtomNobodyUptoCardSaid : Prop := Claim7.holds Tryd.pinned (.plain (OpenSpec.upto atomNobodySpec)) atomNobodyUptoCard

/-- THE SECOND FORM's CARD OF 'heddlelaw01.AtomTables'. -/
def atomTablesUptoCard : Claim7 := { stood := { row := atomTablesUptoRow, standIns := [], harness := (true, "d9b20ae7e1e35ac457122290620fbfda31416e4c0df5436a5f14ab88d8ef550b"), looks := true }, kinds := [], alts := [], laidByText := true, laidKinds := [.data, .handle, .pinned], laidTests := true, laidLooks := .later }
def AtomTablesUptoCardSaid : Prop := Claim7.holds Tryd.pinned (.plain (OpenSpec.upto atomTablesSpec)) atomTablesUptoCard

/-- THE SECOND FORM's CARD OF 'heddlelaw07.MixCookies'. -/
def mixCookiesUptoCard : Claim7 := { stood := { row := mixCookiesUptoRow, standIns := [], harness := (true, "d9b20ae7e1e35ac457122290620fbfda31416e4c0df5436a5f14ab88d8ef550b"), looks := true }, kinds := [], alts := [], laidByText := true, laidKinds := [.data, .data, .data, .handle], laidTests := true, laidLooks := .later }
def MixCookiesUptoCardSaid : Prop := Claim7.holds Tryd.pinned (.plain (OpenSpec.upto mixCookiesSpec)) mixCookiesUptoCard

/-- THE SECOND FORM's CARD OF 'heddlelaw07.MixDigests'. -/
def mixDigestsUptoCard : Claim7 := { stood := { row := mixDigestsUptoRow, standIns := [], harness := (true, "d9b20ae7e1e35ac457122290620fbfda31416e4c0df5436a5f14ab88d8ef550b"), looks := true }, kinds := [], alts := [], laidByText := true, laidKinds := [.data, .data, .data, .handle], laidTests := true, laidLooks := .later }
def MixDigestsUptoCardSaid : Prop := Claim7.holds Tryd.pinned (.plain (OpenSpec.upto mixDigestsSpec)) mixDigestsUptoCard

/-- THE SECOND FORM's CARD OF 'heddlelaw07.MixOwn'. -/
def mixOwnUptoCard : Claim7 := { stood := { row := mixOwnUptoRow, standIns := [], harness := (true, "d9b20ae7e1e35ac457122290620fbfda31416e4c0df5436a5f14ab88d8ef550b"), looks := true }, kinds := [], alts := [], laidByText := true, laidKinds := [.data, .data, .data, .handle], laidTests := true, laidLooks := .later }
def MixOwnUptoCardSaid : Prop := Claim7.holds Tryd.pinned (.plain (OpenSpec.upto mixOwnSpec)) mixOwnUptoCard

/-- THE SECOND FORM's CARD OF 'heddlelaw01.AtomNodes'. -/
def atomNodesUptoCard : Claim7 := { stood := { row := atomNodesUptoRow, standIns := [], harness := (true, "d9b20ae7e1e35ac457122290620fbfda31416e4c0df5436a5f14ab88d8ef550b"), looks := true }, kinds := [], alts := [], laidByText := true, laidKinds := [.data, .handle, .pinned], laidTests := true, laidLooks := .later }
def AtomNodesUptoCardSaid : Prop := Claim7.holds Tryd.pinned (.plain (OpenSpec.upto atomNodesSpec)) atomNodesUptoCard
end Rows
end Go.Proofs.YtdafikemndaeeaaDoor
