/-
  NARROWER THAN 'FOR EVERY INPUT', by the rows' own cells (each row's printed sentence says how): AtomBack: laid · AtomReads: laid · AtomOrders: laid · MixKnows: laid · MixChallenges: laid · AtomQuotes: laid · AtomNobody: laid · AtomTables: laid · MixCookies: laid · MixDigests: laid · MixOwn: laid · AtomNodes: laid.
  DERIVED. THE GIVEN ROWS OF THIS SEAT. 12 by the template 'for every input the law returns true; each argument reads behind the call as it read before'; 0 by the template 'total and deterministic' (their statements: YtdafikemndaeeaaDoorTotals.lean).
  GIVEN WITH THE SEED: the statements are not yours to turn. If you find one false, say at which input.
  Laid BY PROGRAM, IN A SANDBOX (cutbox-rows.mjs): the forced cells as the released guide's own fill.sh prints them over the translation f17f7cc299f6bea5… (all of the seat's roots in one cut). By AI agents, Wed Nov 11 2026. No macro, syntax, notation, axiom, sorry.
-/
import Derived.Test.YtdafikemndaeeaaDoorChecked
import GoSem.PinnedTables
import GoSem.Claim
import GoSem.ClaimJoined
import GoSem.ClaimMapViews
import Derived.JoinedTies
import Derived.KernelRfl
namespace Go.Proofs.YtdafikemndaeeaaDoor
/- THE CELL 'sum', in the pinned program and in every row, IS THE sha256 OF THE DUMP (.gsa) THAT YtdafikemndaeeaaDoorProg.lean LOADS. Nothing in Lean hashes anything: it is a label: what it is worth is what the hold of that sum in a sandbox is worth. -/
noncomputable def Tryd.pinned : Pinned := { name := "ytdafikemndaeeaadoor", sum := "f17f7cc299f6bea5df9e72420b1227429eb33d8a2486402e9bde9865e603313f", checked := Tryd.checked }
namespace Rows
def none {H : Type} : Left H := { results := [], args := [] }

/- WHAT THE LISTED PACKAGE-LEVEL VARIABLES READ AS WHEN THE CALL BEGINS. Each datum BY PROGRAM (the guide's laid-datum.mjs) off the statement by which the dump's own 'gosem.cut.vars' lays the variable. In a bare row this is a premise. The card (YtdafikemndaeeaaDoorCards.lean) ties it to the program's text. -/
def laid_unicode_utf8_acceptRanges {H : Type} : DataW H := .agg [.agg [.lit (.int .u8 128), .lit (.int .u8 191)], .agg [.lit (.int .u8 160), .lit (.int .u8 191)], .agg [.lit (.int .u8 128), .lit (.int .u8 159)], .agg [.lit (.int .u8 144), .lit (.int .u8 191)], .agg [.lit (.int .u8 128), .lit (.int .u8 143)], .agg [.lit (.int .u8 0), .lit (.int .u8 0)], .agg [.lit (.int .u8 0), .lit (.int .u8 0)], .agg [.lit (.int .u8 0), .lit (.int .u8 0)], .agg [.lit (.int .u8 0), .lit (.int .u8 0)], .agg [.lit (.int .u8 0), .lit (.int .u8 0)], .agg [.lit (.int .u8 0), .lit (.int .u8 0)], .agg [.lit (.int .u8 0), .lit (.int .u8 0)], .agg [.lit (.int .u8 0), .lit (.int .u8 0)], .agg [.lit (.int .u8 0), .lit (.int .u8 0)], .agg [.lit (.int .u8 0), .lit (.int .u8 0)], .agg [.lit (.int .u8 0), .lit (.int .u8 0)]]
/-- One of Go's own tables, pinned by name: the form's constant. -/
def laid_unicode_utf8_first : DataW Unit := Go.Pinned.utf8First
def laid_math_bits_deBruijn32tab {H : Type} : DataW H := .agg [.lit (.int .u8 0), .lit (.int .u8 1), .lit (.int .u8 28), .lit (.int .u8 2), .lit (.int .u8 29), .lit (.int .u8 14), .lit (.int .u8 24), .lit (.int .u8 3), .lit (.int .u8 30), .lit (.int .u8 22), .lit (.int .u8 20), .lit (.int .u8 15), .lit (.int .u8 25), .lit (.int .u8 17), .lit (.int .u8 4), .lit (.int .u8 8), .lit (.int .u8 31), .lit (.int .u8 27), .lit (.int .u8 13), .lit (.int .u8 23), .lit (.int .u8 21), .lit (.int .u8 19), .lit (.int .u8 16), .lit (.int .u8 7), .lit (.int .u8 26), .lit (.int .u8 12), .lit (.int .u8 18), .lit (.int .u8 6), .lit (.int .u8 11), .lit (.int .u8 5), .lit (.int .u8 10), .lit (.int .u8 9)]
def laid_math_bits_deBruijn64tab {H : Type} : DataW H := .agg [.lit (.int .u8 0), .lit (.int .u8 1), .lit (.int .u8 56), .lit (.int .u8 2), .lit (.int .u8 57), .lit (.int .u8 49), .lit (.int .u8 28), .lit (.int .u8 3), .lit (.int .u8 61), .lit (.int .u8 58), .lit (.int .u8 42), .lit (.int .u8 50), .lit (.int .u8 38), .lit (.int .u8 29), .lit (.int .u8 17), .lit (.int .u8 4), .lit (.int .u8 62), .lit (.int .u8 47), .lit (.int .u8 59), .lit (.int .u8 36), .lit (.int .u8 45), .lit (.int .u8 43), .lit (.int .u8 51), .lit (.int .u8 22), .lit (.int .u8 53), .lit (.int .u8 39), .lit (.int .u8 33), .lit (.int .u8 30), .lit (.int .u8 24), .lit (.int .u8 18), .lit (.int .u8 12), .lit (.int .u8 5), .lit (.int .u8 63), .lit (.int .u8 55), .lit (.int .u8 48), .lit (.int .u8 27), .lit (.int .u8 60), .lit (.int .u8 41), .lit (.int .u8 37), .lit (.int .u8 16), .lit (.int .u8 46), .lit (.int .u8 35), .lit (.int .u8 44), .lit (.int .u8 21), .lit (.int .u8 52), .lit (.int .u8 32), .lit (.int .u8 23), .lit (.int .u8 11), .lit (.int .u8 54), .lit (.int .u8 26), .lit (.int .u8 40), .lit (.int .u8 15), .lit (.int .u8 34), .lit (.int .u8 20), .lit (.int .u8 31), .lit (.int .u8 10), .lit (.int .u8 25), .lit (.int .u8 14), .lit (.int .u8 19), .lit (.int .u8 9), .lit (.int .u8 13), .lit (.int .u8 8), .lit (.int .u8 7), .lit (.int .u8 6)]
def laid_internal_strconv_uint64pow10 {H : Type} : DataW H := .agg [.lit (.int .u64 1), .lit (.int .u64 10), .lit (.int .u64 100), .lit (.int .u64 1000), .lit (.int .u64 10000), .lit (.int .u64 100000), .lit (.int .u64 1000000), .lit (.int .u64 10000000), .lit (.int .u64 100000000), .lit (.int .u64 1000000000), .lit (.int .u64 10000000000), .lit (.int .u64 100000000000), .lit (.int .u64 1000000000000), .lit (.int .u64 10000000000000), .lit (.int .u64 100000000000000), .lit (.int .u64 1000000000000000), .lit (.int .u64 10000000000000000), .lit (.int .u64 100000000000000000), .lit (.int .u64 1000000000000000000), .lit (.int .u64 10000000000000000000)]
def laid_errors_errorType {H : Type} : DataW H := .iface "internal/reflectlite.rtype" (.agg [.ptr (.lit (.string [101, 114, 114, 111, 114]))])

/-- 'heddlelaw01.AtomBack': WHATEVER THE INPUT: true; the input reads as it did. -/
def atomBackSpec : ChangeSpec := { name := "atomBack", fn := fun _ => fun
  | [d1, d2, d3] => { results := [.lit (.bool true)], args := [d1, d2, d3] }
  | _ => none }
def atomBackRow : OpenClaim := { program := "ytdafikemndaeeaadoor", sum := "f17f7cc299f6bea5df9e72420b1227429eb33d8a2486402e9bde9865e603313f", func := "heddle/heddlelaw01.AtomBack", spec := "atomBack", inPlace := ["internal/reflectlite.TypeOf"], unfollowed := true, recurses := true, named := ["unicode/utf8.first", "unicode/utf8.acceptRanges"], apart := false, laid := [("unicode/utf8.acceptRanges", laid_unicode_utf8_acceptRanges), ("unicode/utf8.first", laid_unicode_utf8_first)] }
def AtomBackSaid : Prop := atomBackRow.holds Tryd.pinned (OpenSpec.ofChange atomBackSpec)

/-- ITS FALSE NEIGHBOUR: 'it returns false'. Refute it at one input. -/
def atomBackWrong : ChangeSpec := { name := "atomBack", fn := fun _ => fun
  | [d1, d2, d3] => { results := [.lit (.bool false)], args := [d1, d2, d3] }
  | _ => none }
def AtomBackWrongFalsely : Prop := atomBackRow.holds Tryd.pinned (OpenSpec.ofChange atomBackWrong)

/-- 'heddlelaw01.AtomReads': WHATEVER THE INPUT: true; the input reads as it did. -/
def atomReadsSpec : ChangeSpec := { name := "atomReads", fn := fun _ => fun
  | [d1, d2] => { results := [.lit (.bool true)], args := [d1, d2] }
  | _ => none }
def atomReadsRow : OpenClaim := { program := "ytdafikemndaeeaadoor", sum := "f17f7cc299f6bea5df9e72420b1227429eb33d8a2486402e9bde9865e603313f", func := "heddle/heddlelaw01.AtomReads", spec := "atomReads", inPlace := ["internal/reflectlite.TypeOf"], unfollowed := true, recurses := true, named := ["unicode/utf8.first", "unicode/utf8.acceptRanges"], apart := false, laid := [("unicode/utf8.acceptRanges", laid_unicode_utf8_acceptRanges), ("unicode/utf8.first", laid_unicode_utf8_first)] }
def AtomReadsSaid : Prop := atomReadsRow.holds Tryd.pinned (OpenSpec.ofChange atomReadsSpec)

/-- ITS FALSE NEIGHBOUR: 'it returns false'. Refute it at one input. -/
def atomReadsWrong : ChangeSpec := { name := "atomReads", fn := fun _ => fun
  | [d1, d2] => { results := [.lit (.bool false)], args := [d1, d2] }
  | _ => none }
def AtomReadsWrongFalsely : Prop := atomReadsRow.holds Tryd.pinned (OpenSpec.ofChange atomReadsWrong)

/-- 'heddlelaw01.AtomOrders': WHATEVER THE INPUT: true; the input reads as it did. -/
def atomOrdersSpec : ChangeSpec := { name := "atomOrders", fn := fun _ => fun
  | [d1, d2, d3] => { results := [.lit (.bool true)], args := [d1, d2, d3] }
  | _ => none }
def atomOrdersRow : OpenClaim := { program := "ytdafikemndaeeaadoor", sum := "f17f7cc299f6bea5df9e72420b1227429eb33d8a2486402e9bde9865e603313f", func := "heddle/heddlelaw01.AtomOrders", spec := "atomOrders", inPlace := ["internal/bytealg.abigen_runtime_cmpstring", "internal/reflectlite.TypeOf"], unfollowed := true, recurses := true, named := ["unicode/utf8.first", "unicode/utf8.acceptRanges"], apart := false, laid := [("unicode/utf8.acceptRanges", laid_unicode_utf8_acceptRanges), ("unicode/utf8.first", laid_unicode_utf8_first)] }
def AtomOrdersSaid : Prop := atomOrdersRow.holds Tryd.pinned (OpenSpec.ofChange atomOrdersSpec)

/-- ITS FALSE NEIGHBOUR: 'it returns false'. Refute it at one input. -/
def atomOrdersWrong : ChangeSpec := { name := "atomOrders", fn := fun _ => fun
  | [d1, d2, d3] => { results := [.lit (.bool false)], args := [d1, d2, d3] }
  | _ => none }
def AtomOrdersWrongFalsely : Prop := atomOrdersRow.holds Tryd.pinned (OpenSpec.ofChange atomOrdersWrong)

/-- 'heddlelaw07.MixKnows': WHATEVER THE INPUT: true; the input reads as it did. -/
def mixKnowsSpec : ChangeSpec := { name := "mixKnows", fn := fun _ => fun
  | [d1, d2, d3, d4, d5] => { results := [.lit (.bool true)], args := [d1, d2, d3, d4, d5] }
  | _ => none }
def mixKnowsRow : OpenClaim := { program := "ytdafikemndaeeaadoor", sum := "f17f7cc299f6bea5df9e72420b1227429eb33d8a2486402e9bde9865e603313f", func := "heddle/heddlelaw07.MixKnows", spec := "mixKnows", inPlace := ["internal/reflectlite.TypeOf"], unfollowed := true, recurses := true, named := ["internal/strconv.uint64pow10", "math/bits.deBruijn32tab", "math/bits.deBruijn64tab"], apart := false, laid := [("math/bits.deBruijn32tab", laid_math_bits_deBruijn32tab), ("math/bits.deBruijn64tab", laid_math_bits_deBruijn64tab), ("internal/strconv.uint64pow10", laid_internal_strconv_uint64pow10)] }
def MixKnowsSaid : Prop := mixKnowsRow.holds Tryd.pinned (OpenSpec.ofChange mixKnowsSpec)

/-- ITS FALSE NEIGHBOUR: 'it returns false'. Refute it at one input. -/
def mixKnowsWrong : ChangeSpec := { name := "mixKnows", fn := fun _ => fun
  | [d1, d2, d3, d4, d5] => { results := [.lit (.bool false)], args := [d1, d2, d3, d4, d5] }
  | _ => none }
def MixKnowsWrongFalsely : Prop := mixKnowsRow.holds Tryd.pinned (OpenSpec.ofChange mixKnowsWrong)

/-- 'heddlelaw07.MixChallenges': WHATEVER THE INPUT: true; the input reads as it did. -/
def mixChallengesSpec : ChangeSpec := { name := "mixChallenges", fn := fun _ => fun
  | [d1, d2] => { results := [.lit (.bool true)], args := [d1, d2] }
  | _ => none }
def mixChallengesRow : OpenClaim := { program := "ytdafikemndaeeaadoor", sum := "f17f7cc299f6bea5df9e72420b1227429eb33d8a2486402e9bde9865e603313f", func := "heddle/heddlelaw07.MixChallenges", spec := "mixChallenges", inPlace := ["internal/reflectlite.TypeOf"], unfollowed := true, recurses := true, named := ["internal/strconv.uint64pow10", "math/bits.deBruijn32tab", "math/bits.deBruijn64tab"], apart := false, laid := [("math/bits.deBruijn32tab", laid_math_bits_deBruijn32tab), ("math/bits.deBruijn64tab", laid_math_bits_deBruijn64tab), ("internal/strconv.uint64pow10", laid_internal_strconv_uint64pow10)] }
def MixChallengesSaid : Prop := mixChallengesRow.holds Tryd.pinned (OpenSpec.ofChange mixChallengesSpec)

/-- ITS FALSE NEIGHBOUR: 'it returns false'. Refute it at one input. -/
def mixChallengesWrong : ChangeSpec := { name := "mixChallenges", fn := fun _ => fun
  | [d1, d2] => { results := [.lit (.bool false)], args := [d1, d2] }
  | _ => none }
def MixChallengesWrongFalsely : Prop := mixChallengesRow.holds Tryd.pinned (OpenSpec.ofChange mixChallengesWrong)

/-- 'heddlelaw01.AtomQuotes': WHATEVER THE INPUT: true; the input reads as it did. -/
def atomQuotesSpec : ChangeSpec := { name := "atomQuotes", fn := fun _ => fun
  | [d] => { results := [.lit (.bool true)], args := [d] }
  | _ => none }
def atomQuotesRow : OpenClaim := { program := "ytdafikemndaeeaadoor", sum := "f17f7cc299f6bea5df9e72420b1227429eb33d8a2486402e9bde9865e603313f", func := "heddle/heddlelaw01.AtomQuotes", spec := "atomQuotes", inPlace := ["internal/reflectlite.ValueOf", "(internal/reflectlite.Value).Type", "(internal/reflectlite.Value).IsNil", "internal/reflectlite.TypeOf", "(internal/reflectlite.Value).Elem", "(internal/reflectlite.Value).Set"], unfollowed := true, recurses := true, named := ["unicode/utf8.first", "unicode/utf8.acceptRanges", "errors.errorType"], apart := false, laid := [("unicode/utf8.acceptRanges", laid_unicode_utf8_acceptRanges), ("errors.errorType", laid_errors_errorType), ("unicode/utf8.first", laid_unicode_utf8_first)] }
def AtomQuotesSaid : Prop := atomQuotesRow.holds Tryd.pinned (OpenSpec.ofChange atomQuotesSpec)

/-- ITS FALSE NEIGHBOUR: 'it returns false'. Refute it at one input. -/
def atomQuotesWrong : ChangeSpec := { name := "atomQuotes", fn := fun _ => fun
  | [d] => { results := [.lit (.bool false)], args := [d] }
  | _ => none }
def AtomQuotesWrongFalsely : Prop := atomQuotesRow.holds Tryd.pinned (OpenSpec.ofChange atomQuotesWrong)

/-- 'heddlelaw01.AtomNobody': WHATEVER THE INPUT: true; the input reads as it did. -/
def atomNobodySpec : ChangeSpec := { name := "atomNobody", fn := fun _ => fun
  | [d1, d2] => { results := [.lit (.bool true)], args := [d1, d2] }
  | _ => none }
def atomNobodyRow : OpenClaim := { program := "ytdafikemndaeeaadoor", sum := "f17f7cc299f6bea5df9e72420b1227429eb33d8a2486402e9bde9865e603313f", func := "heddle/heddlelaw01.AtomNobody", spec := "atomNobody", inPlace := ["internal/reflectlite.ValueOf", "(internal/reflectlite.Value).Type", "(internal/reflectlite.Value).IsNil", "internal/reflectlite.TypeOf", "(internal/reflectlite.Value).Elem", "(internal/reflectlite.Value).Set"], unfollowed := true, recurses := true, named := ["unicode/utf8.first", "unicode/utf8.acceptRanges", "errors.errorType"], apart := false, laid := [("unicode/utf8.acceptRanges", laid_unicode_utf8_acceptRanges), ("errors.errorType", laid_errors_errorType), ("unicode/utf8.first", laid_unicode_utf8_first)] }
def AtomNobodySaid : Prop := atomNobodyRow.holds Tryd.pinned (OpenSpec.ofChange atomNobodySpec)

/-- ITS FALSE NEIGHBOUR: 'it returns false'. Refute it at one input. -/
def atomNobodyWrong : ChangeSpec := { name := "atomNobody", fn := fun _ => fun
  | [d1, d2] => { results := [.lit (.bool false)], args := [d1, d2] }
  | _ => none }
def AtomNobodyWrongFalsely : Prop := atomNobodyRow.holds Tryd.pinned (OpenSpec.ofChange atomNobodyWrong)

/-- 'heddlelaw01.AtomTables': WHATEVER THE INPUT: true; the input reads as it did. -/
def atomTablesSpec : ChangeSpec := { name := "atomTables", fn := fun _ => fun
  | [d1, d2, d3] => { results := [.lit (.bool true)], args := [d1, d2, d3] }
  | _ => none }
def atomTablesRow : OpenClaim := { program := "ytdafikemndaeeaadoor", sum := "f17f7cc299f6bea5df9e72420b1227429eb33d8a2486402e9bde9865e603313f", func := "heddle/heddlelaw01.AtomTables", spec := "atomTables", inPlace := ["internal/reflectlite.ValueOf", "(internal/reflectlite.Value).Type", "(internal/reflectlite.Value).IsNil", "internal/reflectlite.TypeOf", "(internal/reflectlite.Value).Elem", "(internal/reflectlite.Value).Set"], unfollowed := true, recurses := true, named := ["errors.errorType", "unicode/utf8.first", "unicode/utf8.acceptRanges"], apart := false, laid := [("unicode/utf8.acceptRanges", laid_unicode_utf8_acceptRanges), ("errors.errorType", laid_errors_errorType), ("unicode/utf8.first", laid_unicode_utf8_first)] }
def AtomTablesSaid : Prop := atomTablesRow.holds Tryd.pinned (OpenSpec.ofChange atomTablesSpec)

/-- ITS FALSE NEIGHBOUR: 'it returns false'. Refute it at one input. -/
def atomTablesWrong : ChangeSpec := { name := "atomTables", fn := fun _ => fun
  | [d1, d2, d3] => { results := [.lit (.bool false)], args := [d1, d2, d3] }
  | _ => none }
def AtomTablesWrongFalsely : Prop := atomTablesRow.holds Tryd.pinned (OpenSpec.ofChange atomTablesWrong)

/-- 'heddlelaw07.MixCookies': WHATEVER THE INPUT: true; the input reads as it did. -/
def mixCookiesSpec : ChangeSpec := { name := "mixCookies", fn := fun _ => fun
  | [d] => { results := [.lit (.bool true)], args := [d] }
  | _ => none }
def mixCookiesRow : OpenClaim := { program := "ytdafikemndaeeaadoor", sum := "f17f7cc299f6bea5df9e72420b1227429eb33d8a2486402e9bde9865e603313f", func := "heddle/heddlelaw07.MixCookies", spec := "mixCookies", inPlace := ["internal/reflectlite.ValueOf", "(internal/reflectlite.Value).Type", "(internal/reflectlite.Value).IsNil", "internal/reflectlite.TypeOf", "(internal/reflectlite.Value).Elem", "(internal/reflectlite.Value).Set"], unfollowed := true, recurses := true, named := ["errors.errorType", "internal/strconv.uint64pow10", "math/bits.deBruijn32tab", "math/bits.deBruijn64tab"], apart := false, laid := [("math/bits.deBruijn32tab", laid_math_bits_deBruijn32tab), ("math/bits.deBruijn64tab", laid_math_bits_deBruijn64tab), ("internal/strconv.uint64pow10", laid_internal_strconv_uint64pow10), ("errors.errorType", laid_errors_errorType)] }
def MixCookiesSaid : Prop := mixCookiesRow.holds Tryd.pinned (OpenSpec.ofChange mixCookiesSpec)

/-- ITS FALSE NEIGHBOUR: 'it returns false'. Refute it at one input. -/
def mixCookiesWrong : ChangeSpec := { name := "mixCookies", fn := fun _ => fun
  | [d] => { results := [.lit (.bool false)], args := [d] }
  | _ => none }
def MixCookiesWrongFalsely : Prop := mixCookiesRow.holds Tryd.pinned (OpenSpec.ofChange mixCookiesWrong)

/-- 'heddlelaw07.MixDigests': WHATEVER THE INPUT: true; the input reads as it did. -/
def mixDigestsSpec : ChangeSpec := { name := "mixDigests", fn := fun _ => fun
  | [d1, d2] => { results := [.lit (.bool true)], args := [d1, d2] }
  | _ => none }
def mixDigestsRow : OpenClaim := { program := "ytdafikemndaeeaadoor", sum := "f17f7cc299f6bea5df9e72420b1227429eb33d8a2486402e9bde9865e603313f", func := "heddle/heddlelaw07.MixDigests", spec := "mixDigests", inPlace := ["internal/reflectlite.ValueOf", "(internal/reflectlite.Value).Type", "(internal/reflectlite.Value).IsNil", "internal/reflectlite.TypeOf", "(internal/reflectlite.Value).Elem", "(internal/reflectlite.Value).Set"], unfollowed := true, recurses := true, named := ["internal/strconv.uint64pow10", "math/bits.deBruijn32tab", "math/bits.deBruijn64tab", "errors.errorType"], apart := false, laid := [("math/bits.deBruijn32tab", laid_math_bits_deBruijn32tab), ("math/bits.deBruijn64tab", laid_math_bits_deBruijn64tab), ("internal/strconv.uint64pow10", laid_internal_strconv_uint64pow10), ("errors.errorType", laid_errors_errorType)] }
def MixDigestsSaid : Prop := mixDigestsRow.holds Tryd.pinned (OpenSpec.ofChange mixDigestsSpec)

/-- ITS FALSE NEIGHBOUR: 'it returns false'. Refute it at one input. -/
def mixDigestsWrong : ChangeSpec := { name := "mixDigests", fn := fun _ => fun
  | [d1, d2] => { results := [.lit (.bool false)], args := [d1, d2] }
  | _ => none }
def MixDigestsWrongFalsely : Prop := mixDigestsRow.holds Tryd.pinned (OpenSpec.ofChange mixDigestsWrong)

/-- 'heddlelaw07.MixOwn': WHATEVER THE INPUT: true; the input reads as it did. -/
def mixOwnSpec : ChangeSpec := { name := "mixOwn", fn := fun _ => fun
  | [d1, d2] => { results := [.lit (.bool true)], args := [d1, d2] }
  | _ => none }
def mixOwnRow : OpenClaim := { program := "ytdafikemndaeeaadoor", sum := "f17f7cc299f6bea5df9e72420b1227429eb33d8a2486402e9bde9865e603313f", func := "heddle/heddlelaw07.MixOwn", spec := "mixOwn", inPlace := ["internal/reflectlite.ValueOf", "(internal/reflectlite.Value).Type", "(internal/reflectlite.Value).IsNil", "internal/reflectlite.TypeOf", "(internal/reflectlite.Value).Elem", "(internal/reflectlite.Value).Set"], unfollowed := true, recurses := true, named := ["internal/strconv.uint64pow10", "math/bits.deBruijn32tab", "math/bits.deBruijn64tab", "errors.errorType"], apart := false, laid := [("math/bits.deBruijn32tab", laid_math_bits_deBruijn32tab), ("math/bits.deBruijn64tab", laid_math_bits_deBruijn64tab), ("internal/strconv.uint64pow10", laid_internal_strconv_uint64pow10), ("errors.errorType", laid_errors_errorType)] }
def MixOwnSaid : Prop := mixOwnRow.holds Tryd.pinned (OpenSpec.ofChange mixOwnSpec)

/-- ITS FALSE NEIGHBOUR: 'it returns false'. Refute it at one input. -/
def mixOwnWrong : ChangeSpec := { name := "mixOwn", fn := fun _ => fun
  | [d1, d2] => { results := [.lit (.bool false)], args := [d1, d2] }
  | _ => none }
def MixOwnWrongFalsely : Prop := mixOwnRow.holds Tryd.pinned (OpenSpec.ofChange mixOwnWrong)

/-- 'heddlelaw01.AtomNodes': WHATEVER THE INPUT: true; the input reads as it did. -/
def atomNodesSpec : ChangeSpec := { name := "atomNodes", fn := fun _ => fun
  | [d] => { results := [.lit (.bool true)], args := [d] }
  | _ => none }
def atomNodesRow : OpenClaim := { program := "ytdafikemndaeeaadoor", sum := "f17f7cc299f6bea5df9e72420b1227429eb33d8a2486402e9bde9865e603313f", func := "heddle/heddlelaw01.AtomNodes", spec := "atomNodes", inPlace := ["internal/bytealg.IndexByteString", "internal/bytealg.IndexString", "internal/reflectlite.ValueOf", "(internal/reflectlite.Value).Type", "(internal/reflectlite.Value).IsNil", "internal/reflectlite.TypeOf", "(internal/reflectlite.Value).Elem", "(internal/reflectlite.Value).Set"], unfollowed := true, recurses := true, named := ["internal/bytealg.MaxLen", "errors.errorType", "unicode/utf8.first", "unicode/utf8.acceptRanges"], apart := false, laid := [("unicode/utf8.acceptRanges", laid_unicode_utf8_acceptRanges), ("errors.errorType", laid_errors_errorType), ("unicode/utf8.first", laid_unicode_utf8_first)] }
def AtomNodesSaid : Prop := atomNodesRow.holds Tryd.pinned (OpenSpec.ofChange atomNodesSpec)

/-- ITS FALSE NEIGHBOUR: 'it returns false'. Refute it at one input. -/
def atomNodesWrong : ChangeSpec := { name := "atomNodes", fn := fun _ => fun
  | [d] => { results := [.lit (.bool false)], args := [d] }
  | _ => none }
def AtomNodesWrongFalsely : Prop := atomNodesRow.holds Tryd.pinned (OpenSpec.ofChange atomNodesWrong)

/- THE SECOND FORM. 'bulk': how many values and letters a reading holds, each counted each time it is reached (what is shared counts as often as it is met; a slice's spare places count too). A statement '..UptoSaid' is the law's where the arguments, and the package variables that the reading takes, are together of bulk at most 1048576: NARROWER than '..Said'. Prove '..Said' where nothing that the law and all that it calls make is longer than what came in: it says more and counts as full. Else prove '..UptoSaid'. A law counts once. -/
mutual
def uptoBulk {H : Type} : DataW H → Nat
  | .lit (.string bytes) => bytes.length + 1
  | .lit _ => 1
  | .nil => 1
  | .ptr d => uptoBulk d + 1
  | .slice elems spare => uptoBulkAll elems + uptoBulkAll spare + 1
  | .agg parts => uptoBulkAll parts + 1
  | .iface _ d => uptoBulk d + 1
  | .map entries => uptoBulkEntries entries + 1
  | .held _ => 1
def uptoBulkAll {H : Type} : List (DataW H) → Nat
  | [] => 0
  | d :: r => uptoBulk d + uptoBulkAll r
def uptoBulkEntries {H : Type} : List (Lit × DataW H) → Nat
  | [] => 0
  | x :: r => uptoBulkEntry x + uptoBulkEntries r
def uptoBulkEntry {H : Type} : Lit × DataW H → Nat
  | (.string bytes, d) => bytes.length + uptoBulk d + 1
  | (_, d) => uptoBulk d + 1
 end
def uptoSmall : (H : Type) → List (DataW H) → Bool := fun _ ds => decide (uptoBulkAll ds ≤ 1048576)
def OpenSpec.upto (s : _root_.Go.ChangeSpec) : _root_.Go.OpenSpec := { _root_.Go.OpenSpec.ofChange s with cond := some uptoSmall }

/-- 'heddlelaw01.AtomBack', WHERE WHAT IT READS IS OF BULK AT MOST 1048576: true; the input reads as it did. -/
def atomBackUptoRow : OpenClaim := { program := "ytdafikemndaeeaadoor", sum := "f17f7cc299f6bea5df9e72420b1227429eb33d8a2486402e9bde9865e603313f", func := "heddle/heddlelaw01.AtomBack", spec := "atomBack", inPlace := ["internal/reflectlite.TypeOf"], unfollowed := true, recurses := true, named := ["unicode/utf8.first", "unicode/utf8.acceptRanges"], apart := false, laid := [("unicode/utf8.acceptRanges", laid_unicode_utf8_acceptRanges), ("unicode/utf8.first", laid_unicode_utf8_first)], narrowed := true }
def AtomBackUptoSaid : Prop := atomBackUptoRow.holds Tryd.pinned (OpenSpec.upto atomBackSpec)

/-- 'heddlelaw01.AtomReads', WHERE WHAT IT READS IS OF BULK AT MOST 1048576: true; the input reads as it did. -/
def atomReadsUptoRow : OpenClaim := { program := "ytdafikemndaeeaadoor", sum := "f17f7cc299f6bea5df9e72420b1227429eb33d8a2486402e9bde9865e603313f", func := "heddle/heddlelaw01.AtomReads", spec := "atomReads", inPlace := ["internal/reflectlite.TypeOf"], unfollowed := true, recurses := true, named := ["unicode/utf8.first", "unicode/utf8.acceptRanges"], apart := false, laid := [("unicode/utf8.acceptRanges", laid_unicode_utf8_acceptRanges), ("unicode/utf8.first", laid_unicode_utf8_first)], narrowed := true }
def AtomReadsUptoSaid : Prop := atomReadsUptoRow.holds Tryd.pinned (OpenSpec.upto atomReadsSpec)

/-- 'heddlelaw01.AtomOrders', WHERE WHAT IT READS IS OF BULK AT MOST 1048576: true; the input reads as it did. -/
def atomOrdersUptoRow : OpenClaim := { program := "ytdafikemndaeeaadoor", sum := "f17f7cc299f6bea5df9e72420b1227429eb33d8a2486402e9bde9865e603313f", func := "heddle/heddlelaw01.AtomOrders", spec := "atomOrders", inPlace := ["internal/bytealg.abigen_runtime_cmpstring", "internal/reflectlite.TypeOf"], unfollowed := true, recurses := true, named := ["unicode/utf8.first", "unicode/utf8.acceptRanges"], apart := false, laid := [("unicode/utf8.acceptRanges", laid_unicode_utf8_acceptRanges), ("unicode/utf8.first", laid_unicode_utf8_first)], narrowed := true }
def AtomOrdersUptoSaid : Prop := atomOrdersUptoRow.holds Tryd.pinned (OpenSpec.upto atomOrdersSpec)

/-- 'heddlelaw07.MixKnows', WHERE WHAT IT READS IS OF BULK AT MOST 1048576: true; the input reads as it did. -/
def mixKnowsUptoRow : OpenClaim := { program := "ytdafikemndaeeaadoor", sum := "f17f7cc299f6bea5df9e72420b1227429eb33d8a2486402e9bde9865e603313f", func := "heddle/heddlelaw07.MixKnows", spec := "mixKnows", inPlace := ["internal/reflectlite.TypeOf"], unfollowed := true, recurses := true, named := ["internal/strconv.uint64pow10", "math/bits.deBruijn32tab", "math/bits.deBruijn64tab"], apart := false, laid := [("math/bits.deBruijn32tab", laid_math_bits_deBruijn32tab), ("math/bits.deBruijn64tab", laid_math_bits_deBruijn64tab), ("internal/strconv.uint64pow10", laid_internal_strconv_uint64pow10)], narrowed := true }
def MixKnowsUptoSaid : Prop := mixKnowsUptoRow.holds Tryd.pinned (OpenSpec.upto mixKnowsSpec)

/-- 'heddlelaw07.MixChallenges', WHERE WHAT IT READS IS OF BULK AT MOST 1048576: true; the input reads as it did. -/
def mixChallengesUptoRow : OpenClaim := { program := "ytdafikemndaeeaadoor", sum := "f17f7cc299f6bea5df9e72420b1227429eb33d8a2486402e9bde9865e603313f", func := "heddle/heddlelaw07.MixChallenges", spec := "mixChallenges", inPlace := ["internal/reflectlite.TypeOf"], unfollowed := true, recurses := true, named := ["internal/strconv.uint64pow10", "math/bits.deBruijn32tab", "math/bits.deBruijn64tab"], apart := false, laid := [("math/bits.deBruijn32tab", laid_math_bits_deBruijn32tab), ("math/bits.deBruijn64tab", laid_math_bits_deBruijn64tab), ("internal/strconv.uint64pow10", laid_internal_strconv_uint64pow10)], narrowed := true }
def MixChallengesUptoSaid : Prop := mixChallengesUptoRow.holds Tryd.pinned (OpenSpec.upto mixChallengesSpec)

/-- 'heddlelaw01.AtomQuotes', WHERE WHAT IT READS IS OF BULK AT MOST 1048576: true; the input reads as it did. -/
def atomQuotesUptoRow : OpenClaim := { program := "ytdafikemndaeeaadoor", sum := "f17f7cc299f6bea5df9e72420b1227429eb33d8a2486402e9bde9865e603313f", func := "heddle/heddlelaw01.AtomQuotes", spec := "atomQuotes", inPlace := ["internal/reflectlite.ValueOf", "(internal/reflectlite.Value).Type", "(internal/reflectlite.Value).IsNil", "internal/reflectlite.TypeOf", "(internal/reflectlite.Value).Elem", "(internal/reflectlite.Value).Set"], unfollowed := true, recurses := true, named := ["unicode/utf8.first", "unicode/utf8.acceptRanges", "errors.errorType"], apart := false, laid := [("unicode/utf8.acceptRanges", laid_unicode_utf8_acceptRanges), ("errors.errorType", laid_errors_errorType), ("unicode/utf8.first", laid_unicode_utf8_first)], narrowed := true }
def AtomQuotesUptoSaid : Prop := atomQuotesUptoRow.holds Tryd.pinned (OpenSpec.upto atomQuotesSpec)

/-- 'heddlelaw01.AtomNobody', WHERE WHAT IT READS IS OF BULK AT MOST 1048576: true; the input reads as it did. -/
def atomNobodyUptoRow : OpenClaim := { program := "ytdafikemndaeeaadoor", sum := "f17f7cc299f6bea5df9e72420b1227429eb33d8a2486402e9bde9865e603313f", func := "heddle/heddlelaw01.AtomNobody", spec := "atomNobody", inPlace := ["internal/reflectlite.ValueOf", "(internal/reflectlite.Value).Type", "(internal/reflectlite.Value).IsNil", "internal/reflectlite.TypeOf", "(internal/reflectlite.Value).Elem", "(internal/reflectlite.Value).Set"], unfollowed := true, recurses := true, named := ["unicode/utf8.first", "unicode/utf8.acceptRanges", "errors.errorType"], apart := false, laid := [("unicode/utf8.acceptRanges", laid_unicode_utf8_acceptRanges), ("errors.errorType", laid_errors_errorType), ("unicode/utf8.first", laid_unicode_utf8_first)], narrowed := true }
def AtomNobodyUptoSaid : Prop := atomNobodyUptoRow.holds Tryd.pinned (OpenSpec.upto atomNobodySpec)

/-- 'heddlelaw01.AtomTables', WHERE WHAT IT READS IS OF BULK AT MOST 1048576: true; the input reads as it did. -/
def atomTablesUptoRow : OpenClaim := { program := "ytdafikemndaeeaadoor", sum := "f17f7cc299f6bea5df9e72420b1227429eb33d8a2486402e9bde9865e603313f", func := "heddle/heddlelaw01.AtomTables", spec := "atomTables", inPlace := ["internal/reflectlite.ValueOf", "(internal/reflectlite.Value).Type", "(internal/reflectlite.Value).IsNil", "internal/reflectlite.TypeOf", "(internal/reflectlite.Value).Elem", "(internal/reflectlite.Value).Set"], unfollowed := true, recurses := true, named := ["errors.errorType", "unicode/utf8.first", "unicode/utf8.acceptRanges"], apart := false, laid := [("unicode/utf8.acceptRanges", laid_unicode_utf8_acceptRanges), ("errors.errorType", laid_errors_errorType), ("unicode/utf8.first", laid_unicode_utf8_first)], narrowed := true }
def AtomTablesUptoSaid : Prop := atomTablesUptoRow.holds Tryd.pinned (OpenSpec.upto atomTablesSpec)

/-- 'heddlelaw07.MixCookies', WHERE WHAT IT READS IS OF BULK AT MOST 1048576: true; the input reads as it did. -/
def mixCookiesUptoRow : OpenClaim := { program := "ytdafikemndaeeaadoor", sum := "f17f7cc299f6bea5df9e72420b1227429eb33d8a2486402e9bde9865e603313f", func := "heddle/heddlelaw07.MixCookies", spec := "mixCookies", inPlace := ["internal/reflectlite.ValueOf", "(internal/reflectlite.Value).Type", "(internal/reflectlite.Value).IsNil", "internal/reflectlite.TypeOf", "(internal/reflectlite.Value).Elem", "(internal/reflectlite.Value).Set"], unfollowed := true, recurses := true, named := ["errors.errorType", "internal/strconv.uint64pow10", "math/bits.deBruijn32tab", "math/bits.deBruijn64tab"], apart := false, laid := [("math/bits.deBruijn32tab", laid_math_bits_deBruijn32tab), ("math/bits.deBruijn64tab", laid_math_bits_deBruijn64tab), ("internal/strconv.uint64pow10", laid_internal_strconv_uint64pow10), ("errors.errorType", laid_errors_errorType)], narrowed := true }
def MixCookiesUptoSaid : Prop := mixCookiesUptoRow.holds Tryd.pinned (OpenSpec.upto mixCookiesSpec)

/-- 'heddlelaw07.MixDigests', WHERE WHAT IT READS IS OF BULK AT MOST 1048576: true; the input reads as it did. -/
def mixDigestsUptoRow : OpenClaim := { program := "ytdafikemndaeeaadoor", sum := "f17f7cc299f6bea5df9e72420b1227429eb33d8a2486402e9bde9865e603313f", func := "heddle/heddlelaw07.MixDigests", spec := "mixDigests", inPlace := ["internal/reflectlite.ValueOf", "(internal/reflectlite.Value).Type", "(internal/reflectlite.Value).IsNil", "internal/reflectlite.TypeOf", "(internal/reflectlite.Value).Elem", "(internal/reflectlite.Value).Set"], unfollowed := true, recurses := true, named := ["internal/strconv.uint64pow10", "math/bits.deBruijn32tab", "math/bits.deBruijn64tab", "errors.errorType"], apart := false, laid := [("math/bits.deBruijn32tab", laid_math_bits_deBruijn32tab), ("math/bits.deBruijn64tab", laid_math_bits_deBruijn64tab), ("internal/strconv.uint64pow10", laid_internal_strconv_uint64pow10), ("errors.errorType", laid_errors_errorType)], narrowed := true }
def MixDigestsUptoSaid : Prop := mixDigestsUptoRow.holds Tryd.pinned (OpenSpec.upto mixDigestsSpec)

/-- 'heddlelaw07.MixOwn', WHERE WHAT IT READS IS OF BULK AT MOST 1048576: true; the input reads as it did. -/
def mixOwnUptoRow : OpenClaim := { program := "ytdafikemndaeeaadoor", sum := "f17f7cc299f6bea5df9e72420b1227429eb33d8a2486402e9bde9865e603313f", func := "heddle/heddlelaw07.MixOwn", spec := "mixOwn", inPlace := ["internal/reflectlite.ValueOf", "(internal/reflectlite.Value).Type", "(internal/reflectlite.Value).IsNil", "internal/reflectlite.TypeOf", "(internal/reflectlite.Value).Elem", "(internal/reflectlite.Value).Set"], unfollowed := true, recurses := true, named := ["internal/strconv.uint64pow10", "math/bits.deBruijn32tab", "math/bits.deBruijn64tab", "errors.errorType"], apart := false, laid := [("math/bits.deBruijn32tab", laid_math_bits_deBruijn32tab), ("math/bits.deBruijn64tab", laid_math_bits_deBruijn64tab), ("internal/strconv.uint64pow10", laid_internal_strconv_uint64pow10), ("errors.errorType", laid_errors_errorType)], narrowed := true }
def MixOwnUptoSaid : Prop := mixOwnUptoRow.holds Tryd.pinned (OpenSpec.upto mixOwnSpec)

/-- 'heddlelaw01.AtomNodes', WHERE WHAT IT READS IS OF BULK AT MOST 1048576: true; the input reads as it did. -/
def atomNodesUptoRow : OpenClaim := { program := "ytdafikemndaeeaadoor", sum := "f17f7cc299f6bea5df9e72420b1227429eb33d8a2486402e9bde9865e603313f", func := "heddle/heddlelaw01.AtomNodes", spec := "atomNodes", inPlace := ["internal/bytealg.IndexByteString", "internal/bytealg.IndexString", "internal/reflectlite.ValueOf", "(internal/reflectlite.Value).Type", "(internal/reflectlite.Value).IsNil", "internal/reflectlite.TypeOf", "(internal/reflectlite.Value).Elem", "(internal/reflectlite.Value).Set"], unfollowed := true, recurses := true, named := ["internal/bytealg.MaxLen", "errors.errorType", "unicode/utf8.first", "unicode/utf8.acceptRanges"], apart := false, laid := [("unicode/utf8.acceptRanges", laid_unicode_utf8_acceptRanges), ("errors.errorType", laid_errors_errorType), ("unicode/utf8.first", laid_unicode_utf8_first)], narrowed := true }
def AtomNodesUptoSaid : Prop := atomNodesUptoRow.holds Tryd.pinned (OpenSpec.upto atomNodesSpec)

end Rows
end Go.Proofs.YtdafikemndaeeaaDoor
