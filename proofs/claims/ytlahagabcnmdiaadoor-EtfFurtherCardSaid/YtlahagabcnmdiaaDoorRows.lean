/-
  NARROWER THAN 'FOR EVERY INPUT', by the rows' own cells (each row's printed sentence says how): MailOrders: loops, laid · MailFull: loops, laid · MailDeadlines: laid · MailNobody: loops, laid · EtfBack: loops, laid · EtfShortest: laid · EtfFurther: laid.
  DERIVED. THE GIVEN ROWS OF THIS SEAT. 7 by the template 'for every input the law returns true; each argument reads behind the call as it read before'; 0 by the template 'total and deterministic' (their statements: YtlahagabcnmdiaaDoorTotals.lean).
  GIVEN WITH THE SEED: the statements are not yours to turn. If you find one false, say at which input.
  Laid BY PROGRAM, IN A SANDBOX (cutbox-rows.mjs): the forced cells as the released guide's own fill.sh prints them over the translation 6e1f8f64abb351a9… (all of the seat's roots in one cut). By AI agents, Wed Nov 11 2026. No macro, syntax, notation, axiom, sorry.
-/
import Derived.Test.YtlahagabcnmdiaaDoorChecked
import GoSem.PinnedTables
import GoSem.Claim
import GoSem.ClaimJoined
import GoSem.ClaimMapViews
import Derived.JoinedTies
import Derived.KernelRfl
namespace Go.Proofs.YtlahagabcnmdiaaDoor
/- THE CELL 'sum', in the pinned program and in every row, IS THE sha256 OF THE DUMP (.gsa) THAT YtlahagabcnmdiaaDoorProg.lean LOADS. Nothing in Lean hashes anything: it is a label: what it is worth is what the hold of that sum in a sandbox is worth. -/
noncomputable def Tryd.pinned : Pinned := { name := "ytlahagabcnmdiaadoor", sum := "6e1f8f64abb351a9465ba8d30181fa67386c91fc3a883649ddc62b791d788825", checked := Tryd.checked }
namespace Rows
def none {H : Type} : Left H := { results := [], args := [] }

/- WHAT THE LISTED PACKAGE-LEVEL VARIABLES READ AS WHEN THE CALL BEGINS. Each datum BY PROGRAM (the guide's laid-datum.mjs) off the statement by which the dump's own 'gosem.cut.vars' lays the variable. In a bare row this is a premise. The card (YtlahagabcnmdiaaDoorCards.lean) ties it to the program's text. -/
def laid_unicode_utf8_acceptRanges {H : Type} : DataW H := .agg [.agg [.lit (.int .u8 128), .lit (.int .u8 191)], .agg [.lit (.int .u8 160), .lit (.int .u8 191)], .agg [.lit (.int .u8 128), .lit (.int .u8 159)], .agg [.lit (.int .u8 144), .lit (.int .u8 191)], .agg [.lit (.int .u8 128), .lit (.int .u8 143)], .agg [.lit (.int .u8 0), .lit (.int .u8 0)], .agg [.lit (.int .u8 0), .lit (.int .u8 0)], .agg [.lit (.int .u8 0), .lit (.int .u8 0)], .agg [.lit (.int .u8 0), .lit (.int .u8 0)], .agg [.lit (.int .u8 0), .lit (.int .u8 0)], .agg [.lit (.int .u8 0), .lit (.int .u8 0)], .agg [.lit (.int .u8 0), .lit (.int .u8 0)], .agg [.lit (.int .u8 0), .lit (.int .u8 0)], .agg [.lit (.int .u8 0), .lit (.int .u8 0)], .agg [.lit (.int .u8 0), .lit (.int .u8 0)], .agg [.lit (.int .u8 0), .lit (.int .u8 0)]]
def laid_errors_errorType {H : Type} : DataW H := .iface "internal/reflectlite.rtype" (.agg [.ptr (.lit (.string [101, 114, 114, 111, 114]))])
/-- One of Go's own tables, pinned by name: the form's constant. -/
def laid_unicode_utf8_first : DataW Unit := Go.Pinned.utf8First

/-- 'heddlelaw17.MailOrders': WHATEVER THE INPUT: true; the input reads as it did. -/
def mailOrdersSpec : ChangeSpec := { name := "mailOrders", fn := fun _ => fun
  | [d] => { results := [.lit (.bool true)], args := [d] }
  | _ => none }
def mailOrdersRow : OpenClaim := { program := "ytlahagabcnmdiaadoor", sum := "6e1f8f64abb351a9465ba8d30181fa67386c91fc3a883649ddc62b791d788825", func := "heddle/heddlelaw17.MailOrders", spec := "mailOrders", inPlace := ["internal/bytealg.IndexByteString", "internal/bytealg.IndexString", "internal/reflectlite.ValueOf", "(internal/reflectlite.Value).Type", "(internal/reflectlite.Value).IsNil", "internal/reflectlite.TypeOf", "(internal/reflectlite.Value).Elem", "(internal/reflectlite.Value).Set"], unfollowed := true, recurses := true, named := ["unicode/utf8.first", "unicode/utf8.acceptRanges", "internal/bytealg.MaxLen", "errors.errorType"], loops := true, apart := false, laid := [("unicode/utf8.acceptRanges", laid_unicode_utf8_acceptRanges), ("errors.errorType", laid_errors_errorType), ("unicode/utf8.first", laid_unicode_utf8_first)] }
def MailOrdersSaid : Prop := mailOrdersRow.holds Tryd.pinned (OpenSpec.ofChange mailOrdersSpec)

/-- ITS FALSE NEIGHBOUR: 'it returns false'. Refute it at one input. -/
def mailOrdersWrong : ChangeSpec := { name := "mailOrders", fn := fun _ => fun
  | [d] => { results := [.lit (.bool false)], args := [d] }
  | _ => none }
def MailOrdersWrongFalsely : Prop := mailOrdersRow.holds Tryd.pinned (OpenSpec.ofChange mailOrdersWrong)

/-- 'heddlelaw17.MailFull': WHATEVER THE INPUT: true; the input reads as it did. -/
def mailFullSpec : ChangeSpec := { name := "mailFull", fn := fun _ => fun
  | [d] => { results := [.lit (.bool true)], args := [d] }
  | _ => none }
def mailFullRow : OpenClaim := { program := "ytlahagabcnmdiaadoor", sum := "6e1f8f64abb351a9465ba8d30181fa67386c91fc3a883649ddc62b791d788825", func := "heddle/heddlelaw17.MailFull", spec := "mailFull", inPlace := ["internal/bytealg.IndexByteString", "internal/bytealg.IndexString", "internal/reflectlite.ValueOf", "(internal/reflectlite.Value).Type", "(internal/reflectlite.Value).IsNil", "internal/reflectlite.TypeOf", "(internal/reflectlite.Value).Elem", "(internal/reflectlite.Value).Set"], unfollowed := true, recurses := true, named := ["unicode/utf8.first", "unicode/utf8.acceptRanges", "internal/bytealg.MaxLen", "errors.errorType"], loops := true, apart := false, laid := [("unicode/utf8.acceptRanges", laid_unicode_utf8_acceptRanges), ("errors.errorType", laid_errors_errorType), ("unicode/utf8.first", laid_unicode_utf8_first)] }
def MailFullSaid : Prop := mailFullRow.holds Tryd.pinned (OpenSpec.ofChange mailFullSpec)

/-- ITS FALSE NEIGHBOUR: 'it returns false'. Refute it at one input. -/
def mailFullWrong : ChangeSpec := { name := "mailFull", fn := fun _ => fun
  | [d] => { results := [.lit (.bool false)], args := [d] }
  | _ => none }
def MailFullWrongFalsely : Prop := mailFullRow.holds Tryd.pinned (OpenSpec.ofChange mailFullWrong)

/-- 'heddlelaw17.MailDeadlines': WHATEVER THE INPUT: true; the input reads as it did. -/
def mailDeadlinesSpec : ChangeSpec := { name := "mailDeadlines", fn := fun _ => fun
  | [d1, d2, d3, d4] => { results := [.lit (.bool true)], args := [d1, d2, d3, d4] }
  | _ => none }
def mailDeadlinesRow : OpenClaim := { program := "ytlahagabcnmdiaadoor", sum := "6e1f8f64abb351a9465ba8d30181fa67386c91fc3a883649ddc62b791d788825", func := "heddle/heddlelaw17.MailDeadlines", spec := "mailDeadlines", inPlace := ["internal/bytealg.IndexByteString", "internal/bytealg.IndexString", "internal/reflectlite.ValueOf", "(internal/reflectlite.Value).Type", "(internal/reflectlite.Value).IsNil", "internal/reflectlite.TypeOf", "(internal/reflectlite.Value).Elem", "(internal/reflectlite.Value).Set"], unfollowed := true, recurses := true, named := ["unicode/utf8.first", "unicode/utf8.acceptRanges", "internal/bytealg.MaxLen", "errors.errorType"], apart := false, laid := [("unicode/utf8.acceptRanges", laid_unicode_utf8_acceptRanges), ("errors.errorType", laid_errors_errorType), ("unicode/utf8.first", laid_unicode_utf8_first)] }
def MailDeadlinesSaid : Prop := mailDeadlinesRow.holds Tryd.pinned (OpenSpec.ofChange mailDeadlinesSpec)

/-- ITS FALSE NEIGHBOUR: 'it returns false'. Refute it at one input. -/
def mailDeadlinesWrong : ChangeSpec := { name := "mailDeadlines", fn := fun _ => fun
  | [d1, d2, d3, d4] => { results := [.lit (.bool false)], args := [d1, d2, d3, d4] }
  | _ => none }
def MailDeadlinesWrongFalsely : Prop := mailDeadlinesRow.holds Tryd.pinned (OpenSpec.ofChange mailDeadlinesWrong)

/-- 'heddlelaw17.MailNobody': WHATEVER THE INPUT: true; the input reads as it did. -/
def mailNobodySpec : ChangeSpec := { name := "mailNobody", fn := fun _ => fun
  | [d1, d2] => { results := [.lit (.bool true)], args := [d1, d2] }
  | _ => none }
def mailNobodyRow : OpenClaim := { program := "ytlahagabcnmdiaadoor", sum := "6e1f8f64abb351a9465ba8d30181fa67386c91fc3a883649ddc62b791d788825", func := "heddle/heddlelaw17.MailNobody", spec := "mailNobody", inPlace := ["internal/bytealg.IndexByteString", "internal/bytealg.IndexString", "internal/reflectlite.ValueOf", "(internal/reflectlite.Value).Type", "(internal/reflectlite.Value).IsNil", "internal/reflectlite.TypeOf", "(internal/reflectlite.Value).Elem", "(internal/reflectlite.Value).Set"], unfollowed := true, recurses := true, named := ["unicode/utf8.first", "unicode/utf8.acceptRanges", "internal/bytealg.MaxLen", "errors.errorType"], loops := true, apart := false, laid := [("unicode/utf8.acceptRanges", laid_unicode_utf8_acceptRanges), ("errors.errorType", laid_errors_errorType), ("unicode/utf8.first", laid_unicode_utf8_first)] }
def MailNobodySaid : Prop := mailNobodyRow.holds Tryd.pinned (OpenSpec.ofChange mailNobodySpec)

/-- ITS FALSE NEIGHBOUR: 'it returns false'. Refute it at one input. -/
def mailNobodyWrong : ChangeSpec := { name := "mailNobody", fn := fun _ => fun
  | [d1, d2] => { results := [.lit (.bool false)], args := [d1, d2] }
  | _ => none }
def MailNobodyWrongFalsely : Prop := mailNobodyRow.holds Tryd.pinned (OpenSpec.ofChange mailNobodyWrong)

/-- 'heddlelaw04.EtfBack': WHATEVER THE INPUT: true; the input reads as it did. -/
def etfBackSpec : ChangeSpec := { name := "etfBack", fn := fun _ => fun
  | [d] => { results := [.lit (.bool true)], args := [d] }
  | _ => none }
def etfBackRow : OpenClaim := { program := "ytlahagabcnmdiaadoor", sum := "6e1f8f64abb351a9465ba8d30181fa67386c91fc3a883649ddc62b791d788825", func := "heddle/heddlelaw04.EtfBack", spec := "etfBack", inPlace := ["internal/bytealg.IndexByteString", "internal/bytealg.IndexString", "internal/reflectlite.ValueOf", "(internal/reflectlite.Value).Type", "(internal/reflectlite.Value).IsNil", "internal/reflectlite.TypeOf", "(internal/reflectlite.Value).Elem", "(internal/reflectlite.Value).Set"], unfollowed := true, recurses := true, named := ["unicode/utf8.first", "unicode/utf8.acceptRanges", "internal/bytealg.MaxLen", "errors.errorType"], loops := true, apart := false, laid := [("unicode/utf8.acceptRanges", laid_unicode_utf8_acceptRanges), ("errors.errorType", laid_errors_errorType), ("unicode/utf8.first", laid_unicode_utf8_first)] }
def EtfBackSaid : Prop := etfBackRow.holds Tryd.pinned (OpenSpec.ofChange etfBackSpec)

/-- ITS FALSE NEIGHBOUR: 'it returns false'. Refute it at one input. -/
def etfBackWrong : ChangeSpec := { name := "etfBack", fn := fun _ => fun
  | [d] => { results := [.lit (.bool false)], args := [d] }
  | _ => none }
def EtfBackWrongFalsely : Prop := etfBackRow.holds Tryd.pinned (OpenSpec.ofChange etfBackWrong)

/-- 'heddlelaw04.EtfShortest': WHATEVER THE INPUT: true; the input reads as it did. -/
def etfShortestSpec : ChangeSpec := { name := "etfShortest", fn := fun _ => fun
  | [d] => { results := [.lit (.bool true)], args := [d] }
  | _ => none }
def etfShortestRow : OpenClaim := { program := "ytlahagabcnmdiaadoor", sum := "6e1f8f64abb351a9465ba8d30181fa67386c91fc3a883649ddc62b791d788825", func := "heddle/heddlelaw04.EtfShortest", spec := "etfShortest", inPlace := ["internal/reflectlite.ValueOf", "(internal/reflectlite.Value).Type", "(internal/reflectlite.Value).IsNil", "internal/reflectlite.TypeOf", "(internal/reflectlite.Value).Elem", "(internal/reflectlite.Value).Set", "internal/bytealg.IndexByteString", "internal/bytealg.IndexString"], unfollowed := true, recurses := true, named := ["unicode/utf8.first", "unicode/utf8.acceptRanges", "errors.errorType", "internal/bytealg.MaxLen"], apart := false, laid := [("unicode/utf8.acceptRanges", laid_unicode_utf8_acceptRanges), ("errors.errorType", laid_errors_errorType), ("unicode/utf8.first", laid_unicode_utf8_first)] }
def EtfShortestSaid : Prop := etfShortestRow.holds Tryd.pinned (OpenSpec.ofChange etfShortestSpec)

/-- ITS FALSE NEIGHBOUR: 'it returns false'. Refute it at one input. -/
def etfShortestWrong : ChangeSpec := { name := "etfShortest", fn := fun _ => fun
  | [d] => { results := [.lit (.bool false)], args := [d] }
  | _ => none }
def EtfShortestWrongFalsely : Prop := etfShortestRow.holds Tryd.pinned (OpenSpec.ofChange etfShortestWrong)

/-- 'heddlelaw04.EtfFurther': WHATEVER THE INPUT: true; the input reads as it did. -/
def etfFurtherSpec : ChangeSpec := { name := "etfFurther", fn := fun _ => fun
  | [d1, d2, d3] => { results := [.lit (.bool true)], args := [d1, d2, d3] }
  | _ => none }
def etfFurtherRow : OpenClaim := { program := "ytlahagabcnmdiaadoor", sum := "6e1f8f64abb351a9465ba8d30181fa67386c91fc3a883649ddc62b791d788825", func := "heddle/heddlelaw04.EtfFurther", spec := "etfFurther", inPlace := ["internal/reflectlite.ValueOf", "(internal/reflectlite.Value).Type", "(internal/reflectlite.Value).IsNil", "internal/reflectlite.TypeOf", "(internal/reflectlite.Value).Elem", "(internal/reflectlite.Value).Set", "internal/bytealg.IndexByteString", "internal/bytealg.IndexString"], unfollowed := true, recurses := true, named := ["unicode/utf8.first", "unicode/utf8.acceptRanges", "errors.errorType", "internal/bytealg.MaxLen"], apart := false, laid := [("unicode/utf8.acceptRanges", laid_unicode_utf8_acceptRanges), ("errors.errorType", laid_errors_errorType), ("unicode/utf8.first", laid_unicode_utf8_first)] }
def EtfFurtherSaid : Prop := etfFurtherRow.holds Tryd.pinned (OpenSpec.ofChange etfFurtherSpec)

/-- ITS FALSE NEIGHBOUR: 'it returns false'. Refute it at one input. -/
def etfFurtherWrong : ChangeSpec := { name := "etfFurther", fn := fun _ => fun
  | [d1, d2, d3] => { results := [.lit (.bool false)], args := [d1, d2, d3] }
  | _ => none }
def EtfFurtherWrongFalsely : Prop := etfFurtherRow.holds Tryd.pinned (OpenSpec.ofChange etfFurtherWrong)

/- THE SECOND FORM. 'bulk': how many values and letters a reading holds, each counted each time it is reached (what is shared counts as often as it is met; a slice's spare places count too). A statement '..UptoSaid' is the law's where the arguments, and the package variables that the reading takes, are together of bulk at most 1048576: NARROWER than '..Said'. Prove '..Said' where nothing that the law and all that it calls make is longer than what came in: it says more and counts as full. Else prove '..UptoSaid'. A law counts once. -/
mutual
def uptoBulk {H : Type} : DataW H → Nat
  | .lit (.string bytes) => bytes.length + 1
  | .lit _ => 1
  | .nil => 1
  | .ptr d => uptoBulk d + 1
  | .slice elems spare => uptoBulkAll elems + uptoBulkAll spare + 1
  | .agg parts => uptoBulkAll parts + 1
  | .iface _ d => uptoBulk d + 1
  | .map entries => uptoBulkEntries entries + 1
  | .held _ => 1
def uptoBulkAll {H : Type} : List (DataW H) → Nat
  | [] => 0
  | d :: r => uptoBulk d + uptoBulkAll r
def uptoBulkEntries {H : Type} : List (Lit × DataW H) → Nat
  | [] => 0
  | x :: r => uptoBulkEntry x + uptoBulkEntries r
def uptoBulkEntry {H : Type} : Lit × DataW H → Nat
  | (.string bytes, d) => bytes.length + uptoBulk d + 1
  | (_, d) => uptoBulk d + 1
 end
def uptoSmall : (H : Type) → List (DataW H) → Bool := fun _ ds => decide (uptoBulkAll ds ≤ 1048576)
def OpenSpec.upto (s : _root_.Go.ChangeSpec) : _root_.Go.OpenSpec := { _root_.Go.OpenSpec.ofChange s with cond := some uptoSmall }

/-- 'heddlelaw17.MailOrders', WHERE WHAT IT READS IS OF BULK AT MOST 1048576: true; the input reads as it did. -/
def mailOrdersUptoRow : OpenClaim := { program := "ytlahagabcnmdiaadoor", sum := "6e1f8f64abb351a9465ba8d30181fa67386c91fc3a883649ddc62b791d788825", func := "heddle/heddlelaw17.MailOrders", spec := "mailOrders", inPlace := ["internal/bytealg.IndexByteString", "internal/bytealg.IndexString", "internal/reflectlite.ValueOf", "(internal/reflectlite.Value).Type", "(internal/reflectlite.Value).IsNil", "internal/reflectlite.TypeOf", "(internal/reflectlite.Value).Elem", "(internal/reflectlite.Value).Set"], unfollowed := true, recurses := true, named := ["unicode/utf8.first", "unicode/utf8.acceptRanges", "internal/bytealg.MaxLen", "errors.errorType"], loops := true, apart := false, laid := [("unicode/utf8.acceptRanges", laid_unicode_utf8_acceptRanges), ("errors.errorType", laid_errors_errorType), ("unicode/utf8.first", laid_unicode_utf8_first)], narrowed := true }
def MailOrdersUptoSaid : Prop := mailOrdersUptoRow.holds Tryd.pinned (OpenSpec.upto mailOrdersSpec)

/-- 'heddlelaw17.MailFull', WHERE WHAT IT READS IS OF BULK AT MOST 1048576: true; the input reads as it did. -/
def mailFullUptoRow : OpenClaim := { program := "ytlahagabcnmdiaadoor", sum := "6e1f8f64abb351a9465ba8d30181fa67386c91fc3a883649ddc62b791d788825", func := "heddle/heddlelaw17.MailFull", spec := "mailFull", inPlace := ["internal/bytealg.IndexByteString", "internal/bytealg.IndexString", "internal/reflectlite.ValueOf", "(internal/reflectlite.Value).Type", "(internal/reflectlite.Value).IsNil", "internal/reflectlite.TypeOf", "(internal/reflectlite.Value).Elem", "(internal/reflectlite.Value).Set"], unfollowed := true, recurses := true, named := ["unicode/utf8.first", "unicode/utf8.acceptRanges", "internal/bytealg.MaxLen", "errors.errorType"], loops := true, apart := false, laid := [("unicode/utf8.acceptRanges", laid_unicode_utf8_acceptRanges), ("errors.errorType", laid_errors_errorType), ("unicode/utf8.first", laid_unicode_utf8_first)], narrowed := true }
def MailFullUptoSaid : Prop := mailFullUptoRow.holds Tryd.pinned (OpenSpec.upto mailFullSpec)

/-- 'heddlelaw17.MailDeadlines', WHERE WHAT IT READS IS OF BULK AT MOST 1048576: true; the input reads as it did. -/
def mailDeadlinesUptoRow : OpenClaim := { program := "ytlahagabcnmdiaadoor", sum := "6e1f8f64abb351a9465ba8d30181fa67386c91fc3a883649ddc62b791d788825", func := "heddle/heddlelaw17.MailDeadlines", spec := "mailDeadlines", inPlace := ["internal/bytealg.IndexByteString", "internal/bytealg.IndexString", "internal/reflectlite.ValueOf", "(internal/reflectlite.Value).Type", "(internal/reflectlite.Value).IsNil", "internal/reflectlite.TypeOf", "(internal/reflectlite.Value).Elem", "(internal/reflectlite.Value).Set"], unfollowed := true, recurses := true, named := ["unicode/utf8.first", "unicode/utf8.acceptRanges", "internal/bytealg.MaxLen", "errors.errorType"], apart := false, laid := [("unicode/utf8.acceptRanges", laid_unicode_utf8_acceptRanges), ("errors.errorType", laid_errors_errorType), ("unicode/utf8.first", laid_unicode_utf8_first)], narrowed := true }
def MailDeadlinesUptoSaid : Prop := mailDeadlinesUptoRow.holds Tryd.pinned (OpenSpec.upto mailDeadlinesSpec)

/-- 'heddlelaw17.MailNobody', WHERE WHAT IT READS IS OF BULK AT MOST 1048576: true; the input reads as it did. -/
def mailNobodyUptoRow : OpenClaim := { program := "ytlahagabcnmdiaadoor", sum := "6e1f8f64abb351a9465ba8d30181fa67386c91fc3a883649ddc62b791d788825", func := "heddle/heddlelaw17.MailNobody", spec := "mailNobody", inPlace := ["internal/bytealg.IndexByteString", "internal/bytealg.IndexString", "internal/reflectlite.ValueOf", "(internal/reflectlite.Value).Type", "(internal/reflectlite.Value).IsNil", "internal/reflectlite.TypeOf", "(internal/reflectlite.Value).Elem", "(internal/reflectlite.Value).Set"], unfollowed := true, recurses := true, named := ["unicode/utf8.first", "unicode/utf8.acceptRanges", "internal/bytealg.MaxLen", "errors.errorType"], loops := true, apart := false, laid := [("unicode/utf8.acceptRanges", laid_unicode_utf8_acceptRanges), ("errors.errorType", laid_errors_errorType), ("unicode/utf8.first", laid_unicode_utf8_first)], narrowed := true }
def MailNobodyUptoSaid : Prop := mailNobodyUptoRow.holds Tryd.pinned (OpenSpec.upto mailNobodySpec)

/-- 'heddlelaw04.EtfBack', WHERE WHAT IT READS IS OF BULK AT MOST 1048576: true; the input reads as it did. -/
def etfBackUptoRow : OpenClaim := { program := "ytlahagabcnmdiaadoor", sum := "6e1f8f64abb351a9465ba8d30181fa67386c91fc3a883649ddc62b791d788825", func := "heddle/heddlelaw04.EtfBack", spec := "etfBack", inPlace := ["internal/bytealg.IndexByteString", "internal/bytealg.IndexString", "internal/reflectlite.ValueOf", "(internal/reflectlite.Value).Type", "(internal/reflectlite.Value).IsNil", "internal/reflectlite.TypeOf", "(internal/reflectlite.Value).Elem", "(internal/reflectlite.Value).Set"], unfollowed := true, recurses := true, named := ["unicode/utf8.first", "unicode/utf8.acceptRanges", "internal/bytealg.MaxLen", "errors.errorType"], loops := true, apart := false, laid := [("unicode/utf8.acceptRanges", laid_unicode_utf8_acceptRanges), ("errors.errorType", laid_errors_errorType), ("unicode/utf8.first", laid_unicode_utf8_first)], narrowed := true }
def EtfBackUptoSaid : Prop := etfBackUptoRow.holds Tryd.pinned (OpenSpec.upto etfBackSpec)

/-- 'heddlelaw04.EtfShortest', WHERE WHAT IT READS IS OF BULK AT MOST 1048576: true; the input reads as it did. -/
def etfShortestUptoRow : OpenClaim := { program := "ytlahagabcnmdiaadoor", sum := "6e1f8f64abb351a9465ba8d30181fa67386c91fc3a883649ddc62b791d788825", func := "heddle/heddlelaw04.EtfShortest", spec := "etfShortest", inPlace := ["internal/reflectlite.ValueOf", "(internal/reflectlite.Value).Type", "(internal/reflectlite.Value).IsNil", "internal/reflectlite.TypeOf", "(internal/reflectlite.Value).Elem", "(internal/reflectlite.Value).Set", "internal/bytealg.IndexByteString", "internal/bytealg.IndexString"], unfollowed := true, recurses := true, named := ["unicode/utf8.first", "unicode/utf8.acceptRanges", "errors.errorType", "internal/bytealg.MaxLen"], apart := false, laid := [("unicode/utf8.acceptRanges", laid_unicode_utf8_acceptRanges), ("errors.errorType", laid_errors_errorType), ("unicode/utf8.first", laid_unicode_utf8_first)], narrowed := true }
def EtfShortestUptoSaid : Prop := etfShortestUptoRow.holds Tryd.pinned (OpenSpec.upto etfShortestSpec)

/-- 'heddlelaw04.EtfFurther', WHERE WHAT IT READS IS OF BULK AT MOST 1048576: true; the input reads as it did. -/
def etfFurtherUptoRow : OpenClaim := { program := "ytlahagabcnmdiaadoor", sum := "6e1f8f64abb351a9465ba8d30181fa67386c91fc3a883649ddc62b791d788825", func := "heddle/heddlelaw04.EtfFurther", spec := "etfFurther", inPlace := ["internal/reflectlite.ValueOf", "(internal/reflectlite.Value).Type", "(internal/reflectlite.Value).IsNil", "internal/reflectlite.TypeOf", "(internal/reflectlite.Value).Elem", "(internal/reflectlite.Value).Set", "internal/bytealg.IndexByteString", "internal/bytealg.IndexString"], unfollowed := true, recurses := true, named := ["unicode/utf8.first", "unicode/utf8.acceptRanges", "errors.errorType", "internal/bytealg.MaxLen"], apart := false, laid := [("unicode/utf8.acceptRanges", laid_unicode_utf8_acceptRanges), ("errors.errorType", laid_errors_errorType), ("unicode/utf8.first", laid_unicode_utf8_first)], narrowed := true }
def EtfFurtherUptoSaid : Prop := etfFurtherUptoRow.holds Tryd.pinned (OpenSpec.upto etfFurtherSpec)

end Rows
end Go.Proofs.YtlahagabcnmdiaaDoor
