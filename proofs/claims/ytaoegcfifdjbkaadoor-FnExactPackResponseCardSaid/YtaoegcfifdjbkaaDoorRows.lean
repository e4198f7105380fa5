/-
  NARROWER THAN 'FOR EVERY INPUT', by the rows' own cells (each row's printed sentence says how): FnWords: laid · FnExactFormatDate: laid · FnExactDropHeader: laid · FnExactPackHeaders: laid · FnExactJoinHeader: laid · FnExactSetHeader: laid · FnExactReadHeaders: laid · FnExactPackRequest: laid · FnExactPackResponse: laid · FnExactParseItems: laid.
  DERIVED. THE GIVEN ROWS OF THIS SEAT. 10 by the template 'for every input the law returns true; each argument reads behind the call as it read before'; 0 by the template 'total and deterministic' (their statements: YtaoegcfifdjbkaaDoorTotals.lean).
  GIVEN WITH THE SEED: the statements are not yours to turn. If you find one false, say at which input.
  Laid BY PROGRAM, IN A SANDBOX (cutbox-rows.mjs): the forced cells as the released guide's own fill.sh prints them over the translation 1339c1d67b7440b6… (all of the seat's roots in one cut). By AI agents, Wed Nov 11 2026. No macro, syntax, notation, axiom, sorry.
-/
import Derived.Test.YtaoegcfifdjbkaaDoorChecked
import GoSem.PinnedTables
import GoSem.Claim
import GoSem.ClaimJoined
import GoSem.ClaimMapViews
import Derived.JoinedTies
import Derived.KernelRfl
namespace Go.Proofs.YtaoegcfifdjbkaaDoor
/- THE CELL 'sum', in the pinned program and in every row, IS THE sha256 OF THE DUMP (.gsa) THAT YtaoegcfifdjbkaaDoorProg.lean LOADS. Nothing in Lean hashes anything: it is a label: what it is worth is what the hold of that sum in a sandbox is worth. -/
noncomputable def Tryd.pinned : Pinned := { name := "ytaoegcfifdjbkaadoor", sum := "1339c1d67b7440b63689a028b999e29baf63b38d44585f61a26cb2518173ee67", checked := Tryd.checked }
namespace Rows
def none {H : Type} : Left H := { results := [], args := [] }

/- WHAT THE LISTED PACKAGE-LEVEL VARIABLES READ AS WHEN THE CALL BEGINS. Each datum BY PROGRAM (the guide's laid-datum.mjs) off the statement by which the dump's own 'gosem.cut.vars' lays the variable. In a bare row this is a premise. The card (YtaoegcfifdjbkaaDoorCards.lean) ties it to the program's text. -/
def laid_unicode_utf8_acceptRanges {H : Type} : DataW H := .agg [.agg [.lit (.int .u8 128), .lit (.int .u8 191)], .agg [.lit (.int .u8 160), .lit (.int .u8 191)], .agg [.lit (.int .u8 128), .lit (.int .u8 159)], .agg [.lit (.int .u8 144), .lit (.int .u8 191)], .agg [.lit (.int .u8 128), .lit (.int .u8 143)], .agg [.lit (.int .u8 0), .lit (.int .u8 0)], .agg [.lit (.int .u8 0), .lit (.int .u8 0)], .agg [.lit (.int .u8 0), .lit (.int .u8 0)], .agg [.lit (.int .u8 0), .lit (.int .u8 0)], .agg [.lit (.int .u8 0), .lit (.int .u8 0)], .agg [.lit (.int .u8 0), .lit (.int .u8 0)], .agg [.lit (.int .u8 0), .lit (.int .u8 0)], .agg [.lit (.int .u8 0), .lit (.int .u8 0)], .agg [.lit (.int .u8 0), .lit (.int .u8 0)], .agg [.lit (.int .u8 0), .lit (.int .u8 0)], .agg [.lit (.int .u8 0), .lit (.int .u8 0)]]
/-- One of Go's own tables, pinned by name: the form's constant. -/
def laid_unicode_utf8_first : DataW Unit := Go.Pinned.utf8First
def laid_math_bits_deBruijn32tab {H : Type} : DataW H := .agg [.lit (.int .u8 0), .lit (.int .u8 1), .lit (.int .u8 28), .lit (.int .u8 2), .lit (.int .u8 29), .lit (.int .u8 14), .lit (.int .u8 24), .lit (.int .u8 3), .lit (.int .u8 30), .lit (.int .u8 22), .lit (.int .u8 20), .lit (.int .u8 15), .lit (.int .u8 25), .lit (.int .u8 17), .lit (.int .u8 4), .lit (.int .u8 8), .lit (.int .u8 31), .lit (.int .u8 27), .lit (.int .u8 13), .lit (.int .u8 23), .lit (.int .u8 21), .lit (.int .u8 19), .lit (.int .u8 16), .lit (.int .u8 7), .lit (.int .u8 26), .lit (.int .u8 12), .lit (.int .u8 18), .lit (.int .u8 6), .lit (.int .u8 11), .lit (.int .u8 5), .lit (.int .u8 10), .lit (.int .u8 9)]
def laid_math_bits_deBruijn64tab {H : Type} : DataW H := .agg [.lit (.int .u8 0), .lit (.int .u8 1), .lit (.int .u8 56), .lit (.int .u8 2), .lit (.int .u8 57), .lit (.int .u8 49), .lit (.int .u8 28), .lit (.int .u8 3), .lit (.int .u8 61), .lit (.int .u8 58), .lit (.int .u8 42), .lit (.int .u8 50), .lit (.int .u8 38), .lit (.int .u8 29), .lit (.int .u8 17), .lit (.int .u8 4), .lit (.int .u8 62), .lit (.int .u8 47), .lit (.int .u8 59), .lit (.int .u8 36), .lit (.int .u8 45), .lit (.int .u8 43), .lit (.int .u8 51), .lit (.int .u8 22), .lit (.int .u8 53), .lit (.int .u8 39), .lit (.int .u8 33), .lit (.int .u8 30), .lit (.int .u8 24), .lit (.int .u8 18), .lit (.int .u8 12), .lit (.int .u8 5), .lit (.int .u8 63), .lit (.int .u8 55), .lit (.int .u8 48), .lit (.int .u8 27), .lit (.int .u8 60), .lit (.int .u8 41), .lit (.int .u8 37), .lit (.int .u8 16), .lit (.int .u8 46), .lit (.int .u8 35), .lit (.int .u8 44), .lit (.int .u8 21), .lit (.int .u8 52), .lit (.int .u8 32), .lit (.int .u8 23), .lit (.int .u8 11), .lit (.int .u8 54), .lit (.int .u8 26), .lit (.int .u8 40), .lit (.int .u8 15), .lit (.int .u8 34), .lit (.int .u8 20), .lit (.int .u8 31), .lit (.int .u8 10), .lit (.int .u8 25), .lit (.int .u8 14), .lit (.int .u8 19), .lit (.int .u8 9), .lit (.int .u8 13), .lit (.int .u8 8), .lit (.int .u8 7), .lit (.int .u8 6)]
def laid_internal_strconv_uint64pow10 {H : Type} : DataW H := .agg [.lit (.int .u64 1), .lit (.int .u64 10), .lit (.int .u64 100), .lit (.int .u64 1000), .lit (.int .u64 10000), .lit (.int .u64 100000), .lit (.int .u64 1000000), .lit (.int .u64 10000000), .lit (.int .u64 100000000), .lit (.int .u64 1000000000), .lit (.int .u64 10000000000), .lit (.int .u64 100000000000), .lit (.int .u64 1000000000000), .lit (.int .u64 10000000000000), .lit (.int .u64 100000000000000), .lit (.int .u64 1000000000000000), .lit (.int .u64 10000000000000000), .lit (.int .u64 100000000000000000), .lit (.int .u64 1000000000000000000), .lit (.int .u64 10000000000000000000)]

/-- 'laws.FnWords': WHATEVER THE INPUT: true; the input reads as it did. -/
def fnWordsSpec : ChangeSpec := { name := "fnWords", fn := fun _ => fun
  | [d] => { results := [.lit (.bool true)], args := [d] }
  | _ => none }
def fnWordsRow : OpenClaim := { program := "ytaoegcfifdjbkaadoor", sum := "1339c1d67b7440b63689a028b999e29baf63b38d44585f61a26cb2518173ee67", func := "loop.example/g00665/laws.FnWords", spec := "fnWords", inPlace := ["internal/bytealg.IndexByteString", "internal/bytealg.IndexString"], unfollowed := true, recurses := true, named := ["unicode/utf8.first", "unicode/utf8.acceptRanges", "internal/bytealg.MaxLen"], apart := false, laid := [("unicode/utf8.acceptRanges", laid_unicode_utf8_acceptRanges), ("unicode/utf8.first", laid_unicode_utf8_first)] }
def FnWordsSaid : Prop := fnWordsRow.holds Tryd.pinned (OpenSpec.ofChange fnWordsSpec)

/-- ITS FALSE NEIGHBOUR: 'it returns false'. Refute it at one input. -/
def fnWordsWrong : ChangeSpec := { name := "fnWords", fn := fun _ => fun
  | [d] => { results := [.lit (.bool false)], args := [d] }
  | _ => none }
def FnWordsWrongFalsely : Prop := fnWordsRow.holds Tryd.pinned (OpenSpec.ofChange fnWordsWrong)

/-- 'laws.FnExactFormatDate': WHATEVER THE INPUT: true; the input reads as it did. -/
def fnExactFormatDateSpec : ChangeSpec := { name := "fnExactFormatDate", fn := fun _ => fun
  | [d] => { results := [.lit (.bool true)], args := [d] }
  | _ => none }
def fnExactFormatDateRow : OpenClaim := { program := "ytaoegcfifdjbkaadoor", sum := "1339c1d67b7440b63689a028b999e29baf63b38d44585f61a26cb2518173ee67", func := "loop.example/g00665/laws.FnExactFormatDate", spec := "fnExactFormatDate", named := ["internal/strconv.uint64pow10", "math/bits.deBruijn32tab", "math/bits.deBruijn64tab"], apart := false, laid := [("math/bits.deBruijn32tab", laid_math_bits_deBruijn32tab), ("math/bits.deBruijn64tab", laid_math_bits_deBruijn64tab), ("internal/strconv.uint64pow10", laid_internal_strconv_uint64pow10)] }
def FnExactFormatDateSaid : Prop := fnExactFormatDateRow.holds Tryd.pinned (OpenSpec.ofChange fnExactFormatDateSpec)

/-- ITS FALSE NEIGHBOUR: 'it returns false'. Refute it at one input. -/
def fnExactFormatDateWrong : ChangeSpec := { name := "fnExactFormatDate", fn := fun _ => fun
  | [d] => { results := [.lit (.bool false)], args := [d] }
  | _ => none }
def FnExactFormatDateWrongFalsely : Prop := fnExactFormatDateRow.holds Tryd.pinned (OpenSpec.ofChange fnExactFormatDateWrong)

/-- 'laws.FnExactDropHeader': WHATEVER THE INPUT: true; the input reads as it did. -/
def fnExactDropHeaderSpec : ChangeSpec := { name := "fnExactDropHeader", fn := fun _ => fun
  | [d1, d2] => { results := [.lit (.bool true)], args := [d1, d2] }
  | _ => none }
def fnExactDropHeaderRow : OpenClaim := { program := "ytaoegcfifdjbkaadoor", sum := "1339c1d67b7440b63689a028b999e29baf63b38d44585f61a26cb2518173ee67", func := "loop.example/g00665/laws.FnExactDropHeader", spec := "fnExactDropHeader", inPlace := ["internal/bytealg.IndexByteString", "internal/bytealg.IndexString"], unfollowed := true, recurses := true, named := ["unicode/utf8.first", "unicode/utf8.acceptRanges", "internal/bytealg.MaxLen"], apart := false, laid := [("unicode/utf8.acceptRanges", laid_unicode_utf8_acceptRanges), ("unicode/utf8.first", laid_unicode_utf8_first)] }
def FnExactDropHeaderSaid : Prop := fnExactDropHeaderRow.holds Tryd.pinned (OpenSpec.ofChange fnExactDropHeaderSpec)

/-- ITS FALSE NEIGHBOUR: 'it returns false'. Refute it at one input. -/
def fnExactDropHeaderWrong : ChangeSpec := { name := "fnExactDropHeader", fn := fun _ => fun
  | [d1, d2] => { results := [.lit (.bool false)], args := [d1, d2] }
  | _ => none }
def FnExactDropHeaderWrongFalsely : Prop := fnExactDropHeaderRow.holds Tryd.pinned (OpenSpec.ofChange fnExactDropHeaderWrong)

/-- 'laws.FnExactPackHeaders': WHATEVER THE INPUT: true; the input reads as it did. -/
def fnExactPackHeadersSpec : ChangeSpec := { name := "fnExactPackHeaders", fn := fun _ => fun
  | [d] => { results := [.lit (.bool true)], args := [d] }
  | _ => none }
def fnExactPackHeadersRow : OpenClaim := { program := "ytaoegcfifdjbkaadoor", sum := "1339c1d67b7440b63689a028b999e29baf63b38d44585f61a26cb2518173ee67", func := "loop.example/g00665/laws.FnExactPackHeaders", spec := "fnExactPackHeaders", inPlace := ["internal/bytealg.IndexByteString", "internal/bytealg.IndexString", "internal/abi.NoEscape"], unfollowed := true, recurses := true, named := ["unicode/utf8.first", "unicode/utf8.acceptRanges", "internal/bytealg.MaxLen"], apart := false, laid := [("unicode/utf8.acceptRanges", laid_unicode_utf8_acceptRanges), ("unicode/utf8.first", laid_unicode_utf8_first)] }
def FnExactPackHeadersSaid : Prop := fnExactPackHeadersRow.holds Tryd.pinned (OpenSpec.ofChange fnExactPackHeadersSpec)

/-- ITS FALSE NEIGHBOUR: 'it returns false'. Refute it at one input. -/
def fnExactPackHeadersWrong : ChangeSpec := { name := "fnExactPackHeaders", fn := fun _ => fun
  | [d] => { results := [.lit (.bool false)], args := [d] }
  | _ => none }
def FnExactPackHeadersWrongFalsely : Prop := fnExactPackHeadersRow.holds Tryd.pinned (OpenSpec.ofChange fnExactPackHeadersWrong)

/-- 'laws.FnExactJoinHeader': WHATEVER THE INPUT: true; the input reads as it did. -/
def fnExactJoinHeaderSpec : ChangeSpec := { name := "fnExactJoinHeader", fn := fun _ => fun
  | [d1, d2] => { results := [.lit (.bool true)], args := [d1, d2] }
  | _ => none }
def fnExactJoinHeaderRow : OpenClaim := { program := "ytaoegcfifdjbkaadoor", sum := "1339c1d67b7440b63689a028b999e29baf63b38d44585f61a26cb2518173ee67", func := "loop.example/g00665/laws.FnExactJoinHeader", spec := "fnExactJoinHeader", inPlace := ["internal/bytealg.IndexByteString", "internal/bytealg.IndexString", "internal/abi.NoEscape", "internal/bytealg.MakeNoZero"], unfollowed := true, recurses := true, named := ["unicode/utf8.first", "unicode/utf8.acceptRanges", "internal/bytealg.MaxLen"], apart := false, laid := [("unicode/utf8.acceptRanges", laid_unicode_utf8_acceptRanges), ("unicode/utf8.first", laid_unicode_utf8_first)] }
def FnExactJoinHeaderSaid : Prop := fnExactJoinHeaderRow.holds Tryd.pinned (OpenSpec.ofChange fnExactJoinHeaderSpec)

/-- ITS FALSE NEIGHBOUR: 'it returns false'. Refute it at one input. -/
def fnExactJoinHeaderWrong : ChangeSpec := { name := "fnExactJoinHeader", fn := fun _ => fun
  | [d1, d2] => { results := [.lit (.bool false)], args := [d1, d2] }
  | _ => none }
def FnExactJoinHeaderWrongFalsely : Prop := fnExactJoinHeaderRow.holds Tryd.pinned (OpenSpec.ofChange fnExactJoinHeaderWrong)

/-- 'laws.FnExactSetHeader': WHATEVER THE INPUT: true; the input reads as it did. -/
def fnExactSetHeaderSpec : ChangeSpec := { name := "fnExactSetHeader", fn := fun _ => fun
  | [d1, d2, d3] => { results := [.lit (.bool true)], args := [d1, d2, d3] }
  | _ => none }
def fnExactSetHeaderRow : OpenClaim := { program := "ytaoegcfifdjbkaadoor", sum := "1339c1d67b7440b63689a028b999e29baf63b38d44585f61a26cb2518173ee67", func := "loop.example/g00665/laws.FnExactSetHeader", spec := "fnExactSetHeader", inPlace := ["internal/bytealg.IndexByteString", "internal/bytealg.IndexString", "slices.overlaps[loop.example/g00665/impl.Header]"], unfollowed := true, recurses := true, named := ["unicode/utf8.first", "unicode/utf8.acceptRanges", "internal/bytealg.MaxLen"], apart := false, laid := [("unicode/utf8.acceptRanges", laid_unicode_utf8_acceptRanges), ("unicode/utf8.first", laid_unicode_utf8_first)] }
def FnExactSetHeaderSaid : Prop := fnExactSetHeaderRow.holds Tryd.pinned (OpenSpec.ofChange fnExactSetHeaderSpec)

/-- ITS FALSE NEIGHBOUR: 'it returns false'. Refute it at one input. -/
def fnExactSetHeaderWrong : ChangeSpec := { name := "fnExactSetHeader", fn := fun _ => fun
  | [d1, d2, d3] => { results := [.lit (.bool false)], args := [d1, d2, d3] }
  | _ => none }
def FnExactSetHeaderWrongFalsely : Prop := fnExactSetHeaderRow.holds Tryd.pinned (OpenSpec.ofChange fnExactSetHeaderWrong)

/-- 'laws.FnExactReadHeaders': WHATEVER THE INPUT: true; the input reads as it did. -/
def fnExactReadHeadersSpec : ChangeSpec := { name := "fnExactReadHeaders", fn := fun _ => fun
  | [d] => { results := [.lit (.bool true)], args := [d] }
  | _ => none }
def fnExactReadHeadersRow : OpenClaim := { program := "ytaoegcfifdjbkaadoor", sum := "1339c1d67b7440b63689a028b999e29baf63b38d44585f61a26cb2518173ee67", func := "loop.example/g00665/laws.FnExactReadHeaders", spec := "fnExactReadHeaders", inPlace := ["internal/bytealg.CountString", "internal/bytealg.IndexByteString", "internal/bytealg.IndexString"], unfollowed := true, recurses := true, named := ["unicode/utf8.first", "unicode/utf8.acceptRanges", "internal/bytealg.MaxLen"], apart := false, laid := [("unicode/utf8.acceptRanges", laid_unicode_utf8_acceptRanges), ("unicode/utf8.first", laid_unicode_utf8_first)] }
def FnExactReadHeadersSaid : Prop := fnExactReadHeadersRow.holds Tryd.pinned (OpenSpec.ofChange fnExactReadHeadersSpec)

/-- ITS FALSE NEIGHBOUR: 'it returns false'. Refute it at one input. -/
def fnExactReadHeadersWrong : ChangeSpec := { name := "fnExactReadHeaders", fn := fun _ => fun
  | [d] => { results := [.lit (.bool false)], args := [d] }
  | _ => none }
def FnExactReadHeadersWrongFalsely : Prop := fnExactReadHeadersRow.holds Tryd.pinned (OpenSpec.ofChange fnExactReadHeadersWrong)

/-- 'laws.FnExactPackRequest': WHATEVER THE INPUT: true; the input reads as it did. -/
def fnExactPackRequestSpec : ChangeSpec := { name := "fnExactPackRequest", fn := fun _ => fun
  | [d] => { results := [.lit (.bool true)], args := [d] }
  | _ => none }
def fnExactPackRequestRow : OpenClaim := { program := "ytaoegcfifdjbkaadoor", sum := "1339c1d67b7440b63689a028b999e29baf63b38d44585f61a26cb2518173ee67", func := "loop.example/g00665/laws.FnExactPackRequest", spec := "fnExactPackRequest", inPlace := ["internal/bytealg.IndexByteString", "internal/bytealg.IndexString", "internal/abi.NoEscape"], unfollowed := true, recurses := true, named := ["unicode/utf8.first", "unicode/utf8.acceptRanges", "internal/bytealg.MaxLen"], apart := false, laid := [("unicode/utf8.acceptRanges", laid_unicode_utf8_acceptRanges), ("unicode/utf8.first", laid_unicode_utf8_first)] }
def FnExactPackRequestSaid : Prop := fnExactPackRequestRow.holds Tryd.pinned (OpenSpec.ofChange fnExactPackRequestSpec)

/-- ITS FALSE NEIGHBOUR: 'it returns false'. Refute it at one input. -/
def fnExactPackRequestWrong : ChangeSpec := { name := "fnExactPackRequest", fn := fun _ => fun
  | [d] => { results := [.lit (.bool false)], args := [d] }
  | _ => none }
def FnExactPackRequestWrongFalsely : Prop := fnExactPackRequestRow.holds Tryd.pinned (OpenSpec.ofChange fnExactPackRequestWrong)

/-- 'laws.FnExactPackResponse': WHATEVER THE INPUT: true; the input reads as it did. -/
def fnExactPackResponseSpec : ChangeSpec := { name := "fnExactPackResponse", fn := fun _ => fun
  | [d] => { results := [.lit (.bool true)], args := [d] }
  | _ => none }
def fnExactPackResponseRow : OpenClaim := { program := "ytaoegcfifdjbkaadoor", sum := "1339c1d67b7440b63689a028b999e29baf63b38d44585f61a26cb2518173ee67", func := "loop.example/g00665/laws.FnExactPackResponse", spec := "fnExactPackResponse", inPlace := ["internal/bytealg.IndexByteString", "internal/bytealg.IndexString", "internal/abi.NoEscape"], unfollowed := true, recurses := true, named := ["unicode/utf8.first", "unicode/utf8.acceptRanges", "internal/strconv.uint64pow10", "math/bits.deBruijn32tab", "math/bits.deBruijn64tab", "internal/bytealg.MaxLen"], apart := false, laid := [("math/bits.deBruijn32tab", laid_math_bits_deBruijn32tab), ("math/bits.deBruijn64tab", laid_math_bits_deBruijn64tab), ("internal/strconv.uint64pow10", laid_internal_strconv_uint64pow10), ("unicode/utf8.acceptRanges", laid_unicode_utf8_acceptRanges), ("unicode/utf8.first", laid_unicode_utf8_first)] }
def FnExactPackResponseSaid : Prop := fnExactPackResponseRow.holds Tryd.pinned (OpenSpec.ofChange fnExactPackResponseSpec)

/-- ITS FALSE NEIGHBOUR: 'it returns false'. Refute it at one input. -/
def fnExactPackResponseWrong : ChangeSpec := { name := "fnExactPackResponse", fn := fun _ => fun
  | [d] => { results := [.lit (.bool false)], args := [d] }
  | _ => none }
def FnExactPackResponseWrongFalsely : Prop := fnExactPackResponseRow.holds Tryd.pinned (OpenSpec.ofChange fnExactPackResponseWrong)

/-- 'laws.FnExactParseItems': WHATEVER THE INPUT: true; the input reads as it did. -/
def fnExactParseItemsSpec : ChangeSpec := { name := "fnExactParseItems", fn := fun _ => fun
  | [d] => { results := [.lit (.bool true)], args := [d] }
  | _ => none }
def fnExactParseItemsRow : OpenClaim := { program := "ytaoegcfifdjbkaadoor", sum := "1339c1d67b7440b63689a028b999e29baf63b38d44585f61a26cb2518173ee67", func := "loop.example/g00665/laws.FnExactParseItems", spec := "fnExactParseItems", inPlace := ["internal/bytealg.IndexByteString", "internal/bytealg.IndexString"], unfollowed := true, recurses := true, named := ["unicode/utf8.first", "unicode/utf8.acceptRanges", "internal/bytealg.MaxLen"], apart := false, laid := [("unicode/utf8.acceptRanges", laid_unicode_utf8_acceptRanges), ("unicode/utf8.first", laid_unicode_utf8_first)] }
def FnExactParseItemsSaid : Prop := fnExactParseItemsRow.holds Tryd.pinned (OpenSpec.ofChange fnExactParseItemsSpec)

/-- ITS FALSE NEIGHBOUR: 'it returns false'. Refute it at one input. -/
def fnExactParseItemsWrong : ChangeSpec := { name := "fnExactParseItems", fn := fun _ => fun
  | [d] => { results := [.lit (.bool false)], args := [d] }
  | _ => none }
def FnExactParseItemsWrongFalsely : Prop := fnExactParseItemsRow.holds Tryd.pinned (OpenSpec.ofChange fnExactParseItemsWrong)

/- THE SECOND FORM. 'bulk': how many values and letters a reading holds, each counted each time it is reached (what is shared counts as often as it is met; a slice's spare places count too). A statement '..UptoSaid' is the law's where the arguments, and the package variables that the reading takes, are together of bulk at most 1048576: NARROWER than '..Said'. Prove '..Said' where nothing that the law and all that it calls make is longer than what came in: it says more and counts as full. Else prove '..UptoSaid'. A law counts once. -/
mutual
def uptoBulk {H : Type} : DataW H → Nat
  | .lit (.string bytes) => bytes.length + 1
  | .lit _ => 1
  | .nil => 1
  | .ptr d => uptoBulk d + 1
  | .slice elems spare => uptoBulkAll elems + uptoBulkAll spare + 1
  | .agg parts => uptoBulkAll parts + 1
  | .iface _ d => uptoBulk d + 1
  | .map entries => uptoBulkEntries entries + 1
  | .held _ => 1
def uptoBulkAll {H : Type} : List (DataW H) → Nat
  | [] => 0
  | d :: r => uptoBulk d + uptoBulkAll r
def uptoBulkEntries {H : Type} : List (Lit × DataW H) → Nat
  | [] => 0
  | x :: r => uptoBulkEntry x + uptoBulkEntries r
def uptoBulkEntry {H : Type} : Lit × DataW H → Nat
  | (.string bytes, d) => bytes.length + uptoBulk d + 1
  | (_, d) => uptoBulk d + 1
 end
def uptoSmall : (H : Type) → List (DataW H) → Bool := fun _ ds => decide (uptoBulkAll ds ≤ 1048576)
def OpenSpec.upto (s : _root_.Go.ChangeSpec) : _root_.Go.OpenSpec := { _root_.Go.OpenSpec.ofChange s with cond := some uptoSmall }

/-- 'laws.FnWords', WHERE WHAT IT READS IS OF BULK AT MOST 1048576: true; the input reads as it did. -/
def fnWordsUptoRow : OpenClaim := { program := "ytaoegcfifdjbkaadoor", sum := "1339c1d67b7440b63689a028b999e29baf63b38d44585f61a26cb2518173ee67", func := "loop.example/g00665/laws.FnWords", spec := "fnWords", inPlace := ["internal/bytealg.IndexByteString", "internal/bytealg.IndexString"], unfollowed := true, recurses := true, named := ["unicode/utf8.first", "unicode/utf8.acceptRanges", "internal/bytealg.MaxLen"], apart := false, laid := [("unicode/utf8.acceptRanges", laid_unicode_utf8_acceptRanges), ("unicode/utf8.first", laid_unicode_utf8_first)], narrowed := true }
def FnWordsUptoSaid : Prop := fnWordsUptoRow.holds Tryd.pinned (OpenSpec.upto fnWordsSpec)

/-- 'laws.FnExactFormatDate', WHERE WHAT IT READS IS OF BULK AT MOST 1048576: true; the input reads as it did. -/
def fnExactFormatDateUptoRow : OpenClaim := { program := "ytaoegcfifdjbkaadoor", sum := "1339c1d67b7440b63689a028b999e29baf63b38d44585f61a26cb2518173ee67", func := "loop.example/g00665/laws.FnExactFormatDate", spec := "fnExactFormatDate", named := ["internal/strconv.uint64pow10", "math/bits.deBruijn32tab", "math/bits.deBruijn64tab"], apart := false, laid := [("math/bits.deBruijn32tab", laid_math_bits_deBruijn32tab), ("math/bits.deBruijn64tab", laid_math_bits_deBruijn64tab), ("internal/strconv.uint64pow10", laid_internal_strconv_uint64pow10)], narrowed := true }
def FnExactFormatDateUptoSaid : Prop := fnExactFormatDateUptoRow.holds Tryd.pinned (OpenSpec.upto fnExactFormatDateSpec)

/-- 'laws.FnExactDropHeader', WHERE WHAT IT READS IS OF BULK AT MOST 1048576: true; the input reads as it did. -/
def fnExactDropHeaderUptoRow : OpenClaim := { program := "ytaoegcfifdjbkaadoor", sum := "1339c1d67b7440b63689a028b999e29baf63b38d44585f61a26cb2518173ee67", func := "loop.example/g00665/laws.FnExactDropHeader", spec := "fnExactDropHeader", inPlace := ["internal/bytealg.IndexByteString", "internal/bytealg.IndexString"], unfollowed := true, recurses := true, named := ["unicode/utf8.first", "unicode/utf8.acceptRanges", "internal/bytealg.MaxLen"], apart := false, laid := [("unicode/utf8.acceptRanges", laid_unicode_utf8_acceptRanges), ("unicode/utf8.first", laid_unicode_utf8_first)], narrowed := true }
def FnExactDropHeaderUptoSaid : Prop := fnExactDropHeaderUptoRow.holds Tryd.pinned (OpenSpec.upto fnExactDropHeaderSpec)

/-- 'laws.FnExactPackHeaders', WHERE WHAT IT READS IS OF BULK AT MOST 1048576: true; the input reads as it did. -/
def fnExactPackHeadersUptoRow : OpenClaim := { program := "ytaoegcfifdjbkaadoor", sum := "1339c1d67b7440b63689a028b999e29baf63b38d44585f61a26cb2518173ee67", func := "loop.example/g00665/laws.FnExactPackHeaders", spec := "fnExactPackHeaders", inPlace := ["internal/bytealg.IndexByteString", "internal/bytealg.IndexString", "internal/abi.NoEscape"], unfollowed := true, recurses := true, named := ["unicode/utf8.first", "unicode/utf8.acceptRanges", "internal/bytealg.MaxLen"], apart := false, laid := [("unicode/utf8.acceptRanges", laid_unicode_utf8_acceptRanges), ("unicode/utf8.first", laid_unicode_utf8_first)], narrowed := true }
def FnExactPackHeadersUptoSaid : Prop := fnExactPackHeadersUptoRow.holds Tryd.pinned (OpenSpec.upto fnExactPackHeadersSpec)

/-- 'laws.FnExactJoinHeader', WHERE WHAT IT READS IS OF BULK AT MOST 1048576: true; the input reads as it did. -/
def fnExactJoinHeaderUptoRow : OpenClaim := { program := "ytaoegcfifdjbkaadoor", sum := "1339c1d67b7440b63689a028b999e29baf63b38d44585f61a26cb2518173ee67", func := "loop.example/g00665/laws.FnExactJoinHeader", spec := "fnExactJoinHeader", inPlace := ["internal/bytealg.IndexByteString", "internal/bytealg.IndexString", "internal/abi.NoEscape", "internal/bytealg.MakeNoZero"], unfollowed := true, recurses := true, named := ["unicode/utf8.first", "unicode/utf8.acceptRanges", "internal/bytealg.MaxLen"], apart := false, laid := [("unicode/utf8.acceptRanges", laid_unicode_utf8_acceptRanges), ("unicode/utf8.first", laid_unicode_utf8_first)], narrowed := true }
def FnExactJoinHeaderUptoSaid : Prop := fnExactJoinHeaderUptoRow.holds Tryd.pinned (OpenSpec.upto fnExactJoinHeaderSpec)

/-- 'laws.FnExactSetHeader', WHERE WHAT IT READS IS OF BULK AT MOST 1048576: true; the input reads as it did. -/
def fnExactSetHeaderUptoRow : OpenClaim := { program := "ytaoegcfifdjbkaadoor", sum := "1339c1d67b7440b63689a028b999e29baf63b38d44585f61a26cb2518173ee67", func := "loop.example/g00665/laws.FnExactSetHeader", spec := "fnExactSetHeader", inPlace := ["internal/bytealg.IndexByteString", "internal/bytealg.IndexString", "slices.overlaps[loop.example/g00665/impl.Header]"], unfollowed := true, recurses := true, named := ["unicode/utf8.first", "unicode/utf8.acceptRanges", "internal/bytealg.MaxLen"], apart := false, laid := [("unicode/utf8.acceptRanges", laid_unicode_utf8_acceptRanges), ("unicode/utf8.first", laid_unicode_utf8_first)], narrowed := true }
def FnExactSetHeaderUptoSaid : Prop := fnExactSetHeaderUptoRow.holds Tryd.pinned (OpenSpec.upto fnExactSetHeaderSpec)

/-- 'laws.FnExactReadHeaders', WHERE WHAT IT READS IS OF BULK AT MOST 1048576: true; the input reads as it did. -/
def fnExactReadHeadersUptoRow : OpenClaim := { program := "ytaoegcfifdjbkaadoor", sum := "1339c1d67b7440b63689a028b999e29baf63b38d44585f61a26cb2518173ee67", func := "loop.example/g00665/laws.FnExactReadHeaders", spec := "fnExactReadHeaders", inPlace := ["internal/bytealg.CountString", "internal/bytealg.IndexByteString", "internal/bytealg.IndexString"], unfollowed := true, recurses := true, named := ["unicode/utf8.first", "unicode/utf8.acceptRanges", "internal/bytealg.MaxLen"], apart := false, laid := [("unicode/utf8.acceptRanges", laid_unicode_utf8_acceptRanges), ("unicode/utf8.first", laid_unicode_utf8_first)], narrowed := true }
def FnExactReadHeadersUptoSaid : Prop := fnExactReadHeadersUptoRow.holds Tryd.pinned (OpenSpec.upto fnExactReadHeadersSpec)

/-- 'laws.FnExactPackRequest', WHERE WHAT IT READS IS OF BULK AT MOST 1048576: true; the input reads as it did. -/
def fnExactPackRequestUptoRow : OpenClaim := { program := "ytaoegcfifdjbkaadoor", sum := "1339c1d67b7440b63689a028b999e29baf63b38d44585f61a26cb2518173ee67", func := "loop.example/g00665/laws.FnExactPackRequest", spec := "fnExactPackRequest", inPlace := ["internal/bytealg.IndexByteString", "internal/bytealg.IndexString", "internal/abi.NoEscape"], unfollowed := true, recurses := true, named := ["unicode/utf8.first", "unicode/utf8.acceptRanges", "internal/bytealg.MaxLen"], apart := false, laid := [("unicode/utf8.acceptRanges", laid_unicode_utf8_acceptRanges), ("unicode/utf8.first", laid_unicode_utf8_first)], narrowed := true }
def FnExactPackRequestUptoSaid : Prop := fnExactPackRequestUptoRow.holds Tryd.pinned (OpenSpec.upto fnExactPackRequestSpec)

/-- 'laws.FnExactPackResponse', WHERE WHAT IT READS IS OF BULK AT MOST 1048576: true; the input reads as it did. -/
def fnExactPackResponseUptoRow : OpenClaim := { program := "ytaoegcfifdjbkaadoor", sum := "1339c1d67b7440b63689a028b999e29baf63b38d44585f61a26cb2518173ee67", func := "loop.example/g00665/laws.FnExactPackResponse", spec := "fnExactPackResponse", inPlace := ["internal/bytealg.IndexByteString", "internal/bytealg.IndexString", "internal/abi.NoEscape"], unfollowed := true, recurses := true, named := ["unicode/utf8.first", "unicode/utf8.acceptRanges", "internal/strconv.uint64pow10", "math/bits.deBruijn32tab", "math/bits.deBruijn64tab", "internal/bytealg.MaxLen"], apart := false, laid := [("math/bits.deBruijn32tab", laid_math_bits_deBruijn32tab), ("math/bits.deBruijn64tab", laid_math_bits_deBruijn64tab), ("internal/strconv.uint64pow10", laid_internal_strconv_uint64pow10), ("unicode/utf8.acceptRanges", laid_unicode_utf8_acceptRanges), ("unicode/utf8.first", laid_unicode_utf8_first)], narrowed := true }
def FnExactPackResponseUptoSaid : Prop := fnExactPackResponseUptoRow.holds Tryd.pinned (OpenSpec.upto fnExactPackResponseSpec)

/-- 'laws.FnExactParseItems', WHERE WHAT IT READS IS OF BULK AT MOST 1048576: true; the input reads as it did. -/
def fnExactParseItemsUptoRow : OpenClaim := { program := "ytaoegcfifdjbkaadoor", sum := "1339c1d67b7440b63689a028b999e29baf63b38d44585f61a26cb2518173ee67", func := "loop.example/g00665/laws.FnExactParseItems", spec := "fnExactParseItems", inPlace := ["internal/bytealg.IndexByteString", "internal/bytealg.IndexString"], unfollowed := true, recurses := true, named := ["unicode/utf8.first", "unicode/utf8.acceptRanges", "internal/bytealg.MaxLen"], apart := false, laid := [("unicode/utf8.acceptRanges", laid_unicode_utf8_acceptRanges), ("unicode/utf8.first", laid_unicode_utf8_first)], narrowed := true }
def FnExactParseItemsUptoSaid : Prop := fnExactParseItemsUptoRow.holds Tryd.pinned (OpenSpec.upto fnExactParseItemsSpec)

end Rows
end Go.Proofs.YtaoegcfifdjbkaaDoor
