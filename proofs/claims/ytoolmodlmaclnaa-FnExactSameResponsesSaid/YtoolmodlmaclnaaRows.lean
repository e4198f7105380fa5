/-
  No cell of these rows narrows 'for every input' (looked for: loops, veiled, ifaces, maps, wideKeys, modest, calm, conditions, laid).
  DERIVED. THE GIVEN ROWS OF THIS SEAT. 11 by the template 'for every input the law returns true; each argument reads behind the call as it read before'; 0 by the template 'total and deterministic' (their statements: YtoolmodlmaclnaaTotals.lean).
  GIVEN WITH THE SEED: the statements are not yours to turn. If you find one false, say at which input.
  Laid BY PROGRAM, IN A SANDBOX (cutbox-rows.mjs): the forced cells as the released guide's own fill.sh prints them over the translation 1b63702a4f505c26… (all of the seat's roots in one cut). By AI agents, Wed Nov 11 2026. No macro, syntax, notation, axiom, sorry.
-/
import Derived.Test.YtoolmodlmaclnaaChecked
import GoSem.Claim
import GoSem.ClaimJoined
import GoSem.ClaimMapViews
import Derived.JoinedTies
import Derived.KernelRfl
namespace Go.Proofs.Ytoolmodlmaclnaa
/- THE CELL 'sum', in the pinned program and in every row, IS THE sha256 OF THE DUMP (.gsa) THAT YtoolmodlmaclnaaProg.lean LOADS. Nothing in Lean hashes anything: it is a label: what it is worth is what the hold of that sum in a sandbox is worth. -/
noncomputable def Try.pinned : Pinned := { name := "ytoolmodlmaclnaa", sum := "1b63702a4f505c269d20aa639352fffb5613aecf765af926b3db7e8f399f3713", checked := Try.checked }
namespace Rows
def none {H : Type} : Left H := { results := [], args := [] }

/-- 'laws.FnExactDaysOf': WHATEVER THE INPUT: true; the input reads as it did. -/
def fnExactDaysOfSpec : ChangeSpec := { name := "fnExactDaysOf", fn := fun _ => fun
  | [d1, d2, d3] => { results := [.lit (.bool true)], args := [d1, d2, d3] }
  | _ => none }
def fnExactDaysOfRow : OpenClaim := { program := "ytoolmodlmaclnaa", sum := "1b63702a4f505c269d20aa639352fffb5613aecf765af926b3db7e8f399f3713", func := "loop.example/g00665/laws.FnExactDaysOf", spec := "fnExactDaysOf", apart := false }
def FnExactDaysOfSaid : Prop := fnExactDaysOfRow.holds Try.pinned (OpenSpec.ofChange fnExactDaysOfSpec)

/-- ITS FALSE NEIGHBOUR: 'it returns false'. Refute it at one input. -/
def fnExactDaysOfWrong : ChangeSpec := { name := "fnExactDaysOf", fn := fun _ => fun
  | [d1, d2, d3] => { results := [.lit (.bool false)], args := [d1, d2, d3] }
  | _ => none }
def FnExactDaysOfWrongFalsely : Prop := fnExactDaysOfRow.holds Try.pinned (OpenSpec.ofChange fnExactDaysOfWrong)

/-- 'laws.FnExactSameItems': WHATEVER THE INPUT: true; the input reads as it did. -/
def fnExactSameItemsSpec : ChangeSpec := { name := "fnExactSameItems", fn := fun _ => fun
  | [d1, d2] => { results := [.lit (.bool true)], args := [d1, d2] }
  | _ => none }
def fnExactSameItemsRow : OpenClaim := { program := "ytoolmodlmaclnaa", sum := "1b63702a4f505c269d20aa639352fffb5613aecf765af926b3db7e8f399f3713", func := "loop.example/g00665/laws.FnExactSameItems", spec := "fnExactSameItems", apart := false }
def FnExactSameItemsSaid : Prop := fnExactSameItemsRow.holds Try.pinned (OpenSpec.ofChange fnExactSameItemsSpec)

/-- ITS FALSE NEIGHBOUR: 'it returns false'. Refute it at one input. -/
def fnExactSameItemsWrong : ChangeSpec := { name := "fnExactSameItems", fn := fun _ => fun
  | [d1, d2] => { results := [.lit (.bool false)], args := [d1, d2] }
  | _ => none }
def FnExactSameItemsWrongFalsely : Prop := fnExactSameItemsRow.holds Try.pinned (OpenSpec.ofChange fnExactSameItemsWrong)

/-- 'laws.FnExactUnquoteText': WHATEVER THE INPUT: true; the input reads as it did. -/
def fnExactUnquoteTextSpec : ChangeSpec := { name := "fnExactUnquoteText", fn := fun _ => fun
  | [d] => { results := [.lit (.bool true)], args := [d] }
  | _ => none }
def fnExactUnquoteTextRow : OpenClaim := { program := "ytoolmodlmaclnaa", sum := "1b63702a4f505c269d20aa639352fffb5613aecf765af926b3db7e8f399f3713", func := "loop.example/g00665/laws.FnExactUnquoteText", spec := "fnExactUnquoteText", unfollowed := true, recurses := true, apart := false }
def FnExactUnquoteTextSaid : Prop := fnExactUnquoteTextRow.holds Try.pinned (OpenSpec.ofChange fnExactUnquoteTextSpec)

/-- ITS FALSE NEIGHBOUR: 'it returns false'. Refute it at one input. -/
def fnExactUnquoteTextWrong : ChangeSpec := { name := "fnExactUnquoteText", fn := fun _ => fun
  | [d] => { results := [.lit (.bool false)], args := [d] }
  | _ => none }
def FnExactUnquoteTextWrongFalsely : Prop := fnExactUnquoteTextRow.holds Try.pinned (OpenSpec.ofChange fnExactUnquoteTextWrong)

/-- 'laws.FnExactItemFault': WHATEVER THE INPUT: true; the input reads as it did. -/
def fnExactItemFaultSpec : ChangeSpec := { name := "fnExactItemFault", fn := fun _ => fun
  | [d] => { results := [.lit (.bool true)], args := [d] }
  | _ => none }
def fnExactItemFaultRow : OpenClaim := { program := "ytoolmodlmaclnaa", sum := "1b63702a4f505c269d20aa639352fffb5613aecf765af926b3db7e8f399f3713", func := "loop.example/g00665/laws.FnExactItemFault", spec := "fnExactItemFault", inPlace := ["internal/bytealg.IndexByteString"], unfollowed := true, recurses := true, apart := false }
def FnExactItemFaultSaid : Prop := fnExactItemFaultRow.holds Try.pinned (OpenSpec.ofChange fnExactItemFaultSpec)

/-- ITS FALSE NEIGHBOUR: 'it returns false'. Refute it at one input. -/
def fnExactItemFaultWrong : ChangeSpec := { name := "fnExactItemFault", fn := fun _ => fun
  | [d] => { results := [.lit (.bool false)], args := [d] }
  | _ => none }
def FnExactItemFaultWrongFalsely : Prop := fnExactItemFaultRow.holds Try.pinned (OpenSpec.ofChange fnExactItemFaultWrong)

/-- 'laws.FnExactSecondsOf': WHATEVER THE INPUT: true; the input reads as it did. -/
def fnExactSecondsOfSpec : ChangeSpec := { name := "fnExactSecondsOf", fn := fun _ => fun
  | [d] => { results := [.lit (.bool true)], args := [d] }
  | _ => none }
def fnExactSecondsOfRow : OpenClaim := { program := "ytoolmodlmaclnaa", sum := "1b63702a4f505c269d20aa639352fffb5613aecf765af926b3db7e8f399f3713", func := "loop.example/g00665/laws.FnExactSecondsOf", spec := "fnExactSecondsOf", apart := false }
def FnExactSecondsOfSaid : Prop := fnExactSecondsOfRow.holds Try.pinned (OpenSpec.ofChange fnExactSecondsOfSpec)

/-- ITS FALSE NEIGHBOUR: 'it returns false'. Refute it at one input. -/
def fnExactSecondsOfWrong : ChangeSpec := { name := "fnExactSecondsOf", fn := fun _ => fun
  | [d] => { results := [.lit (.bool false)], args := [d] }
  | _ => none }
def FnExactSecondsOfWrongFalsely : Prop := fnExactSecondsOfRow.holds Try.pinned (OpenSpec.ofChange fnExactSecondsOfWrong)

/-- 'laws.FnExactDateAt': WHATEVER THE INPUT: true; the input reads as it did. -/
def fnExactDateAtSpec : ChangeSpec := { name := "fnExactDateAt", fn := fun _ => fun
  | [d] => { results := [.lit (.bool true)], args := [d] }
  | _ => none }
def fnExactDateAtRow : OpenClaim := { program := "ytoolmodlmaclnaa", sum := "1b63702a4f505c269d20aa639352fffb5613aecf765af926b3db7e8f399f3713", func := "loop.example/g00665/laws.FnExactDateAt", spec := "fnExactDateAt", apart := false }
def FnExactDateAtSaid : Prop := fnExactDateAtRow.holds Try.pinned (OpenSpec.ofChange fnExactDateAtSpec)

/-- ITS FALSE NEIGHBOUR: 'it returns false'. Refute it at one input. -/
def fnExactDateAtWrong : ChangeSpec := { name := "fnExactDateAt", fn := fun _ => fun
  | [d] => { results := [.lit (.bool false)], args := [d] }
  | _ => none }
def FnExactDateAtWrongFalsely : Prop := fnExactDateAtRow.holds Try.pinned (OpenSpec.ofChange fnExactDateAtWrong)

/-- 'laws.FnExactSameRequests': WHATEVER THE INPUT: true; the input reads as it did. -/
def fnExactSameRequestsSpec : ChangeSpec := { name := "fnExactSameRequests", fn := fun _ => fun
  | [d1, d2] => { results := [.lit (.bool true)], args := [d1, d2] }
  | _ => none }
def fnExactSameRequestsRow : OpenClaim := { program := "ytoolmodlmaclnaa", sum := "1b63702a4f505c269d20aa639352fffb5613aecf765af926b3db7e8f399f3713", func := "loop.example/g00665/laws.FnExactSameRequests", spec := "fnExactSameRequests", apart := false }
def FnExactSameRequestsSaid : Prop := fnExactSameRequestsRow.holds Try.pinned (OpenSpec.ofChange fnExactSameRequestsSpec)

/-- ITS FALSE NEIGHBOUR: 'it returns false'. Refute it at one input. -/
def fnExactSameRequestsWrong : ChangeSpec := { name := "fnExactSameRequests", fn := fun _ => fun
  | [d1, d2] => { results := [.lit (.bool false)], args := [d1, d2] }
  | _ => none }
def FnExactSameRequestsWrongFalsely : Prop := fnExactSameRequestsRow.holds Try.pinned (OpenSpec.ofChange fnExactSameRequestsWrong)

/-- 'laws.FnDays': WHATEVER THE INPUT: true; the input reads as it did. -/
def fnDaysSpec : ChangeSpec := { name := "fnDays", fn := fun _ => fun
  | [d] => { results := [.lit (.bool true)], args := [d] }
  | _ => none }
def fnDaysRow : OpenClaim := { program := "ytoolmodlmaclnaa", sum := "1b63702a4f505c269d20aa639352fffb5613aecf765af926b3db7e8f399f3713", func := "loop.example/g00665/laws.FnDays", spec := "fnDays", apart := false }
def FnDaysSaid : Prop := fnDaysRow.holds Try.pinned (OpenSpec.ofChange fnDaysSpec)

/-- ITS FALSE NEIGHBOUR: 'it returns false'. Refute it at one input. -/
def fnDaysWrong : ChangeSpec := { name := "fnDays", fn := fun _ => fun
  | [d] => { results := [.lit (.bool false)], args := [d] }
  | _ => none }
def FnDaysWrongFalsely : Prop := fnDaysRow.holds Try.pinned (OpenSpec.ofChange fnDaysWrong)

/-- 'laws.FnExactSameResponses': WHATEVER THE INPUT: true; the input reads as it did. -/
def fnExactSameResponsesSpec : ChangeSpec := { name := "fnExactSameResponses", fn := fun _ => fun
  | [d1, d2] => { results := [.lit (.bool true)], args := [d1, d2] }
  | _ => none }
def fnExactSameResponsesRow : OpenClaim := { program := "ytoolmodlmaclnaa", sum := "1b63702a4f505c269d20aa639352fffb5613aecf765af926b3db7e8f399f3713", func := "loop.example/g00665/laws.FnExactSameResponses", spec := "fnExactSameResponses", apart := false }
def FnExactSameResponsesSaid : Prop := fnExactSameResponsesRow.holds Try.pinned (OpenSpec.ofChange fnExactSameResponsesSpec)

/-- ITS FALSE NEIGHBOUR: 'it returns false'. Refute it at one input. -/
def fnExactSameResponsesWrong : ChangeSpec := { name := "fnExactSameResponses", fn := fun _ => fun
  | [d1, d2] => { results := [.lit (.bool false)], args := [d1, d2] }
  | _ => none }
def FnExactSameResponsesWrongFalsely : Prop := fnExactSameResponsesRow.holds Try.pinned (OpenSpec.ofChange fnExactSameResponsesWrong)

/-- 'laws.FnQuotes': WHATEVER THE INPUT: true; the input reads as it did. -/
def fnQuotesSpec : ChangeSpec := { name := "fnQuotes", fn := fun _ => fun
  | [d] => { results := [.lit (.bool true)], args := [d] }
  | _ => none }
def fnQuotesRow : OpenClaim := { program := "ytoolmodlmaclnaa", sum := "1b63702a4f505c269d20aa639352fffb5613aecf765af926b3db7e8f399f3713", func := "loop.example/g00665/laws.FnQuotes", spec := "fnQuotes", unfollowed := true, recurses := true, apart := false }
def FnQuotesSaid : Prop := fnQuotesRow.holds Try.pinned (OpenSpec.ofChange fnQuotesSpec)

/-- ITS FALSE NEIGHBOUR: 'it returns false'. Refute it at one input. -/
def fnQuotesWrong : ChangeSpec := { name := "fnQuotes", fn := fun _ => fun
  | [d] => { results := [.lit (.bool false)], args := [d] }
  | _ => none }
def FnQuotesWrongFalsely : Prop := fnQuotesRow.holds Try.pinned (OpenSpec.ofChange fnQuotesWrong)

/-- 'laws.FnExactFindItem': WHATEVER THE INPUT: true; the input reads as it did. -/
def fnExactFindItemSpec : ChangeSpec := { name := "fnExactFindItem", fn := fun _ => fun
  | [d1, d2] => { results := [.lit (.bool true)], args := [d1, d2] }
  | _ => none }
def fnExactFindItemRow : OpenClaim := { program := "ytoolmodlmaclnaa", sum := "1b63702a4f505c269d20aa639352fffb5613aecf765af926b3db7e8f399f3713", func := "loop.example/g00665/laws.FnExactFindItem", spec := "fnExactFindItem", inPlace := ["internal/bytealg.IndexByteString"], unfollowed := true, recurses := true, apart := false }
def FnExactFindItemSaid : Prop := fnExactFindItemRow.holds Try.pinned (OpenSpec.ofChange fnExactFindItemSpec)

/-- ITS FALSE NEIGHBOUR: 'it returns false'. Refute it at one input. -/
def fnExactFindItemWrong : ChangeSpec := { name := "fnExactFindItem", fn := fun _ => fun
  | [d1, d2] => { results := [.lit (.bool false)], args := [d1, d2] }
  | _ => none }
def FnExactFindItemWrongFalsely : Prop := fnExactFindItemRow.holds Try.pinned (OpenSpec.ofChange fnExactFindItemWrong)

/- THE SECOND FORM. 'bulk': how many values and letters a reading holds, each counted each time it is reached (what is shared counts as often as it is met; a slice's spare places count too). A statement '..UptoSaid' is the law's where the arguments, and the package variables that the reading takes, are together of bulk at most 1048576: NARROWER than '..Said'. Prove '..Said' where nothing that the law and all that it calls make is longer than what came in: it says more and counts as full. Else prove '..UptoSaid'. A law counts once. -/
mutual
def uptoBulk {H : Type} : DataW H → Nat
  | .lit (.string bytes) => bytes.length + 1
  | .lit _ => 1
  | .nil => 1
  | .ptr d => uptoBulk d + 1
  | .slice elems spare => uptoBulkAll elems + uptoBulkAll spare + 1
  | .agg parts => uptoBulkAll parts + 1
  | .iface _ d => uptoBulk d + 1
  | .map entries => uptoBulkEntries entries + 1
  | .held _ => 1
def uptoBulkAll {H : Type} : List (DataW H) → Nat
  | [] => 0
  | d :: r => uptoBulk d + uptoBulkAll r
def uptoBulkEntries {H : Type} : List (Lit × DataW H) → Nat
  | [] => 0
  | x :: r => uptoBulkEntry x + uptoBulkEntries r
def uptoBulkEntry {H : Type} : Lit × DataW H → Nat
  | (.string bytes, d) => bytes.length + uptoBulk d + 1
  | (_, d) => uptoBulk d + 1
 end
def uptoSmall : (H : Type) → List (DataW H) → Bool := fun _ ds => decide (uptoBulkAll ds ≤ 1048576)
def OpenSpec.upto (s : _root_.Go.ChangeSpec) : _root_.Go.OpenSpec := { _root_.Go.OpenSpec.ofChange s with cond := some uptoSmall }

/-- 'laws.FnExactDaysOf', WHERE WHAT IT READS IS OF BULK AT MOST 1048576: true; the input reads as it did. -/
def fnExactDaysOfUptoRow : OpenClaim := { program := "ytoolmodlmaclnaa", sum := "1b63702a4f505c269d20aa639352fffb5613aecf765af926b3db7e8f399f3713", func := "loop.example/g00665/laws.FnExactDaysOf", spec := "fnExactDaysOf", apart := false, narrowed := true }
def FnExactDaysOfUptoSaid : Prop := fnExactDaysOfUptoRow.holds Try.pinned (OpenSpec.upto fnExactDaysOfSpec)

/-- 'laws.FnExactSameItems', WHERE WHAT IT READS IS OF BULK AT MOST 1048576: true; the input reads as it did. -/
def fnExactSameItemsUptoRow : OpenClaim := { program := "ytoolmodlmaclnaa", sum := "1b63702a4f505c269d20aa639352fffb5613aecf765af926b3db7e8f399f3713", func := "loop.example/g00665/laws.FnExactSameItems", spec := "fnExactSameItems", apart := false, narrowed := true }
def FnExactSameItemsUptoSaid : Prop := fnExactSameItemsUptoRow.holds Try.pinned (OpenSpec.upto fnExactSameItemsSpec)

/-- 'laws.FnExactUnquoteText', WHERE WHAT IT READS IS OF BULK AT MOST 1048576: true; the input reads as it did. -/
def fnExactUnquoteTextUptoRow : OpenClaim := { program := "ytoolmodlmaclnaa", sum := "1b63702a4f505c269d20aa639352fffb5613aecf765af926b3db7e8f399f3713", func := "loop.example/g00665/laws.FnExactUnquoteText", spec := "fnExactUnquoteText", unfollowed := true, recurses := true, apart := false, narrowed := true }
def FnExactUnquoteTextUptoSaid : Prop := fnExactUnquoteTextUptoRow.holds Try.pinned (OpenSpec.upto fnExactUnquoteTextSpec)

/-- 'laws.FnExactItemFault', WHERE WHAT IT READS IS OF BULK AT MOST 1048576: true; the input reads as it did. -/
def fnExactItemFaultUptoRow : OpenClaim := { program := "ytoolmodlmaclnaa", sum := "1b63702a4f505c269d20aa639352fffb5613aecf765af926b3db7e8f399f3713", func := "loop.example/g00665/laws.FnExactItemFault", spec := "fnExactItemFault", inPlace := ["internal/bytealg.IndexByteString"], unfollowed := true, recurses := true, apart := false, narrowed := true }
def FnExactItemFaultUptoSaid : Prop := fnExactItemFaultUptoRow.holds Try.pinned (OpenSpec.upto fnExactItemFaultSpec)

/-- 'laws.FnExactSecondsOf', WHERE WHAT IT READS IS OF BULK AT MOST 1048576: true; the input reads as it did. -/
def fnExactSecondsOfUptoRow : OpenClaim := { program := "ytoolmodlmaclnaa", sum := "1b63702a4f505c269d20aa639352fffb5613aecf765af926b3db7e8f399f3713", func := "loop.example/g00665/laws.FnExactSecondsOf", spec := "fnExactSecondsOf", apart := false, narrowed := true }
def FnExactSecondsOfUptoSaid : Prop := fnExactSecondsOfUptoRow.holds Try.pinned (OpenSpec.upto fnExactSecondsOfSpec)

/-- 'laws.FnExactDateAt', WHERE WHAT IT READS IS OF BULK AT MOST 1048576: true; the input reads as it did. -/
def fnExactDateAtUptoRow : OpenClaim := { program := "ytoolmodlmaclnaa", sum := "1b63702a4f505c269d20aa639352fffb5613aecf765af926b3db7e8f399f3713", func := "loop.example/g00665/laws.FnExactDateAt", spec := "fnExactDateAt", apart := false, narrowed := true }
def FnExactDateAtUptoSaid : Prop := fnExactDateAtUptoRow.holds Try.pinned (OpenSpec.upto fnExactDateAtSpec)

/-- 'laws.FnExactSameRequests', WHERE WHAT IT READS IS OF BULK AT MOST 1048576: true; the input reads as it did. -/
def fnExactSameRequestsUptoRow : OpenClaim := { program := "ytoolmodlmaclnaa", sum := "1b63702a4f505c269d20aa639352fffb5613aecf765af926b3db7e8f399f3713", func := "loop.example/g00665/laws.FnExactSameRequests", spec := "fnExactSameRequests", apart := false, narrowed := true }
def FnExactSameRequestsUptoSaid : Prop := fnExactSameRequestsUptoRow.holds Try.pinned (OpenSpec.upto fnExactSameRequestsSpec)

/-- 'laws.FnDays', WHERE WHAT IT READS IS OF BULK AT MOST 1048576: true; the input reads as it did. -/
def fnDaysUptoRow : OpenClaim := { program := "ytoolmodlmaclnaa", sum := "1b63702a4f505c269d20aa639352fffb5613aecf765af926b3db7e8f399f3713", func := "loop.example/g00665/laws.FnDays", spec := "fnDays", apart := false, narrowed := true }
def FnDaysUptoSaid : Prop := fnDaysUptoRow.holds Try.pinned (OpenSpec.upto fnDaysSpec)

/-- 'laws.FnExactSameResponses', WHERE WHAT IT READS IS OF BULK AT MOST 1048576: true; the input reads as it did. -/
def fnExactSameResponsesUptoRow : OpenClaim := { program := "ytoolmodlmaclnaa", sum := "1b63702a4f505c269d20aa639352fffb5613aecf765af926b3db7e8f399f3713", func := "loop.example/g00665/laws.FnExactSameResponses", spec := "fnExactSameResponses", apart := false, narrowed := true }
def FnExactSameResponsesUptoSaid : Prop := fnExactSameResponsesUptoRow.holds Try.pinned (OpenSpec.upto fnExactSameResponsesSpec)

/-- 'laws.FnQuotes', WHERE WHAT IT READS IS OF BULK AT MOST 1048576: true; the input reads as it did. -/
def fnQuotesUptoRow : OpenClaim := { program := "ytoolmodlmaclnaa", sum := "1b63702a4f505c269d20aa639352fffb5613aecf765af926b3db7e8f399f3713", func := "loop.example/g00665/laws.FnQuotes", spec := "fnQuotes", unfollowed := true, recurses := true, apart := false, narrowed := true }
def FnQuotesUptoSaid : Prop := fnQuotesUptoRow.holds Try.pinned (OpenSpec.upto fnQuotesSpec)

/-- 'laws.FnExactFindItem', WHERE WHAT IT READS IS OF BULK AT MOST 1048576: true; the input reads as it did. -/
def fnExactFindItemUptoRow : OpenClaim := { program := "ytoolmodlmaclnaa", sum := "1b63702a4f505c269d20aa639352fffb5613aecf765af926b3db7e8f399f3713", func := "loop.example/g00665/laws.FnExactFindItem", spec := "fnExactFindItem", inPlace := ["internal/bytealg.IndexByteString"], unfollowed := true, recurses := true, apart := false, narrowed := true }
def FnExactFindItemUptoSaid : Prop := fnExactFindItemUptoRow.holds Try.pinned (OpenSpec.upto fnExactFindItemSpec)

end Rows
end Go.Proofs.Ytoolmodlmaclnaa
