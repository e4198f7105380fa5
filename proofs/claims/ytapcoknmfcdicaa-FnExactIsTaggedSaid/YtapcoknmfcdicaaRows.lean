/-
  No cell of these rows narrows 'for every input' (looked for: loops, veiled, ifaces, maps, wideKeys, modest, calm, conditions, laid).
  DERIVED. THE GIVEN ROWS OF THIS SEAT. 12 by the template 'for every input the law returns true; each argument reads behind the call as it read before'; 0 by the template 'total and deterministic' (their statements: YtapcoknmfcdicaaTotals.lean).
  GIVEN WITH THE SEED: the statements are not yours to turn. If you find one false, say at which input.
  Laid BY PROGRAM, IN A SANDBOX (cutbox-rows.mjs): the forced cells as the released guide's own fill.sh prints them over the translation 20b2696a34708f34… (all of the seat's roots in one cut). By AI agents, Wed Nov 11 2026. No macro, syntax, notation, axiom, sorry.
-/
import Derived.Test.YtapcoknmfcdicaaChecked
import GoSem.Claim
import GoSem.ClaimJoined
import GoSem.ClaimMapViews
import Derived.JoinedTies
import Derived.KernelRfl
namespace Go.Proofs.Ytapcoknmfcdicaa
/- THE CELL 'sum', in the pinned program and in every row, IS THE sha256 OF THE DUMP (.gsa) THAT YtapcoknmfcdicaaProg.lean LOADS. Nothing in Lean hashes anything: it is a label: what it is worth is what the hold of that sum in a sandbox is worth. -/
noncomputable def Try.pinned : Pinned := { name := "ytapcoknmfcdicaa", sum := "20b2696a34708f3439f201d8690061491f1673820057c493f7498b1037fe9b7c", checked := Try.checked }
namespace Rows
def none {H : Type} : Left H := { results := [], args := [] }

/-- 'laws.FnExactConstants': WHATEVER THE INPUT: true; the input reads as it did. -/
def fnExactConstantsSpec : ChangeSpec := { name := "fnExactConstants", fn := fun _ => fun
  | [] => { results := [.lit (.bool true)], args := [] }
  | _ => none }
def fnExactConstantsRow : OpenClaim := { program := "ytapcoknmfcdicaa", sum := "20b2696a34708f3439f201d8690061491f1673820057c493f7498b1037fe9b7c", func := "loop.example/g00665/laws.FnExactConstants", spec := "fnExactConstants", apart := false }
def FnExactConstantsSaid : Prop := fnExactConstantsRow.holds Try.pinned (OpenSpec.ofChange fnExactConstantsSpec)

/-- ITS FALSE NEIGHBOUR: 'it returns false'. Refute it at one input. -/
def fnExactConstantsWrong : ChangeSpec := { name := "fnExactConstants", fn := fun _ => fun
  | [] => { results := [.lit (.bool false)], args := [] }
  | _ => none }
def FnExactConstantsWrongFalsely : Prop := fnExactConstantsRow.holds Try.pinned (OpenSpec.ofChange fnExactConstantsWrong)

/-- 'laws.FnExactWeekdayOf': WHATEVER THE INPUT: true; the input reads as it did. -/
def fnExactWeekdayOfSpec : ChangeSpec := { name := "fnExactWeekdayOf", fn := fun _ => fun
  | [d] => { results := [.lit (.bool true)], args := [d] }
  | _ => none }
def fnExactWeekdayOfRow : OpenClaim := { program := "ytapcoknmfcdicaa", sum := "20b2696a34708f3439f201d8690061491f1673820057c493f7498b1037fe9b7c", func := "loop.example/g00665/laws.FnExactWeekdayOf", spec := "fnExactWeekdayOf", apart := false }
def FnExactWeekdayOfSaid : Prop := fnExactWeekdayOfRow.holds Try.pinned (OpenSpec.ofChange fnExactWeekdayOfSpec)

/-- ITS FALSE NEIGHBOUR: 'it returns false'. Refute it at one input. -/
def fnExactWeekdayOfWrong : ChangeSpec := { name := "fnExactWeekdayOf", fn := fun _ => fun
  | [d] => { results := [.lit (.bool false)], args := [d] }
  | _ => none }
def FnExactWeekdayOfWrongFalsely : Prop := fnExactWeekdayOfRow.holds Try.pinned (OpenSpec.ofChange fnExactWeekdayOfWrong)

/-- 'laws.FnExactPolicyFault': WHATEVER THE INPUT: true; the input reads as it did. -/
def fnExactPolicyFaultSpec : ChangeSpec := { name := "fnExactPolicyFault", fn := fun _ => fun
  | [d] => { results := [.lit (.bool true)], args := [d] }
  | _ => none }
def fnExactPolicyFaultRow : OpenClaim := { program := "ytapcoknmfcdicaa", sum := "20b2696a34708f3439f201d8690061491f1673820057c493f7498b1037fe9b7c", func := "loop.example/g00665/laws.FnExactPolicyFault", spec := "fnExactPolicyFault", apart := false }
def FnExactPolicyFaultSaid : Prop := fnExactPolicyFaultRow.holds Try.pinned (OpenSpec.ofChange fnExactPolicyFaultSpec)

/-- ITS FALSE NEIGHBOUR: 'it returns false'. Refute it at one input. -/
def fnExactPolicyFaultWrong : ChangeSpec := { name := "fnExactPolicyFault", fn := fun _ => fun
  | [d] => { results := [.lit (.bool false)], args := [d] }
  | _ => none }
def FnExactPolicyFaultWrongFalsely : Prop := fnExactPolicyFaultRow.holds Try.pinned (OpenSpec.ofChange fnExactPolicyFaultWrong)

/-- 'laws.FnExactAddTime': WHATEVER THE INPUT: true; the input reads as it did. -/
def fnExactAddTimeSpec : ChangeSpec := { name := "fnExactAddTime", fn := fun _ => fun
  | [d1, d2] => { results := [.lit (.bool true)], args := [d1, d2] }
  | _ => none }
def fnExactAddTimeRow : OpenClaim := { program := "ytapcoknmfcdicaa", sum := "20b2696a34708f3439f201d8690061491f1673820057c493f7498b1037fe9b7c", func := "loop.example/g00665/laws.FnExactAddTime", spec := "fnExactAddTime", apart := false }
def FnExactAddTimeSaid : Prop := fnExactAddTimeRow.holds Try.pinned (OpenSpec.ofChange fnExactAddTimeSpec)

/-- ITS FALSE NEIGHBOUR: 'it returns false'. Refute it at one input. -/
def fnExactAddTimeWrong : ChangeSpec := { name := "fnExactAddTime", fn := fun _ => fun
  | [d1, d2] => { results := [.lit (.bool false)], args := [d1, d2] }
  | _ => none }
def FnExactAddTimeWrongFalsely : Prop := fnExactAddTimeRow.holds Try.pinned (OpenSpec.ofChange fnExactAddTimeWrong)

/-- 'laws.FnExactMulTime': WHATEVER THE INPUT: true; the input reads as it did. -/
def fnExactMulTimeSpec : ChangeSpec := { name := "fnExactMulTime", fn := fun _ => fun
  | [d1, d2] => { results := [.lit (.bool true)], args := [d1, d2] }
  | _ => none }
def fnExactMulTimeRow : OpenClaim := { program := "ytapcoknmfcdicaa", sum := "20b2696a34708f3439f201d8690061491f1673820057c493f7498b1037fe9b7c", func := "loop.example/g00665/laws.FnExactMulTime", spec := "fnExactMulTime", apart := false }
def FnExactMulTimeSaid : Prop := fnExactMulTimeRow.holds Try.pinned (OpenSpec.ofChange fnExactMulTimeSpec)

/-- ITS FALSE NEIGHBOUR: 'it returns false'. Refute it at one input. -/
def fnExactMulTimeWrong : ChangeSpec := { name := "fnExactMulTime", fn := fun _ => fun
  | [d1, d2] => { results := [.lit (.bool false)], args := [d1, d2] }
  | _ => none }
def FnExactMulTimeWrongFalsely : Prop := fnExactMulTimeRow.holds Try.pinned (OpenSpec.ofChange fnExactMulTimeWrong)

/-- 'laws.FnExactLowerText': WHATEVER THE INPUT: true; the input reads as it did. -/
def fnExactLowerTextSpec : ChangeSpec := { name := "fnExactLowerText", fn := fun _ => fun
  | [d] => { results := [.lit (.bool true)], args := [d] }
  | _ => none }
def fnExactLowerTextRow : OpenClaim := { program := "ytapcoknmfcdicaa", sum := "20b2696a34708f3439f201d8690061491f1673820057c493f7498b1037fe9b7c", func := "loop.example/g00665/laws.FnExactLowerText", spec := "fnExactLowerText", apart := false }
def FnExactLowerTextSaid : Prop := fnExactLowerTextRow.holds Try.pinned (OpenSpec.ofChange fnExactLowerTextSpec)

/-- ITS FALSE NEIGHBOUR: 'it returns false'. Refute it at one input. -/
def fnExactLowerTextWrong : ChangeSpec := { name := "fnExactLowerText", fn := fun _ => fun
  | [d] => { results := [.lit (.bool false)], args := [d] }
  | _ => none }
def FnExactLowerTextWrongFalsely : Prop := fnExactLowerTextRow.holds Try.pinned (OpenSpec.ofChange fnExactLowerTextWrong)

/-- 'laws.FnExactIsWord': WHATEVER THE INPUT: true; the input reads as it did. -/
def fnExactIsWordSpec : ChangeSpec := { name := "fnExactIsWord", fn := fun _ => fun
  | [d] => { results := [.lit (.bool true)], args := [d] }
  | _ => none }
def fnExactIsWordRow : OpenClaim := { program := "ytapcoknmfcdicaa", sum := "20b2696a34708f3439f201d8690061491f1673820057c493f7498b1037fe9b7c", func := "loop.example/g00665/laws.FnExactIsWord", spec := "fnExactIsWord", inPlace := ["internal/bytealg.IndexByteString"], unfollowed := true, recurses := true, apart := false }
def FnExactIsWordSaid : Prop := fnExactIsWordRow.holds Try.pinned (OpenSpec.ofChange fnExactIsWordSpec)

/-- ITS FALSE NEIGHBOUR: 'it returns false'. Refute it at one input. -/
def fnExactIsWordWrong : ChangeSpec := { name := "fnExactIsWord", fn := fun _ => fun
  | [d] => { results := [.lit (.bool false)], args := [d] }
  | _ => none }
def FnExactIsWordWrongFalsely : Prop := fnExactIsWordRow.holds Try.pinned (OpenSpec.ofChange fnExactIsWordWrong)

/-- 'laws.FnExactIsTagged': WHATEVER THE INPUT: true; the input reads as it did. -/
def fnExactIsTaggedSpec : ChangeSpec := { name := "fnExactIsTagged", fn := fun _ => fun
  | [d1, d2] => { results := [.lit (.bool true)], args := [d1, d2] }
  | _ => none }
def fnExactIsTaggedRow : OpenClaim := { program := "ytapcoknmfcdicaa", sum := "20b2696a34708f3439f201d8690061491f1673820057c493f7498b1037fe9b7c", func := "loop.example/g00665/laws.FnExactIsTagged", spec := "fnExactIsTagged", apart := false }
def FnExactIsTaggedSaid : Prop := fnExactIsTaggedRow.holds Try.pinned (OpenSpec.ofChange fnExactIsTaggedSpec)

/-- ITS FALSE NEIGHBOUR: 'it returns false'. Refute it at one input. -/
def fnExactIsTaggedWrong : ChangeSpec := { name := "fnExactIsTagged", fn := fun _ => fun
  | [d1, d2] => { results := [.lit (.bool false)], args := [d1, d2] }
  | _ => none }
def FnExactIsTaggedWrongFalsely : Prop := fnExactIsTaggedRow.holds Try.pinned (OpenSpec.ofChange fnExactIsTaggedWrong)

/-- 'laws.FnExactDateFault': WHATEVER THE INPUT: true; the input reads as it did. -/
def fnExactDateFaultSpec : ChangeSpec := { name := "fnExactDateFault", fn := fun _ => fun
  | [d] => { results := [.lit (.bool true)], args := [d] }
  | _ => none }
def fnExactDateFaultRow : OpenClaim := { program := "ytapcoknmfcdicaa", sum := "20b2696a34708f3439f201d8690061491f1673820057c493f7498b1037fe9b7c", func := "loop.example/g00665/laws.FnExactDateFault", spec := "fnExactDateFault", apart := false }
def FnExactDateFaultSaid : Prop := fnExactDateFaultRow.holds Try.pinned (OpenSpec.ofChange fnExactDateFaultSpec)

/-- ITS FALSE NEIGHBOUR: 'it returns false'. Refute it at one input. -/
def fnExactDateFaultWrong : ChangeSpec := { name := "fnExactDateFault", fn := fun _ => fun
  | [d] => { results := [.lit (.bool false)], args := [d] }
  | _ => none }
def FnExactDateFaultWrongFalsely : Prop := fnExactDateFaultRow.holds Try.pinned (OpenSpec.ofChange fnExactDateFaultWrong)

/-- 'laws.FnExactDeltaOf': WHATEVER THE INPUT: true; the input reads as it did. -/
def fnExactDeltaOfSpec : ChangeSpec := { name := "fnExactDeltaOf", fn := fun _ => fun
  | [d] => { results := [.lit (.bool true)], args := [d] }
  | _ => none }
def fnExactDeltaOfRow : OpenClaim := { program := "ytapcoknmfcdicaa", sum := "20b2696a34708f3439f201d8690061491f1673820057c493f7498b1037fe9b7c", func := "loop.example/g00665/laws.FnExactDeltaOf", spec := "fnExactDeltaOf", unfollowed := true, recurses := true, apart := false }
def FnExactDeltaOfSaid : Prop := fnExactDeltaOfRow.holds Try.pinned (OpenSpec.ofChange fnExactDeltaOfSpec)

/-- ITS FALSE NEIGHBOUR: 'it returns false'. Refute it at one input. -/
def fnExactDeltaOfWrong : ChangeSpec := { name := "fnExactDeltaOf", fn := fun _ => fun
  | [d] => { results := [.lit (.bool false)], args := [d] }
  | _ => none }
def FnExactDeltaOfWrongFalsely : Prop := fnExactDeltaOfRow.holds Try.pinned (OpenSpec.ofChange fnExactDeltaOfWrong)

/-- 'laws.FnExactQuoteText': WHATEVER THE INPUT: true; the input reads as it did. -/
def fnExactQuoteTextSpec : ChangeSpec := { name := "fnExactQuoteText", fn := fun _ => fun
  | [d] => { results := [.lit (.bool true)], args := [d] }
  | _ => none }
def fnExactQuoteTextRow : OpenClaim := { program := "ytapcoknmfcdicaa", sum := "20b2696a34708f3439f201d8690061491f1673820057c493f7498b1037fe9b7c", func := "loop.example/g00665/laws.FnExactQuoteText", spec := "fnExactQuoteText", unfollowed := true, recurses := true, apart := false }
def FnExactQuoteTextSaid : Prop := fnExactQuoteTextRow.holds Try.pinned (OpenSpec.ofChange fnExactQuoteTextSpec)

/-- ITS FALSE NEIGHBOUR: 'it returns false'. Refute it at one input. -/
def fnExactQuoteTextWrong : ChangeSpec := { name := "fnExactQuoteText", fn := fun _ => fun
  | [d] => { results := [.lit (.bool false)], args := [d] }
  | _ => none }
def FnExactQuoteTextWrongFalsely : Prop := fnExactQuoteTextRow.holds Try.pinned (OpenSpec.ofChange fnExactQuoteTextWrong)

/-- 'laws.FnExactSameHeaders': WHATEVER THE INPUT: true; the input reads as it did. -/
def fnExactSameHeadersSpec : ChangeSpec := { name := "fnExactSameHeaders", fn := fun _ => fun
  | [d1, d2] => { results := [.lit (.bool true)], args := [d1, d2] }
  | _ => none }
def fnExactSameHeadersRow : OpenClaim := { program := "ytapcoknmfcdicaa", sum := "20b2696a34708f3439f201d8690061491f1673820057c493f7498b1037fe9b7c", func := "loop.example/g00665/laws.FnExactSameHeaders", spec := "fnExactSameHeaders", apart := false }
def FnExactSameHeadersSaid : Prop := fnExactSameHeadersRow.holds Try.pinned (OpenSpec.ofChange fnExactSameHeadersSpec)

/-- ITS FALSE NEIGHBOUR: 'it returns false'. Refute it at one input. -/
def fnExactSameHeadersWrong : ChangeSpec := { name := "fnExactSameHeaders", fn := fun _ => fun
  | [d1, d2] => { results := [.lit (.bool false)], args := [d1, d2] }
  | _ => none }
def FnExactSameHeadersWrongFalsely : Prop := fnExactSameHeadersRow.holds Try.pinned (OpenSpec.ofChange fnExactSameHeadersWrong)

/- THE SECOND FORM. 'bulk': how many values and letters a reading holds, each counted each time it is reached (what is shared counts as often as it is met; a slice's spare places count too). A statement '..UptoSaid' is the law's where the arguments, and the package variables that the reading takes, are together of bulk at most 1048576: NARROWER than '..Said'. Prove '..Said' where nothing that the law and all that it calls make is longer than what came in: it says more and counts as full. Else prove '..UptoSaid'. A law counts once. -/
mutual
def uptoBulk {H : Type} : DataW H → Nat
  | .lit (.string bytes) => bytes.length + 1
  | .lit _ => 1
  | .nil => 1
  | .ptr d => uptoBulk d + 1
  | .slice elems spare => uptoBulkAll elems + uptoBulkAll spare + 1
  | .agg parts => uptoBulkAll parts + 1
  | .iface _ d => uptoBulk d + 1
  | .map entries => uptoBulkEntries entries + 1
  | .held _ => 1
def uptoBulkAll {H : Type} : List (DataW H) → Nat
  | [] => 0
  | d :: r => uptoBulk d + uptoBulkAll r
def uptoBulkEntries {H : Type} : List (Lit × DataW H) → Nat
  | [] => 0
  | x :: r => uptoBulkEntry x + uptoBulkEntries r
def uptoBulkEntry {H : Type} : Lit × DataW H → Nat
  | (.string bytes, d) => bytes.length + uptoBulk d + 1
  | (_, d) => uptoBulk d + 1
 end
def uptoSmall : (H : Type) → List (DataW H) → Bool := fun _ ds => decide (uptoBulkAll ds ≤ 1048576)
def OpenSpec.upto (s : _root_.Go.ChangeSpec) : _root_.Go.OpenSpec := { _root_.Go.OpenSpec.ofChange s with cond := some uptoSmall }

/-- 'laws.FnExactConstants', WHERE WHAT IT READS IS OF BULK AT MOST 1048576: true; the input reads as it did. -/
def fnExactConstantsUptoRow : OpenClaim := { program := "ytapcoknmfcdicaa", sum := "20b2696a34708f3439f201d8690061491f1673820057c493f7498b1037fe9b7c", func := "loop.example/g00665/laws.FnExactConstants", spec := "fnExactConstants", apart := false, narrowed := true }
def FnExactConstantsUptoSaid : Prop := fnExactConstantsUptoRow.holds Try.pinned (OpenSpec.upto fnExactConstantsSpec)

/-- 'laws.FnExactWeekdayOf', WHERE WHAT IT READS IS OF BULK AT MOST 1048576: true; the input reads as it did. -/
def fnExactWeekdayOfUptoRow : OpenClaim := { program := "ytapcoknmfcdicaa", sum := "20b2696a34708f3439f201d8690061491f1673820057c493f7498b1037fe9b7c", func := "loop.example/g00665/laws.FnExactWeekdayOf", spec := "fnExactWeekdayOf", apart := false, narrowed := true }
def FnExactWeekdayOfUptoSaid : Prop := fnExactWeekdayOfUptoRow.holds Try.pinned (OpenSpec.upto fnExactWeekdayOfSpec)

/-- 'laws.FnExactPolicyFault', WHERE WHAT IT READS IS OF BULK AT MOST 1048576: true; the input reads as it did. -/
def fnExactPolicyFaultUptoRow : OpenClaim := { program := "ytapcoknmfcdicaa", sum := "20b2696a34708f3439f201d8690061491f1673820057c493f7498b1037fe9b7c", func := "loop.example/g00665/laws.FnExactPolicyFault", spec := "fnExactPolicyFault", apart := false, narrowed := true }
def FnExactPolicyFaultUptoSaid : Prop := fnExactPolicyFaultUptoRow.holds Try.pinned (OpenSpec.upto fnExactPolicyFaultSpec)

/-- 'laws.FnExactAddTime', WHERE WHAT IT READS IS OF BULK AT MOST 1048576: true; the input reads as it did. -/
def fnExactAddTimeUptoRow : OpenClaim := { program := "ytapcoknmfcdicaa", sum := "20b2696a34708f3439f201d8690061491f1673820057c493f7498b1037fe9b7c", func := "loop.example/g00665/laws.FnExactAddTime", spec := "fnExactAddTime", apart := false, narrowed := true }
def FnExactAddTimeUptoSaid : Prop := fnExactAddTimeUptoRow.holds Try.pinned (OpenSpec.upto fnExactAddTimeSpec)

/-- 'laws.FnExactMulTime', WHERE WHAT IT READS IS OF BULK AT MOST 1048576: true; the input reads as it did. -/
def fnExactMulTimeUptoRow : OpenClaim := { program := "ytapcoknmfcdicaa", sum := "20b2696a34708f3439f201d8690061491f1673820057c493f7498b1037fe9b7c", func := "loop.example/g00665/laws.FnExactMulTime", spec := "fnExactMulTime", apart := false, narrowed := true }
def FnExactMulTimeUptoSaid : Prop := fnExactMulTimeUptoRow.holds Try.pinned (OpenSpec.upto fnExactMulTimeSpec)

/-- 'laws.FnExactLowerText', WHERE WHAT IT READS IS OF BULK AT MOST 1048576: true; the input reads as it did. -/
def fnExactLowerTextUptoRow : OpenClaim := { program := "ytapcoknmfcdicaa", sum := "20b2696a34708f3439f201d8690061491f1673820057c493f7498b1037fe9b7c", func := "loop.example/g00665/laws.FnExactLowerText", spec := "fnExactLowerText", apart := false, narrowed := true }
def FnExactLowerTextUptoSaid : Prop := fnExactLowerTextUptoRow.holds Try.pinned (OpenSpec.upto fnExactLowerTextSpec)

/-- 'laws.FnExactIsWord', WHERE WHAT IT READS IS OF BULK AT MOST 1048576: true; the input reads as it did. -/
def fnExactIsWordUptoRow : OpenClaim := { program := "ytapcoknmfcdicaa", sum := "20b2696a34708f3439f201d8690061491f1673820057c493f7498b1037fe9b7c", func := "loop.example/g00665/laws.FnExactIsWord", spec := "fnExactIsWord", inPlace := ["internal/bytealg.IndexByteString"], unfollowed := true, recurses := true, apart := false, narrowed := true }
def FnExactIsWordUptoSaid : Prop := fnExactIsWordUptoRow.holds Try.pinned (OpenSpec.upto fnExactIsWordSpec)

/-- 'laws.FnExactIsTagged', WHERE WHAT IT READS IS OF BULK AT MOST 1048576: true; the input reads as it did. -/
def fnExactIsTaggedUptoRow : OpenClaim := { program := "ytapcoknmfcdicaa", sum := "20b2696a34708f3439f201d8690061491f1673820057c493f7498b1037fe9b7c", func := "loop.example/g00665/laws.FnExactIsTagged", spec := "fnExactIsTagged", apart := false, narrowed := true }
def FnExactIsTaggedUptoSaid : Prop := fnExactIsTaggedUptoRow.holds Try.pinned (OpenSpec.upto fnExactIsTaggedSpec)

/-- 'laws.FnExactDateFault', WHERE WHAT IT READS IS OF BULK AT MOST 1048576: true; the input reads as it did. -/
def fnExactDateFaultUptoRow : OpenClaim := { program := "ytapcoknmfcdicaa", sum := "20b2696a34708f3439f201d8690061491f1673820057c493f7498b1037fe9b7c", func := "loop.example/g00665/laws.FnExactDateFault", spec := "fnExactDateFault", apart := false, narrowed := true }
def FnExactDateFaultUptoSaid : Prop := fnExactDateFaultUptoRow.holds Try.pinned (OpenSpec.upto fnExactDateFaultSpec)

/-- 'laws.FnExactDeltaOf', WHERE WHAT IT READS IS OF BULK AT MOST 1048576: true; the input reads as it did. -/
def fnExactDeltaOfUptoRow : OpenClaim := { program := "ytapcoknmfcdicaa", sum := "20b2696a34708f3439f201d8690061491f1673820057c493f7498b1037fe9b7c", func := "loop.example/g00665/laws.FnExactDeltaOf", spec := "fnExactDeltaOf", unfollowed := true, recurses := true, apart := false, narrowed := true }
def FnExactDeltaOfUptoSaid : Prop := fnExactDeltaOfUptoRow.holds Try.pinned (OpenSpec.upto fnExactDeltaOfSpec)

/-- 'laws.FnExactQuoteText', WHERE WHAT IT READS IS OF BULK AT MOST 1048576: true; the input reads as it did. -/
def fnExactQuoteTextUptoRow : OpenClaim := { program := "ytapcoknmfcdicaa", sum := "20b2696a34708f3439f201d8690061491f1673820057c493f7498b1037fe9b7c", func := "loop.example/g00665/laws.FnExactQuoteText", spec := "fnExactQuoteText", unfollowed := true, recurses := true, apart := false, narrowed := true }
def FnExactQuoteTextUptoSaid : Prop := fnExactQuoteTextUptoRow.holds Try.pinned (OpenSpec.upto fnExactQuoteTextSpec)

/-- 'laws.FnExactSameHeaders', WHERE WHAT IT READS IS OF BULK AT MOST 1048576: true; the input reads as it did. -/
def fnExactSameHeadersUptoRow : OpenClaim := { program := "ytapcoknmfcdicaa", sum := "20b2696a34708f3439f201d8690061491f1673820057c493f7498b1037fe9b7c", func := "loop.example/g00665/laws.FnExactSameHeaders", spec := "fnExactSameHeaders", apart := false, narrowed := true }
def FnExactSameHeadersUptoSaid : Prop := fnExactSameHeadersUptoRow.holds Try.pinned (OpenSpec.upto fnExactSameHeadersSpec)

end Rows
end Go.Proofs.Ytapcoknmfcdicaa
