/- Slices of strings: copied, measured, compared, searched. -/
import Derived.Test.YtaoegcfifdjbkaaDoorSlice
namespace Go.Proofs.YtaoegcfifdjbkaaDoor
open Go.RowKit
set_option linter.unusedSimpArgs false
set_option linter.unusedVariables false

def strV (l : List ByteArray) : List Value := l.map Value.string
theorem strV_len (l : List ByteArray) : (strV l).length = l.length := List.length_map _
theorem strV_at (l : List ByteArray) (k : Nat) (h : k < l.length) : (strV l)[k]? = some (.string l[k]) := by simp [strV, h]
theorem strV_take (l : List ByteArray) (k : Nat) (h : k < l.length) : strV (l.take (k + 1)) = strV (l.take k) ++ [.string l[k]] := by
  unfold strV; rw [List.take_succ_eq_append_getElem h, List.map_append]; rfl
theorem infoStr : (Tryd.prog.info? 9).map (fun i => (i.zero, i.size, i.bytes)) = some (some (.string ⟨#[]⟩), 1, 16) := by kernel_rfl

def isS (t : ByteArray) (s : ByteArray) : Bool := decide (s = t)
theorem isS_true {t s : ByteArray} (h : isS t s = true) : (t.toList == s.toList) = true ∧ (s.toList == t.toList) = true := by
  have := of_decide_eq_true h; subst this; simp
theorem isS_false {t s : ByteArray} (h : isS t s = false) : (t.toList == s.toList) = false ∧ (s.toList == t.toList) = false := by
  have := of_decide_eq_false h
  exact ⟨bytes_ne fun e => this e.symm, bytes_ne this⟩
def hasS (t : ByteArray) (l : List ByteArray) : Bool := decide (0 ≤ idxI (isS t) l)

end Go.Proofs.YtaoegcfifdjbkaaDoor
