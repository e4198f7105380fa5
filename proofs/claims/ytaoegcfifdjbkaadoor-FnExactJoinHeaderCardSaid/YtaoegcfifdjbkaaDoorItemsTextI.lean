/- The text of items: the program's own, and the law. -/
import Derived.Test.YtaoegcfifdjbkaaDoorItemsText
import Derived.Test.YtaoegcfifdjbkaaDoorShelf
namespace Go.Proofs.YtaoegcfifdjbkaaDoor
open Go.RowKit
set_option linter.unusedSimpArgs false
set_option linter.unusedVariables false

theorem join_own (g cap n lo : Nat) (xs : List ByteArray) (hx : xs.length = n) (w : World) (h : w.ownsRow lo 9 1 (.slice (some ⟨g, 0, none⟩) n cap) n (strV xs)) (hn : n ≤ 100000) (hlen : (joinB commaS xs).size ≤ 140737488355328) :
    Calls Tryd.prog 149 #[.slice (some ⟨g, 0, none⟩) n cap, .string ⟨#[44, 32]⟩] w fun e w' => e = .returned (.string (joinB commaS xs)) ∧ Below w.heap.size w w' := by
  subst hx
  have hrow := RowAt.of_own h
  have hcap : xs.length ≤ cap := by
    rcases h.2 with ⟨hn, _⟩ | ⟨g', cap', cur, hv, _, _, hc, _⟩
    · cases hn
    · cases hv; exact hc
  exact Tryd.strings_Join g 0 cap xs ⟨#[44, 32]⟩ w (fun j x hj => by
    rw [Nat.zero_add]
    refine hrow.cell j _ ?_
    have hj' : j < xs.length := (List.getElem?_eq_some_iff.1 hj).1
    rw [strV_at xs j hj']
    rw [List.getElem?_eq_getElem hj'] at hj
    rw [Option.some.inj hj]) hrow.lt (by omega) hcap hlen
theorem strV_snoc2 (l : List ByteArray) (x : ByteArray) : strV l ++ [.string x] = strV (l ++ [x]) := by simp [strV]
end Go.Proofs.YtaoegcfifdjbkaaDoor
