/- Items: the code of one; the place of the first with a name. -/
import Derived.Test.YtcnjbifdlieboaaItems
import Derived.Test.YtcnjbifdlieboaaAlike
import Derived.Test.YtcnjbifdlieboaaQuote
import Derived.Test.YtcnjbifdlieboaaTimes
namespace Go.Proofs.Ytcnjbifdlieboaa
open Go.RowKit
set_option linter.unusedSimpArgs false
set_option linter.unusedVariables false

def itemFault (i : It) : Int := if wordS i.1 = false then 5 else if (!i.2.1 && !i.2.2.toList.isEmpty) = true then 1 else if 1000 < i.2.2.size then 2 else if allB plainB i.2.2 = false then 5 else 0
set_option maxHeartbeats 1600000 in
theorem spec_ItemFault (x : ByteArray) (b : Bool) (y : ByteArray) (hx : x.size ≤ 9223372036854775807) (hy : y.size ≤ 9223372036854775807) (w : World) : Calls Try.prog 39 #[.agg #[.string x, .bool b, .string y]] w fun e w' => e = .returned (.int .i64 (itemFault (x, b, y))) ∧ Below w.heap.size w w' := by
  cases b
  all_goals
    go_enter Try.func39, Try.ntmps39
    go_wp2_with (first | (go_at_call 40; ((with_reducible refine (spec_IsWord _ _ hx).mono ?_); rintro e w' ⟨rfl, rfl⟩)) | (go_at_call 36; ((with_reducible refine (spec_l2PlainText _ _ hy).mono ?_); rintro e w' ⟨rfl, rfl⟩)))
    all_goals (go_ret; exact ⟨ret_int (by first | (simp_all [itemFault]; done) | (simp_all [itemFault]; omega)), (by first | (with_reducible exact Below.refl _ _) | ((repeat' (first | (with_reducible exact Below.refl _ _) | (with_reducible assumption) | (with_reducible refine below_alloc ?_ _) | (with_reducible refine Below.drew ?_) | (with_reducible refine below_drewN ?_ _) | (with_reducible refine Below.setCell ?_ ?_ _) | refine below_then ?_ (by with_reducible assumption))) <;> (first | omega | (simp; done) | (simp; omega))))⟩)
set_option maxHeartbeats 1600000 in
theorem impl_ItemFault (x : ByteArray) (b : Bool) (y : ByteArray) (hx : x.size ≤ 9223372036854775807) (hy : y.size ≤ 9223372036854775807) (w : World) : Calls Try.prog 42 #[.agg #[.string x, .bool b, .string y]] w fun e w' => e = .returned (.int .i64 (itemFault (x, b, y))) ∧ Below w.heap.size w w' := by
  cases b
  all_goals
    go_enter Try.func42, Try.ntmps42
    go_wp2_with (first | (go_at_call 43; ((with_reducible refine (impl_IsWord _ _ hx).mono ?_); rintro e w' ⟨rfl, rfl⟩)) | (go_at_call 31; ((with_reducible refine (impl_arePlain _ _ hy).mono ?_); rintro e w' ⟨rfl, rfl⟩)))
    all_goals (go_ret; exact ⟨ret_int (by first | (simp_all [itemFault]; done) | (simp_all [itemFault]; omega)), (by first | (with_reducible exact Below.refl _ _) | ((repeat' (first | (with_reducible exact Below.refl _ _) | (with_reducible assumption) | (with_reducible refine below_alloc ?_ _) | (with_reducible refine Below.drew ?_) | (with_reducible refine below_drewN ?_ _) | (with_reducible refine Below.setCell ?_ ?_ _) | refine below_then ?_ (by with_reducible assumption))) <;> (first | omega | (simp; done) | (simp; omega))))⟩)

def alikeI (name : ByteArray) (i : It) : Bool := alikeB i.1 name
def findR (l : List It) (name : ByteArray) : Int × Int := if 20 < l.length then (2, 0) else if wordS name = false then (5, 0) else if idxI (alikeI name) l < 0 then (4, 0) else (0, idxI (alikeI name) l)
end Go.Proofs.Ytcnjbifdlieboaa
