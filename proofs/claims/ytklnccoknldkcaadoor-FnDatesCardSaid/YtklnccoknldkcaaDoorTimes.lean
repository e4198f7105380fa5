/- Times: their sums and products; a number or a code. -/
import Derived.Test.YtklnccoknldkcaaDoorNum
namespace Go.Proofs.YtklnccoknldkcaaDoor
open Go.RowKit
set_option linter.unusedSimpArgs false
set_option linter.unusedVariables false

def addT (a b : Int) : Int × Int := if inB a 0 1000000000000000 && inB b 0 1000000000000000 then (0, min (a + b) 1000000000000000) else (3, 0)

theorem eqIntResult (a b : Int) (w : World) : Calls Tryd.prog 30 #[.agg #[.int .i64 a, .int .i64 b], .agg #[.int .i64 a, .int .i64 b]] w fun e w' => e = .returned (.bool true) ∧ Below w.heap.size w w' := by
  go_enter Tryd.func30, Tryd.ntmps30
  go_wp2
  all_goals (go_ret; exact ⟨by first | rfl | (simp [*]; done) | (simp [*]; omega), by first | (with_reducible rfl) | exact (by first | (with_reducible exact Below.refl _ _) | ((repeat' (first | (with_reducible exact Below.refl _ _) | (with_reducible assumption) | (with_reducible refine below_alloc ?_ _) | (with_reducible refine Below.drew ?_) | (with_reducible refine below_drewN ?_ _) | (with_reducible refine Below.setCell ?_ ?_ _) | refine below_then ?_ (by with_reducible assumption))) <;> (first | omega | (simp; done) | (simp; omega))))⟩)
def mulT (a b : Int) : Int × Int := if inB a 0 1000000000000000 && inB b 0 1000000000000000 then (0, min (a * b) 1000000000000000) else (3, 0)
theorem mul_le {a b : Int} (hb : 0 < b) (h : a * b ≤ 1000000000000000) : a ≤ 1000000000000000 / b := (Int.le_ediv_iff_mul_le hb).2 h
theorem mul_gt {a b : Int} (hb : 0 < b) (h : ¬ a * b ≤ 1000000000000000) : 1000000000000000 / b < a := by
  by_cases h' : 1000000000000000 / b < a
  · exact h'
  · exact absurd ((Int.le_ediv_iff_mul_le hb).1 (by omega)) h

end Go.Proofs.YtklnccoknldkcaaDoor
