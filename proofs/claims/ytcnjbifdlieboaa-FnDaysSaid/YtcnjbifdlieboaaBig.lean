/- The law's own bound on what is drawn from. -/
import Derived.Test.YtcnjbifdlieboaaBase
namespace Go.Proofs.Ytcnjbifdlieboaa
open Go.RowKit
theorem lwBig (a : Option Addr) (n c : Nat) (w : World) : Calls Try.prog 6 #[.slice a n c] w fun e w' => e = .returned (.bool (decide (1048576 < (n : Int)))) ∧ w = w' := by
  go_enter Try.func6, Try.ntmps6
  go_wp2
  go_ret
  exact ⟨rfl, rfl⟩
end Go.Proofs.Ytcnjbifdlieboaa
