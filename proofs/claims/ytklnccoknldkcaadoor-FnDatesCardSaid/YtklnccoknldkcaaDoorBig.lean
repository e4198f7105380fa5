/- The law's own bound on what is drawn from. -/
import Derived.Test.YtklnccoknldkcaaDoorBase
namespace Go.Proofs.YtklnccoknldkcaaDoor
open Go.RowKit
theorem lwBig (a : Option Addr) (n c : Nat) (w : World) : Calls Tryd.prog 10 #[.slice a n c] w fun e w' => e = .returned (.bool (decide (1048576 < (n : Int)))) ∧ w = w' := by
  go_enter Tryd.func10, Tryd.ntmps10
  go_wp2
  go_ret
  exact ⟨rfl, rfl⟩
end Go.Proofs.YtklnccoknldkcaaDoor
