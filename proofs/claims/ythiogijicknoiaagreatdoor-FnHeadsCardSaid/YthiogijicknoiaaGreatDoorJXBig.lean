/- Joined: Big. -/
import Derived.Test.YthiogijicknoiaaGreatDoorJB0
/- The law's own bound on what is drawn from. -/
namespace Go.Proofs.YthiogijicknoiaaGreatDoor
open Go.RowKit
theorem lwBig (a : Option Addr) (n c : Nat) (w : World) : Calls Tryz.prog 9 #[.slice a n c] w fun e w' => e = .returned (.bool (decide (1048576 < (n : Int)))) ∧ w = w' := by
  go_enter Tryz.func9, Tryz.ntmps9
  go_wp2
  go_ret
  exact ⟨rfl, rfl⟩
end Go.Proofs.YthiogijicknoiaaGreatDoor
