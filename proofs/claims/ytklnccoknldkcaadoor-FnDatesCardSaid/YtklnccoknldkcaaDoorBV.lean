/- Bytes as cells. -/
import Derived.Test.YtklnccoknldkcaaDoorMem
namespace Go.Proofs.YtklnccoknldkcaaDoor
open Go.RowKit
def bV (l : List UInt8) : List Value := l.map byteV
theorem bV_len (l : List UInt8) : (bV l).length = l.length := List.length_map _
theorem bV_at (l : List UInt8) (k : Nat) (h : k < l.length) : (bV l)[k]? = some (.int .u8 (l[k].toNat : Int)) := by simp [bV, h, byteV]
theorem bV_take (l : List UInt8) (k : Nat) (h : k < l.length) : bV (l.take (k + 1)) = bV (l.take k) ++ [.int .u8 (l[k].toNat : Int)] := by
  unfold bV; rw [List.take_succ_eq_append_getElem h, List.map_append]; rfl
end Go.Proofs.YtklnccoknldkcaaDoor
