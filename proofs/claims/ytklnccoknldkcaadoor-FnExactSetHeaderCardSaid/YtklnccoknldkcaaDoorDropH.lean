/- The head lines without those of a name: both texts, and the law. -/
import Derived.Test.YtklnccoknldkcaaDoorAsk
import Derived.Test.YtklnccoknldkcaaDoorMark
import Derived.Test.YtklnccoknldkcaaDoorReqG
namespace Go.Proofs.YtklnccoknldkcaaDoor
open Go.RowKit
set_option linter.unusedSimpArgs false
set_option linter.unusedVariables false

def dropR (nm : ByteArray) (l : List Hd) : Int × List Hd := if askF nm l = 0 then (0, dropL nm l) else (askF nm l, [])
theorem own_at {w : World} {lo g : Nat} {e : TypeId} {size n cap : Nat} {xs : List Value} (h : w.ownsRow lo e size (.slice (some ⟨g, 0, none⟩) n cap) n xs) : lo ≤ g ∧ g < w.heap.size ∧ RowAt w g xs := by
  have hr := RowAt.of_own h
  refine ⟨?_, hr.lt, hr⟩
  rcases h.2 with ⟨hn, _⟩ | ⟨g', cap', cur, hv, hlo, _⟩
  · cases hn
  · cases hv; exact hlo
theorem hdR_some {w : World} {g n lo hi : Nat} {l : List Hd} (h : RowAt w g (hV l)) (h1 : lo ≤ g) (h2 : g < hi) (hn : l.length = n) : l.length = n ∧ SlAt w lo hi (some ⟨g, 0, none⟩) n (hV l) := ⟨hn, h.sl n h1 h2⟩
theorem hdR_none (w : World) (lo hi : Nat) : ([] : List Hd).length = 0 ∧ SlAt w lo hi none 0 (hV []) := ⟨rfl, SlAt.nil _ _ _ _⟩
theorem dropR_len (nm : ByteArray) (l : List Hd) : (dropR nm l).2.length ≤ l.length := by
  unfold dropR
  split
  · exact List.length_filter_le _ _
  · exact Nat.zero_le _
theorem dropR_20 (nm : ByteArray) (l : List Hd) : (dropR nm l).2.length ≤ 20 := by
  by_cases h : askF nm l = 0
  · have h1 := dropR_len nm l
    have h2 := (hdsFault_0 (askF_0 h).1).1
    omega
  · rw [dropR, if_neg h]; exact Nat.zero_le _
end Go.Proofs.YtklnccoknldkcaaDoor
