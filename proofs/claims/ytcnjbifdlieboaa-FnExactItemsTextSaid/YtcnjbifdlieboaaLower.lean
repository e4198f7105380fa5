/- Small letters: both texts write the same bytes. -/
import Derived.Test.YtcnjbifdlieboaaText
import Derived.Test.YtcnjbifdlieboaaMem
namespace Go.Proofs.Ytcnjbifdlieboaa
open Go.RowKit
set_option linter.unusedSimpArgs false
set_option linter.unusedVariables false

/-- The first k bytes small, the others as they were. -/
def lowVals (s : ByteArray) (k : Nat) : List Value := ((s.data.toList.take k).map lowB ++ s.data.toList.drop k).map byteV
theorem lowVals_zero (s : ByteArray) : lowVals s 0 = s.data.toList.map byteV := by simp [lowVals]
theorem lowVals_len (s : ByteArray) (k : Nat) : (lowVals s k).length = s.size := by
  have : s.data.toList.length = s.size := Array.length_toList
  simp only [lowVals, List.length_map, List.length_append, List.length_take, List.length_drop]; omega
theorem lowVals_at (s : ByteArray) (k : Nat) (h : k < s.size) : (lowVals s k)[k]? = some (byteV s[k]) := by
  have hl : s.data.toList.length = s.size := Array.length_toList
  have e : s.data.toList[k]'(by omega) = s[k] := rfl
  simp only [lowVals, List.getElem?_map]
  rw [List.getElem?_append_right (by simp; omega), List.getElem?_drop]
  simp only [List.length_map, List.length_take]
  rw [show k + (k - min k s.data.toList.length) = k from by omega, List.getElem?_eq_getElem (by omega), e]; rfl
theorem lowVals_keep (s : ByteArray) (k : Nat) (h : k < s.size) (hb : ¬ (65 ≤ s[k].toNat ∧ s[k].toNat ≤ 90)) : lowVals s (k + 1) = lowVals s k := by
  have hl : s.data.toList.length = s.size := Array.length_toList
  unfold lowVals
  rw [take_snoc s k h]
  have hd : s.data.toList.drop k = s[k] :: s.data.toList.drop (k + 1) := by rw [List.drop_eq_getElem_cons (by omega)]; rfl
  rw [hd]
  simp [lowB, hb]
theorem lowVals_set (s : ByteArray) (k : Nat) (h : k < s.size) (hb : 65 ≤ s[k].toNat ∧ s[k].toNat ≤ 90) : (lowVals s k).set k (.int .u8 ((s[k].toNat : Int) + 32)) = lowVals s (k + 1) := by
  have hl : s.data.toList.length = s.size := Array.length_toList
  unfold lowVals
  rw [take_snoc s k h]
  have hd : s.data.toList.drop k = s[k] :: s.data.toList.drop (k + 1) := by rw [List.drop_eq_getElem_cons (by omega)]; rfl
  rw [hd]
  have hm : ((s.data.toList.take k).map lowB).length = k := by simp; omega
  simp only [List.map_append, List.map_cons, List.map_nil, List.append_assoc]
  rw [List.set_append_right _ _ (by simp; omega)]
  simp only [List.length_map, List.length_take]
  rw [show k - min k s.data.toList.length = 0 from by omega]
  congr 1
  have he : (s[k] + 32).toNat = s[k].toNat + 32 := by
    rw [UInt8.toNat_add]; simp; omega
  simp [lowB, hb, byteV, he]
theorem lowVals_end (s : ByteArray) : lowVals s s.size = (s.data.toList.map lowB).map byteV := by
  have hl : s.data.toList.length = s.size := Array.length_toList
  unfold lowVals
  rw [List.take_of_length_le (by omega), List.drop_of_length_le (by omega), List.append_nil]
theorem lowS_eq (s : ByteArray) : (⟨(s.data.toList.map lowB).toArray⟩ : ByteArray) = lowS s := by
  unfold lowS; congr 1; apply Array.ext'; simp

def lowerR (s : ByteArray) : Int × ByteArray := if s.size ≤ 1000 then (0, lowS s) else (2, ByteArray.empty)
theorem eqTextResult (c : Int) (s : ByteArray) (w : World) : Calls Try.prog 20 #[.agg #[.int .i64 c, .string s], .agg #[.int .i64 c, .string s]] w fun e w' => e = .returned (.bool true) ∧ Below w.heap.size w w' := by
  go_enter Try.func20, Try.ntmps20
  go_wp2
  all_goals (go_ret; exact ⟨by first | rfl | (simp [*]; done) | (simp [*]; omega), by first | (with_reducible rfl) | exact (by first | (with_reducible exact Below.refl _ _) | ((repeat' (first | (with_reducible exact Below.refl _ _) | (with_reducible assumption) | (with_reducible refine below_alloc ?_ _) | (with_reducible refine Below.drew ?_) | (with_reducible refine below_drewN ?_ _) | (with_reducible refine Below.setCell ?_ ?_ _) | refine below_then ?_ (by with_reducible assumption))) <;> (first | omega | (simp; done) | (simp; omega))))⟩)

end Go.Proofs.Ytcnjbifdlieboaa
