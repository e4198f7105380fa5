/- Small letters: both texts write the same bytes. -/
import Derived.Test.YtklnccoknldkcaaDoorText
import Derived.Test.YtklnccoknldkcaaDoorMem
namespace Go.Proofs.YtklnccoknldkcaaDoor
open Go.RowKit
set_option linter.unusedSimpArgs false
set_option linter.unusedVariables false

/-- The first k bytes small, the others as they were. -/
def lowVals (s : ByteArray) (k : Nat) : List Value := ((s.data.toList.take k).map lowB ++ s.data.toList.drop k).map byteV
theorem lowVals_zero (s : ByteArray) : lowVals s 0 = s.data.toList.map byteV := by simp [lowVals]
theorem lowVals_len (s : ByteArray) (k : Nat) : (lowVals s k).length = s.size := by
  have : s.data.toList.length = s.size := Array.length_toList
  simp only [lowVals, List.length_map, List.length_append, List.length_take, List.length_drop]; omega
theorem lowVals_at (s : ByteArray) (k : Nat) (h : k < s.size) : (lowVals s k)[k]? = some (byteV s[k]) := by
  have hl : s.data.toList.length = s.size := Array.length_toList
  have e : s.data.toList[k]'(by omega) = s[k] := rfl
  simp only [lowVals, List.getElem?_map]
  rw [List.getElem?_append_right (by simp; omega), List.getElem?_drop]
  simp only [List.length_map, List.length_take]
  rw [show k + (k - min k s.data.toList.length) = k from by omega, List.getElem?_eq_getElem (by omega), e]; rfl
theorem lowVals_keep (s : ByteArray) (k : Nat) (h : k < s.size) (hb : ¬ (65 ≤ s[k].toNat ∧ s[k].toNat ≤ 90)) : lowVals s (k + 1) = lowVals s k := by
  have hl : s.data.toList.length = s.size := Array.length_toList
  unfold lowVals
  rw [take_snoc s k h]
  have hd : s.data.toList.drop k = s[k] :: s.data.toList.drop (k + 1) := by rw [List.drop_eq_getElem_cons (by omega)]; rfl
  rw [hd]
  simp [lowB, hb]
theorem lowVals_set (s : ByteArray) (k : Nat) (h : k < s.size) (hb : 65 ≤ s[k].toNat ∧ s[k].toNat ≤ 90) : (lowVals s k).set k (.int .u8 ((s[k].toNat : Int) + 32)) = lowVals s (k + 1) := by
  have hl : s.data.toList.length = s.size := Array.length_toList
  unfold lowVals
  rw [take_snoc s k h]
  have hd : s.data.toList.drop k = s[k] :: s.data.toList.drop (k + 1) := by rw [List.drop_eq_getElem_cons (by omega)]; rfl
  rw [hd]
  have hm : ((s.data.toList.take k).map lowB).length = k := by simp; omega
  simp only [List.map_append, List.map_cons, List.map_nil, List.append_assoc]
  rw [List.set_append_right _ _ (by simp; omega)]
  simp only [List.length_map, List.length_take]
  rw [show k - min k s.data.toList.length = 0 from by omega]
  congr 1
  have he : (s[k] + 32).toNat = s[k].toNat + 32 := by
    rw [UInt8.toNat_add]; simp; omega
  simp [lowB, hb, byteV, he]
theorem lowVals_end (s : ByteArray) : lowVals s s.size = (s.data.toList.map lowB).map byteV := by
  have hl : s.data.toList.length = s.size := Array.length_toList
  unfold lowVals
  rw [List.take_of_length_le (by omega), List.drop_of_length_le (by omega), List.append_nil]
theorem lowS_eq (s : ByteArray) : (⟨(s.data.toList.map lowB).toArray⟩ : ByteArray) = lowS s := by
  unfold lowS; congr 1; apply Array.ext'; simp

theorem spec_l1Lower (s : ByteArray) (w : World) (hs : s.size ≤ 9223372036854775807) : Calls Tryd.prog 73 #[.string s] w fun e w' => e = .returned (.string (lowS s)) ∧ Below w.heap.size w w' := by
  obtain ⟨cap, W, hconv, hrow, hbel, hlt⟩ := conv_there w s
  have Hrow := Lib.hid hrow
  clear hrow
  go_enter Tryd.func73, Tryd.ntmps73
  go_wp2
  go_loopw [4] (fun i wr => ∃ k : Nat, k ≤ s.size ∧ i = .int .i64 k ∧ RowAt wr w.heap.size (lowVals s k) ∧ Below w.heap.size w wr) (fun i _ => s.size - (intOf i).toNat)
  case atStart => exact ⟨0, Nat.zero_le _, rfl, by rw [lowVals_zero]; exact Hrow.out, hbel⟩
  case round =>
    clear hconv
    obtain ⟨k, hk, rfl, hrow, hb⟩ := hrel
    by_cases hlt' : k < s.size
    · have hcell : wr.cell? ⟨w.heap.size, k, none⟩ = some (.int .u8 (s[k].toNat : Int)) := hrow.cell k _ (lowVals_at s k hlt')
      have hfree : wr.frozen? ⟨w.heap.size, k, none⟩ = false := hrow.free k (by rw [lowVals_len]; exact hlt')
      have hby := (s[k]).toNat_lt
      have Hr := Lib.hid hrow
      clear hrow
      by_cases h1 : 65 ≤ s[k].toNat
      · by_cases h2 : s[k].toNat ≤ 90
        · go_wp2
          go_roundw
          case rel => exact ⟨k + 1, by omega, by go_num, by rw [← lowVals_set s k hlt' ⟨h1, h2⟩, show ((s[k].toNat : Int) + 32) = (s[k].toNat : Int) + 32 from by omega]; exact Hr.out.set k _, hb.setCell (Nat.le_refl _) _⟩
          case measure => simp [intOf]; omega
        · go_wp2
          go_roundw
          case rel => exact ⟨k + 1, by omega, by go_num, by rw [lowVals_keep s k hlt' (fun h => h2 h.2)]; exact Hr.out, hb⟩
          case measure => simp [intOf]; omega
      · go_wp2
        go_roundw
        case rel => exact ⟨k + 1, by omega, by go_num, by rw [lowVals_keep s k hlt' (fun h => h1 h.1)]; exact Hr.out, hb⟩
        case measure => simp [intOf]; omega
    · obtain rfl : k = s.size := by omega
      have hback := conv_back wr w.heap.size cap (s.data.toList.map lowB) s.size (by rw [List.length_map, Array.length_toList]; rfl) (by rw [← lowVals_end]; exact hrow)
      rw [lowS_eq] at hback
      go_wp2
      go_ret
      exact ⟨rfl, hb⟩
theorem impl_lower (s : ByteArray) (w : World) (hs : s.size ≤ 9223372036854775807) : Calls Tryd.prog 70 #[.string s] w fun e w' => e = .returned (.string (lowS s)) ∧ Below w.heap.size w w' := by
  obtain ⟨cap, W, hconv, hrow, hbel, hlt⟩ := conv_there w s
  have Hrow := Lib.hid hrow
  clear hrow
  go_enter Tryd.func70, Tryd.ntmps70
  go_wp2
  go_loopw [10] (fun i wr => ∃ k : Nat, k ≤ s.size ∧ i = .int .i64 k ∧ RowAt wr w.heap.size (lowVals s k) ∧ Below w.heap.size w wr) (fun i _ => s.size - (intOf i).toNat)
  case atStart => exact ⟨0, Nat.zero_le _, rfl, by rw [lowVals_zero]; exact Hrow.out, hbel⟩
  case round =>
    clear hconv
    obtain ⟨k, hk, rfl, hrow, hb⟩ := hrel
    by_cases hlt' : k < s.size
    · have hcell : wr.cell? ⟨w.heap.size, k, none⟩ = some (.int .u8 (s[k].toNat : Int)) := hrow.cell k _ (lowVals_at s k hlt')
      have hfree : wr.frozen? ⟨w.heap.size, k, none⟩ = false := hrow.free k (by rw [lowVals_len]; exact hlt')
      have hby := (s[k]).toNat_lt
      have Hr := Lib.hid hrow
      clear hrow
      by_cases h1 : 65 ≤ s[k].toNat
      · by_cases h2 : s[k].toNat ≤ 90
        · go_wp2
          go_roundw
          case rel => exact ⟨k + 1, by omega, by go_num, by rw [← lowVals_set s k hlt' ⟨h1, h2⟩, show ((s[k].toNat : Int) + 32) = (s[k].toNat : Int) + 97 - 65 from by omega]; exact Hr.out.set k _, hb.setCell (Nat.le_refl _) _⟩
          case measure => simp [intOf]; omega
        · go_wp2
          go_roundw
          case rel => exact ⟨k + 1, by omega, by go_num, by rw [lowVals_keep s k hlt' (fun h => h2 h.2)]; exact Hr.out, hb⟩
          case measure => simp [intOf]; omega
      · go_wp2
        go_roundw
        case rel => exact ⟨k + 1, by omega, by go_num, by rw [lowVals_keep s k hlt' (fun h => h1 h.1)]; exact Hr.out, hb⟩
        case measure => simp [intOf]; omega
    · obtain rfl : k = s.size := by omega
      have hback := conv_back wr w.heap.size cap (s.data.toList.map lowB) s.size (by rw [List.length_map, Array.length_toList]; rfl) (by rw [← lowVals_end]; exact hrow)
      rw [lowS_eq] at hback
      go_wp2
      go_ret
      exact ⟨rfl, hb⟩

def lowerR (s : ByteArray) : Int × ByteArray := if s.size ≤ 1000 then (0, lowS s) else (2, ByteArray.empty)
theorem spec_LowerText (s : ByteArray) (w : World) (hs : s.size ≤ 9223372036854775807) : Calls Tryd.prog 15 #[.string s] w fun e w' => e = .returned (.agg #[.int .i64 (lowerR s).1, .string (lowerR s).2]) ∧ Below w.heap.size w w' := by
  by_cases h : s.size ≤ 1000
  · have e : lowerR s = (0, lowS s) := by simp [lowerR, h]
    rw [e]
    go_enter Tryd.func15, Tryd.ntmps15
    go_wp2_with (go_at_call 73; ((with_reducible refine (spec_l1Lower s _ hs).mono ?_); rintro e w' ⟨rfl, hb⟩; obtain ⟨hc, hf⟩ := bcell hb; have hz := hb.size; (try simp only [World.size_alloc, World.size_setCell, World.size_drew] at hz); obtain ⟨hlt, hle, hn1, hn2, hn3, hn4⟩ := bsize hb; (try simp only [World.size_alloc, World.size_setCell, World.size_drew] at hlt hle hn1 hn2 hn3 hn4); (try have hr0 : w.heap.size < w'.heap.size := by omega); (try have hr1 : w.heap.size + 1 < w'.heap.size := by omega); (try have hs0 : wS.heap.size < w'.heap.size := by omega); (try have hs1 : wG.heap.size < w'.heap.size := by omega)))
    all_goals exact bodyPost_ret (by first | ((simp [results, Tryd.results15, go_sem]; try rfl); done) | ((simp [results, Tryd.results15, go_sem, *]; try rfl); done) | ((simp (maxDischargeDepth := 8) [results, Tryd.results15, go_sem, *]; try rfl); done)) rfl ⟨rfl, by first | (with_reducible rfl) | exact (by first | (with_reducible exact Below.refl _ _) | ((repeat' (first | (with_reducible exact Below.refl _ _) | (with_reducible assumption) | (with_reducible refine below_alloc ?_ _) | (with_reducible refine Below.drew ?_) | (with_reducible refine below_drewN ?_ _) | (with_reducible refine Below.setCell ?_ ?_ _) | refine below_then ?_ (by with_reducible assumption))) <;> (first | omega | (simp; done) | (simp; omega))))⟩
  · have e : lowerR s = (2, ByteArray.empty) := by simp [lowerR, h]
    rw [e]
    go_enter Tryd.func15, Tryd.ntmps15
    go_wp2
    all_goals exact bodyPost_ret (by first | ((simp [results, Tryd.results15, go_sem]; try rfl); done) | ((simp [results, Tryd.results15, go_sem, *]; try rfl); done) | ((simp (maxDischargeDepth := 8) [results, Tryd.results15, go_sem, *]; try rfl); done)) rfl ⟨rfl, by first | (with_reducible rfl) | exact (by first | (with_reducible exact Below.refl _ _) | ((repeat' (first | (with_reducible exact Below.refl _ _) | (with_reducible assumption) | (with_reducible refine below_alloc ?_ _) | (with_reducible refine Below.drew ?_) | (with_reducible refine below_drewN ?_ _) | (with_reducible refine Below.setCell ?_ ?_ _) | refine below_then ?_ (by with_reducible assumption))) <;> (first | omega | (simp; done) | (simp; omega))))⟩
theorem impl_LowerText (s : ByteArray) (w : World) (hs : s.size ≤ 9223372036854775807) : Calls Tryd.prog 12 #[.string s] w fun e w' => e = .returned (.agg #[.int .i64 (lowerR s).1, .string (lowerR s).2]) ∧ Below w.heap.size w w' := by
  by_cases h : s.size ≤ 1000
  · have e : lowerR s = (0, lowS s) := by simp [lowerR, h]
    rw [e]
    go_enter Tryd.func12, Tryd.ntmps12
    go_wp2_with (go_at_call 70; ((with_reducible refine (impl_lower s _ hs).mono ?_); rintro e w' ⟨rfl, hb⟩; obtain ⟨hc, hf⟩ := bcell hb; have hz := hb.size; (try simp only [World.size_alloc, World.size_setCell, World.size_drew] at hz); obtain ⟨hlt, hle, hn1, hn2, hn3, hn4⟩ := bsize hb; (try simp only [World.size_alloc, World.size_setCell, World.size_drew] at hlt hle hn1 hn2 hn3 hn4); (try have hr0 : w.heap.size < w'.heap.size := by omega); (try have hr1 : w.heap.size + 1 < w'.heap.size := by omega); (try have hs0 : wS.heap.size < w'.heap.size := by omega); (try have hs1 : wG.heap.size < w'.heap.size := by omega)))
    all_goals exact bodyPost_ret (by first | ((simp [results, Tryd.results12, go_sem]; try rfl); done) | ((simp [results, Tryd.results12, go_sem, *]; try rfl); done) | ((simp (maxDischargeDepth := 8) [results, Tryd.results12, go_sem, *]; try rfl); done)) rfl ⟨rfl, by first | (with_reducible rfl) | exact (by first | (with_reducible exact Below.refl _ _) | ((repeat' (first | (with_reducible exact Below.refl _ _) | (with_reducible assumption) | (with_reducible refine below_alloc ?_ _) | (with_reducible refine Below.drew ?_) | (with_reducible refine below_drewN ?_ _) | (with_reducible refine Below.setCell ?_ ?_ _) | refine below_then ?_ (by with_reducible assumption))) <;> (first | omega | (simp; done) | (simp; omega))))⟩
  · have e : lowerR s = (2, ByteArray.empty) := by simp [lowerR, h]
    rw [e]
    go_enter Tryd.func12, Tryd.ntmps12
    go_wp2
    all_goals exact bodyPost_ret (by first | ((simp [results, Tryd.results12, go_sem]; try rfl); done) | ((simp [results, Tryd.results12, go_sem, *]; try rfl); done) | ((simp (maxDischargeDepth := 8) [results, Tryd.results12, go_sem, *]; try rfl); done)) rfl ⟨rfl, by first | (with_reducible rfl) | exact (by first | (with_reducible exact Below.refl _ _) | ((repeat' (first | (with_reducible exact Below.refl _ _) | (with_reducible assumption) | (with_reducible refine below_alloc ?_ _) | (with_reducible refine Below.drew ?_) | (with_reducible refine below_drewN ?_ _) | (with_reducible refine Below.setCell ?_ ?_ _) | refine below_then ?_ (by with_reducible assumption))) <;> (first | omega | (simp; done) | (simp; omega))))⟩

end Go.Proofs.YtklnccoknldkcaaDoor
