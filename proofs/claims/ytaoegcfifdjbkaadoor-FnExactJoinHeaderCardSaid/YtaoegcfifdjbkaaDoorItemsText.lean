/- The text of items: both texts write the same. -/
import Derived.Test.YtaoegcfifdjbkaaDoorFind
import Derived.Test.YtaoegcfifdjbkaaDoorItemsP
import Derived.Test.YtaoegcfifdjbkaaDoorStrs
import Derived.Deep.DeepCutAuto
namespace Go.Proofs.YtaoegcfifdjbkaaDoor
open Go.RowKit
set_option linter.unusedSimpArgs false
set_option linter.unusedVariables false

def itT (i : It) : ByteArray := itText i.1 i.2.1 i.2.2
theorem itemFault_0 {i : It} (h : itemFault i = 0) : i.1.size ≤ 64 ∧ i.2.2.size ≤ 1000 := by
  unfold itemFault at h
  split at h
  · cases h
  · rename_i h1
    split at h
    · cases h
    · split at h
      · cases h
      · rename_i h3
        refine ⟨?_, by omega⟩
        simp only [Bool.not_eq_false] at h1
        simp only [wordS, Bool.and_eq_true, decide_eq_true_eq] at h1
        exact h1.1.2
theorem itT_size {i : It} (h : itemFault i = 0) : (itT i).size ≤ 2100 := by
  have ⟨h1, h2⟩ := itemFault_0 h
  have h3 := quoteS_size i.2.2
  have e1 : (⟨#[61]⟩ : ByteArray).size = 1 := rfl
  unfold itT itText
  split
  · split
    · rw [ByteArray.size_append, ByteArray.size_append, e1]; omega
    · rw [ByteArray.size_append, ByteArray.size_append, e1]; omega
  · omega
theorem items_size {l : List It} (k : Nat) (hk : k ≤ l.length) (hl : l.length ≤ 20) (h : ∀ j (hj : j < l.length), j < k → itemFault l[j] = 0) : (joinB commaS ((l.map itT).take k)).size ≤ 45000 := by
  rw [← List.map_take]
  have := joinB_size commaS 2100 ((l.take k).map itT) (fun x hx => by
    obtain ⟨i, hi, rfl⟩ := List.mem_map.1 hx
    obtain ⟨j, hj, rfl⟩ := List.getElem_of_mem hi
    have hj' : j < k := by rw [List.length_take] at hj; omega
    have hjl : j < l.length := by omega
    rw [List.getElem_take]
    exact itT_size (h j hjl hj'))
  have e : commaS.size = 2 := rfl
  have hlen : ((l.take k).map itT).length ≤ 20 := by rw [List.length_map, List.length_take]; omega
  have h2 := Nat.mul_le_mul_right (2100 + 2) hlen
  rw [e] at this
  omega
theorem take_map (l : List It) (k : Nat) (h : k < l.length) : (l.map itT).take (k + 1) = (l.map itT).take k ++ [itT l[k]] := by
  rw [List.take_succ_eq_append_getElem (by rw [List.length_map]; exact h), List.getElem_map]
theorem items_step0 (l : List It) (k : Nat) (h : k < l.length) (h0 : k = 0) : joinB commaS ((l.map itT).take k) ++ itT l[k] = joinB commaS ((l.map itT).take (k + 1)) := by
  subst h0
  rw [take_map l 0 h, List.take_zero, List.nil_append, joinB_one, joinB_nil]
  apply ByteArray.ext; simp
theorem items_step (l : List It) (k : Nat) (h : k < l.length) (h0 : 0 < k) : joinB commaS ((l.map itT).take k) ++ ⟨#[44, 32]⟩ ++ itT l[k] = joinB commaS ((l.map itT).take (k + 1)) := by
  rw [take_map l k h]
  refine (joinB_snoc _ _ _ fun e => ?_).symm
  have := congrArg List.length e
  rw [List.length_take, List.length_map, List.length_nil] at this
  omega
theorem itT_no (i : It) (h : i.2.1 = false) : itT i = i.1 := by simp [itT, itText, h]
theorem itT_word (i : It) (h : i.2.1 = true) (h2 : wordS i.2.2 = true) : itT i = i.1 ++ (⟨#[61]⟩ ++ i.2.2) := by simp [itT, itText, h, h2]
theorem itT_quote (i : It) (h : i.2.1 = true) (h2 : wordS i.2.2 = false) : itT i = i.1 ++ (⟨#[61]⟩ ++ quoteS i.2.2) := by simp [itT, itText, h, h2]
theorem app4 (a b c d e : ByteArray) (h : a ++ (b ++ (c ++ d)) = e) : a ++ b ++ c ++ d = e := by rw [← h]; simp only [ByteArray.append_assoc]
def itemsR (l : List It) : Int × ByteArray := if 20 < l.length then (2, ⟨#[]⟩) else if faultG itemFault l ≠ 0 then (faultG itemFault l, ⟨#[]⟩) else
  if 1000 < (joinB commaS (l.map itT)).size then (2, ⟨#[]⟩) else (0, joinB commaS (l.map itT))
theorem itemsR_many {l : List It} (h : 20 < l.length) : itemsR l = (2, ⟨#[]⟩) := by simp [itemsR, h]
theorem itemsR_bad {l : List It} (h : ¬ 20 < l.length) (h2 : faultG itemFault l ≠ 0) : itemsR l = (faultG itemFault l, ⟨#[]⟩) := by simp [itemsR, h, h2]
theorem itemsR_long {l : List It} (h : ¬ 20 < l.length) (h2 : faultG itemFault l = 0) (h3 : 1000 < (joinB commaS (l.map itT)).size) : itemsR l = (2, ⟨#[]⟩) := by simp [itemsR, h, h2, h3]
theorem itemsR_ok {l : List It} (h : ¬ 20 < l.length) (h2 : faultG itemFault l = 0) (h3 : ¬ 1000 < (joinB commaS (l.map itT)).size) : itemsR l = (0, joinB commaS (l.map itT)) := by simp [itemsR, h, h2, h3]
theorem ret_items (l : List It) : ∀ c t, itemsR l = (c, t) → Ending.returned (.agg #[.int .i64 c, .string t]) = .returned (.agg #[.int .i64 (itemsR l).1, .string (itemsR l).2]) := fun c t h => by rw [h]
end Go.Proofs.YtaoegcfifdjbkaaDoor
