/- Plain laws: small letters stay so, what is trimmed stays so, a word bears no blank. No program in sight. -/
import Derived.Test.YtklnccoknldkcaaDoorTrimP
import Derived.Test.YtklnccoknldkcaaDoorPlain
namespace Go.Proofs.YtklnccoknldkcaaDoor
theorem lowB_twice (b : UInt8) : lowB (lowB b) = lowB b := by
  unfold lowB
  by_cases h : 65 ≤ b.toNat ∧ b.toNat ≤ 90
  · rw [if_pos h, if_neg]
    have : (b + 32).toNat = b.toNat + 32 := by rw [UInt8.toNat_add]; simp; omega
    omega
  · rw [if_neg h, if_neg h]
theorem lowS_twice (s : ByteArray) : lowS (lowS s) = lowS s := by
  apply ByteArray.ext
  show (s.data.map lowB).map lowB = s.data.map lowB
  rw [Array.map_map]
  congr 1
  funext b
  exact lowB_twice b
theorem dw_twice (p : UInt8 → Bool) (l : List UInt8) : (l.dropWhile p).dropWhile p = l.dropWhile p := by
  induction l with
  | nil => rfl
  | cons b l ih =>
    by_cases h : p b = true
    · rw [List.dropWhile_cons_of_pos h, ih]
    · rw [List.dropWhile_cons_of_neg h, List.dropWhile_cons_of_neg h]
theorem dw_all (p : UInt8 → Bool) (l : List UInt8) (h : ∀ b ∈ l, p b = false) : l.dropWhile p = l := by
  cases l with
  | nil => rfl
  | cons b l => exact List.dropWhile_cons_of_neg (by simp [h b (by simp)])
/-- Cut off behind, then before: behind there is still nothing to cut off. -/
theorem trim_twice (l : List UInt8) : trimL (trimL l) = trimL l := by
  unfold trimL Lib.trimS Lib.trimLeftS Lib.trimRightS
  generalize (fun x => ([32, 9] : List UInt8).contains x) = p
  have key : ∀ m : List UInt8, (m.reverse.dropWhile p) = m.reverse → ((m.dropWhile p).reverse.dropWhile p) = (m.dropWhile p).reverse := by
    intro m hm
    by_cases e : m.dropWhile p = []
    · rw [e]; rfl
    · obtain ⟨a, ha⟩ : ∃ a, m = a ++ m.dropWhile p := ⟨m.takeWhile p, (List.takeWhile_append_dropWhile).symm⟩
      generalize m.dropWhile p = d at *
      subst ha
      rw [List.reverse_append] at hm
      cases hd : d.reverse with
      | nil => rfl
      | cons x r =>
        rw [hd, List.cons_append] at hm
        by_cases hx : p x = true
        · rw [List.dropWhile_cons_of_pos hx] at hm
          have h1 := (List.dropWhile_sublist p (l := r ++ a.reverse)).length_le
          rw [hm, List.length_cons] at h1
          omega
        · exact List.dropWhile_cons_of_neg hx
  have h0 : ((l.reverse.dropWhile p).reverse.reverse.dropWhile p) = (l.reverse.dropWhile p).reverse.reverse := by
    rw [List.reverse_reverse, dw_twice]
  rw [key _ h0, List.reverse_reverse, dw_twice]
theorem trimT_twice (s : ByteArray) : trimT (trimT s) = trimT s := by
  unfold trimT
  show (⟨(trimL (trimL s.data.toList)).toArray⟩ : ByteArray) = _
  rw [trim_twice]
theorem word_blank (b : UInt8) (h : wordB (b.toNat : Int) = true) : ([32, 9] : List UInt8).contains b = false := by
  rw [blank_has]
  cases hb : blankB (b.toNat : Int) with
  | false => rfl
  | true =>
    simp only [blankB, Bool.or_eq_true, decide_eq_true_eq] at hb
    rcases hb with e | e <;> (rw [e] at h; revert h; decide)
theorem word_trim (s : ByteArray) (h : wordS s = true) : trimT s = s := by
  unfold wordS at h
  rw [Bool.and_eq_true] at h
  have hall := List.all_eq_true.1 (show (s.data.toList.all fun b => wordB (b.toNat : Int)) = true from h.2)
  have hno : ∀ b ∈ s.data.toList, ([32, 9] : List UInt8).contains b = false := fun b hb => word_blank b (hall b hb)
  have e : trimL s.data.toList = s.data.toList := by
    unfold trimL Lib.trimS Lib.trimLeftS Lib.trimRightS
    rw [dw_all _ _ (fun b hb => hno b (List.mem_reverse.1 hb)), List.reverse_reverse, dw_all _ _ hno]
  unfold trimT
  rw [e]
theorem word_size (s : ByteArray) (h : wordS s = true) : s.size ≤ 64 := by
  unfold wordS at h
  simp only [Bool.and_eq_true, decide_eq_true_eq] at h
  exact h.1.2
end Go.Proofs.YtklnccoknldkcaaDoor
