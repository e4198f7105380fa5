/- Plain law: what was quoted is read as it was. No program in sight. -/
import Derived.Test.YtaoegcfifdjbkaaDoorPlain
namespace Go.Proofs.YtaoegcfifdjbkaaDoor
open Go.RowKit

theorem unq_esc (l : List UInt8) : ∀ acc, unqGo acc (l.flatMap escB ++ [34]) = some (acc ++ l) := by
  induction l with
  | nil => intro acc; rw [List.flatMap_nil, List.nil_append, unqGo_cons, if_pos (show (34 : UInt8).toNat = 34 from rfl), if_pos rfl, List.append_nil]
  | cons b l ih =>
    intro acc
    rw [List.flatMap_cons, List.append_assoc]
    by_cases h : b.toNat = 34 ∨ b.toNat = 92
    · rw [escB, if_pos h]
      show unqGo acc (92 :: b :: (l.flatMap escB ++ [34])) = _
      rw [unqGo_cons, if_neg (by decide), if_pos (by decide)]
      show unqGo (acc ++ [b]) _ = _
      rw [ih, List.append_assoc]; rfl
    · rw [escB, if_neg h]
      show unqGo acc (b :: (l.flatMap escB ++ [34])) = _
      rw [unqGo_cons, if_neg (fun e => h (.inl e)), if_neg (fun e => h (.inr e)), ih, List.append_assoc]; rfl
theorem esc_plain (l : List UInt8) (h : (l.all fun b => plainB (b.toNat : Int)) = true) : ((l.flatMap escB).all fun b => plainB (b.toNat : Int)) = true := by
  induction l with
  | nil => rfl
  | cons b l ih =>
    rw [List.all_cons, Bool.and_eq_true] at h
    rw [List.flatMap_cons, List.all_append, ih h.2, Bool.and_true]
    unfold escB
    split
    · simp only [List.all_cons, List.all_nil, Bool.and_true, h.1]; rfl
    · simp only [List.all_cons, List.all_nil, Bool.and_true, h.1]
theorem quoteS_list (s : ByteArray) : (quoteS s).data.toList = 34 :: (s.data.toList.flatMap escB ++ [34]) := rfl
theorem quoteS_size (s : ByteArray) : (quoteS s).size ≤ 2 * s.size + 2 ∧ s.size + 2 ≤ (quoteS s).size := by
  have e : (quoteS s).size = (quoteS s).data.toList.length := Array.length_toList.symm
  have es : s.data.toList.length = s.size := Array.length_toList
  have h : ∀ l : List UInt8, (l.flatMap escB).length ≤ 2 * l.length ∧ l.length ≤ (l.flatMap escB).length := by
    intro l
    induction l with
    | nil => simp
    | cons b l ih =>
      have h2 := escB_len b
      have h1 : 1 ≤ (escB b).length := by unfold escB; split <;> simp
      simp only [List.flatMap_cons, List.length_append, List.length_cons]; omega
  have := h s.data.toList
  rw [e, quoteS_list]
  simp only [List.length_cons, List.length_append, List.length_nil]
  omega
theorem quoteS_quoted (s : ByteArray) (h : allB plainB s = true) : quoted (quoteS s) = true := by
  unfold quoted allB
  rw [quoteS_list]
  have := esc_plain _ h
  simp only [List.all_cons, List.all_append, this, List.all_nil]
  rfl
theorem unq_back_all (s : ByteArray) (h : allB plainB s = true) (hs : s.size ≤ 1000) : unqR (quoteS s) = (0, s) := by
  have hz := quoteS_size s
  unfold unqR unqO
  rw [if_pos (by omega), if_pos (quoteS_quoted s h), quoteS_list, List.drop_succ_cons, List.drop_zero, unq_esc]
  rfl
end Go.Proofs.YtaoegcfifdjbkaaDoor
