/- Plain words on bytes and strings: no program in sight. -/
import Derived.WalkKit
namespace Go.Proofs.YtklnccoknldkcaaDoor
open Go.RowKit

def inB (n lo hi : Int) : Bool := decide (lo ≤ n) && decide (n ≤ hi)

theorem inB_iff {n lo hi : Int} : inB n lo hi = true ↔ lo ≤ n ∧ n ≤ hi := by simp [inB]
theorem inB_not {n lo hi : Int} : inB n lo hi = false ↔ ¬ (lo ≤ n ∧ n ≤ hi) := by rw [← inB_iff]; simp

def letterB (c : Int) : Bool := (decide (97 ≤ c) && decide (c ≤ 122)) || (decide (65 ≤ c) && decide (c ≤ 90))
def digitB (c : Int) : Bool := decide (48 ≤ c) && decide (c ≤ 57)
def wordB (c : Int) : Bool := letterB c || digitB c || [33, 35, 36, 37, 38, 39, 42, 43, 45, 46, 94, 95, 124, 126].contains c
def plainB (c : Int) : Bool := decide (c = 9) || (decide (32 ≤ c) && decide (c ≤ 126))
def hostB (c : Int) : Bool := letterB c || digitB c || decide (c = 46) || decide (c = 45)
def pathB (c : Int) : Bool := wordB c || [47, 63, 61, 38, 58, 64, 44, 59, 40, 41].contains c

/-- Of the first k bytes all are such. -/
def allTo (p : Int → Bool) (s : ByteArray) (k : Nat) : Bool := (s.data.toList.take k).all fun b => p (b.toNat : Int)
theorem allTo_zero (p : Int → Bool) (s : ByteArray) : allTo p s 0 = true := rfl
theorem take_snoc (s : ByteArray) (k : Nat) (h : k < s.size) : s.data.toList.take (k + 1) = s.data.toList.take k ++ [s[k]] := by
  rw [List.take_succ_eq_append_getElem (by simpa using h)]; rfl
theorem allTo_succ (p : Int → Bool) (s : ByteArray) (k : Nat) (h : k < s.size) : allTo p s (k + 1) = (allTo p s k && p (s[k].toNat : Int)) := by
  unfold allTo; rw [take_snoc s k h]; simp
def allB (p : Int → Bool) (s : ByteArray) : Bool := s.data.toList.all fun b => p (b.toNat : Int)
theorem allTo_size (p : Int → Bool) (s : ByteArray) : allTo p s s.size = allB p s := by
  unfold allTo allB; rw [List.take_of_length_le (by rw [Array.length_toList]; exact Nat.le_refl _)]
theorem allB_false (p : Int → Bool) (s : ByteArray) (k : Nat) (h : k < s.size) (hp : p (s[k].toNat : Int) = false) : allB p s = false := by
  unfold allB
  rw [List.all_eq_false]
  exact ⟨s[k], List.getElem_mem (l := s.data.toList) (by rw [Array.length_toList]; exact h), by simp [hp]⟩

def wordS (s : ByteArray) : Bool := (decide (1 ≤ s.size) && decide (s.size ≤ 64)) && allB wordB s

def lowB (b : UInt8) : UInt8 := if 65 ≤ b.toNat ∧ b.toNat ≤ 90 then b + 32 else b
def lowS (s : ByteArray) : ByteArray := ⟨s.data.map lowB⟩
theorem lowS_size (s : ByteArray) : (lowS s).size = s.size := by show (s.data.map lowB).size = s.data.size; exact Array.size_map

def escB (b : UInt8) : List UInt8 := if b.toNat = 34 ∨ b.toNat = 92 then [92, b] else [b]
/-- What stands between quotes behind the first k bytes. -/
def quoteTo (s : ByteArray) (k : Nat) : List UInt8 := 34 :: (s.data.toList.take k).flatMap escB
theorem quoteTo_zero (s : ByteArray) : quoteTo s 0 = [34] := rfl
theorem quoteTo_succ (s : ByteArray) (k : Nat) (h : k < s.size) : quoteTo s (k + 1) = quoteTo s k ++ escB s[k] := by
  unfold quoteTo; rw [take_snoc s k h]; simp
theorem escB_len (b : UInt8) : (escB b).length ≤ 2 := by unfold escB; split <;> simp
theorem quoteTo_len (s : ByteArray) (k : Nat) : (quoteTo s k).length ≤ 2 * k + 1 := by
  have h : ∀ l : List UInt8, (l.flatMap escB).length ≤ 2 * l.length := by
    intro l
    induction l with
    | nil => simp
    | cons b l ih => have := escB_len b; simp only [List.flatMap_cons, List.length_append, List.length_cons]; omega
  have h1 := h (s.data.toList.take k)
  have h2 := List.length_take_le k s.data.toList
  unfold quoteTo
  simp only [List.length_cons]
  omega
def quoteL (s : ByteArray) : List UInt8 := 34 :: s.data.toList.flatMap escB ++ [34]
theorem quoteTo_size (s : ByteArray) : quoteTo s s.size ++ [34] = quoteL s := by
  unfold quoteTo quoteL; rw [List.take_of_length_le (by rw [Array.length_toList]; exact Nat.le_refl _)]
def quoteS (s : ByteArray) : ByteArray := ⟨(quoteL s).toArray⟩

/-- The number that the first k digits tell; it stays at its greatest. -/
def deltaTo (s : ByteArray) (k : Nat) : Int := (s.data.toList.take k).foldl (fun n b => min (10 * n + ((b.toNat : Int) - 48)) 2147483648) 0
theorem deltaTo_zero (s : ByteArray) : deltaTo s 0 = 0 := rfl
theorem deltaTo_succ (s : ByteArray) (k : Nat) (h : k < s.size) : deltaTo s (k + 1) = min (10 * deltaTo s k + ((s[k].toNat : Int) - 48)) 2147483648 := by
  unfold deltaTo; rw [take_snoc s k h, List.foldl_append]; rfl
theorem deltaTo_bd (s : ByteArray) (k : Nat) (h : allTo digitB s k = true) : 0 ≤ deltaTo s k ∧ deltaTo s k ≤ 2147483648 := by
  have key : ∀ (l : List UInt8) (n : Int), (l.all fun b => digitB (b.toNat : Int)) = true → 0 ≤ n → n ≤ 2147483648 → 0 ≤ l.foldl (fun n b => min (10 * n + ((b.toNat : Int) - 48)) 2147483648) n ∧ l.foldl (fun n b => min (10 * n + ((b.toNat : Int) - 48)) 2147483648) n ≤ 2147483648 := by
    intro l
    induction l with
    | nil => intro n _ h0 h1; exact ⟨h0, h1⟩
    | cons b l ih =>
      intro n hl h0 h1
      simp only [List.all_cons, Bool.and_eq_true] at hl
      have hb : 48 ≤ (b.toNat : Int) := by have := hl.1; simp only [digitB, Bool.and_eq_true, decide_eq_true_eq] at this; exact this.1
      exact ih _ hl.2 (by show 0 ≤ min _ _; omega) (by show min _ _ ≤ _; omega)
  exact key _ 0 h (by omega) (by omega)
def deltaOk (s : ByteArray) : Bool := (decide (1 ≤ s.size) && decide (s.size ≤ 64)) && allB digitB s
def deltaR (s : ByteArray) : Int × Int := if deltaOk s then (0, deltaTo s s.size) else (5, 0)

/-- What stands between quotes, from behind the first one on; none: it does not stand so. -/
def unqGo : List UInt8 → List UInt8 → Option (List UInt8)
  | _, [] => none
  | acc, b :: r => if b.toNat = 34 then (if r = [] then some acc else none) else
      if b.toNat = 92 then (match r with | [] => none | c :: r' => unqGo (acc ++ [c]) r') else unqGo (acc ++ [b]) r
theorem unqGo_cons (acc : List UInt8) (b : UInt8) (r : List UInt8) : unqGo acc (b :: r) = if b.toNat = 34 then (if r = [] then some acc else none) else
      if b.toNat = 92 then (match r with | [] => none | c :: r' => unqGo (acc ++ [c]) r') else unqGo (acc ++ [b]) r := by
  cases r <;> simp [unqGo]
def quoted (s : ByteArray) : Bool := [34].isPrefixOf s.data.toList && allB plainB s
def unqO (s : ByteArray) : Option (List UInt8) := if quoted s then unqGo [] (s.data.toList.drop 1) else none
theorem drop_at (s : ByteArray) (k : Nat) (h : k < s.size) : s.data.toList.drop k = s[k] :: s.data.toList.drop (k + 1) := by
  rw [List.drop_eq_getElem_cons (by rw [Array.length_toList]; exact h)]; rfl
theorem drop_end (s : ByteArray) (k : Nat) (h : s.size ≤ k) : s.data.toList.drop k = [] := List.drop_of_length_le (by rw [Array.length_toList]; exact h)
theorem unq_end (s : ByteArray) (k : Nat) (acc : List UInt8) (h : s.size ≤ k) : unqGo acc (s.data.toList.drop k) = none := by rw [drop_end s k h]; rfl
theorem unq_quote (s : ByteArray) (k : Nat) (acc : List UInt8) (h : k < s.size) (hq : s[k].toNat = 34) : unqGo acc (s.data.toList.drop k) = if k + 1 = s.size then some acc else none := by
  rw [drop_at s k h, unqGo_cons, if_pos hq]
  by_cases e : k + 1 = s.size
  · rw [if_pos e, drop_end s (k + 1) (by omega), if_pos rfl]
  · rw [if_neg e, drop_at s (k + 1) (by omega), if_neg (by simp)]
theorem unq_back (s : ByteArray) (k : Nat) (acc : List UInt8) (h : k < s.size) (hq : s[k].toNat = 92) (h2 : k + 1 < s.size) : unqGo acc (s.data.toList.drop k) = unqGo (acc ++ [s[k + 1]]) (s.data.toList.drop (k + 2)) := by
  rw [drop_at s k h, unqGo_cons, if_neg (by omega), if_pos hq, drop_at s (k + 1) h2]
theorem unq_back_end (s : ByteArray) (k : Nat) (acc : List UInt8) (h : k < s.size) (hq : s[k].toNat = 92) (h2 : ¬ k + 1 < s.size) : unqGo acc (s.data.toList.drop k) = none := by
  rw [drop_at s k h, unqGo_cons, if_neg (by omega), if_pos hq, drop_end s (k + 1) (by omega)]
theorem unq_plain (s : ByteArray) (k : Nat) (acc : List UInt8) (h : k < s.size) (h1 : ¬ s[k].toNat = 34) (h2 : ¬ s[k].toNat = 92) : unqGo acc (s.data.toList.drop k) = unqGo (acc ++ [s[k]]) (s.data.toList.drop (k + 1)) := by
  rw [drop_at s k h, unqGo_cons, if_neg h1, if_neg h2]
def unqR (s : ByteArray) : Int × ByteArray := if s.size ≤ 2002 then (match unqO s with | some b => (0, ⟨b.toArray⟩) | none => (5, ⟨#[]⟩)) else (2, ⟨#[]⟩)
theorem quoted_first {s : ByteArray} (h : [34].isPrefixOf s.data.toList = true) : ∃ h : 0 < s.size, s[0].toNat = 34 := by
  cases hl : s.data.toList with
  | nil => rw [hl] at h; cases h
  | cons b r =>
    have hs : 0 < s.size := by
      have : s.data.toList.length = s.size := Array.length_toList
      rw [hl] at this; simp at this; omega
    refine ⟨hs, ?_⟩
    have h0 := drop_at s 0 hs
    rw [List.drop_zero, hl] at h0
    rw [hl] at h
    simp [List.isPrefixOf] at h
    cases h0
    rw [← h]
    rfl
end Go.Proofs.YtklnccoknldkcaaDoor
