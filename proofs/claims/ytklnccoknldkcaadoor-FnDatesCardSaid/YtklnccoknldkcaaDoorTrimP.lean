/- Plain law: what stands between the first and the last byte that is no blank. No program in sight. -/
import Derived.Test.YtklnccoknldkcaaDoorPlain
import Derived.Lib.SlTrimSet
namespace Go.Proofs.YtklnccoknldkcaaDoor
open Go.RowKit

def blankB (c : Int) : Bool := decide (c = 32) || decide (c = 9)
def trimL (l : List UInt8) : List UInt8 := Lib.trimS l [32, 9]
def trimT (s : ByteArray) : ByteArray := ⟨(trimL s.data.toList).toArray⟩
theorem blank_has (b : UInt8) : ([32, 9] : List UInt8).contains b = blankB (b.toNat : Int) := by
  simp only [List.contains_cons, List.contains_nil, Bool.or_false, blankB]
  rw [Bool.eq_iff_iff]
  simp only [Bool.or_eq_true, beq_iff_eq, decide_eq_true_eq]
  constructor
  · rintro (h | h)
    · left; subst h; rfl
    · right; subst h; rfl
  · rintro (h | h)
    · left; apply UInt8.toNat_inj.1; show b.toNat = 32; omega
    · right; apply UInt8.toNat_inj.1; show b.toNat = 9; omega
theorem at_byte (s : ByteArray) (j : Nat) (b : UInt8) (h : s.data.toList[j]? = some b) : ∃ hj : j < s.size, b = s[j] := by
  have hj : j < s.data.toList.length := (List.getElem?_eq_some_iff.1 h).1
  have hj' : j < s.size := by rw [Array.length_toList] at hj; exact hj
  refine ⟨hj', ?_⟩
  obtain ⟨_, e⟩ := List.getElem?_eq_some_iff.1 h
  rw [← e]; rfl
/-- What the two loops end with. -/
theorem trim_of (s : ByteArray) (f e : Nat) (hfe : f ≤ e) (he : e ≤ s.size) (h1 : ∀ j (h : j < s.size), j < f → blankB (s[j].toNat : Int) = true)
    (h2 : ∀ h : f < s.size, blankB (s[f].toNat : Int) = false) (h3 : ∀ j (h : j < s.size), e ≤ j → blankB (s[j].toNat : Int) = true)
    (h4 : f < e → ∀ h : e - 1 < s.size, blankB (s[e - 1].toNat : Int) = false) : trimL s.data.toList = (s.data.toList.take e).drop f := by
  have hl : s.data.toList.length = s.size := Array.length_toList
  unfold trimL Lib.trimS
  by_cases hlt : f < e
  · rw [Lib.trimRightS_take _ _ e (by omega) (fun j b hj hb => by
      obtain ⟨hj', rfl⟩ := at_byte s j b hb
      rw [blank_has]; exact h3 j hj' hj) (fun b h0 hb => by
      obtain ⟨hj', rfl⟩ := at_byte s _ b hb
      rw [blank_has]; exact h4 hlt hj')]
    exact Lib.trimLeftS_drop _ _ f (by rw [List.length_take]; omega) (fun j b hj hb => by
      rw [List.getElem?_take, if_pos (by omega)] at hb
      obtain ⟨hj', rfl⟩ := at_byte s j b hb
      rw [blank_has]; exact h1 j hj' hj) (fun b hb => by
      rw [List.getElem?_take, if_pos hlt] at hb
      obtain ⟨hj', rfl⟩ := at_byte s _ b hb
      rw [blank_has]; exact h2 hj')
  · have e' : e = f := by omega
    subst e'
    have hall : ¬ e < s.size := fun h => by
      have a := h2 h
      have b := h3 e h (Nat.le_refl _)
      rw [a] at b; cases b
    rw [Lib.trimRightS_take _ _ 0 (by omega) (fun j b hj hb => by
      obtain ⟨hj', rfl⟩ := at_byte s j b hb
      rw [blank_has]; exact h1 j hj' (by omega)) (fun b h0 hb => by omega)]
    rw [List.drop_of_length_le (by rw [List.length_take]; omega)]
    rfl
/-- It is no longer; and twice is once. -/
theorem trimL_len (l : List UInt8) : (trimL l).length ≤ l.length := by
  unfold trimL Lib.trimS Lib.trimLeftS Lib.trimRightS
  refine Nat.le_trans ((List.dropWhile_sublist _).length_le) ?_
  rw [List.length_reverse]
  refine Nat.le_trans ((List.dropWhile_sublist _).length_le) ?_
  rw [List.length_reverse]
  exact Nat.le_refl _
theorem trimT_size (s : ByteArray) : (trimT s).size ≤ s.size := by
  have h := trimL_len s.data.toList
  rw [Array.length_toList] at h
  have e : (trimT s).size = (trimL s.data.toList).length := rfl
  rw [e]; exact h
def trimR (s : ByteArray) : Int × ByteArray := if s.size ≤ 1000 then (0, trimT s) else (2, ByteArray.empty)
end Go.Proofs.YtklnccoknldkcaaDoor
