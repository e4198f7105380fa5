/- Plain laws: a number's digits are read as the number. No program in sight. -/
import Derived.Test.YtcnjbifdlieboaaDoorPlain
import Derived.Lib.ItoaNum
namespace Go.Proofs.YtcnjbifdlieboaaDoor
theorem dig_at (j : Nat) (h : j < 10) : (UInt8.ofNat (48 + j)).toNat = 48 + j := by simp; omega
theorem dec_fold : ∀ k : Nat, k ≤ 2147483648 → (Lib.decDigits k).foldl (fun (n : Int) b => min (10 * n + ((b.toNat : Int) - 48)) 2147483648) 0 = (k : Int) := by
  intro k
  induction k using Nat.strongRecOn with
  | ind k ih =>
    intro hk
    by_cases h : k < 10
    · rw [Lib.decDigits, dif_pos h, List.foldl_cons, List.foldl_nil, dig_at k h]
      omega
    · rw [Lib.decDigits, dif_neg h, List.foldl_append, ih (k / 10) (by omega) (by omega), List.foldl_cons, List.foldl_nil, dig_at (k % 10) (by omega)]
      omega
theorem dec_digit : ∀ k : Nat, ∀ b ∈ Lib.decDigits k, digitB (b.toNat : Int) = true := by
  intro k
  induction k using Nat.strongRecOn with
  | ind k ih =>
    intro b hb
    by_cases h : k < 10
    · rw [Lib.decDigits, dif_pos h, List.mem_singleton] at hb
      subst hb
      rw [dig_at k h]
      simp only [digitB, Bool.and_eq_true, decide_eq_true_eq]; omega
    · rw [Lib.decDigits, dif_neg h, List.mem_append, List.mem_singleton] at hb
      rcases hb with hb | rfl
      · exact ih (k / 10) (by omega) b hb
      · rw [dig_at (k % 10) (by omega)]
        simp only [digitB, Bool.and_eq_true, decide_eq_true_eq]; omega
theorem dec_len (k : Nat) : 1 ≤ (Lib.decDigits k).length := by
  rw [Lib.decDigits]
  split
  · simp
  · rw [List.length_append, List.length_singleton]; omega
theorem delta_dec (k : Nat) (h : k ≤ 2147483648) (h64 : (Lib.decDigits k).length ≤ 64) : deltaR ⟨(Lib.decDigits k).toArray⟩ = (0, (k : Int)) := by
  have hsz : (⟨(Lib.decDigits k).toArray⟩ : ByteArray).size = (Lib.decDigits k).length := rfl
  have h1 := dec_len k
  have hok : deltaOk ⟨(Lib.decDigits k).toArray⟩ = true := by
    unfold deltaOk
    rw [hsz, Bool.and_eq_true, Bool.and_eq_true, decide_eq_true_eq, decide_eq_true_eq]
    exact ⟨⟨h1, h64⟩, List.all_eq_true.2 (dec_digit k)⟩
  unfold deltaR
  rw [if_pos hok]
  unfold deltaTo
  rw [hsz]
  show (0, ((Lib.decDigits k).take (Lib.decDigits k).length).foldl _ 0) = _
  rw [List.take_length, dec_fold k h]
end Go.Proofs.YtcnjbifdlieboaaDoor
