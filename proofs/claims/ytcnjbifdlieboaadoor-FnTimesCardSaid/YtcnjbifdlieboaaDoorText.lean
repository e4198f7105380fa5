/- Letters, words, small letters. -/
import Derived.Test.YtcnjbifdlieboaaDoorBase
import Derived.Test.YtcnjbifdlieboaaDoorPlain
import Derived.Test.YtcnjbifdlieboaaDoorNum
import Derived.Test.YtcnjbifdlieboaaDoorShelf
import Derived.Lib.IndexAny
namespace Go.Proofs.YtcnjbifdlieboaaDoor
open Go.RowKit
set_option linter.unusedSimpArgs false
set_option linter.unusedVariables false

theorem idx_has (l : List UInt8) (c : Int) (h0 : 0 ≤ c) (h1 : c < 256) : decide (0 ≤ Lib.indexByte l (UInt8.ofNat c.toNat)) = (l.map fun b => (b.toNat : Int)).contains c := by
  rw [← Lib.contains_iff_indexByte]
  obtain ⟨n, rfl⟩ := Int.eq_ofNat_of_zero_le h0
  induction l with
  | nil => rfl
  | cons b l ih =>
    rw [List.map_cons, List.contains_cons, List.contains_cons, ih]
    congr 1
    rw [Bool.eq_iff_iff, beq_iff_eq, beq_iff_eq]
    have hb := b.toNat_lt
    constructor
    · intro h; rw [← h]; simp; omega
    · intro h
      apply UInt8.toNat_inj.1
      simp; omega

theorem impl_isLetter (c : Int) (w : World) : Calls Tryd.prog 125 #[.int .u8 c] w fun e w' => e = .returned (.bool (letterB c)) ∧ w = w' := by
  go_enter Tryd.func125, Tryd.ntmps125
  go_wp2
  all_goals (go_ret; exact ⟨ret_bool (by rw [Bool.eq_iff_iff]; simp [letterB]; omega), rfl⟩)
theorem spec_l1Letter (c : Int) (w : World) : Calls Tryd.prog 127 #[.int .u8 c] w fun e w' => e = .returned (.bool (letterB c)) ∧ w = w' := by
  go_enter Tryd.func127, Tryd.ntmps127
  go_wp2
  all_goals (go_ret; exact ⟨ret_bool (by rw [Bool.eq_iff_iff]; simp [letterB]; omega), rfl⟩)
theorem impl_isDigit (c : Int) (w : World) : Calls Tryd.prog 73 #[.int .u8 c] w fun e w' => e = .returned (.bool (digitB c)) ∧ w = w' := by
  go_enter Tryd.func73, Tryd.ntmps73
  go_wp2
  all_goals (go_ret; exact ⟨ret_bool (by rw [Bool.eq_iff_iff]; simp [digitB]; omega), rfl⟩)
theorem spec_l1Digit (c : Int) (w : World) : Calls Tryd.prog 124 #[.int .u8 c] w fun e w' => e = .returned (.bool (digitB c)) ∧ w = w' := by
  go_enter Tryd.func124, Tryd.ntmps124
  go_wp2
  all_goals (go_ret; exact ⟨ret_bool (by rw [Bool.eq_iff_iff]; simp [digitB]; omega), rfl⟩)
set_option maxHeartbeats 1000000 in
theorem spec_l1WordByte (c : Int) (w : World) : Calls Tryd.prog 82 #[.int .u8 c] w fun e w' => e = .returned (.bool (wordB c)) ∧ w = w' := by
  go_enter Tryd.func82, Tryd.ntmps82
  go_wp2_with (first | (go_at_call 127; ((with_reducible refine (spec_l1Letter _ _).mono ?_); rintro e w' ⟨rfl, rfl⟩)) | (go_at_call 124; ((with_reducible refine (spec_l1Digit _ _).mono ?_); rintro e w' ⟨rfl, rfl⟩)))
  all_goals (go_ret; exact ⟨ret_bool (by simp_all [wordB]), rfl⟩)
theorem impl_isWordByte (c : Int) (h0 : 0 ≤ c) (h1 : c < 256) (w : World) : Calls Tryd.prog 81 #[.int .u8 c] w fun e w' => e = .returned (.bool (wordB c)) ∧ w = w' := by
  go_enter Tryd.func81, Tryd.ntmps81
  go_wp2_with (first | (go_at_call 125; ((with_reducible refine (impl_isLetter _ _).mono ?_); rintro e w' ⟨rfl, rfl⟩)) | (go_at_call 73; ((with_reducible refine (impl_isDigit _ _).mono ?_); rintro e w' ⟨rfl, rfl⟩)) | (go_at_call 126; ((with_reducible refine (Tryd.strings_IndexByte _ _ _).mono ?_); rintro e w' ⟨rfl, rfl⟩)))
  · go_ret
    exact ⟨ret_bool (by simp_all [wordB]), rfl⟩
  · go_ret
    exact ⟨ret_bool (by simp_all [wordB]), rfl⟩
  · go_ret
    refine ⟨ret_bool ?_, rfl⟩
    rw [idx_has _ c h0 h1]
    simp_all [wordB]

set_option maxHeartbeats 800000 in
theorem areBytes_word (s : ByteArray) (lo hi : Int) (w : World) (hs : s.size ≤ 9223372036854775807) : Calls Tryd.prog 72 #[.string s, .int .i64 lo, .int .i64 hi, .func (.func 81) #[] #[]] w fun e w' => e = .returned (.bool (inB s.size lo hi && allB wordB s)) ∧ w = w' := by
  by_cases hb : inB s.size lo hi = true
  · obtain ⟨h1, h2⟩ := inB_iff.1 hb
    have hfin : ∀ v, allB wordB s = v → (inB s.size lo hi && allB wordB s) = v := fun v h => by rw [hb, h]; rfl
    have Hfin := Lib.hid hfin
    clear hfin hb
    go_enter Tryd.func72, Tryd.ntmps72
    go_wp2
    go_loop [22] (fun i => ∃ k : Nat, k ≤ s.size ∧ i = .int .i64 k ∧ allTo wordB s k = true) (fun i => s.size - (intOf i).toNat)
    case atStart => exact ⟨0, Nat.zero_le _, rfl, rfl⟩
    case round =>
      obtain ⟨k, hk, rfl, hall⟩ := hrel
      have Hall := Lib.hid hall
      clear hall
      by_cases hlt : k < s.size
      · have hsn := Lib.hid (allTo_succ wordB s k hlt)
        by_cases hp : wordB (s[k].toNat : Int) = true
        · go_wp2_with (go_at_call 81; ((with_reducible refine (impl_isWordByte _ (by omega) (by have := (s[k]).toNat_lt; omega) _).mono ?_); rintro e w' ⟨rfl, rfl⟩))
          go_round
          case rel => exact ⟨k + 1, by omega, by go_num, by rw [hsn.out, Hall.out, hp]; rfl⟩
          case measure => simp [intOf]; omega
        · simp only [Bool.not_eq_true] at hp
          go_wp2_with (go_at_call 81; ((with_reducible refine (impl_isWordByte _ (by omega) (by have := (s[k]).toNat_lt; omega) _).mono ?_); rintro e w' ⟨rfl, rfl⟩))
          go_ret
          exact ⟨ret_bool (Hfin.out _ (allB_false _ _ _ hlt hp)).symm, rfl⟩
      · have hk' : k = s.size := by omega
        have Hk := Lib.hid hk'
        clear hk'
        go_wp2
        go_ret
        refine ⟨ret_bool (Hfin.out _ ?_).symm, rfl⟩
        have h := Hall.out
        rw [Hk.out, allTo_size] at h
        exact h
  · simp only [Bool.not_eq_true] at hb
    have h1 := inB_not.1 hb
    by_cases h2 : (s.size : Int) < lo
    all_goals
      go_enter Tryd.func72, Tryd.ntmps72
      go_wp2
      all_goals
        go_ret
        exact ⟨ret_bool (by first | rfl | (rw [hb]; rfl)), rfl⟩

theorem wordS_of (s : ByteArray) : (inB s.size 1 64 && allB wordB s) = wordS s := by
  unfold wordS inB; congr 1; congr 1 <;> rw [Bool.eq_iff_iff] <;> simp only [decide_eq_true_eq] <;> omega
theorem impl_IsWord (s : ByteArray) (w : World) (hs : s.size ≤ 9223372036854775807) : Calls Tryd.prog 33 #[.string s] w fun e w' => e = .returned (.bool (wordS s)) ∧ w = w' := by
  go_enter Tryd.func33, Tryd.ntmps33
  go_wp2_with (go_at_call 72; ((with_reducible refine (areBytes_word _ _ _ _ hs).mono ?_); rintro e w' ⟨rfl, rfl⟩))
  go_ret
  exact ⟨ret_bool (wordS_of s), rfl⟩
set_option maxHeartbeats 800000 in
theorem spec_IsWord (s : ByteArray) (w : World) (hs : s.size ≤ 9223372036854775807) : Calls Tryd.prog 34 #[.string s] w fun e w' => e = .returned (.bool (wordS s)) ∧ w = w' := by
  by_cases hb : inB s.size 1 64 = true
  · obtain ⟨h1, h2⟩ := inB_iff.1 hb
    have hfin : ∀ v, allB wordB s = v → Ending.returned (.bool v) = .returned (.bool (wordS s)) := fun v h => by rw [← wordS_of, hb, h]; rfl
    have Hfin := Lib.hid hfin
    clear hfin hb
    go_enter Tryd.func34, Tryd.ntmps34
    go_wp2
    go_loop [3] (fun i => ∃ k : Nat, k ≤ s.size ∧ i = .int .i64 k ∧ allTo wordB s k = true) (fun i => s.size - (intOf i).toNat)
    case atStart => exact ⟨0, Nat.zero_le _, rfl, rfl⟩
    case round =>
      obtain ⟨k, hk, rfl, hall⟩ := hrel
      have Hall := Lib.hid hall
      clear hall
      by_cases hlt : k < s.size
      · have hsn := Lib.hid (allTo_succ wordB s k hlt)
        by_cases hp : wordB (s[k].toNat : Int) = true
        · go_wp2_with (go_at_call 82; ((with_reducible refine (spec_l1WordByte _ _).mono ?_); rintro e w' ⟨rfl, rfl⟩))
          go_round
          case rel => exact ⟨k + 1, by omega, by go_num, by rw [hsn.out, Hall.out, hp]; rfl⟩
          case measure => simp [intOf]; omega
        · simp only [Bool.not_eq_true] at hp
          go_wp2_with (go_at_call 82; ((with_reducible refine (spec_l1WordByte _ _).mono ?_); rintro e w' ⟨rfl, rfl⟩))
          go_ret
          exact ⟨Hfin.out _ (allB_false _ _ _ hlt hp), rfl⟩
      · have hk' : k = s.size := by omega
        have Hk := Lib.hid hk'
        clear hk'
        go_wp2
        go_ret
        refine ⟨Hfin.out _ ?_, rfl⟩
        have h := Hall.out
        rw [Hk.out, allTo_size] at h
        exact h
  · simp only [Bool.not_eq_true] at hb
    have h1 := inB_not.1 hb
    have hfin : Ending.returned (.bool false) = .returned (.bool (wordS s)) := by rw [← wordS_of, hb]; rfl
    have Hfin := Lib.hid hfin
    clear hfin hb
    by_cases h2 : (s.size : Int) < 1
    all_goals
      go_enter Tryd.func34, Tryd.ntmps34
      go_wp2
      all_goals
        go_ret
        exact ⟨Hfin.out, rfl⟩
end Go.Proofs.YtcnjbifdlieboaaDoor
