/- Letters, words, small letters. -/
import Derived.Test.YtklnccoknldkcaaDoorBase
import Derived.Test.YtklnccoknldkcaaDoorPlain
import Derived.Test.YtklnccoknldkcaaDoorNum
import Derived.Test.YtklnccoknldkcaaDoorShelf
import Derived.Lib.IndexAny
namespace Go.Proofs.YtklnccoknldkcaaDoor
open Go.RowKit
set_option linter.unusedSimpArgs false
set_option linter.unusedVariables false

theorem idx_has (l : List UInt8) (c : Int) (h0 : 0 ≤ c) (h1 : c < 256) : decide (0 ≤ Lib.indexByte l (UInt8.ofNat c.toNat)) = (l.map fun b => (b.toNat : Int)).contains c := by
  rw [← Lib.contains_iff_indexByte]
  obtain ⟨n, rfl⟩ := Int.eq_ofNat_of_zero_le h0
  induction l with
  | nil => rfl
  | cons b l ih =>
    rw [List.map_cons, List.contains_cons, List.contains_cons, ih]
    congr 1
    rw [Bool.eq_iff_iff, beq_iff_eq, beq_iff_eq]
    have hb := b.toNat_lt
    constructor
    · intro h; rw [← h]; simp; omega
    · intro h
      apply UInt8.toNat_inj.1
      simp; omega

theorem impl_isLetter (c : Int) (w : World) : Calls Tryd.prog 155 #[.int .u8 c] w fun e w' => e = .returned (.bool (letterB c)) ∧ w = w' := by
  go_enter Tryd.func155, Tryd.ntmps155
  go_wp2
  all_goals (go_ret; exact ⟨ret_bool (by rw [Bool.eq_iff_iff]; simp [letterB]; omega), rfl⟩)
theorem spec_l1Letter (c : Int) (w : World) : Calls Tryd.prog 157 #[.int .u8 c] w fun e w' => e = .returned (.bool (letterB c)) ∧ w = w' := by
  go_enter Tryd.func157, Tryd.ntmps157
  go_wp2
  all_goals (go_ret; exact ⟨ret_bool (by rw [Bool.eq_iff_iff]; simp [letterB]; omega), rfl⟩)
theorem impl_isDigit (c : Int) (w : World) : Calls Tryd.prog 141 #[.int .u8 c] w fun e w' => e = .returned (.bool (digitB c)) ∧ w = w' := by
  go_enter Tryd.func141, Tryd.ntmps141
  go_wp2
  all_goals (go_ret; exact ⟨ret_bool (by rw [Bool.eq_iff_iff]; simp [digitB]; omega), rfl⟩)
theorem spec_l1Digit (c : Int) (w : World) : Calls Tryd.prog 158 #[.int .u8 c] w fun e w' => e = .returned (.bool (digitB c)) ∧ w = w' := by
  go_enter Tryd.func158, Tryd.ntmps158
  go_wp2
  all_goals (go_ret; exact ⟨ret_bool (by rw [Bool.eq_iff_iff]; simp [digitB]; omega), rfl⟩)
set_option maxHeartbeats 1000000 in
theorem spec_l1WordByte (c : Int) (w : World) : Calls Tryd.prog 77 #[.int .u8 c] w fun e w' => e = .returned (.bool (wordB c)) ∧ w = w' := by
  go_enter Tryd.func77, Tryd.ntmps77
  go_wp2_with (first | (go_at_call 157; ((with_reducible refine (spec_l1Letter _ _).mono ?_); rintro e w' ⟨rfl, rfl⟩)) | (go_at_call 158; ((with_reducible refine (spec_l1Digit _ _).mono ?_); rintro e w' ⟨rfl, rfl⟩)))
  all_goals (go_ret; exact ⟨ret_bool (by simp_all [wordB]), rfl⟩)
theorem impl_isWordByte (c : Int) (h0 : 0 ≤ c) (h1 : c < 256) (w : World) : Calls Tryd.prog 76 #[.int .u8 c] w fun e w' => e = .returned (.bool (wordB c)) ∧ w = w' := by
  go_enter Tryd.func76, Tryd.ntmps76
  go_wp2_with (first | (go_at_call 155; ((with_reducible refine (impl_isLetter _ _).mono ?_); rintro e w' ⟨rfl, rfl⟩)) | (go_at_call 141; ((with_reducible refine (impl_isDigit _ _).mono ?_); rintro e w' ⟨rfl, rfl⟩)) | (go_at_call 156; ((with_reducible refine (Tryd.strings_IndexByte _ _ _).mono ?_); rintro e w' ⟨rfl, rfl⟩)))
  · go_ret
    exact ⟨ret_bool (by simp_all [wordB]), rfl⟩
  · go_ret
    exact ⟨ret_bool (by simp_all [wordB]), rfl⟩
  · go_ret
    refine ⟨ret_bool ?_, rfl⟩
    rw [idx_has _ c h0 h1]
    simp_all [wordB]

set_option maxHeartbeats 800000 in
theorem areBytes_word (s : ByteArray) (lo hi : Int) (w : World) (hs : s.size ≤ 9223372036854775807) : Calls Tryd.prog 75 #[.string s, .int .i64 lo, .int .i64 hi, .func (.func 76) #[] #[]] w fun e w' => e = .returned (.bool (inB s.size lo hi && allB wordB s)) ∧ w = w' := by
  by_cases hb : inB s.size lo hi = true
  · obtain ⟨h1, h2⟩ := inB_iff.1 hb
    have hfin : ∀ v, allB wordB s = v → (inB s.size lo hi && allB wordB s) = v := fun v h => by rw [hb, h]; rfl
    have Hfin := Lib.hid hfin
    clear hfin hb
    go_enter Tryd.func75, Tryd.ntmps75
    go_wp2
    go_loop [22] (fun i => ∃ k : Nat, k ≤ s.size ∧ i = .int .i64 k ∧ allTo wordB s k = true) (fun i => s.size - (intOf i).toNat)
    case atStart => exact ⟨0, Nat.zero_le _, rfl, rfl⟩
    case round =>
      obtain ⟨k, hk, rfl, hall⟩ := hrel
      have Hall := Lib.hid hall
      clear hall
      by_cases hlt : k < s.size
      · have hsn := Lib.hid (allTo_succ wordB s k hlt)
        by_cases hp : wordB (s[k].toNat : Int) = true
        · go_wp2_with (go_at_call 76; ((with_reducible refine (impl_isWordByte _ (by omega) (by have := (s[k]).toNat_lt; omega) _).mono ?_); rintro e w' ⟨rfl, rfl⟩))
          go_round
          case rel => exact ⟨k + 1, by omega, by go_num, by rw [hsn.out, Hall.out, hp]; rfl⟩
          case measure => simp [intOf]; omega
        · simp only [Bool.not_eq_true] at hp
          go_wp2_with (go_at_call 76; ((with_reducible refine (impl_isWordByte _ (by omega) (by have := (s[k]).toNat_lt; omega) _).mono ?_); rintro e w' ⟨rfl, rfl⟩))
          go_ret
          exact ⟨ret_bool (Hfin.out _ (allB_false _ _ _ hlt hp)).symm, rfl⟩
      · have hk' : k = s.size := by omega
        have Hk := Lib.hid hk'
        clear hk'
        go_wp2
        go_ret
        refine ⟨ret_bool (Hfin.out _ ?_).symm, rfl⟩
        have h := Hall.out
        rw [Hk.out, allTo_size] at h
        exact h
  · simp only [Bool.not_eq_true] at hb
    have h1 := inB_not.1 hb
    by_cases h2 : (s.size : Int) < lo
    all_goals
      go_enter Tryd.func75, Tryd.ntmps75
      go_wp2
      all_goals
        go_ret
        exact ⟨ret_bool (by first | rfl | (rw [hb]; rfl)), rfl⟩

theorem wordS_of (s : ByteArray) : (inB s.size 1 64 && allB wordB s) = wordS s := by
  unfold wordS inB; congr 1; congr 1 <;> rw [Bool.eq_iff_iff] <;> simp only [decide_eq_true_eq] <;> omega
theorem impl_IsWord (s : ByteArray) (w : World) (hs : s.size ≤ 9223372036854775807) : Calls Tryd.prog 17 #[.string s] w fun e w' => e = .returned (.bool (wordS s)) ∧ w = w' := by
  go_enter Tryd.func17, Tryd.ntmps17
  go_wp2_with (go_at_call 75; ((with_reducible refine (areBytes_word _ _ _ _ hs).mono ?_); rintro e w' ⟨rfl, rfl⟩))
  go_ret
  exact ⟨ret_bool (wordS_of s), rfl⟩
set_option maxHeartbeats 800000 in
theorem spec_IsWord (s : ByteArray) (w : World) (hs : s.size ≤ 9223372036854775807) : Calls Tryd.prog 18 #[.string s] w fun e w' => e = .returned (.bool (wordS s)) ∧ w = w' := by
  by_cases hb : inB s.size 1 64 = true
  · obtain ⟨h1, h2⟩ := inB_iff.1 hb
    have hfin : ∀ v, allB wordB s = v → Ending.returned (.bool v) = .returned (.bool (wordS s)) := fun v h => by rw [← wordS_of, hb, h]; rfl
    have Hfin := Lib.hid hfin
    clear hfin hb
    go_enter Tryd.func18, Tryd.ntmps18
    go_wp2
    go_loop [3] (fun i => ∃ k : Nat, k ≤ s.size ∧ i = .int .i64 k ∧ allTo wordB s k = true) (fun i => s.size - (intOf i).toNat)
    case atStart => exact ⟨0, Nat.zero_le _, rfl, rfl⟩
    case round =>
      obtain ⟨k, hk, rfl, hall⟩ := hrel
      have Hall := Lib.hid hall
      clear hall
      by_cases hlt : k < s.size
      · have hsn := Lib.hid (allTo_succ wordB s k hlt)
        by_cases hp : wordB (s[k].toNat : Int) = true
        · go_wp2_with (go_at_call 77; ((with_reducible refine (spec_l1WordByte _ _).mono ?_); rintro e w' ⟨rfl, rfl⟩))
          go_round
          case rel => exact ⟨k + 1, by omega, by go_num, by rw [hsn.out, Hall.out, hp]; rfl⟩
          case measure => simp [intOf]; omega
        · simp only [Bool.not_eq_true] at hp
          go_wp2_with (go_at_call 77; ((with_reducible refine (spec_l1WordByte _ _).mono ?_); rintro e w' ⟨rfl, rfl⟩))
          go_ret
          exact ⟨Hfin.out _ (allB_false _ _ _ hlt hp), rfl⟩
      · have hk' : k = s.size := by omega
        have Hk := Lib.hid hk'
        clear hk'
        go_wp2
        go_ret
        refine ⟨Hfin.out _ ?_, rfl⟩
        have h := Hall.out
        rw [Hk.out, allTo_size] at h
        exact h
  · simp only [Bool.not_eq_true] at hb
    have h1 := inB_not.1 hb
    have hfin : Ending.returned (.bool false) = .returned (.bool (wordS s)) := by rw [← wordS_of, hb]; rfl
    have Hfin := Lib.hid hfin
    clear hfin hb
    by_cases h2 : (s.size : Int) < 1
    all_goals
      go_enter Tryd.func18, Tryd.ntmps18
      go_wp2
      all_goals
        go_ret
        exact ⟨Hfin.out, rfl⟩
end Go.Proofs.YtklnccoknldkcaaDoor
