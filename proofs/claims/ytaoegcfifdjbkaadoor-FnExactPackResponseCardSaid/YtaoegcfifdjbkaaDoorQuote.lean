/- Quotes: both texts write the same bytes. -/
import Derived.Test.YtaoegcfifdjbkaaDoorText
import Derived.Test.YtaoegcfifdjbkaaDoorMem
import Derived.Test.YtaoegcfifdjbkaaDoorLower
namespace Go.Proofs.YtaoegcfifdjbkaaDoor
open Go.RowKit
set_option linter.unusedSimpArgs false
set_option linter.unusedVariables false

theorem quoteTo_esc (s : ByteArray) (k : Nat) (h : k < s.size) (hb : s[k].toNat = 34 ∨ s[k].toNat = 92) : (quoteTo s k).map byteV ++ [.int .u8 92] ++ [.int .u8 (s[k].toNat : Int)] = (quoteTo s (k + 1)).map byteV := by
  rw [quoteTo_succ s k h, escB, if_pos hb]; simp [byteV]
theorem quoteTo_plain (s : ByteArray) (k : Nat) (h : k < s.size) (hb : ¬ (s[k].toNat = 34 ∨ s[k].toNat = 92)) : (quoteTo s k).map byteV ++ [.int .u8 (s[k].toNat : Int)] = (quoteTo s (k + 1)).map byteV := by
  rw [quoteTo_succ s k h, escB, if_neg hb]; simp [byteV]
theorem quoteTo_esc_len (s : ByteArray) (k : Nat) (h : k < s.size) (hb : s[k].toNat = 34 ∨ s[k].toNat = 92) : (quoteTo s k).length + 1 + 1 = (quoteTo s (k + 1)).length := by
  rw [quoteTo_succ s k h, escB, if_pos hb]; simp
theorem quoteTo_plain_len (s : ByteArray) (k : Nat) (h : k < s.size) (hb : ¬ (s[k].toNat = 34 ∨ s[k].toNat = 92)) : (quoteTo s k).length + 1 = (quoteTo s (k + 1)).length := by
  rw [quoteTo_succ s k h, escB, if_neg hb]; simp

theorem impl_isPlain (c : Int) (w : World) : Calls Tryd.prog 182 #[.int .u8 c] w fun e w' => e = .returned (.bool (plainB c)) ∧ w = w' := by
  go_enter Tryd.func182, Tryd.ntmps182
  go_wp2
  all_goals (go_ret; exact ⟨ret_bool (by first | (simp_all [plainB]; done) | (rw [Bool.eq_iff_iff]; simp_all [plainB]; omega)), rfl⟩)
theorem spec_l2Plain (c : Int) (w : World) : Calls Tryd.prog 181 #[.int .u8 c] w fun e w' => e = .returned (.bool (plainB c)) ∧ w = w' := by
  go_enter Tryd.func181, Tryd.ntmps181
  go_wp2
  all_goals (go_ret; exact ⟨ret_bool (by first | (simp_all [plainB]; done) | (rw [Bool.eq_iff_iff]; simp_all [plainB]; omega)), rfl⟩)
set_option maxHeartbeats 800000 in
theorem areBytes_plain (s : ByteArray) (lo hi : Int) (w : World) (hs : s.size ≤ 9223372036854775807) : Calls Tryd.prog 72 #[.string s, .int .i64 lo, .int .i64 hi, .func (.func 182) #[] #[]] w fun e w' => e = .returned (.bool (inB s.size lo hi && allB plainB s)) ∧ w = w' := by
  by_cases hb : inB s.size lo hi = true
  · obtain ⟨h1, h2⟩ := inB_iff.1 hb
    have hfin : ∀ v, allB plainB s = v → (inB s.size lo hi && allB plainB s) = v := fun v h => by rw [hb, h]; rfl
    have Hfin := Lib.hid hfin
    clear hfin hb
    go_enter Tryd.func72, Tryd.ntmps72
    go_wp2
    go_loop [22] (fun i => ∃ k : Nat, k ≤ s.size ∧ i = .int .i64 k ∧ allTo plainB s k = true) (fun i => s.size - (intOf i).toNat)
    case atStart => exact ⟨0, Nat.zero_le _, rfl, rfl⟩
    case round =>
      obtain ⟨k, hk, rfl, hall⟩ := hrel
      have Hall := Lib.hid hall
      clear hall
      by_cases hlt : k < s.size
      · have hsn := Lib.hid (allTo_succ plainB s k hlt)
        by_cases hp : plainB (s[k].toNat : Int) = true
        · go_wp2_with (go_at_call 182; ((with_reducible refine (impl_isPlain _ _).mono ?_); rintro e w' ⟨rfl, rfl⟩))
          go_round
          case rel => exact ⟨k + 1, by omega, by go_num, by rw [hsn.out, Hall.out, hp]; rfl⟩
          case measure => simp [intOf]; omega
        · simp only [Bool.not_eq_true] at hp
          go_wp2_with (go_at_call 182; ((with_reducible refine (impl_isPlain _ _).mono ?_); rintro e w' ⟨rfl, rfl⟩))
          go_ret
          exact ⟨ret_bool (Hfin.out _ (allB_false _ _ _ hlt hp)).symm, rfl⟩
      · have hk' : k = s.size := by omega
        have Hk := Lib.hid hk'
        clear hk'
        go_wp2
        go_ret
        refine ⟨ret_bool (Hfin.out _ ?_).symm, rfl⟩
        have h := Hall.out
        rw [Hk.out, allTo_size] at h
        exact h
  · simp only [Bool.not_eq_true] at hb
    have h1 := inB_not.1 hb
    by_cases h2 : (s.size : Int) < lo
    all_goals
      go_enter Tryd.func72, Tryd.ntmps72
      go_wp2
      all_goals
        go_ret
        exact ⟨ret_bool (by first | rfl | (rw [hb]; rfl)), rfl⟩
theorem impl_arePlain (s : ByteArray) (w : World) (hs : s.size ≤ 9223372036854775807) : Calls Tryd.prog 151 #[.string s] w fun e w' => e = .returned (.bool (allB plainB s)) ∧ w = w' := by
  go_enter Tryd.func151, Tryd.ntmps151
  go_wp2_with (go_at_call 72; ((with_reducible refine (areBytes_plain _ _ _ _ hs).mono ?_); rintro e w' ⟨rfl, rfl⟩))
  go_ret
  exact ⟨ret_bool (by simp [inB]), rfl⟩
theorem spec_l2PlainText (s : ByteArray) (w : World) (hs : s.size ≤ 9223372036854775807) : Calls Tryd.prog 150 #[.string s] w fun e w' => e = .returned (.bool (allB plainB s)) ∧ w = w' := by
  have hfin : ∀ v, allB plainB s = v → Ending.returned (.bool v) = .returned (.bool (allB plainB s)) := fun v h => by rw [h]
  have Hfin := Lib.hid hfin
  clear hfin
  go_enter Tryd.func150, Tryd.ntmps150
  go_wp2
  go_loop [3] (fun i => ∃ k : Nat, k ≤ s.size ∧ i = .int .i64 k ∧ allTo plainB s k = true) (fun i => s.size - (intOf i).toNat)
  case atStart => exact ⟨0, Nat.zero_le _, rfl, rfl⟩
  case round =>
    obtain ⟨k, hk, rfl, hall⟩ := hrel
    have Hall := Lib.hid hall
    clear hall
    by_cases hlt : k < s.size
    · have hsn := Lib.hid (allTo_succ plainB s k hlt)
      by_cases hp : plainB (s[k].toNat : Int) = true
      · go_wp2_with (go_at_call 181; ((with_reducible refine (spec_l2Plain _ _).mono ?_); rintro e w' ⟨rfl, rfl⟩))
        go_round
        case rel => exact ⟨k + 1, by omega, by go_num, by rw [hsn.out, Hall.out, hp]; rfl⟩
        case measure => simp [intOf]; omega
      · simp only [Bool.not_eq_true] at hp
        go_wp2_with (go_at_call 181; ((with_reducible refine (spec_l2Plain _ _).mono ?_); rintro e w' ⟨rfl, rfl⟩))
        go_ret
        exact ⟨Hfin.out _ (allB_false _ _ _ hlt hp), rfl⟩
    · have hk' : k = s.size := by omega
      have Hk := Lib.hid hk'
      clear hk'
      go_wp2
      go_ret
      refine ⟨Hfin.out _ ?_, rfl⟩
      have h := Hall.out
      rw [Hk.out, allTo_size] at h
      exact h

def quoteR (s : ByteArray) : Int × ByteArray := if s.size ≤ 1000 then (if allB plainB s = true then (0, quoteS s) else (5, ByteArray.empty)) else (2, ByteArray.empty)
end Go.Proofs.YtaoegcfifdjbkaaDoor
