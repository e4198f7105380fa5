/- Joined: ReqF. -/
import Derived.Test.YtbiodbggaeglpaaGreatDoorJB1
import Derived.Test.YtbiodbggaeglpaaGreatDoorJB4
import Derived.Test.YtbiodbggaeglpaaGreatDoorJB2
/- The code of a request. -/
namespace Go.Proofs.YtbiodbggaeglpaaGreatDoor
open Go.RowKit
set_option linter.unusedSimpArgs false
set_option linter.unusedVariables false

def getS : ByteArray := ⟨#[71, 69, 84]⟩
def headS : ByteArray := ⟨#[72, 69, 65, 68]⟩
def methodB (m : ByteArray) : Bool := m.toList == [71, 69, 84] || m.toList == [72, 69, 65, 68]
def hostS (h : ByteArray) : Bool := inB h.size 1 60 && allB hostB h
def pathS (p : ByteArray) : Bool := (inB p.size 1 100 && allB pathB p) && (p.data.toList.head? == some 47)
theorem impl_isMethod (m : ByteArray) (w : World) : Calls Tryz.prog 58 #[.string m] w fun e w' => e = .returned (.bool (methodB m)) ∧ w = w' := by
  go_enter Tryz.func58, Tryz.ntmps58
  go_wp2
  all_goals (go_ret; exact ⟨ret_bool (by simp_all [methodB, getS, headS]), rfl⟩)
theorem impl_isHostByte (c : Int) (w : World) : Calls Tryz.prog 86 #[.int .u8 c] w fun e w' => e = .returned (.bool (hostB c)) ∧ w = w' := by
  go_enter Tryz.func86, Tryz.ntmps86
  go_wp2_with (first | (go_at_call 116; ((with_reducible refine (impl_isLetter _ _).mono ?_); rintro e w' ⟨rfl, rfl⟩)) | (go_at_call 40; ((with_reducible refine (impl_isDigit _ _).mono ?_); rintro e w' ⟨rfl, rfl⟩)))
  all_goals (go_ret; exact ⟨ret_bool (by first | (simp_all [hostB]; done) | (rw [Bool.eq_iff_iff]; simp_all [hostB]; done) | (rw [Bool.eq_iff_iff]; simp_all [hostB]; omega)), rfl⟩)
theorem impl_isPathByte (c : Int) (h0 : 0 ≤ c) (h1 : c < 256) (w : World) : Calls Tryz.prog 87 #[.int .u8 c] w fun e w' => e = .returned (.bool (pathB c)) ∧ w = w' := by
  go_enter Tryz.func87, Tryz.ntmps87
  go_wp2_with (first | (go_at_call 117; ((with_reducible refine (impl_isWordByte _ h0 h1 _).mono ?_); rintro e w' ⟨rfl, rfl⟩)) | (go_at_call 118; ((with_reducible refine (Tryz.strings_IndexByte _ _ _).mono ?_); rintro e w' ⟨rfl, rfl⟩)))
  · go_ret
    exact ⟨ret_bool (by simp_all [pathB]), rfl⟩
  · go_ret
    refine ⟨ret_bool ?_, rfl⟩
    rw [idx_has _ c h0 h1]
    simp_all [pathB]
set_option maxHeartbeats 800000 in
theorem areBytes_host (s : ByteArray) (lo hi : Int) (w : World) (hs : s.size ≤ 9223372036854775807) : Calls Tryz.prog 39 #[.string s, .int .i64 lo, .int .i64 hi, .func (.func 86) #[] #[]] w fun e w' => e = .returned (.bool (inB s.size lo hi && allB hostB s)) ∧ w = w' := by
  by_cases hb : inB s.size lo hi = true
  · obtain ⟨h1, h2⟩ := inB_iff.1 hb
    have hfin : ∀ v, allB hostB s = v → (inB s.size lo hi && allB hostB s) = v := fun v h => by rw [hb, h]; rfl
    have Hfin := Lib.hid hfin
    clear hfin hb
    go_enter Tryz.func39, Tryz.ntmps39
    go_wp2
    go_loop [22] (fun i => ∃ k : Nat, k ≤ s.size ∧ i = .int .i64 k ∧ allTo hostB s k = true) (fun i => s.size - (intOf i).toNat)
    case atStart => exact ⟨0, Nat.zero_le _, rfl, rfl⟩
    case round =>
      obtain ⟨k, hk, rfl, hall⟩ := hrel
      have Hall := Lib.hid hall
      clear hall
      by_cases hlt : k < s.size
      · have hsn := Lib.hid (allTo_succ hostB s k hlt)
        by_cases hp : hostB (s[k].toNat : Int) = true
        · go_wp2_with (go_at_call 86; ((with_reducible refine (impl_isHostByte _ _).mono ?_); rintro e w' ⟨rfl, rfl⟩))
          go_round
          case rel => exact ⟨k + 1, by omega, by go_num, by rw [hsn.out, Hall.out, hp]; rfl⟩
          case measure => simp [intOf]; omega
        · simp only [Bool.not_eq_true] at hp
          go_wp2_with (go_at_call 86; ((with_reducible refine (impl_isHostByte _ _).mono ?_); rintro e w' ⟨rfl, rfl⟩))
          go_ret
          exact ⟨ret_bool (Hfin.out _ (allB_false _ _ _ hlt hp)).symm, rfl⟩
      · have hk' : k = s.size := by omega
        have Hk := Lib.hid hk'
        clear hk'
        go_wp2
        go_ret
        refine ⟨ret_bool (Hfin.out _ ?_).symm, rfl⟩
        have h := Hall.out
        rw [Hk.out, allTo_size] at h
        exact h
  · simp only [Bool.not_eq_true] at hb
    have h1 := inB_not.1 hb
    by_cases h2 : (s.size : Int) < lo
    all_goals
      go_enter Tryz.func39, Tryz.ntmps39
      go_wp2
      all_goals
        go_ret
        exact ⟨ret_bool (by first | rfl | (rw [hb]; rfl)), rfl⟩
set_option maxHeartbeats 800000 in
theorem areBytes_path (s : ByteArray) (lo hi : Int) (w : World) (hs : s.size ≤ 9223372036854775807) : Calls Tryz.prog 39 #[.string s, .int .i64 lo, .int .i64 hi, .func (.func 87) #[] #[]] w fun e w' => e = .returned (.bool (inB s.size lo hi && allB pathB s)) ∧ w = w' := by
  by_cases hb : inB s.size lo hi = true
  · obtain ⟨h1, h2⟩ := inB_iff.1 hb
    have hfin : ∀ v, allB pathB s = v → (inB s.size lo hi && allB pathB s) = v := fun v h => by rw [hb, h]; rfl
    have Hfin := Lib.hid hfin
    clear hfin hb
    go_enter Tryz.func39, Tryz.ntmps39
    go_wp2
    go_loop [22] (fun i => ∃ k : Nat, k ≤ s.size ∧ i = .int .i64 k ∧ allTo pathB s k = true) (fun i => s.size - (intOf i).toNat)
    case atStart => exact ⟨0, Nat.zero_le _, rfl, rfl⟩
    case round =>
      obtain ⟨k, hk, rfl, hall⟩ := hrel
      have Hall := Lib.hid hall
      clear hall
      by_cases hlt : k < s.size
      · have hsn := Lib.hid (allTo_succ pathB s k hlt)
        by_cases hp : pathB (s[k].toNat : Int) = true
        · go_wp2_with (go_at_call 87; ((with_reducible refine (impl_isPathByte _ (by omega) (by have := (s[k]).toNat_lt; omega) _).mono ?_); rintro e w' ⟨rfl, rfl⟩))
          go_round
          case rel => exact ⟨k + 1, by omega, by go_num, by rw [hsn.out, Hall.out, hp]; rfl⟩
          case measure => simp [intOf]; omega
        · simp only [Bool.not_eq_true] at hp
          go_wp2_with (go_at_call 87; ((with_reducible refine (impl_isPathByte _ (by omega) (by have := (s[k]).toNat_lt; omega) _).mono ?_); rintro e w' ⟨rfl, rfl⟩))
          go_ret
          exact ⟨ret_bool (Hfin.out _ (allB_false _ _ _ hlt hp)).symm, rfl⟩
      · have hk' : k = s.size := by omega
        have Hk := Lib.hid hk'
        clear hk'
        go_wp2
        go_ret
        refine ⟨ret_bool (Hfin.out _ ?_).symm, rfl⟩
        have h := Hall.out
        rw [Hk.out, allTo_size] at h
        exact h
  · simp only [Bool.not_eq_true] at hb
    have h1 := inB_not.1 hb
    by_cases h2 : (s.size : Int) < lo
    all_goals
      go_enter Tryz.func39, Tryz.ntmps39
      go_wp2
      all_goals
        go_ret
        exact ⟨ret_bool (by first | rfl | (rw [hb]; rfl)), rfl⟩
theorem impl_isHost (s : ByteArray) (hs : s.size ≤ 9223372036854775807) (w : World) : Calls Tryz.prog 59 #[.string s] w fun e w' => e = .returned (.bool (hostS s)) ∧ w = w' := by
  go_enter Tryz.func59, Tryz.ntmps59
  go_wp2_with (go_at_call 39; ((with_reducible refine (areBytes_host _ _ _ _ hs).mono ?_); rintro e w' ⟨rfl, rfl⟩))
  go_ret
  exact ⟨rfl, rfl⟩
theorem head_at (s : ByteArray) (h : 0 < s.size) : (s.data.toList.head? == some 47) = ((s[0].toNat : Int) == 47) := by
  have h0 := drop_at s 0 h
  rw [List.drop_zero] at h0
  rw [h0, List.head?_cons, Bool.eq_iff_iff, beq_iff_eq, beq_iff_eq]
  constructor
  · intro e; rw [Option.some.inj e]; rfl
  · intro e
    congr 1
    apply UInt8.toNat_inj.1
    show _ = 47
    omega
theorem impl_isPath (s : ByteArray) (hs : s.size ≤ 9223372036854775807) (w : World) : Calls Tryz.prog 60 #[.string s] w fun e w' => e = .returned (.bool (pathS s)) ∧ w = w' := by
  by_cases h : (inB s.size 1 100 && allB pathB s) = true
  · have hpos : 0 < s.size := by
      rw [Bool.and_eq_true] at h
      have := inB_iff.1 h.1
      omega
    have e : pathS s = ((s[0].toNat : Int) == 47) := by rw [pathS, h, head_at s hpos]; rfl
    rw [e]
    have hc := fun W => areBytes_path s 1 100 W hs
    rw [h] at hc
    have Hc := Lib.hid hc
    clear hc h e
    go_enter Tryz.func60, Tryz.ntmps60
    go_wp2_with (go_at_call 39; ((with_reducible refine (Hc.out _).mono ?_); rintro e w' ⟨rfl, rfl⟩))
    all_goals (go_ret; exact ⟨by first | rfl | (simp [*]; done) | (simp [*]; omega), by first | (with_reducible rfl) | exact (by first | (with_reducible exact Below.refl _ _) | ((repeat' (first | (with_reducible exact Below.refl _ _) | (with_reducible assumption) | (with_reducible refine below_alloc ?_ _) | (with_reducible refine Below.drew ?_) | (with_reducible refine below_drewN ?_ _) | (with_reducible refine Below.setCell ?_ ?_ _) | refine below_then ?_ (by with_reducible assumption))) <;> (first | omega | (simp; done) | (simp; omega))))⟩)
  · simp only [Bool.not_eq_true] at h
    have e : pathS s = false := by rw [pathS, h]; rfl
    rw [e]
    have hc := fun W => areBytes_path s 1 100 W hs
    rw [h] at hc
    have Hc := Lib.hid hc
    clear hc h e
    go_enter Tryz.func60, Tryz.ntmps60
    go_wp2_with (go_at_call 39; ((with_reducible refine (Hc.out _).mono ?_); rintro e w' ⟨rfl, rfl⟩))
    all_goals (go_ret; exact ⟨by first | rfl | (simp [*]; done) | (simp [*]; omega), by first | (with_reducible rfl) | exact (by first | (with_reducible exact Below.refl _ _) | ((repeat' (first | (with_reducible exact Below.refl _ _) | (with_reducible assumption) | (with_reducible refine below_alloc ?_ _) | (with_reducible refine Below.drew ?_) | (with_reducible refine below_drewN ?_ _) | (with_reducible refine Below.setCell ?_ ?_ _) | refine below_then ?_ (by with_reducible assumption))) <;> (first | omega | (simp; done) | (simp; omega))))⟩)
set_option maxHeartbeats 1600000 in
theorem spec_l5PathByte (c : Int) (w : World) : Calls Tryz.prog 84 #[.int .u8 c] w fun e w' => e = .returned (.bool (pathB c)) ∧ w = w' := by
  go_enter Tryz.func84, Tryz.ntmps84
  go_wp2_with (go_at_call 113; ((with_reducible refine (spec_l1WordByte _ _).mono ?_); rintro e w' ⟨rfl, rfl⟩))
  all_goals (go_ret; exact ⟨ret_bool (by simp_all [pathB]), rfl⟩)
set_option maxHeartbeats 1600000 in
theorem spec_l5Host (s : ByteArray) (hs : s.size ≤ 9223372036854775807) (w : World) : Calls Tryz.prog 55 #[.string s] w fun e w' => e = .returned (.bool (hostS s)) ∧ w = w' := by
  by_cases hb : inB s.size 1 60 = true
  · obtain ⟨h1, h2⟩ := inB_iff.1 hb
    have hfin : ∀ v, allB hostB s = v → Ending.returned (.bool v) = .returned (.bool (hostS s)) := fun v h => by rw [hostS, hb, h]; rfl
    have Hfin := Lib.hid hfin
    clear hfin hb
    go_enter Tryz.func55, Tryz.ntmps55
    go_wp2
    go_loop [3] (fun i => ∃ k : Nat, k ≤ s.size ∧ i = .int .i64 k ∧ allTo hostB s k = true) (fun i => s.size - (intOf i).toNat)
    case atStart => exact ⟨0, Nat.zero_le _, rfl, rfl⟩
    case round =>
      obtain ⟨k, hk, rfl, hall⟩ := hrel
      have Hall := Lib.hid hall
      clear hall
      by_cases hlt : k < s.size
      · have hsn := Lib.hid (allTo_succ hostB s k hlt)
        by_cases c1 : letterB (s[k].toNat : Int) = true
        · have Hp := Lib.hid (show hostB (s[k].toNat : Int) = true by simp [hostB, c1])
          go_wp2_with (first | (go_at_call 83; ((with_reducible refine (spec_l1Letter _ _).mono ?_); rintro e w' ⟨rfl, rfl⟩)) | (go_at_call 77; ((with_reducible refine (spec_l1Digit _ _).mono ?_); rintro e w' ⟨rfl, rfl⟩)))
          go_round
          case rel => exact ⟨k + 1, by omega, by go_num, by rw [hsn.out, Hall.out, Hp.out]; rfl⟩
          case measure => simp [intOf]; omega
        · simp only [Bool.not_eq_true] at c1
          by_cases c2 : digitB (s[k].toNat : Int) = true
          · have Hp := Lib.hid (show hostB (s[k].toNat : Int) = true by simp [hostB, c2])
            go_wp2_with (first | (go_at_call 83; ((with_reducible refine (spec_l1Letter _ _).mono ?_); rintro e w' ⟨rfl, rfl⟩)) | (go_at_call 77; ((with_reducible refine (spec_l1Digit _ _).mono ?_); rintro e w' ⟨rfl, rfl⟩)))
            go_round
            case rel => exact ⟨k + 1, by omega, by go_num, by rw [hsn.out, Hall.out, Hp.out]; rfl⟩
            case measure => simp [intOf]; omega
          · simp only [Bool.not_eq_true] at c2
            by_cases c3 : ((s[k].toNat : Int) != 46) = false
            · have Hp := Lib.hid (show hostB (s[k].toNat : Int) = true by simp at c3; simp [hostB, c3])
              go_wp2_with (first | (go_at_call 83; ((with_reducible refine (spec_l1Letter _ _).mono ?_); rintro e w' ⟨rfl, rfl⟩)) | (go_at_call 77; ((with_reducible refine (spec_l1Digit _ _).mono ?_); rintro e w' ⟨rfl, rfl⟩)))
              go_round
              case rel => exact ⟨k + 1, by omega, by go_num, by rw [hsn.out, Hall.out, Hp.out]; rfl⟩
              case measure => simp [intOf]; omega
            · simp only [Bool.not_eq_false] at c3
              by_cases c4 : ((s[k].toNat : Int) != 45) = false
              · have Hp := Lib.hid (show hostB (s[k].toNat : Int) = true by simp at c4; simp [hostB, c4])
                go_wp2_with (first | (go_at_call 83; ((with_reducible refine (spec_l1Letter _ _).mono ?_); rintro e w' ⟨rfl, rfl⟩)) | (go_at_call 77; ((with_reducible refine (spec_l1Digit _ _).mono ?_); rintro e w' ⟨rfl, rfl⟩)))
                go_round
                case rel => exact ⟨k + 1, by omega, by go_num, by rw [hsn.out, Hall.out, Hp.out]; rfl⟩
                case measure => simp [intOf]; omega
              · simp only [Bool.not_eq_false] at c4
                have Hp := Lib.hid (show hostB (s[k].toNat : Int) = false by simp at c3 c4; simp [hostB, c1, c2, c3, c4])
                go_wp2_with (first | (go_at_call 83; ((with_reducible refine (spec_l1Letter _ _).mono ?_); rintro e w' ⟨rfl, rfl⟩)) | (go_at_call 77; ((with_reducible refine (spec_l1Digit _ _).mono ?_); rintro e w' ⟨rfl, rfl⟩)))
                go_ret
                exact ⟨Hfin.out _ (allB_false _ _ _ hlt Hp.out), rfl⟩
      · have hk' : k = s.size := by omega
        have Hk := Lib.hid hk'
        clear hk'
        go_wp2
        go_ret
        refine ⟨Hfin.out _ ?_, rfl⟩
        have h := Hall.out
        rw [Hk.out, allTo_size] at h
        exact h
  · simp only [Bool.not_eq_true] at hb
    have h1 := inB_not.1 hb
    have hfin : Ending.returned (.bool false) = .returned (.bool (hostS s)) := by rw [hostS, hb]; rfl
    have Hfin := Lib.hid hfin
    clear hfin hb
    by_cases h2 : (s.size : Int) < 1
    all_goals
      go_enter Tryz.func55, Tryz.ntmps55
      go_wp2
      all_goals
        go_ret
        exact ⟨Hfin.out, rfl⟩
set_option maxHeartbeats 1600000 in
theorem spec_l5Path (s : ByteArray) (hs : s.size ≤ 9223372036854775807) (w : World) : Calls Tryz.prog 56 #[.string s] w fun e w' => e = .returned (.bool (pathS s)) ∧ w = w' := by
  by_cases hb : inB s.size 1 100 = true
  · obtain ⟨h1, h2⟩ := inB_iff.1 hb
    have hpos : 0 < s.size := by omega
    by_cases h47 : ((s[0].toNat : Int) == 47) = true
    · have g47 : ((s[0].toNat : Int) != 47) = false := by simp at h47 ⊢; exact h47
      have hfin : ∀ v, allB pathB s = v → Ending.returned (.bool v) = .returned (.bool (pathS s)) := fun v h => by rw [pathS, hb, h, head_at s hpos, h47]; simp
      have Hfin := Lib.hid hfin
      clear hfin hb h47
      go_enter Tryz.func56, Tryz.ntmps56
      go_wp2
      go_loop [3] (fun i => ∃ k : Nat, k ≤ s.size ∧ i = .int .i64 k ∧ allTo pathB s k = true) (fun i => s.size - (intOf i).toNat)
      case atStart => exact ⟨0, Nat.zero_le _, rfl, rfl⟩
      case round =>
        obtain ⟨k, hk, rfl, hall⟩ := hrel
        have Hall := Lib.hid hall
        clear hall
        by_cases hlt : k < s.size
        · have hsn := Lib.hid (allTo_succ pathB s k hlt)
          by_cases hp : pathB (s[k].toNat : Int) = true
          · go_wp2_with (go_at_call 84; ((with_reducible refine (spec_l5PathByte _ _).mono ?_); rintro e w' ⟨rfl, rfl⟩))
            go_round
            case rel => exact ⟨k + 1, by omega, by go_num, by rw [hsn.out, Hall.out, hp]; rfl⟩
            case measure => simp [intOf]; omega
          · simp only [Bool.not_eq_true] at hp
            go_wp2_with (go_at_call 84; ((with_reducible refine (spec_l5PathByte _ _).mono ?_); rintro e w' ⟨rfl, rfl⟩))
            go_ret
            exact ⟨Hfin.out _ (allB_false _ _ _ hlt hp), rfl⟩
        · have hk' : k = s.size := by omega
          have Hk := Lib.hid hk'
          clear hk'
          go_wp2
          go_ret
          refine ⟨Hfin.out _ ?_, rfl⟩
          have h := Hall.out
          rw [Hk.out, allTo_size] at h
          exact h
    · simp only [Bool.not_eq_true] at h47
      have g47 : ((s[0].toNat : Int) != 47) = true := by simp at h47 ⊢; exact h47
      have hfin : Ending.returned (.bool false) = .returned (.bool (pathS s)) := by rw [pathS, head_at s hpos, h47, Bool.and_false]
      have Hfin := Lib.hid hfin
      clear hfin hb h47
      go_enter Tryz.func56, Tryz.ntmps56
      go_wp2
      all_goals
        go_ret
        exact ⟨Hfin.out, rfl⟩
  · simp only [Bool.not_eq_true] at hb
    have h1 := inB_not.1 hb
    have hfin : Ending.returned (.bool false) = .returned (.bool (pathS s)) := by rw [pathS, hb]; rfl
    have Hfin := Lib.hid hfin
    clear hfin hb
    by_cases h2 : (s.size : Int) < 1
    all_goals
      go_enter Tryz.func56, Tryz.ntmps56
      go_wp2
      all_goals
        go_ret
        exact ⟨Hfin.out, rfl⟩
end Go.Proofs.YtbiodbggaeglpaaGreatDoor
