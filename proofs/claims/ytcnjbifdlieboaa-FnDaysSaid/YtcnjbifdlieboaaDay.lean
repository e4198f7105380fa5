/- Days: leap years, months, the code of a date, the day of the week. -/
import Derived.Test.YtcnjbifdlieboaaTimes
import Derived.Test.YtcnjbifdlieboaaDateP
namespace Go.Proofs.Ytcnjbifdlieboaa
open Go.RowKit
set_option linter.unusedSimpArgs false
set_option linter.unusedVariables false

theorem impl_isLeap (y : Int) (h1 : 0 ≤ y) (h2 : y ≤ 10000) (w : World) : Calls Try.prog 65 #[.int .i64 y] w fun e w' => e = .returned (.bool (leapB y)) ∧ w = w' := by
  go_enter Try.func65, Try.ntmps65
  go_wp2
  all_goals (go_ret; exact ⟨ret_bool (by first | (simp_all [leapB]; done) | (simp_all [leapB]; rfl)), rfl⟩)
theorem spec_l3Leap (y : Int) (h1 : 0 ≤ y) (h2 : y ≤ 10000) (w : World) : Calls Try.prog 66 #[.int .i64 y] w fun e w' => e = .returned (.bool (leapB y)) ∧ w = w' := by
  go_enter Try.func66, Try.ntmps66
  go_wp2
  all_goals (go_ret; exact ⟨ret_bool (by first | (simp_all [leapB]; done) | (simp_all [leapB]; rfl)), rfl⟩)
theorem impl_daysIn (y m : Int) (h1 : 0 ≤ y) (h2 : y ≤ 10000) (w : World) : Calls Try.prog 51 #[.int .i64 y, .int .i64 m] w fun e w' => e = .returned (.int .i64 (dimI y m)) ∧ w = w' := by
  go_enter Try.func51, Try.ntmps51
  go_wp2_with (go_at_call 65; ((with_reducible refine (impl_isLeap _ h1 h2 _).mono ?_); rintro e w' ⟨rfl, rfl⟩))
  all_goals (go_ret; exact ⟨ret_int (by simp_all [dimI]), rfl⟩)
theorem spec_l3Month (y m : Int) (h1 : 0 ≤ y) (h2 : y ≤ 10000) (w : World) : Calls Try.prog 54 #[.int .i64 y, .int .i64 m] w fun e w' => e = .returned (.int .i64 (dimI y m)) ∧ w = w' := by
  go_enter Try.func54, Try.ntmps54
  go_wp2_with (go_at_call 66; ((with_reducible refine (spec_l3Leap _ h1 h2 _).mono ?_); rintro e w' ⟨rfl, rfl⟩))
  all_goals (go_ret; exact ⟨ret_int (by simp_all [dimI]), rfl⟩)
theorem impl_isDay (y m d : Int) (w : World) : Calls Try.prog 24 #[.int .i64 y, .int .i64 m, .int .i64 d] w fun e w' => e = .returned (.bool (dayB y m d)) ∧ w = w' := by
  by_cases hy : inB y 1970 9999 = true
  · obtain ⟨h1, h2⟩ := inB_iff.1 hy
    go_enter Try.func24, Try.ntmps24
    go_wp2_with (first | (go_at_call 50; ((with_reducible refine (impl_within _ _ _ _).mono ?_); rintro e w' ⟨rfl, rfl⟩)) | (go_at_call 51; ((with_reducible refine (impl_daysIn _ _ (by omega) (by omega) _).mono ?_); rintro e w' ⟨rfl, rfl⟩)))
    all_goals (go_ret; exact ⟨ret_bool (by simp_all [dayB]), rfl⟩)
  · simp only [Bool.not_eq_true] at hy
    go_enter Try.func24, Try.ntmps24
    go_wp2_with (first | (go_at_call 50; ((with_reducible refine (impl_within _ _ _ _).mono ?_); rintro e w' ⟨rfl, rfl⟩)))
    all_goals (go_ret; exact ⟨ret_bool (by simp_all [dayB]), rfl⟩)
theorem spec_l3Day (y m d : Int) (w : World) : Calls Try.prog 26 #[.int .i64 y, .int .i64 m, .int .i64 d] w fun e w' => e = .returned (.bool (dayB y m d)) ∧ w = w' := by
  by_cases hy : inB y 1970 9999 = true
  · obtain ⟨h1, h2⟩ := inB_iff.1 hy
    go_enter Try.func26, Try.ntmps26
    go_wp2_with (first | (go_at_call 53; ((with_reducible refine (spec_l1In _ _ _ _).mono ?_); rintro e w' ⟨rfl, rfl⟩)) | (go_at_call 54; ((with_reducible refine (spec_l3Month _ _ (by omega) (by omega) _).mono ?_); rintro e w' ⟨rfl, rfl⟩)))
    all_goals (go_ret; exact ⟨ret_bool (by simp_all [dayB]), rfl⟩)
  · simp only [Bool.not_eq_true] at hy
    go_enter Try.func26, Try.ntmps26
    go_wp2_with (first | (go_at_call 53; ((with_reducible refine (spec_l1In _ _ _ _).mono ?_); rintro e w' ⟨rfl, rfl⟩)))
    all_goals (go_ret; exact ⟨ret_bool (by simp_all [dayB]), rfl⟩)
def weekI (n : Int) : Int := (n / 86400 + 4) % 7
def weekR (n : Int) : Int × Int := if inB n 0 253402300799 then (0, weekI n) else (3, 0)
end Go.Proofs.Ytcnjbifdlieboaa
