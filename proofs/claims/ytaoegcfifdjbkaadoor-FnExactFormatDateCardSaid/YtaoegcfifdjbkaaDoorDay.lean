/- Days: leap years, months, the code of a date, the day of the week. -/
import Derived.Test.YtaoegcfifdjbkaaDoorTimes
import Derived.Test.YtaoegcfifdjbkaaDoorDateP
namespace Go.Proofs.YtaoegcfifdjbkaaDoor
open Go.RowKit
set_option linter.unusedSimpArgs false
set_option linter.unusedVariables false

theorem impl_isLeap (y : Int) (h1 : 0 ≤ y) (h2 : y ≤ 10000) (w : World) : Calls Tryd.prog 199 #[.int .i64 y] w fun e w' => e = .returned (.bool (leapB y)) ∧ w = w' := by
  go_enter Tryd.func199, Tryd.ntmps199
  go_wp2
  all_goals (go_ret; exact ⟨ret_bool (by first | (simp_all [leapB]; done) | (simp_all [leapB]; rfl)), rfl⟩)
theorem spec_l3Leap (y : Int) (h1 : 0 ≤ y) (h2 : y ≤ 10000) (w : World) : Calls Tryd.prog 198 #[.int .i64 y] w fun e w' => e = .returned (.bool (leapB y)) ∧ w = w' := by
  go_enter Tryd.func198, Tryd.ntmps198
  go_wp2
  all_goals (go_ret; exact ⟨ret_bool (by first | (simp_all [leapB]; done) | (simp_all [leapB]; rfl)), rfl⟩)
theorem impl_daysIn (y m : Int) (h1 : 0 ≤ y) (h2 : y ≤ 10000) (w : World) : Calls Tryd.prog 177 #[.int .i64 y, .int .i64 m] w fun e w' => e = .returned (.int .i64 (dimI y m)) ∧ w = w' := by
  go_enter Tryd.func177, Tryd.ntmps177
  go_wp2_with (go_at_call 199; ((with_reducible refine (impl_isLeap _ h1 h2 _).mono ?_); rintro e w' ⟨rfl, rfl⟩))
  all_goals (go_ret; exact ⟨ret_int (by simp_all [dimI]), rfl⟩)
theorem spec_l3Month (y m : Int) (h1 : 0 ≤ y) (h2 : y ≤ 10000) (w : World) : Calls Tryd.prog 175 #[.int .i64 y, .int .i64 m] w fun e w' => e = .returned (.int .i64 (dimI y m)) ∧ w = w' := by
  go_enter Tryd.func175, Tryd.ntmps175
  go_wp2_with (go_at_call 198; ((with_reducible refine (spec_l3Leap _ h1 h2 _).mono ?_); rintro e w' ⟨rfl, rfl⟩))
  all_goals (go_ret; exact ⟨ret_int (by simp_all [dimI]), rfl⟩)
theorem impl_isSeconds (n : Int) (w : World) : Calls Tryd.prog 77 #[.int .i64 n] w fun e w' => e = .returned (.bool (inB n 0 253402300799)) ∧ w = w' := by
  go_enter Tryd.func77, Tryd.ntmps77
  go_wp2_with (go_at_call 137; ((with_reducible refine (impl_within _ _ _ _).mono ?_); rintro e w' ⟨rfl, rfl⟩))
  all_goals (go_ret; exact ⟨by first | rfl | (simp [*]; done) | (simp [*]; omega), by first | (with_reducible rfl) | exact (by first | (with_reducible exact Below.refl _ _) | ((repeat' (first | (with_reducible exact Below.refl _ _) | (with_reducible assumption) | (with_reducible refine below_alloc ?_ _) | (with_reducible refine Below.drew ?_) | (with_reducible refine below_drewN ?_ _) | (with_reducible refine Below.setCell ?_ ?_ _) | refine below_then ?_ (by with_reducible assumption))) <;> (first | omega | (simp; done) | (simp; omega))))⟩)
theorem spec_l3Known (n : Int) (w : World) : Calls Tryd.prog 75 #[.int .i64 n] w fun e w' => e = .returned (.bool (inB n 0 253402300799)) ∧ w = w' := by
  go_enter Tryd.func75, Tryd.ntmps75
  go_wp2_with (go_at_call 134; ((with_reducible refine (spec_l1In _ _ _ _).mono ?_); rintro e w' ⟨rfl, rfl⟩))
  all_goals (go_ret; exact ⟨by first | rfl | (simp [*]; done) | (simp [*]; omega), by first | (with_reducible rfl) | exact (by first | (with_reducible exact Below.refl _ _) | ((repeat' (first | (with_reducible exact Below.refl _ _) | (with_reducible assumption) | (with_reducible refine below_alloc ?_ _) | (with_reducible refine Below.drew ?_) | (with_reducible refine below_drewN ?_ _) | (with_reducible refine Below.setCell ?_ ?_ _) | refine below_then ?_ (by with_reducible assumption))) <;> (first | omega | (simp; done) | (simp; omega))))⟩)
def weekI (n : Int) : Int := (n / 86400 + 4) % 7
def weekR (n : Int) : Int × Int := if inB n 0 253402300799 then (0, weekI n) else (3, 0)
theorem impl_weekday (n : Int) (h1 : 0 ≤ n) (h2 : n ≤ 253402300799) (w : World) : Calls Tryd.prog 139 #[.int .i64 n] w fun e w' => e = .returned (.int .i64 (weekI n)) ∧ w = w' := by
  go_enter Tryd.func139, Tryd.ntmps139
  go_wp2
  all_goals (go_ret; exact ⟨by first | rfl | (simp [*]; done) | (simp [*]; omega), by first | (with_reducible rfl) | exact (by first | (with_reducible exact Below.refl _ _) | ((repeat' (first | (with_reducible exact Below.refl _ _) | (with_reducible assumption) | (with_reducible refine below_alloc ?_ _) | (with_reducible refine Below.drew ?_) | (with_reducible refine below_drewN ?_ _) | (with_reducible refine Below.setCell ?_ ?_ _) | refine below_then ?_ (by with_reducible assumption))) <;> (first | omega | (simp; done) | (simp; omega))))⟩)
end Go.Proofs.YtaoegcfifdjbkaaDoor
