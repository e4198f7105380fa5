/- Days: leap years, months, the code of a date, the day of the week. -/
import Derived.Test.YtklnccoknldkcaaDoorTimes
import Derived.Test.YtklnccoknldkcaaDoorDateP
namespace Go.Proofs.YtklnccoknldkcaaDoor
open Go.RowKit
set_option linter.unusedSimpArgs false
set_option linter.unusedVariables false

theorem impl_isLeap (y : Int) (h1 : 0 ≤ y) (h2 : y ≤ 10000) (w : World) : Calls Tryd.prog 216 #[.int .i64 y] w fun e w' => e = .returned (.bool (leapB y)) ∧ w = w' := by
  go_enter Tryd.func216, Tryd.ntmps216
  go_wp2
  all_goals (go_ret; exact ⟨ret_bool (by first | (simp_all [leapB]; done) | (simp_all [leapB]; rfl)), rfl⟩)
theorem spec_l3Leap (y : Int) (h1 : 0 ≤ y) (h2 : y ≤ 10000) (w : World) : Calls Tryd.prog 217 #[.int .i64 y] w fun e w' => e = .returned (.bool (leapB y)) ∧ w = w' := by
  go_enter Tryd.func217, Tryd.ntmps217
  go_wp2
  all_goals (go_ret; exact ⟨ret_bool (by first | (simp_all [leapB]; done) | (simp_all [leapB]; rfl)), rfl⟩)
theorem impl_daysIn (y m : Int) (h1 : 0 ≤ y) (h2 : y ≤ 10000) (w : World) : Calls Tryd.prog 177 #[.int .i64 y, .int .i64 m] w fun e w' => e = .returned (.int .i64 (dimI y m)) ∧ w = w' := by
  go_enter Tryd.func177, Tryd.ntmps177
  go_wp2_with (go_at_call 216; ((with_reducible refine (impl_isLeap _ h1 h2 _).mono ?_); rintro e w' ⟨rfl, rfl⟩))
  all_goals (go_ret; exact ⟨ret_int (by simp_all [dimI]), rfl⟩)
theorem spec_l3Month (y m : Int) (h1 : 0 ≤ y) (h2 : y ≤ 10000) (w : World) : Calls Tryd.prog 178 #[.int .i64 y, .int .i64 m] w fun e w' => e = .returned (.int .i64 (dimI y m)) ∧ w = w' := by
  go_enter Tryd.func178, Tryd.ntmps178
  go_wp2_with (go_at_call 217; ((with_reducible refine (spec_l3Leap _ h1 h2 _).mono ?_); rintro e w' ⟨rfl, rfl⟩))
  all_goals (go_ret; exact ⟨ret_int (by simp_all [dimI]), rfl⟩)
theorem impl_isDay (y m d : Int) (w : World) : Calls Tryd.prog 101 #[.int .i64 y, .int .i64 m, .int .i64 d] w fun e w' => e = .returned (.bool (dayB y m d)) ∧ w = w' := by
  by_cases hy : inB y 1970 9999 = true
  · obtain ⟨h1, h2⟩ := inB_iff.1 hy
    go_enter Tryd.func101, Tryd.ntmps101
    go_wp2_with (first | (go_at_call 102; ((with_reducible refine (impl_within _ _ _ _).mono ?_); rintro e w' ⟨rfl, rfl⟩)) | (go_at_call 177; ((with_reducible refine (impl_daysIn _ _ (by omega) (by omega) _).mono ?_); rintro e w' ⟨rfl, rfl⟩)))
    all_goals (go_ret; exact ⟨ret_bool (by simp_all [dayB]), rfl⟩)
  · simp only [Bool.not_eq_true] at hy
    go_enter Tryd.func101, Tryd.ntmps101
    go_wp2_with (first | (go_at_call 102; ((with_reducible refine (impl_within _ _ _ _).mono ?_); rintro e w' ⟨rfl, rfl⟩)))
    all_goals (go_ret; exact ⟨ret_bool (by simp_all [dayB]), rfl⟩)
theorem spec_l3Day (y m d : Int) (w : World) : Calls Tryd.prog 103 #[.int .i64 y, .int .i64 m, .int .i64 d] w fun e w' => e = .returned (.bool (dayB y m d)) ∧ w = w' := by
  by_cases hy : inB y 1970 9999 = true
  · obtain ⟨h1, h2⟩ := inB_iff.1 hy
    go_enter Tryd.func103, Tryd.ntmps103
    go_wp2_with (first | (go_at_call 104; ((with_reducible refine (spec_l1In _ _ _ _).mono ?_); rintro e w' ⟨rfl, rfl⟩)) | (go_at_call 178; ((with_reducible refine (spec_l3Month _ _ (by omega) (by omega) _).mono ?_); rintro e w' ⟨rfl, rfl⟩)))
    all_goals (go_ret; exact ⟨ret_bool (by simp_all [dayB]), rfl⟩)
  · simp only [Bool.not_eq_true] at hy
    go_enter Tryd.func103, Tryd.ntmps103
    go_wp2_with (first | (go_at_call 104; ((with_reducible refine (spec_l1In _ _ _ _).mono ?_); rintro e w' ⟨rfl, rfl⟩)))
    all_goals (go_ret; exact ⟨ret_bool (by simp_all [dayB]), rfl⟩)
set_option maxHeartbeats 1000000 in
theorem impl_DateFault (y m d h i s : Int) (w : World) : Calls Tryd.prog 36 #[.agg #[.int .i64 y, .int .i64 m, .int .i64 d, .int .i64 h, .int .i64 i, .int .i64 s]] w fun e w' => e = .returned (.int .i64 (dateFault y m d h i s)) ∧ Below w.heap.size w w' := by
  go_enter Tryd.func36, Tryd.ntmps36
  go_wp2_with (first | (go_at_call 101; ((with_reducible refine (impl_isDay _ _ _ _).mono ?_); rintro e w' ⟨rfl, rfl⟩)) | (go_at_call 102; ((with_reducible refine (impl_within _ _ _ _).mono ?_); rintro e w' ⟨rfl, rfl⟩)))
  all_goals (go_ret; exact ⟨ret_int (by simp_all [dateFault]), (by first | (with_reducible exact Below.refl _ _) | ((repeat' (first | (with_reducible exact Below.refl _ _) | (with_reducible assumption) | (with_reducible refine below_alloc ?_ _) | (with_reducible refine Below.drew ?_) | (with_reducible refine below_drewN ?_ _) | (with_reducible refine Below.setCell ?_ ?_ _) | refine below_then ?_ (by with_reducible assumption))) <;> (first | omega | (simp; done) | (simp; omega))))⟩)
set_option maxHeartbeats 1000000 in
theorem spec_DateFault (y m d h i s : Int) (w : World) : Calls Tryd.prog 37 #[.agg #[.int .i64 y, .int .i64 m, .int .i64 d, .int .i64 h, .int .i64 i, .int .i64 s]] w fun e w' => e = .returned (.int .i64 (dateFault y m d h i s)) ∧ Below w.heap.size w w' := by
  go_enter Tryd.func37, Tryd.ntmps37
  go_wp2_with (first | (go_at_call 103; ((with_reducible refine (spec_l3Day _ _ _ _).mono ?_); rintro e w' ⟨rfl, rfl⟩)) | (go_at_call 104; ((with_reducible refine (spec_l1In _ _ _ _).mono ?_); rintro e w' ⟨rfl, rfl⟩)))
  all_goals (go_ret; exact ⟨ret_int (by simp_all [dateFault]), (by first | (with_reducible exact Below.refl _ _) | ((repeat' (first | (with_reducible exact Below.refl _ _) | (with_reducible assumption) | (with_reducible refine below_alloc ?_ _) | (with_reducible refine Below.drew ?_) | (with_reducible refine below_drewN ?_ _) | (with_reducible refine Below.setCell ?_ ?_ _) | refine below_then ?_ (by with_reducible assumption))) <;> (first | omega | (simp; done) | (simp; omega))))⟩)

theorem impl_isSeconds (n : Int) (w : World) : Calls Tryd.prog 97 #[.int .i64 n] w fun e w' => e = .returned (.bool (inB n 0 253402300799)) ∧ w = w' := by
  go_enter Tryd.func97, Tryd.ntmps97
  go_wp2_with (go_at_call 102; ((with_reducible refine (impl_within _ _ _ _).mono ?_); rintro e w' ⟨rfl, rfl⟩))
  all_goals (go_ret; exact ⟨by first | rfl | (simp [*]; done) | (simp [*]; omega), by first | (with_reducible rfl) | exact (by first | (with_reducible exact Below.refl _ _) | ((repeat' (first | (with_reducible exact Below.refl _ _) | (with_reducible assumption) | (with_reducible refine below_alloc ?_ _) | (with_reducible refine Below.drew ?_) | (with_reducible refine below_drewN ?_ _) | (with_reducible refine Below.setCell ?_ ?_ _) | refine below_then ?_ (by with_reducible assumption))) <;> (first | omega | (simp; done) | (simp; omega))))⟩)
theorem spec_l3Known (n : Int) (w : World) : Calls Tryd.prog 105 #[.int .i64 n] w fun e w' => e = .returned (.bool (inB n 0 253402300799)) ∧ w = w' := by
  go_enter Tryd.func105, Tryd.ntmps105
  go_wp2_with (go_at_call 104; ((with_reducible refine (spec_l1In _ _ _ _).mono ?_); rintro e w' ⟨rfl, rfl⟩))
  all_goals (go_ret; exact ⟨by first | rfl | (simp [*]; done) | (simp [*]; omega), by first | (with_reducible rfl) | exact (by first | (with_reducible exact Below.refl _ _) | ((repeat' (first | (with_reducible exact Below.refl _ _) | (with_reducible assumption) | (with_reducible refine below_alloc ?_ _) | (with_reducible refine Below.drew ?_) | (with_reducible refine below_drewN ?_ _) | (with_reducible refine Below.setCell ?_ ?_ _) | refine below_then ?_ (by with_reducible assumption))) <;> (first | omega | (simp; done) | (simp; omega))))⟩)
def weekI (n : Int) : Int := (n / 86400 + 4) % 7
def weekR (n : Int) : Int × Int := if inB n 0 253402300799 then (0, weekI n) else (3, 0)
theorem impl_weekday (n : Int) (h1 : 0 ≤ n) (h2 : n ≤ 253402300799) (w : World) : Calls Tryd.prog 107 #[.int .i64 n] w fun e w' => e = .returned (.int .i64 (weekI n)) ∧ w = w' := by
  go_enter Tryd.func107, Tryd.ntmps107
  go_wp2
  all_goals (go_ret; exact ⟨by first | rfl | (simp [*]; done) | (simp [*]; omega), by first | (with_reducible rfl) | exact (by first | (with_reducible exact Below.refl _ _) | ((repeat' (first | (with_reducible exact Below.refl _ _) | (with_reducible assumption) | (with_reducible refine below_alloc ?_ _) | (with_reducible refine Below.drew ?_) | (with_reducible refine below_drewN ?_ _) | (with_reducible refine Below.setCell ?_ ?_ _) | refine below_then ?_ (by with_reducible assumption))) <;> (first | omega | (simp; done) | (simp; omega))))⟩)
theorem impl_WeekdayOf (n : Int) (w : World) : Calls Tryd.prog 40 #[.int .i64 n] w fun e w' => e = .returned (.agg #[.int .i64 (weekR n).1, .int .i64 (weekR n).2]) ∧ Below w.heap.size w w' := by
  by_cases h : inB n 0 253402300799 = true
  · obtain ⟨h1, h2⟩ := inB_iff.1 h
    have e : weekR n = (0, (n / 86400 + 4) % 7) := by simp [weekR, h, weekI]
    rw [e]
    go_enter Tryd.func40, Tryd.ntmps40
    go_wp2_with (first | (go_at_call 97; ((with_reducible refine (impl_isSeconds _ _).mono ?_); rintro e w' ⟨rfl, rfl⟩)) | (go_at_call 107; ((with_reducible refine (impl_weekday _ h1 h2 _).mono ?_); rintro e w' ⟨rfl, rfl⟩)))
    all_goals exact bodyPost_ret (by first | ((simp [results, Tryd.results40, go_sem]; try rfl); done) | ((simp [results, Tryd.results40, go_sem, *]; try rfl); done) | ((simp (maxDischargeDepth := 8) [results, Tryd.results40, go_sem, *]; try rfl); done)) rfl ⟨rfl, by first | (with_reducible rfl) | exact (by first | (with_reducible exact Below.refl _ _) | ((repeat' (first | (with_reducible exact Below.refl _ _) | (with_reducible assumption) | (with_reducible refine below_alloc ?_ _) | (with_reducible refine Below.drew ?_) | (with_reducible refine below_drewN ?_ _) | (with_reducible refine Below.setCell ?_ ?_ _) | refine below_then ?_ (by with_reducible assumption))) <;> (first | omega | (simp; done) | (simp; omega))))⟩
  · simp only [Bool.not_eq_true] at h
    have e : weekR n = (3, 0) := by simp [weekR, h]
    rw [e]
    go_enter Tryd.func40, Tryd.ntmps40
    go_wp2_with (go_at_call 97; ((with_reducible refine (impl_isSeconds _ _).mono ?_); rintro e w' ⟨rfl, rfl⟩))
    all_goals exact bodyPost_ret (by first | ((simp [results, Tryd.results40, go_sem]; try rfl); done) | ((simp [results, Tryd.results40, go_sem, *]; try rfl); done) | ((simp (maxDischargeDepth := 8) [results, Tryd.results40, go_sem, *]; try rfl); done)) rfl ⟨rfl, by first | (with_reducible rfl) | exact (by first | (with_reducible exact Below.refl _ _) | ((repeat' (first | (with_reducible exact Below.refl _ _) | (with_reducible assumption) | (with_reducible refine below_alloc ?_ _) | (with_reducible refine Below.drew ?_) | (with_reducible refine below_drewN ?_ _) | (with_reducible refine Below.setCell ?_ ?_ _) | refine below_then ?_ (by with_reducible assumption))) <;> (first | omega | (simp; done) | (simp; omega))))⟩
end Go.Proofs.YtklnccoknldkcaaDoor
