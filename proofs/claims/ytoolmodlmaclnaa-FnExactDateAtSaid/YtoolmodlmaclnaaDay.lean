/- Days: leap years, months, the code of a date, the day of the week. -/
import Derived.Test.YtoolmodlmaclnaaTimes
import Derived.Test.YtoolmodlmaclnaaDateP
namespace Go.Proofs.Ytoolmodlmaclnaa
open Go.RowKit
set_option linter.unusedSimpArgs false
set_option linter.unusedVariables false

theorem impl_isLeap (y : Int) (h1 : 0 ≤ y) (h2 : y ≤ 10000) (w : World) : Calls Try.prog 116 #[.int .i64 y] w fun e w' => e = .returned (.bool (leapB y)) ∧ w = w' := by
  go_enter Try.func116, Try.ntmps116
  go_wp2
  all_goals (go_ret; exact ⟨ret_bool (by first | (simp_all [leapB]; done) | (simp_all [leapB]; rfl)), rfl⟩)
theorem spec_l3Leap (y : Int) (h1 : 0 ≤ y) (h2 : y ≤ 10000) (w : World) : Calls Try.prog 115 #[.int .i64 y] w fun e w' => e = .returned (.bool (leapB y)) ∧ w = w' := by
    go_enter Try.func115, Try.ntmps115
    go_wp2
    all_goals (go_ret; exact ⟨ret_bool (by first | (simp_all [leapB]; done) | (simp_all [leapB]; rfl)), rfl⟩)
theorem impl_daysIn (y m : Int) (h1 : 0 ≤ y) (h2 : y ≤ 10000) (w : World) : Calls Try.prog 97 #[.int .i64 y, .int .i64 m] w fun e w' => e = .returned (.int .i64 (dimI y m)) ∧ w = w' := by
      go_enter Try.func97, Try.ntmps97
      go_wp2_with (go_at_call 116; ((with_reducible refine (impl_isLeap _ h1 h2 _).mono ?_); rintro e w' ⟨rfl, rfl⟩))
      all_goals (go_ret; exact ⟨ret_int (by simp_all [dimI]), rfl⟩)
theorem spec_l3Month (y m : Int) (h1 : 0 ≤ y) (h2 : y ≤ 10000) (w : World) : Calls Try.prog 94 #[.int .i64 y, .int .i64 m] w fun e w' => e = .returned (.int .i64 (dimI y m)) ∧ w = w' := by
        go_enter Try.func94, Try.ntmps94
        go_wp2_with (go_at_call 115; ((with_reducible refine (spec_l3Leap _ h1 h2 _).mono ?_); rintro e w' ⟨rfl, rfl⟩))
        all_goals (go_ret; exact ⟨ret_int (by simp_all [dimI]), rfl⟩)
theorem impl_isDay (y m d : Int) (w : World) : Calls Try.prog 55 #[.int .i64 y, .int .i64 m, .int .i64 d] w fun e w' => e = .returned (.bool (dayB y m d)) ∧ w = w' := by
          by_cases hy : inB y 1970 9999 = true
          · obtain ⟨h1, h2⟩ := inB_iff.1 hy
            go_enter Try.func55, Try.ntmps55
            go_wp2_with (first | (go_at_call 96; ((with_reducible refine (impl_within _ _ _ _).mono ?_); rintro e w' ⟨rfl, rfl⟩)) | (go_at_call 97; ((with_reducible refine (impl_daysIn _ _ (by omega) (by omega) _).mono ?_); rintro e w' ⟨rfl, rfl⟩)))
            all_goals (go_ret; exact ⟨ret_bool (by simp_all [dayB]), rfl⟩)
          · simp only [Bool.not_eq_true] at hy
            go_enter Try.func55, Try.ntmps55
            go_wp2_with (first | (go_at_call 96; ((with_reducible refine (impl_within _ _ _ _).mono ?_); rintro e w' ⟨rfl, rfl⟩)))
            all_goals (go_ret; exact ⟨ret_bool (by simp_all [dayB]), rfl⟩)
theorem spec_l3Day (y m d : Int) (w : World) : Calls Try.prog 53 #[.int .i64 y, .int .i64 m, .int .i64 d] w fun e w' => e = .returned (.bool (dayB y m d)) ∧ w = w' := by
              by_cases hy : inB y 1970 9999 = true
              · obtain ⟨h1, h2⟩ := inB_iff.1 hy
                go_enter Try.func53, Try.ntmps53
                go_wp2_with (first | (go_at_call 93; ((with_reducible refine (spec_l1In _ _ _ _).mono ?_); rintro e w' ⟨rfl, rfl⟩)) | (go_at_call 94; ((with_reducible refine (spec_l3Month _ _ (by omega) (by omega) _).mono ?_); rintro e w' ⟨rfl, rfl⟩)))
                all_goals (go_ret; exact ⟨ret_bool (by simp_all [dayB]), rfl⟩)
              · simp only [Bool.not_eq_true] at hy
                go_enter Try.func53, Try.ntmps53
                go_wp2_with (first | (go_at_call 93; ((with_reducible refine (spec_l1In _ _ _ _).mono ?_); rintro e w' ⟨rfl, rfl⟩)))
                all_goals (go_ret; exact ⟨ret_bool (by simp_all [dayB]), rfl⟩)
set_option maxHeartbeats 1000000 in
                theorem impl_DateFault (y m d h i s : Int) (w : World) : Calls Try.prog 67 #[.agg #[.int .i64 y, .int .i64 m, .int .i64 d, .int .i64 h, .int .i64 i, .int .i64 s]] w fun e w' => e = .returned (.int .i64 (dateFault y m d h i s)) ∧ Below w.heap.size w w' := by
                  go_enter Try.func67, Try.ntmps67
                  go_wp2_with (first | (go_at_call 55; ((with_reducible refine (impl_isDay _ _ _ _).mono ?_); rintro e w' ⟨rfl, rfl⟩)) | (go_at_call 96; ((with_reducible refine (impl_within _ _ _ _).mono ?_); rintro e w' ⟨rfl, rfl⟩)))
                  all_goals (go_ret; exact ⟨ret_int (by simp_all [dateFault]), (by first | (with_reducible exact Below.refl _ _) | ((repeat' (first | (with_reducible exact Below.refl _ _) | (with_reducible assumption) | (with_reducible refine below_alloc ?_ _) | (with_reducible refine Below.drew ?_) | (with_reducible refine below_drewN ?_ _) | (with_reducible refine Below.setCell ?_ ?_ _) | refine below_then ?_ (by with_reducible assumption))) <;> (first | omega | (simp; done) | (simp; omega))))⟩)
set_option maxHeartbeats 1000000 in
                  theorem spec_DateFault (y m d h i s : Int) (w : World) : Calls Try.prog 65 #[.agg #[.int .i64 y, .int .i64 m, .int .i64 d, .int .i64 h, .int .i64 i, .int .i64 s]] w fun e w' => e = .returned (.int .i64 (dateFault y m d h i s)) ∧ Below w.heap.size w w' := by
                    go_enter Try.func65, Try.ntmps65
                    go_wp2_with (first | (go_at_call 53; ((with_reducible refine (spec_l3Day _ _ _ _).mono ?_); rintro e w' ⟨rfl, rfl⟩)) | (go_at_call 93; ((with_reducible refine (spec_l1In _ _ _ _).mono ?_); rintro e w' ⟨rfl, rfl⟩)))
                    all_goals (go_ret; exact ⟨ret_int (by simp_all [dateFault]), (by first | (with_reducible exact Below.refl _ _) | ((repeat' (first | (with_reducible exact Below.refl _ _) | (with_reducible assumption) | (with_reducible refine below_alloc ?_ _) | (with_reducible refine Below.drew ?_) | (with_reducible refine below_drewN ?_ _) | (with_reducible refine Below.setCell ?_ ?_ _) | refine below_then ?_ (by with_reducible assumption))) <;> (first | omega | (simp; done) | (simp; omega))))⟩)
theorem toDate (y m d h i s : Int) (w : World) : Calls Try.prog 30 #[.agg #[.int .i64 y, .int .i64 m, .int .i64 d, .int .i64 h, .int .i64 i, .int .i64 s]] w fun e w' => e = .returned (.agg #[.int .i64 y, .int .i64 m, .int .i64 d, .int .i64 h, .int .i64 i, .int .i64 s]) ∧ Below w.heap.size w w' := by
  go_enter Try.func30, Try.ntmps30
  go_wp2
  all_goals exact bodyPost_ret (by first | ((simp [results, Try.results30, go_sem]; try rfl); done) | ((simp [results, Try.results30, go_sem, *]; try rfl); done) | ((simp (maxDischargeDepth := 8) [results, Try.results30, go_sem, *]; try rfl); done)) rfl ⟨rfl, by first | (with_reducible rfl) | exact (by first | (with_reducible exact Below.refl _ _) | ((repeat' (first | (with_reducible exact Below.refl _ _) | (with_reducible assumption) | (with_reducible refine below_alloc ?_ _) | (with_reducible refine Below.drew ?_) | (with_reducible refine below_drewN ?_ _) | (with_reducible refine Below.setCell ?_ ?_ _) | refine below_then ?_ (by with_reducible assumption))) <;> (first | omega | (simp; done) | (simp; omega))))⟩

theorem impl_isSeconds (n : Int) (w : World) : Calls Try.prog 71 #[.int .i64 n] w fun e w' => e = .returned (.bool (inB n 0 253402300799)) ∧ w = w' := by
  go_enter Try.func71, Try.ntmps71
  go_wp2_with (go_at_call 96; ((with_reducible refine (impl_within _ _ _ _).mono ?_); rintro e w' ⟨rfl, rfl⟩))
  all_goals (go_ret; exact ⟨by first | rfl | (simp [*]; done) | (simp [*]; omega), by first | (with_reducible rfl) | exact (by first | (with_reducible exact Below.refl _ _) | ((repeat' (first | (with_reducible exact Below.refl _ _) | (with_reducible assumption) | (with_reducible refine below_alloc ?_ _) | (with_reducible refine Below.drew ?_) | (with_reducible refine below_drewN ?_ _) | (with_reducible refine Below.setCell ?_ ?_ _) | refine below_then ?_ (by with_reducible assumption))) <;> (first | omega | (simp; done) | (simp; omega))))⟩)
theorem spec_l3Known (n : Int) (w : World) : Calls Try.prog 69 #[.int .i64 n] w fun e w' => e = .returned (.bool (inB n 0 253402300799)) ∧ w = w' := by
  go_enter Try.func69, Try.ntmps69
  go_wp2_with (go_at_call 93; ((with_reducible refine (spec_l1In _ _ _ _).mono ?_); rintro e w' ⟨rfl, rfl⟩))
  all_goals (go_ret; exact ⟨by first | rfl | (simp [*]; done) | (simp [*]; omega), by first | (with_reducible rfl) | exact (by first | (with_reducible exact Below.refl _ _) | ((repeat' (first | (with_reducible exact Below.refl _ _) | (with_reducible assumption) | (with_reducible refine below_alloc ?_ _) | (with_reducible refine Below.drew ?_) | (with_reducible refine below_drewN ?_ _) | (with_reducible refine Below.setCell ?_ ?_ _) | refine below_then ?_ (by with_reducible assumption))) <;> (first | omega | (simp; done) | (simp; omega))))⟩)
def weekI (n : Int) : Int := (n / 86400 + 4) % 7
def weekR (n : Int) : Int × Int := if inB n 0 253402300799 then (0, weekI n) else (3, 0)
end Go.Proofs.Ytoolmodlmaclnaa
