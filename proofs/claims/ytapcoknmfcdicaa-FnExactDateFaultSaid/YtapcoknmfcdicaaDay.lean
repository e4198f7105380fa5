/- Days: leap years, months, the code of a date, the day of the week. -/
import Derived.Test.YtapcoknmfcdicaaTimes
namespace Go.Proofs.Ytapcoknmfcdicaa
open Go.RowKit
set_option linter.unusedSimpArgs false
set_option linter.unusedVariables false

def leapB (y : Int) : Bool := decide (y % 4 = 0) && (decide (y % 100 ≠ 0) || decide (y % 400 = 0))
def dimI (y m : Int) : Int := if m = 2 then (if leapB y = true then 29 else 28) else if m = 4 ∨ m = 6 ∨ m = 9 ∨ m = 11 then 30 else 31
def dayB (y m d : Int) : Bool := inB y 1970 9999 && inB m 1 12 && inB d 1 (dimI y m)
def dateFault (y m d h i s : Int) : Int := if dayB y m d && inB h 0 23 && inB i 0 59 && inB s 0 59 then 0 else 3

theorem impl_isLeap (y : Int) (h1 : 0 ≤ y) (h2 : y ≤ 10000) (w : World) : Calls Try.prog 87 #[.int .i64 y] w fun e w' => e = .returned (.bool (leapB y)) ∧ w = w' := by
  go_enter Try.func87, Try.ntmps87
  go_wp2
  all_goals (go_ret; exact ⟨ret_bool (by first | (simp_all [leapB]; done) | (simp_all [leapB]; rfl)), rfl⟩)
theorem spec_l3Leap (y : Int) (h1 : 0 ≤ y) (h2 : y ≤ 10000) (w : World) : Calls Try.prog 86 #[.int .i64 y] w fun e w' => e = .returned (.bool (leapB y)) ∧ w = w' := by
    go_enter Try.func86, Try.ntmps86
    go_wp2
    all_goals (go_ret; exact ⟨ret_bool (by first | (simp_all [leapB]; done) | (simp_all [leapB]; rfl)), rfl⟩)
theorem impl_daysIn (y m : Int) (h1 : 0 ≤ y) (h2 : y ≤ 10000) (w : World) : Calls Try.prog 82 #[.int .i64 y, .int .i64 m] w fun e w' => e = .returned (.int .i64 (dimI y m)) ∧ w = w' := by
      go_enter Try.func82, Try.ntmps82
      go_wp2_with (go_at_call 87; ((with_reducible refine (impl_isLeap _ h1 h2 _).mono ?_); rintro e w' ⟨rfl, rfl⟩))
      all_goals (go_ret; exact ⟨ret_int (by simp_all [dimI]), rfl⟩)
theorem spec_l3Month (y m : Int) (h1 : 0 ≤ y) (h2 : y ≤ 10000) (w : World) : Calls Try.prog 81 #[.int .i64 y, .int .i64 m] w fun e w' => e = .returned (.int .i64 (dimI y m)) ∧ w = w' := by
        go_enter Try.func81, Try.ntmps81
        go_wp2_with (go_at_call 86; ((with_reducible refine (spec_l3Leap _ h1 h2 _).mono ?_); rintro e w' ⟨rfl, rfl⟩))
        all_goals (go_ret; exact ⟨ret_int (by simp_all [dimI]), rfl⟩)
theorem impl_isDay (y m d : Int) (w : World) : Calls Try.prog 63 #[.int .i64 y, .int .i64 m, .int .i64 d] w fun e w' => e = .returned (.bool (dayB y m d)) ∧ w = w' := by
          by_cases hy : inB y 1970 9999 = true
          · obtain ⟨h1, h2⟩ := inB_iff.1 hy
            go_enter Try.func63, Try.ntmps63
            go_wp2_with (first | (go_at_call 64; ((with_reducible refine (impl_within _ _ _ _).mono ?_); rintro e w' ⟨rfl, rfl⟩)) | (go_at_call 82; ((with_reducible refine (impl_daysIn _ _ (by omega) (by omega) _).mono ?_); rintro e w' ⟨rfl, rfl⟩)))
            all_goals (go_ret; exact ⟨ret_bool (by simp_all [dayB]), rfl⟩)
          · simp only [Bool.not_eq_true] at hy
            go_enter Try.func63, Try.ntmps63
            go_wp2_with (first | (go_at_call 64; ((with_reducible refine (impl_within _ _ _ _).mono ?_); rintro e w' ⟨rfl, rfl⟩)))
            all_goals (go_ret; exact ⟨ret_bool (by simp_all [dayB]), rfl⟩)
theorem spec_l3Day (y m d : Int) (w : World) : Calls Try.prog 61 #[.int .i64 y, .int .i64 m, .int .i64 d] w fun e w' => e = .returned (.bool (dayB y m d)) ∧ w = w' := by
              by_cases hy : inB y 1970 9999 = true
              · obtain ⟨h1, h2⟩ := inB_iff.1 hy
                go_enter Try.func61, Try.ntmps61
                go_wp2_with (first | (go_at_call 62; ((with_reducible refine (spec_l1In _ _ _ _).mono ?_); rintro e w' ⟨rfl, rfl⟩)) | (go_at_call 81; ((with_reducible refine (spec_l3Month _ _ (by omega) (by omega) _).mono ?_); rintro e w' ⟨rfl, rfl⟩)))
                all_goals (go_ret; exact ⟨ret_bool (by simp_all [dayB]), rfl⟩)
              · simp only [Bool.not_eq_true] at hy
                go_enter Try.func61, Try.ntmps61
                go_wp2_with (first | (go_at_call 62; ((with_reducible refine (spec_l1In _ _ _ _).mono ?_); rintro e w' ⟨rfl, rfl⟩)))
                all_goals (go_ret; exact ⟨ret_bool (by simp_all [dayB]), rfl⟩)
set_option maxHeartbeats 1000000 in
                theorem impl_DateFault (y m d h i s : Int) (w : World) : Calls Try.prog 37 #[.agg #[.int .i64 y, .int .i64 m, .int .i64 d, .int .i64 h, .int .i64 i, .int .i64 s]] w fun e w' => e = .returned (.int .i64 (dateFault y m d h i s)) ∧ Below w.heap.size w w' := by
                  go_enter Try.func37, Try.ntmps37
                  go_wp2_with (first | (go_at_call 63; ((with_reducible refine (impl_isDay _ _ _ _).mono ?_); rintro e w' ⟨rfl, rfl⟩)) | (go_at_call 64; ((with_reducible refine (impl_within _ _ _ _).mono ?_); rintro e w' ⟨rfl, rfl⟩)))
                  all_goals (go_ret; exact ⟨ret_int (by simp_all [dateFault]), (by first | exact Below.refl _ _ | ((repeat' (first | exact Below.refl _ _ | (with_reducible assumption) | (with_reducible refine below_alloc ?_ _) | (with_reducible refine Below.drew ?_) | (with_reducible refine below_drewN ?_ _) | (with_reducible refine Below.setCell ?_ ?_ _) | refine below_then ?_ (by with_reducible assumption))) <;> (first | omega | (simp; done) | (simp; omega))))⟩)
set_option maxHeartbeats 1000000 in
                  theorem spec_DateFault (y m d h i s : Int) (w : World) : Calls Try.prog 35 #[.agg #[.int .i64 y, .int .i64 m, .int .i64 d, .int .i64 h, .int .i64 i, .int .i64 s]] w fun e w' => e = .returned (.int .i64 (dateFault y m d h i s)) ∧ Below w.heap.size w w' := by
                    go_enter Try.func35, Try.ntmps35
                    go_wp2_with (first | (go_at_call 61; ((with_reducible refine (spec_l3Day _ _ _ _).mono ?_); rintro e w' ⟨rfl, rfl⟩)) | (go_at_call 62; ((with_reducible refine (spec_l1In _ _ _ _).mono ?_); rintro e w' ⟨rfl, rfl⟩)))
                    all_goals (go_ret; exact ⟨ret_int (by simp_all [dateFault]), (by first | exact Below.refl _ _ | ((repeat' (first | exact Below.refl _ _ | (with_reducible assumption) | (with_reducible refine below_alloc ?_ _) | (with_reducible refine Below.drew ?_) | (with_reducible refine below_drewN ?_ _) | (with_reducible refine Below.setCell ?_ ?_ _) | refine below_then ?_ (by with_reducible assumption))) <;> (first | omega | (simp; done) | (simp; omega))))⟩)
theorem toDate (y m d h i s : Int) (w : World) : Calls Try.prog 36 #[.agg #[.int .i64 y, .int .i64 m, .int .i64 d, .int .i64 h, .int .i64 i, .int .i64 s]] w fun e w' => e = .returned (.agg #[.int .i64 y, .int .i64 m, .int .i64 d, .int .i64 h, .int .i64 i, .int .i64 s]) ∧ Below w.heap.size w w' := by
  go_enter Try.func36, Try.ntmps36
  go_wp2
  all_goals exact bodyPost_ret (by first | ((simp [results, Try.results36, go_sem]; try rfl); done) | ((simp [results, Try.results36, go_sem, *]; try rfl); done)) rfl ⟨rfl, by first | rfl | exact (by first | exact Below.refl _ _ | ((repeat' (first | exact Below.refl _ _ | (with_reducible assumption) | (with_reducible refine below_alloc ?_ _) | (with_reducible refine Below.drew ?_) | (with_reducible refine below_drewN ?_ _) | (with_reducible refine Below.setCell ?_ ?_ _) | refine below_then ?_ (by with_reducible assumption))) <;> (first | omega | (simp; done) | (simp; omega))))⟩
theorem FnExactDateFault_walk (y m d h i s : Int) (w : World) : Calls Try.prog 11 #[.agg #[.int .i64 y, .int .i64 m, .int .i64 d, .int .i64 h, .int .i64 i, .int .i64 s]] w fun e w' => e = .returned (.bool true) ∧ Below w.heap.size w w' := by
  go_enter Try.func11, Try.ntmps11
  go_wp2_with (first | (go_at_call 36; ((with_reducible refine (toDate _ _ _ _ _ _ _).mono ?_); rintro e w' ⟨rfl, hb⟩; obtain ⟨hc, hf⟩ := bcell hb; have hz := hb.size; (try simp only [World.size_alloc, World.size_setCell, World.size_drew] at hz); obtain ⟨hlt, hle, hn1, hn2, hn3, hn4⟩ := bsize hb; (try simp only [World.size_alloc, World.size_setCell, World.size_drew] at hlt hle hn1 hn2 hn3 hn4))) | (go_at_call 35; ((with_reducible refine (spec_DateFault _ _ _ _ _ _ _).mono ?_); rintro e w' ⟨rfl, hb⟩; obtain ⟨hc, hf⟩ := bcell hb; have hz := hb.size; (try simp only [World.size_alloc, World.size_setCell, World.size_drew] at hz); obtain ⟨hlt, hle, hn1, hn2, hn3, hn4⟩ := bsize hb; (try simp only [World.size_alloc, World.size_setCell, World.size_drew] at hlt hle hn1 hn2 hn3 hn4))) | (go_at_call 37; ((with_reducible refine (impl_DateFault _ _ _ _ _ _ _).mono ?_); rintro e w' ⟨rfl, hb⟩; obtain ⟨hc, hf⟩ := bcell hb; have hz := hb.size; (try simp only [World.size_alloc, World.size_setCell, World.size_drew] at hz); obtain ⟨hlt, hle, hn1, hn2, hn3, hn4⟩ := bsize hb; (try simp only [World.size_alloc, World.size_setCell, World.size_drew] at hlt hle hn1 hn2 hn3 hn4))))
  all_goals (go_ret; exact ⟨by first | rfl | (simp [*]; done) | (simp [*]; omega), by first | rfl | exact (by first | exact Below.refl _ _ | ((repeat' (first | exact Below.refl _ _ | (with_reducible assumption) | (with_reducible refine below_alloc ?_ _) | (with_reducible refine Below.drew ?_) | (with_reducible refine below_drewN ?_ _) | (with_reducible refine Below.setCell ?_ ?_ _) | refine below_then ?_ (by with_reducible assumption))) <;> (first | omega | (simp; done) | (simp; omega))))⟩)

theorem impl_isSeconds (n : Int) (w : World) : Calls Try.prog 48 #[.int .i64 n] w fun e w' => e = .returned (.bool (inB n 0 253402300799)) ∧ w = w' := by
  go_enter Try.func48, Try.ntmps48
  go_wp2_with (go_at_call 64; ((with_reducible refine (impl_within _ _ _ _).mono ?_); rintro e w' ⟨rfl, rfl⟩))
  all_goals (go_ret; exact ⟨by first | rfl | (simp [*]; done) | (simp [*]; omega), by first | rfl | exact (by first | exact Below.refl _ _ | ((repeat' (first | exact Below.refl _ _ | (with_reducible assumption) | (with_reducible refine below_alloc ?_ _) | (with_reducible refine Below.drew ?_) | (with_reducible refine below_drewN ?_ _) | (with_reducible refine Below.setCell ?_ ?_ _) | refine below_then ?_ (by with_reducible assumption))) <;> (first | omega | (simp; done) | (simp; omega))))⟩)
theorem spec_l3Known (n : Int) (w : World) : Calls Try.prog 47 #[.int .i64 n] w fun e w' => e = .returned (.bool (inB n 0 253402300799)) ∧ w = w' := by
  go_enter Try.func47, Try.ntmps47
  go_wp2_with (go_at_call 62; ((with_reducible refine (spec_l1In _ _ _ _).mono ?_); rintro e w' ⟨rfl, rfl⟩))
  all_goals (go_ret; exact ⟨by first | rfl | (simp [*]; done) | (simp [*]; omega), by first | rfl | exact (by first | exact Below.refl _ _ | ((repeat' (first | exact Below.refl _ _ | (with_reducible assumption) | (with_reducible refine below_alloc ?_ _) | (with_reducible refine Below.drew ?_) | (with_reducible refine below_drewN ?_ _) | (with_reducible refine Below.setCell ?_ ?_ _) | refine below_then ?_ (by with_reducible assumption))) <;> (first | omega | (simp; done) | (simp; omega))))⟩)
def weekI (n : Int) : Int := (n / 86400 + 4) % 7
def weekR (n : Int) : Int × Int := if inB n 0 253402300799 then (0, weekI n) else (3, 0)
theorem impl_weekday (n : Int) (h1 : 0 ≤ n) (h2 : n ≤ 253402300799) (w : World) : Calls Try.prog 49 #[.int .i64 n] w fun e w' => e = .returned (.int .i64 (weekI n)) ∧ w = w' := by
  go_enter Try.func49, Try.ntmps49
  go_wp2
  all_goals (go_ret; exact ⟨by first | rfl | (simp [*]; done) | (simp [*]; omega), by first | rfl | exact (by first | exact Below.refl _ _ | ((repeat' (first | exact Below.refl _ _ | (with_reducible assumption) | (with_reducible refine below_alloc ?_ _) | (with_reducible refine Below.drew ?_) | (with_reducible refine below_drewN ?_ _) | (with_reducible refine Below.setCell ?_ ?_ _) | refine below_then ?_ (by with_reducible assumption))) <;> (first | omega | (simp; done) | (simp; omega))))⟩)
theorem spec_WeekdayOf (n : Int) (w : World) : Calls Try.prog 15 #[.int .i64 n] w fun e w' => e = .returned (.agg #[.int .i64 (weekR n).1, .int .i64 (weekR n).2]) ∧ Below w.heap.size w w' := by
    by_cases h : inB n 0 253402300799 = true
    · obtain ⟨h1, h2⟩ := inB_iff.1 h
      have e : weekR n = (0, (n / 86400 + 4) % 7) := by simp [weekR, h, weekI]
      rw [e]
      go_enter Try.func15, Try.ntmps15
      go_wp2_with (first | (go_at_call 47; ((with_reducible refine (spec_l3Known _ _).mono ?_); rintro e w' ⟨rfl, rfl⟩)) )
      all_goals exact bodyPost_ret (by first | ((simp [results, Try.results15, go_sem]; try rfl); done) | ((simp [results, Try.results15, go_sem, *]; try rfl); done)) rfl ⟨rfl, by first | rfl | exact (by first | exact Below.refl _ _ | ((repeat' (first | exact Below.refl _ _ | (with_reducible assumption) | (with_reducible refine below_alloc ?_ _) | (with_reducible refine Below.drew ?_) | (with_reducible refine below_drewN ?_ _) | (with_reducible refine Below.setCell ?_ ?_ _) | refine below_then ?_ (by with_reducible assumption))) <;> (first | omega | (simp; done) | (simp; omega))))⟩
    · simp only [Bool.not_eq_true] at h
      have e : weekR n = (3, 0) := by simp [weekR, h]
      rw [e]
      go_enter Try.func15, Try.ntmps15
      go_wp2_with (go_at_call 47; ((with_reducible refine (spec_l3Known _ _).mono ?_); rintro e w' ⟨rfl, rfl⟩))
      all_goals exact bodyPost_ret (by first | ((simp [results, Try.results15, go_sem]; try rfl); done) | ((simp [results, Try.results15, go_sem, *]; try rfl); done)) rfl ⟨rfl, by first | rfl | exact (by first | exact Below.refl _ _ | ((repeat' (first | exact Below.refl _ _ | (with_reducible assumption) | (with_reducible refine below_alloc ?_ _) | (with_reducible refine Below.drew ?_) | (with_reducible refine below_drewN ?_ _) | (with_reducible refine Below.setCell ?_ ?_ _) | refine below_then ?_ (by with_reducible assumption))) <;> (first | omega | (simp; done) | (simp; omega))))⟩
theorem impl_WeekdayOf (n : Int) (w : World) : Calls Try.prog 16 #[.int .i64 n] w fun e w' => e = .returned (.agg #[.int .i64 (weekR n).1, .int .i64 (weekR n).2]) ∧ Below w.heap.size w w' := by
        by_cases h : inB n 0 253402300799 = true
        · obtain ⟨h1, h2⟩ := inB_iff.1 h
          have e : weekR n = (0, (n / 86400 + 4) % 7) := by simp [weekR, h, weekI]
          rw [e]
          go_enter Try.func16, Try.ntmps16
          go_wp2_with (first | (go_at_call 48; ((with_reducible refine (impl_isSeconds _ _).mono ?_); rintro e w' ⟨rfl, rfl⟩)) | (go_at_call 49; ((with_reducible refine (impl_weekday _ h1 h2 _).mono ?_); rintro e w' ⟨rfl, rfl⟩)))
          all_goals exact bodyPost_ret (by first | ((simp [results, Try.results16, go_sem]; try rfl); done) | ((simp [results, Try.results16, go_sem, *]; try rfl); done)) rfl ⟨rfl, by first | rfl | exact (by first | exact Below.refl _ _ | ((repeat' (first | exact Below.refl _ _ | (with_reducible assumption) | (with_reducible refine below_alloc ?_ _) | (with_reducible refine Below.drew ?_) | (with_reducible refine below_drewN ?_ _) | (with_reducible refine Below.setCell ?_ ?_ _) | refine below_then ?_ (by with_reducible assumption))) <;> (first | omega | (simp; done) | (simp; omega))))⟩
        · simp only [Bool.not_eq_true] at h
          have e : weekR n = (3, 0) := by simp [weekR, h]
          rw [e]
          go_enter Try.func16, Try.ntmps16
          go_wp2_with (go_at_call 48; ((with_reducible refine (impl_isSeconds _ _).mono ?_); rintro e w' ⟨rfl, rfl⟩))
          all_goals exact bodyPost_ret (by first | ((simp [results, Try.results16, go_sem]; try rfl); done) | ((simp [results, Try.results16, go_sem, *]; try rfl); done)) rfl ⟨rfl, by first | rfl | exact (by first | exact Below.refl _ _ | ((repeat' (first | exact Below.refl _ _ | (with_reducible assumption) | (with_reducible refine below_alloc ?_ _) | (with_reducible refine Below.drew ?_) | (with_reducible refine below_drewN ?_ _) | (with_reducible refine Below.setCell ?_ ?_ _) | refine below_then ?_ (by with_reducible assumption))) <;> (first | omega | (simp; done) | (simp; omega))))⟩
theorem FnExactWeekdayOf_walk (n : Int) (w : World) : Calls Try.prog 4 #[.int .i64 n] w fun e w' => e = .returned (.bool true) ∧ Below w.heap.size w w' := by
  go_enter Try.func4, Try.ntmps4
  go_wp2_with (first | (go_at_call 15; ((with_reducible refine (spec_WeekdayOf _ _).mono ?_); rintro e w' ⟨rfl, hb⟩; obtain ⟨hc, hf⟩ := bcell hb; have hz := hb.size; (try simp only [World.size_alloc, World.size_setCell, World.size_drew] at hz); obtain ⟨hlt, hle, hn1, hn2, hn3, hn4⟩ := bsize hb; (try simp only [World.size_alloc, World.size_setCell, World.size_drew] at hlt hle hn1 hn2 hn3 hn4))) | (go_at_call 16; ((with_reducible refine (impl_WeekdayOf _ _).mono ?_); rintro e w' ⟨rfl, hb⟩; obtain ⟨hc, hf⟩ := bcell hb; have hz := hb.size; (try simp only [World.size_alloc, World.size_setCell, World.size_drew] at hz); obtain ⟨hlt, hle, hn1, hn2, hn3, hn4⟩ := bsize hb; (try simp only [World.size_alloc, World.size_setCell, World.size_drew] at hlt hle hn1 hn2 hn3 hn4))) | (go_at_call 17; ((with_reducible refine (eqIntResult _ _ _).mono ?_); rintro e w' ⟨rfl, hb⟩; obtain ⟨hc, hf⟩ := bcell hb; have hz := hb.size; (try simp only [World.size_alloc, World.size_setCell, World.size_drew] at hz); obtain ⟨hlt, hle, hn1, hn2, hn3, hn4⟩ := bsize hb; (try simp only [World.size_alloc, World.size_setCell, World.size_drew] at hlt hle hn1 hn2 hn3 hn4))))
  all_goals (go_ret; exact ⟨by first | rfl | (simp [*]; done) | (simp [*]; omega), by first | rfl | exact (by first | exact Below.refl _ _ | ((repeat' (first | exact Below.refl _ _ | (with_reducible assumption) | (with_reducible refine below_alloc ?_ _) | (with_reducible refine Below.drew ?_) | (with_reducible refine below_drewN ?_ _) | (with_reducible refine Below.setCell ?_ ?_ _) | refine below_then ?_ (by with_reducible assumption))) <;> (first | omega | (simp; done) | (simp; omega))))⟩)
end Go.Proofs.Ytapcoknmfcdicaa
