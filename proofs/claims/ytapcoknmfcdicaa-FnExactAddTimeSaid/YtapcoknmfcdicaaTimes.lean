/- Times: their sums and products; a number or a code. -/
import Derived.Test.YtapcoknmfcdicaaNum
namespace Go.Proofs.Ytapcoknmfcdicaa
open Go.RowKit
set_option linter.unusedSimpArgs false
set_option linter.unusedVariables false

def addT (a b : Int) : Int × Int := if inB a 0 1000000000000000 && inB b 0 1000000000000000 then (0, min (a + b) 1000000000000000) else (3, 0)
theorem inB_iff {n lo hi : Int} : inB n lo hi = true ↔ lo ≤ n ∧ n ≤ hi := by simp [inB]
theorem inB_not {n lo hi : Int} : inB n lo hi = false ↔ ¬ (lo ≤ n ∧ n ≤ hi) := by rw [← inB_iff]; simp

theorem spec_AddTime (a b : Int) (w : World) : Calls Try.prog 21 #[.int .i64 a, .int .i64 b] w fun e w' => e = .returned (.agg #[.int .i64 (addT a b).1, .int .i64 (addT a b).2]) ∧ Below w.heap.size w w' := by
  unfold addT
  by_cases ha : inB a 0 1000000000000000 = true
  · by_cases hb : inB b 0 1000000000000000 = true
    · obtain ⟨h1, h2⟩ := inB_iff.1 ha
      obtain ⟨h3, h4⟩ := inB_iff.1 hb
      rw [ha, hb]
      simp only [Bool.and_self, if_true]
      go_enter Try.func21, Try.ntmps21
      go_wp2_with (first | (go_at_call 50; ((with_reducible refine (spec_l1Time _ _).mono ?_); rintro e w' ⟨rfl, rfl⟩)) | (go_at_call 52; ((with_reducible refine (spec_l1Add _ _ h1 h2 h3 h4 _).mono ?_); rintro e w' ⟨rfl, rfl⟩)))
      all_goals exact bodyPost_ret (by simp [results, Try.results21, go_sem]; try rfl) rfl ⟨rfl, by first | rfl | exact (by first | exact Below.refl _ _ | ((repeat' (first | exact Below.refl _ _ | (with_reducible assumption) | (with_reducible refine below_alloc ?_ _) | (with_reducible refine Below.drew ?_) | (with_reducible refine below_drewN ?_ _) | (with_reducible refine Below.setCell ?_ ?_ _) | refine below_then ?_ (by with_reducible assumption))) <;> (simp; omega)))⟩
    · simp only [Bool.not_eq_true] at hb
      rw [ha, hb]
      go_enter Try.func21, Try.ntmps21
      go_wp2_with (first | (go_at_call 50; ((with_reducible refine (spec_l1Time _ _).mono ?_); rintro e w' ⟨rfl, rfl⟩)))
      all_goals exact bodyPost_ret (by simp [results, Try.results21, go_sem]; try rfl) rfl ⟨rfl, by first | rfl | exact (by first | exact Below.refl _ _ | ((repeat' (first | exact Below.refl _ _ | (with_reducible assumption) | (with_reducible refine below_alloc ?_ _) | (with_reducible refine Below.drew ?_) | (with_reducible refine below_drewN ?_ _) | (with_reducible refine Below.setCell ?_ ?_ _) | refine below_then ?_ (by with_reducible assumption))) <;> (simp; omega)))⟩
  · simp only [Bool.not_eq_true] at ha
    rw [ha]
    go_enter Try.func21, Try.ntmps21
    go_wp2_with (first | (go_at_call 50; ((with_reducible refine (spec_l1Time _ _).mono ?_); rintro e w' ⟨rfl, rfl⟩)))
    all_goals exact bodyPost_ret (by simp [results, Try.results21, go_sem]; try rfl) rfl ⟨rfl, by first | rfl | exact (by first | exact Below.refl _ _ | ((repeat' (first | exact Below.refl _ _ | (with_reducible assumption) | (with_reducible refine below_alloc ?_ _) | (with_reducible refine Below.drew ?_) | (with_reducible refine below_drewN ?_ _) | (with_reducible refine Below.setCell ?_ ?_ _) | refine below_then ?_ (by with_reducible assumption))) <;> (simp; omega)))⟩
theorem impl_AddTime (a b : Int) (w : World) : Calls Try.prog 22 #[.int .i64 a, .int .i64 b] w fun e w' => e = .returned (.agg #[.int .i64 (addT a b).1, .int .i64 (addT a b).2]) ∧ Below w.heap.size w w' := by
  unfold addT
  by_cases ha : inB a 0 1000000000000000 = true
  · by_cases hb : inB b 0 1000000000000000 = true
    · obtain ⟨h1, h2⟩ := inB_iff.1 ha
      obtain ⟨h3, h4⟩ := inB_iff.1 hb
      rw [ha, hb]
      simp only [Bool.and_self, if_true]
      go_enter Try.func22, Try.ntmps22
      go_wp2_with (first | (go_at_call 51; ((with_reducible refine (impl_isTime _ _).mono ?_); rintro e w' ⟨rfl, rfl⟩)) | (go_at_call 53; ((with_reducible refine (impl_addTime _ _ h1 h2 h3 h4 _).mono ?_); rintro e w' ⟨rfl, rfl⟩)))
      all_goals exact bodyPost_ret (by simp [results, Try.results22, go_sem]; try rfl) rfl ⟨rfl, by first | rfl | exact (by first | exact Below.refl _ _ | ((repeat' (first | exact Below.refl _ _ | (with_reducible assumption) | (with_reducible refine below_alloc ?_ _) | (with_reducible refine Below.drew ?_) | (with_reducible refine below_drewN ?_ _) | (with_reducible refine Below.setCell ?_ ?_ _) | refine below_then ?_ (by with_reducible assumption))) <;> (simp; omega)))⟩
    · simp only [Bool.not_eq_true] at hb
      rw [ha, hb]
      go_enter Try.func22, Try.ntmps22
      go_wp2_with (first | (go_at_call 51; ((with_reducible refine (impl_isTime _ _).mono ?_); rintro e w' ⟨rfl, rfl⟩)))
      all_goals exact bodyPost_ret (by simp [results, Try.results22, go_sem]; try rfl) rfl ⟨rfl, by first | rfl | exact (by first | exact Below.refl _ _ | ((repeat' (first | exact Below.refl _ _ | (with_reducible assumption) | (with_reducible refine below_alloc ?_ _) | (with_reducible refine Below.drew ?_) | (with_reducible refine below_drewN ?_ _) | (with_reducible refine Below.setCell ?_ ?_ _) | refine below_then ?_ (by with_reducible assumption))) <;> (simp; omega)))⟩
  · simp only [Bool.not_eq_true] at ha
    rw [ha]
    go_enter Try.func22, Try.ntmps22
    go_wp2_with (first | (go_at_call 51; ((with_reducible refine (impl_isTime _ _).mono ?_); rintro e w' ⟨rfl, rfl⟩)))
    all_goals exact bodyPost_ret (by simp [results, Try.results22, go_sem]; try rfl) rfl ⟨rfl, by first | rfl | exact (by first | exact Below.refl _ _ | ((repeat' (first | exact Below.refl _ _ | (with_reducible assumption) | (with_reducible refine below_alloc ?_ _) | (with_reducible refine Below.drew ?_) | (with_reducible refine below_drewN ?_ _) | (with_reducible refine Below.setCell ?_ ?_ _) | refine below_then ?_ (by with_reducible assumption))) <;> (simp; omega)))⟩

theorem eqIntResult (a b : Int) (w : World) : Calls Try.prog 17 #[.agg #[.int .i64 a, .int .i64 b], .agg #[.int .i64 a, .int .i64 b]] w fun e w' => e = .returned (.bool true) ∧ Below w.heap.size w w' := by
  go_enter Try.func17, Try.ntmps17
  go_wp2
  all_goals (go_ret; exact ⟨by first | rfl | (simp [*]; done) | (simp [*]; omega), by first | rfl | exact (by first | exact Below.refl _ _ | ((repeat' (first | exact Below.refl _ _ | (with_reducible assumption) | (with_reducible refine below_alloc ?_ _) | (with_reducible refine Below.drew ?_) | (with_reducible refine below_drewN ?_ _) | (with_reducible refine Below.setCell ?_ ?_ _) | refine below_then ?_ (by with_reducible assumption))) <;> (simp; omega)))⟩)
theorem FnExactAddTime_walk (a b : Int) (w : World) : Calls Try.prog 6 #[.int .i64 a, .int .i64 b] w fun e w' => e = .returned (.bool true) ∧ Below w.heap.size w w' := by
  go_enter Try.func6, Try.ntmps6
  go_wp2_with (first | (go_at_call 21; ((with_reducible refine (spec_AddTime a b _).mono ?_); rintro e w' ⟨rfl, hb⟩; obtain ⟨hc, hf⟩ := bcell hb; have hz := hb.size; (try simp only [World.size_alloc, World.size_setCell, World.size_drew] at hz); obtain ⟨hlt, hle, hn1, hn2, hn3, hn4⟩ := bsize hb; (try simp only [World.size_alloc, World.size_setCell, World.size_drew] at hlt hle hn1 hn2 hn3 hn4))) | (go_at_call 22; ((with_reducible refine (impl_AddTime a b _).mono ?_); rintro e w' ⟨rfl, hb⟩; obtain ⟨hc, hf⟩ := bcell hb; have hz := hb.size; (try simp only [World.size_alloc, World.size_setCell, World.size_drew] at hz); obtain ⟨hlt, hle, hn1, hn2, hn3, hn4⟩ := bsize hb; (try simp only [World.size_alloc, World.size_setCell, World.size_drew] at hlt hle hn1 hn2 hn3 hn4))) | (go_at_call 17; ((with_reducible refine (eqIntResult _ _ _).mono ?_); rintro e w' ⟨rfl, hb⟩; obtain ⟨hc, hf⟩ := bcell hb; have hz := hb.size; (try simp only [World.size_alloc, World.size_setCell, World.size_drew] at hz); obtain ⟨hlt, hle, hn1, hn2, hn3, hn4⟩ := bsize hb; (try simp only [World.size_alloc, World.size_setCell, World.size_drew] at hlt hle hn1 hn2 hn3 hn4))))
  all_goals (go_ret; exact ⟨by first | rfl | (simp [*]; done) | (simp [*]; omega), by first | rfl | exact (by first | exact Below.refl _ _ | ((repeat' (first | exact Below.refl _ _ | (with_reducible assumption) | (with_reducible refine below_alloc ?_ _) | (with_reducible refine Below.drew ?_) | (with_reducible refine below_drewN ?_ _) | (with_reducible refine Below.setCell ?_ ?_ _) | refine below_then ?_ (by with_reducible assumption))) <;> (simp; omega)))⟩)
end Go.Proofs.Ytapcoknmfcdicaa
