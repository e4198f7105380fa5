/- Times: their sums and products; a number or a code. -/
import Derived.Test.YtcnjbifdlieboaaDoorNum
namespace Go.Proofs.YtcnjbifdlieboaaDoor
open Go.RowKit
set_option linter.unusedSimpArgs false
set_option linter.unusedVariables false

def addT (a b : Int) : Int × Int := if inB a 0 1000000000000000 && inB b 0 1000000000000000 then (0, min (a + b) 1000000000000000) else (3, 0)

theorem spec_AddTime (a b : Int) (w : World) : Calls Tryd.prog 26 #[.int .i64 a, .int .i64 b] w fun e w' => e = .returned (.agg #[.int .i64 (addT a b).1, .int .i64 (addT a b).2]) ∧ Below w.heap.size w w' := by
  unfold addT
  by_cases ha : inB a 0 1000000000000000 = true
  · by_cases hb : inB b 0 1000000000000000 = true
    · obtain ⟨h1, h2⟩ := inB_iff.1 ha
      obtain ⟨h3, h4⟩ := inB_iff.1 hb
      rw [ha, hb]
      simp only [Bool.and_self, if_true]
      go_enter Tryd.func26, Tryd.ntmps26
      go_wp2_with (first | (go_at_call 56; ((with_reducible refine (spec_l1Time _ _).mono ?_); rintro e w' ⟨rfl, rfl⟩)) | (go_at_call 74; ((with_reducible refine (spec_l1Add _ _ h1 h2 h3 h4 _).mono ?_); rintro e w' ⟨rfl, rfl⟩)))
      all_goals exact bodyPost_ret (by first | ((simp [results, Tryd.results26, go_sem]; try rfl); done) | ((simp [results, Tryd.results26, go_sem, *]; try rfl); done) | ((simp (maxDischargeDepth := 8) [results, Tryd.results26, go_sem, *]; try rfl); done)) rfl ⟨rfl, by first | (with_reducible rfl) | exact (by first | (with_reducible exact Below.refl _ _) | ((repeat' (first | (with_reducible exact Below.refl _ _) | (with_reducible assumption) | (with_reducible refine below_alloc ?_ _) | (with_reducible refine Below.drew ?_) | (with_reducible refine below_drewN ?_ _) | (with_reducible refine Below.setCell ?_ ?_ _) | refine below_then ?_ (by with_reducible assumption))) <;> (first | omega | (simp; done) | (simp; omega))))⟩
    · simp only [Bool.not_eq_true] at hb
      rw [ha, hb]
      go_enter Tryd.func26, Tryd.ntmps26
      go_wp2_with (first | (go_at_call 56; ((with_reducible refine (spec_l1Time _ _).mono ?_); rintro e w' ⟨rfl, rfl⟩)))
      all_goals exact bodyPost_ret (by first | ((simp [results, Tryd.results26, go_sem]; try rfl); done) | ((simp [results, Tryd.results26, go_sem, *]; try rfl); done) | ((simp (maxDischargeDepth := 8) [results, Tryd.results26, go_sem, *]; try rfl); done)) rfl ⟨rfl, by first | (with_reducible rfl) | exact (by first | (with_reducible exact Below.refl _ _) | ((repeat' (first | (with_reducible exact Below.refl _ _) | (with_reducible assumption) | (with_reducible refine below_alloc ?_ _) | (with_reducible refine Below.drew ?_) | (with_reducible refine below_drewN ?_ _) | (with_reducible refine Below.setCell ?_ ?_ _) | refine below_then ?_ (by with_reducible assumption))) <;> (first | omega | (simp; done) | (simp; omega))))⟩
  · simp only [Bool.not_eq_true] at ha
    rw [ha]
    go_enter Tryd.func26, Tryd.ntmps26
    go_wp2_with (first | (go_at_call 56; ((with_reducible refine (spec_l1Time _ _).mono ?_); rintro e w' ⟨rfl, rfl⟩)))
    all_goals exact bodyPost_ret (by first | ((simp [results, Tryd.results26, go_sem]; try rfl); done) | ((simp [results, Tryd.results26, go_sem, *]; try rfl); done) | ((simp (maxDischargeDepth := 8) [results, Tryd.results26, go_sem, *]; try rfl); done)) rfl ⟨rfl, by first | (with_reducible rfl) | exact (by first | (with_reducible exact Below.refl _ _) | ((repeat' (first | (with_reducible exact Below.refl _ _) | (with_reducible assumption) | (with_reducible refine below_alloc ?_ _) | (with_reducible refine Below.drew ?_) | (with_reducible refine below_drewN ?_ _) | (with_reducible refine Below.setCell ?_ ?_ _) | refine below_then ?_ (by with_reducible assumption))) <;> (first | omega | (simp; done) | (simp; omega))))⟩
theorem impl_AddTime (a b : Int) (w : World) : Calls Tryd.prog 21 #[.int .i64 a, .int .i64 b] w fun e w' => e = .returned (.agg #[.int .i64 (addT a b).1, .int .i64 (addT a b).2]) ∧ Below w.heap.size w w' := by
  unfold addT
  by_cases ha : inB a 0 1000000000000000 = true
  · by_cases hb : inB b 0 1000000000000000 = true
    · obtain ⟨h1, h2⟩ := inB_iff.1 ha
      obtain ⟨h3, h4⟩ := inB_iff.1 hb
      rw [ha, hb]
      simp only [Bool.and_self, if_true]
      go_enter Tryd.func21, Tryd.ntmps21
      go_wp2_with (first | (go_at_call 58; ((with_reducible refine (impl_isTime _ _).mono ?_); rintro e w' ⟨rfl, rfl⟩)) | (go_at_call 69; ((with_reducible refine (impl_addTime _ _ h1 h2 h3 h4 _).mono ?_); rintro e w' ⟨rfl, rfl⟩)))
      all_goals exact bodyPost_ret (by first | ((simp [results, Tryd.results21, go_sem]; try rfl); done) | ((simp [results, Tryd.results21, go_sem, *]; try rfl); done) | ((simp (maxDischargeDepth := 8) [results, Tryd.results21, go_sem, *]; try rfl); done)) rfl ⟨rfl, by first | (with_reducible rfl) | exact (by first | (with_reducible exact Below.refl _ _) | ((repeat' (first | (with_reducible exact Below.refl _ _) | (with_reducible assumption) | (with_reducible refine below_alloc ?_ _) | (with_reducible refine Below.drew ?_) | (with_reducible refine below_drewN ?_ _) | (with_reducible refine Below.setCell ?_ ?_ _) | refine below_then ?_ (by with_reducible assumption))) <;> (first | omega | (simp; done) | (simp; omega))))⟩
    · simp only [Bool.not_eq_true] at hb
      rw [ha, hb]
      go_enter Tryd.func21, Tryd.ntmps21
      go_wp2_with (first | (go_at_call 58; ((with_reducible refine (impl_isTime _ _).mono ?_); rintro e w' ⟨rfl, rfl⟩)))
      all_goals exact bodyPost_ret (by first | ((simp [results, Tryd.results21, go_sem]; try rfl); done) | ((simp [results, Tryd.results21, go_sem, *]; try rfl); done) | ((simp (maxDischargeDepth := 8) [results, Tryd.results21, go_sem, *]; try rfl); done)) rfl ⟨rfl, by first | (with_reducible rfl) | exact (by first | (with_reducible exact Below.refl _ _) | ((repeat' (first | (with_reducible exact Below.refl _ _) | (with_reducible assumption) | (with_reducible refine below_alloc ?_ _) | (with_reducible refine Below.drew ?_) | (with_reducible refine below_drewN ?_ _) | (with_reducible refine Below.setCell ?_ ?_ _) | refine below_then ?_ (by with_reducible assumption))) <;> (first | omega | (simp; done) | (simp; omega))))⟩
  · simp only [Bool.not_eq_true] at ha
    rw [ha]
    go_enter Tryd.func21, Tryd.ntmps21
    go_wp2_with (first | (go_at_call 58; ((with_reducible refine (impl_isTime _ _).mono ?_); rintro e w' ⟨rfl, rfl⟩)))
    all_goals exact bodyPost_ret (by first | ((simp [results, Tryd.results21, go_sem]; try rfl); done) | ((simp [results, Tryd.results21, go_sem, *]; try rfl); done) | ((simp (maxDischargeDepth := 8) [results, Tryd.results21, go_sem, *]; try rfl); done)) rfl ⟨rfl, by first | (with_reducible rfl) | exact (by first | (with_reducible exact Below.refl _ _) | ((repeat' (first | (with_reducible exact Below.refl _ _) | (with_reducible assumption) | (with_reducible refine below_alloc ?_ _) | (with_reducible refine Below.drew ?_) | (with_reducible refine below_drewN ?_ _) | (with_reducible refine Below.setCell ?_ ?_ _) | refine below_then ?_ (by with_reducible assumption))) <;> (first | omega | (simp; done) | (simp; omega))))⟩

def mulT (a b : Int) : Int × Int := if inB a 0 1000000000000000 && inB b 0 1000000000000000 then (0, min (a * b) 1000000000000000) else (3, 0)
theorem mul_le {a b : Int} (hb : 0 < b) (h : a * b ≤ 1000000000000000) : a ≤ 1000000000000000 / b := (Int.le_ediv_iff_mul_le hb).2 h
theorem mul_gt {a b : Int} (hb : 0 < b) (h : ¬ a * b ≤ 1000000000000000) : 1000000000000000 / b < a := by
  by_cases h' : 1000000000000000 / b < a
  · exact h'
  · exact absurd ((Int.le_ediv_iff_mul_le hb).1 (by omega)) h

/-- The three ways of a product. -/
theorem spec_l1Mul (a b : Int) (h1 : 0 ≤ a) (h2 : a ≤ 1000000000000000) (h3 : 0 ≤ b) (h4 : b ≤ 1000000000000000) (w : World) : Calls Tryd.prog 75 #[.int .i64 a, .int .i64 b] w fun e w' => e = .returned (.int .i64 (min (a * b) 1000000000000000)) ∧ w = w' := by
  by_cases hb : 0 < b
  · by_cases h : a * b ≤ 1000000000000000
    · have h5 := mul_le hb h
      have h6 : 0 ≤ a * b := Int.mul_nonneg h1 h3
      go_enter Tryd.func75, Tryd.ntmps75
      go_wp2
      all_goals (go_ret; exact ⟨ret_int (by omega), rfl⟩)
    · have h5 := mul_gt hb h
      go_enter Tryd.func75, Tryd.ntmps75
      go_wp2
      all_goals (go_ret; exact ⟨ret_int (by omega), rfl⟩)
  · obtain rfl : b = 0 := by omega
    have e : a * 0 = 0 := Int.mul_zero a
    rw [e]
    go_enter Tryd.func75, Tryd.ntmps75
    go_wp2
    all_goals (go_ret; exact ⟨ret_int (by omega), rfl⟩)

theorem spec_MulTime (a b : Int) (w : World) : Calls Tryd.prog 27 #[.int .i64 a, .int .i64 b] w fun e w' => e = .returned (.agg #[.int .i64 (mulT a b).1, .int .i64 (mulT a b).2]) ∧ Below w.heap.size w w' := by
  unfold mulT
  by_cases ha : inB a 0 1000000000000000 = true
  · by_cases hb : inB b 0 1000000000000000 = true
    · obtain ⟨h1, h2⟩ := inB_iff.1 ha
      obtain ⟨h3, h4⟩ := inB_iff.1 hb
      rw [ha, hb]
      simp only [Bool.and_self, if_true]
      go_enter Tryd.func27, Tryd.ntmps27
      go_wp2_with (first | (go_at_call 56; ((with_reducible refine (spec_l1Time _ _).mono ?_); rintro e w' ⟨rfl, rfl⟩)) | (go_at_call 75; ((with_reducible refine (spec_l1Mul _ _ h1 h2 h3 h4 _).mono ?_); rintro e w' ⟨rfl, rfl⟩)))
      all_goals exact bodyPost_ret (by first | ((simp [results, Tryd.results27, go_sem]; try rfl); done) | ((simp [results, Tryd.results27, go_sem, *]; try rfl); done) | ((simp (maxDischargeDepth := 8) [results, Tryd.results27, go_sem, *]; try rfl); done)) rfl ⟨rfl, by first | (with_reducible rfl) | exact (by first | (with_reducible exact Below.refl _ _) | ((repeat' (first | (with_reducible exact Below.refl _ _) | (with_reducible assumption) | (with_reducible refine below_alloc ?_ _) | (with_reducible refine Below.drew ?_) | (with_reducible refine below_drewN ?_ _) | (with_reducible refine Below.setCell ?_ ?_ _) | refine below_then ?_ (by with_reducible assumption))) <;> (first | omega | (simp; done) | (simp; omega))))⟩
    · simp only [Bool.not_eq_true] at hb
      rw [ha, hb]
      go_enter Tryd.func27, Tryd.ntmps27
      go_wp2_with (first | (go_at_call 56; ((with_reducible refine (spec_l1Time _ _).mono ?_); rintro e w' ⟨rfl, rfl⟩)))
      all_goals exact bodyPost_ret (by first | ((simp [results, Tryd.results27, go_sem]; try rfl); done) | ((simp [results, Tryd.results27, go_sem, *]; try rfl); done) | ((simp (maxDischargeDepth := 8) [results, Tryd.results27, go_sem, *]; try rfl); done)) rfl ⟨rfl, by first | (with_reducible rfl) | exact (by first | (with_reducible exact Below.refl _ _) | ((repeat' (first | (with_reducible exact Below.refl _ _) | (with_reducible assumption) | (with_reducible refine below_alloc ?_ _) | (with_reducible refine Below.drew ?_) | (with_reducible refine below_drewN ?_ _) | (with_reducible refine Below.setCell ?_ ?_ _) | refine below_then ?_ (by with_reducible assumption))) <;> (first | omega | (simp; done) | (simp; omega))))⟩
  · simp only [Bool.not_eq_true] at ha
    rw [ha]
    go_enter Tryd.func27, Tryd.ntmps27
    go_wp2_with (first | (go_at_call 56; ((with_reducible refine (spec_l1Time _ _).mono ?_); rintro e w' ⟨rfl, rfl⟩)))
    all_goals exact bodyPost_ret (by first | ((simp [results, Tryd.results27, go_sem]; try rfl); done) | ((simp [results, Tryd.results27, go_sem, *]; try rfl); done) | ((simp (maxDischargeDepth := 8) [results, Tryd.results27, go_sem, *]; try rfl); done)) rfl ⟨rfl, by first | (with_reducible rfl) | exact (by first | (with_reducible exact Below.refl _ _) | ((repeat' (first | (with_reducible exact Below.refl _ _) | (with_reducible assumption) | (with_reducible refine below_alloc ?_ _) | (with_reducible refine Below.drew ?_) | (with_reducible refine below_drewN ?_ _) | (with_reducible refine Below.setCell ?_ ?_ _) | refine below_then ?_ (by with_reducible assumption))) <;> (first | omega | (simp; done) | (simp; omega))))⟩
theorem impl_MulTime (a b : Int) (w : World) : Calls Tryd.prog 22 #[.int .i64 a, .int .i64 b] w fun e w' => e = .returned (.agg #[.int .i64 (mulT a b).1, .int .i64 (mulT a b).2]) ∧ Below w.heap.size w w' := by
  unfold mulT
  by_cases ha : inB a 0 1000000000000000 = true
  · by_cases hb : inB b 0 1000000000000000 = true
    · obtain ⟨h1, h2⟩ := inB_iff.1 ha
      obtain ⟨h3, h4⟩ := inB_iff.1 hb
      rw [ha, hb]
      simp only [Bool.and_self, if_true]
      by_cases h0 : 0 < b
      · by_cases h : a * b ≤ 1000000000000000
        · have h5 := mul_le h0 h
          have h6 : 0 ≤ a * b := Int.mul_nonneg h1 h3
          rw [show min (a * b) 1000000000000000 = a * b from by omega]
          go_enter Tryd.func22, Tryd.ntmps22
          go_wp2_with (go_at_call 58; ((with_reducible refine (impl_isTime _ _).mono ?_); rintro e w' ⟨rfl, rfl⟩))
          all_goals exact bodyPost_ret (by first | ((simp [results, Tryd.results22, go_sem]; try rfl); done) | ((simp [results, Tryd.results22, go_sem, *]; try rfl); done) | ((simp (maxDischargeDepth := 8) [results, Tryd.results22, go_sem, *]; try rfl); done)) rfl ⟨rfl, by first | (with_reducible rfl) | exact (by first | (with_reducible exact Below.refl _ _) | ((repeat' (first | (with_reducible exact Below.refl _ _) | (with_reducible assumption) | (with_reducible refine below_alloc ?_ _) | (with_reducible refine Below.drew ?_) | (with_reducible refine below_drewN ?_ _) | (with_reducible refine Below.setCell ?_ ?_ _) | refine below_then ?_ (by with_reducible assumption))) <;> (first | omega | (simp; done) | (simp; omega))))⟩
        · have h5 := mul_gt h0 h
          rw [show min (a * b) 1000000000000000 = 1000000000000000 from by omega]
          go_enter Tryd.func22, Tryd.ntmps22
          go_wp2_with (go_at_call 58; ((with_reducible refine (impl_isTime _ _).mono ?_); rintro e w' ⟨rfl, rfl⟩))
          all_goals exact bodyPost_ret (by first | ((simp [results, Tryd.results22, go_sem]; try rfl); done) | ((simp [results, Tryd.results22, go_sem, *]; try rfl); done) | ((simp (maxDischargeDepth := 8) [results, Tryd.results22, go_sem, *]; try rfl); done)) rfl ⟨rfl, by first | (with_reducible rfl) | exact (by first | (with_reducible exact Below.refl _ _) | ((repeat' (first | (with_reducible exact Below.refl _ _) | (with_reducible assumption) | (with_reducible refine below_alloc ?_ _) | (with_reducible refine Below.drew ?_) | (with_reducible refine below_drewN ?_ _) | (with_reducible refine Below.setCell ?_ ?_ _) | refine below_then ?_ (by with_reducible assumption))) <;> (first | omega | (simp; done) | (simp; omega))))⟩
      · obtain rfl : b = 0 := by omega
        rw [show min (a * 0) 1000000000000000 = 0 from by rw [Int.mul_zero]; rfl]
        go_enter Tryd.func22, Tryd.ntmps22
        go_wp2_with (go_at_call 58; ((with_reducible refine (impl_isTime _ _).mono ?_); rintro e w' ⟨rfl, rfl⟩))
        all_goals exact bodyPost_ret (by first | ((simp [results, Tryd.results22, go_sem]; try rfl); done) | ((simp [results, Tryd.results22, go_sem, *]; try rfl); done) | ((simp (maxDischargeDepth := 8) [results, Tryd.results22, go_sem, *]; try rfl); done)) rfl ⟨rfl, by first | (with_reducible rfl) | exact (by first | (with_reducible exact Below.refl _ _) | ((repeat' (first | (with_reducible exact Below.refl _ _) | (with_reducible assumption) | (with_reducible refine below_alloc ?_ _) | (with_reducible refine Below.drew ?_) | (with_reducible refine below_drewN ?_ _) | (with_reducible refine Below.setCell ?_ ?_ _) | refine below_then ?_ (by with_reducible assumption))) <;> (first | omega | (simp; done) | (simp; omega))))⟩
    · simp only [Bool.not_eq_true] at hb
      rw [ha, hb]
      go_enter Tryd.func22, Tryd.ntmps22
      go_wp2_with (first | (go_at_call 58; ((with_reducible refine (impl_isTime _ _).mono ?_); rintro e w' ⟨rfl, rfl⟩)))
      all_goals exact bodyPost_ret (by first | ((simp [results, Tryd.results22, go_sem]; try rfl); done) | ((simp [results, Tryd.results22, go_sem, *]; try rfl); done) | ((simp (maxDischargeDepth := 8) [results, Tryd.results22, go_sem, *]; try rfl); done)) rfl ⟨rfl, by first | (with_reducible rfl) | exact (by first | (with_reducible exact Below.refl _ _) | ((repeat' (first | (with_reducible exact Below.refl _ _) | (with_reducible assumption) | (with_reducible refine below_alloc ?_ _) | (with_reducible refine Below.drew ?_) | (with_reducible refine below_drewN ?_ _) | (with_reducible refine Below.setCell ?_ ?_ _) | refine below_then ?_ (by with_reducible assumption))) <;> (first | omega | (simp; done) | (simp; omega))))⟩
  · simp only [Bool.not_eq_true] at ha
    rw [ha]
    go_enter Tryd.func22, Tryd.ntmps22
    go_wp2_with (first | (go_at_call 58; ((with_reducible refine (impl_isTime _ _).mono ?_); rintro e w' ⟨rfl, rfl⟩)))
    all_goals exact bodyPost_ret (by first | ((simp [results, Tryd.results22, go_sem]; try rfl); done) | ((simp [results, Tryd.results22, go_sem, *]; try rfl); done) | ((simp (maxDischargeDepth := 8) [results, Tryd.results22, go_sem, *]; try rfl); done)) rfl ⟨rfl, by first | (with_reducible rfl) | exact (by first | (with_reducible exact Below.refl _ _) | ((repeat' (first | (with_reducible exact Below.refl _ _) | (with_reducible assumption) | (with_reducible refine below_alloc ?_ _) | (with_reducible refine Below.drew ?_) | (with_reducible refine below_drewN ?_ _) | (with_reducible refine Below.setCell ?_ ?_ _) | refine below_then ?_ (by with_reducible assumption))) <;> (first | omega | (simp; done) | (simp; omega))))⟩
end Go.Proofs.YtcnjbifdlieboaaDoor
