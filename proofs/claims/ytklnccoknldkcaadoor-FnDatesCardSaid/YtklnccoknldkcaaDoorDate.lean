/- Days and seconds of dates, and dates of seconds. -/
import Derived.Test.YtklnccoknldkcaaDoorDay
namespace Go.Proofs.YtklnccoknldkcaaDoor
open Go.RowKit
set_option linter.unusedSimpArgs false
set_option linter.unusedVariables false

theorem impl_daysAhead (y : Int) (h1 : 1970 ≤ y) (h2 : y ≤ 10000) (w : World) : Calls Tryd.prog 176 #[.int .i64 y] w fun e w' => e = .returned (.int .i64 (aheadI y)) ∧ w = w' := by
  unfold aheadI
  go_enter Tryd.func176, Tryd.ntmps176
  go_wp2
  all_goals (go_ret; exact ⟨by first | rfl | (simp [*]; done) | (simp [*]; omega), by first | (with_reducible rfl) | exact (by first | (with_reducible exact Below.refl _ _) | ((repeat' (first | (with_reducible exact Below.refl _ _) | (with_reducible assumption) | (with_reducible refine below_alloc ?_ _) | (with_reducible refine Below.drew ?_) | (with_reducible refine below_drewN ?_ _) | (with_reducible refine Below.setCell ?_ ?_ _) | refine below_then ?_ (by with_reducible assumption))) <;> (first | omega | (simp; done) | (simp; omega))))⟩)
theorem spec_l3Year (y : Int) (h1 : 0 ≤ y) (h2 : y ≤ 10000) (w : World) : Calls Tryd.prog 179 #[.int .i64 y] w fun e w' => e = .returned (.int .i64 (yearI y)) ∧ w = w' := by
  go_enter Tryd.func179, Tryd.ntmps179
  go_wp2_with (go_at_call 217; ((with_reducible refine (spec_l3Leap _ h1 h2 _).mono ?_); rintro e w' ⟨rfl, rfl⟩))
  all_goals (go_ret; exact ⟨ret_int (by simp_all [yearI]), rfl⟩)

theorem cum_step (y : Int) (k : Nat) : cum y (k + 1) = cum y k + dimI y ((k : Int) + 1) := rfl
theorem impl_daysOf (y m d : Int) (h1 : 1970 ≤ y) (h2 : y ≤ 9999) (h3 : 1 ≤ m) (h4 : m ≤ 12) (h5 : 1 ≤ d) (h6 : d ≤ 31) (w : World) : Calls Tryd.prog 172 #[.int .i64 y, .int .i64 m, .int .i64 d] w fun e w' => e = .returned (.int .i64 (daysI y m d)) ∧ w = w' := by
  obtain ⟨ha1, ha2⟩ := ahead_bd y h1 (by omega)
  go_enter Tryd.func172, Tryd.ntmps172
  go_wp2_with (go_at_call 176; ((with_reducible refine (impl_daysAhead _ h1 (by omega) _).mono ?_); rintro e w' ⟨rfl, rfl⟩))
  go_loop [7, 8] (fun v i => ∃ k : Nat, (k : Int) + 1 ≤ m ∧ i = .int .i64 ((k : Int) + 1) ∧ v = .int .i64 (aheadI y + cum y k)) (fun _ i => (m - intOf i).toNat)
  case atStart => exact ⟨0, by omega, rfl, by simp [cum]⟩
  case round =>
    obtain ⟨k, hk, rfl, rfl⟩ := hrel
    obtain ⟨hc1, hc2⟩ := cum_bd y k
    obtain ⟨hd1, hd2⟩ := dimI_bd y ((k : Int) + 1)
    by_cases hlt : (k : Int) + 1 < m
    · go_wp2_with (go_at_call 177; ((with_reducible refine (impl_daysIn _ _ (by omega) (by omega) _).mono ?_); rintro e w' ⟨rfl, rfl⟩))
      go_round
      case rel => exact ⟨k + 1, by omega, by go_num, by rw [cum_step]; exact congrArg (Value.int .i64) (by omega)⟩
      case measure => simp [intOf]; omega
    · have hm : m = (k : Int) + 1 := by omega
      have Hm := Lib.hid hm
      clear hm
      go_wp2
      go_ret
      exact ⟨ret_int (by rw [Hm.out]; unfold daysI; rw [show ((k : Int) + 1 - 1).toNat = k from by omega]), rfl⟩
theorem spec_l3Days (y m d : Int) (h1 : 1970 ≤ y) (h2 : y ≤ 9999) (h3 : 1 ≤ m) (h4 : m ≤ 12) (h5 : 1 ≤ d) (h6 : d ≤ 31) (w : World) : Calls Tryd.prog 212 #[.int .i64 y, .int .i64 m, .int .i64 d] w fun e w' => e = .returned (.int .i64 (daysI y m d)) ∧ w = w' := by
  obtain ⟨ha1, ha2⟩ := ahead_bd y h1 (by omega)
  go_enter Tryd.func212, Tryd.ntmps212
  go_wp2
  go_loop [7, 8] (fun v i => ∃ x : Int, 1970 ≤ x ∧ x ≤ y ∧ i = .int .i64 x ∧ v = .int .i64 (d - 1 + aheadI x)) (fun _ i => (y - intOf i).toNat)
  case atStart => exact ⟨1970, by omega, h1, rfl, by rw [ahead_1970]; exact congrArg (Value.int .i64) (by omega)⟩
  case round =>
    obtain ⟨x, hx1, hx2, rfl, rfl⟩ := hrel
    obtain ⟨hb1, hb2⟩ := ahead_bd x hx1 (by omega)
    obtain ⟨hy1, hy2⟩ := yearI_bd x
    by_cases hlt : x < y
    · have hs := Lib.hid (ahead_succ x)
      go_wp2_with (go_at_call 179; ((with_reducible refine (spec_l3Year _ (by omega) (by omega) _).mono ?_); rintro e w' ⟨rfl, rfl⟩))
      go_round
      case rel => exact ⟨x + 1, by omega, by omega, rfl, by rw [hs.out]; exact congrArg (Value.int .i64) (by omega)⟩
      case measure => simp [intOf]; omega
    · have hxy : x = y := by omega
      have Hx := Lib.hid hxy
      clear hxy
      go_wp2
      go_loop [7, 9] (fun v i => ∃ k : Nat, (k : Int) + 1 ≤ m ∧ i = .int .i64 ((k : Int) + 1) ∧ v = .int .i64 (d - 1 + aheadI x + cum y k)) (fun _ i => (m - intOf i).toNat)
      case atStart => exact ⟨0, by omega, rfl, by simp [cum]⟩
      case round =>
        obtain ⟨k, hk, rfl, rfl⟩ := hrel
        obtain ⟨hc1, hc2⟩ := cum_bd y k
        obtain ⟨hd1, hd2⟩ := dimI_bd y ((k : Int) + 1)
        by_cases hlt2 : (k : Int) + 1 < m
        · go_wp2_with (go_at_call 178; ((with_reducible refine (spec_l3Month _ _ (by omega) (by omega) _).mono ?_); rintro e w' ⟨rfl, rfl⟩))
          go_round
          case rel => exact ⟨k + 1, by omega, by go_num, by rw [cum_step]; exact congrArg (Value.int .i64) (by omega)⟩
          case measure => simp [intOf]; omega
        · have hm : m = (k : Int) + 1 := by omega
          have Hm := Lib.hid hm
          clear hm
          go_wp2
          go_ret
          exact ⟨ret_int (by rw [Hm.out, Hx.out]; unfold daysI; rw [show ((k : Int) + 1 - 1).toNat = k from by omega]; omega), rfl⟩

theorem dayB_bd {y m d : Int} (h : dayB y m d = true) : (1970 ≤ y ∧ y ≤ 9999) ∧ (1 ≤ m ∧ m ≤ 12) ∧ (1 ≤ d ∧ d ≤ 31) := by
  simp only [dayB, Bool.and_eq_true, inB_iff] at h
  obtain ⟨⟨⟨h1, h2⟩, h3, h4⟩, h5, h6⟩ := h
  have := dimI_bd y m
  omega
def daysR (y m d : Int) : Int × Int := if dayB y m d then (0, daysI y m d) else (3, 0)
def secsR (y m d h i s : Int) : Int × Int := if dateFault y m d h i s = 0 then (0, secsI y m d h i s) else (dateFault y m d h i s, 0)
theorem dateFault_0 {y m d h i s : Int} (e : dateFault y m d h i s = 0) : dayB y m d = true ∧ (0 ≤ h ∧ h ≤ 23) ∧ (0 ≤ i ∧ i ≤ 59) ∧ (0 ≤ s ∧ s ≤ 59) := by
  unfold dateFault at e
  split at e
  · rename_i c
    simp only [Bool.and_eq_true, inB_iff] at c
    exact ⟨c.1.1.1, c.1.1.2, c.1.2, c.2⟩
  · omega
theorem dateFault_3 {y m d h i s : Int} (e : ¬ dateFault y m d h i s = 0) : dateFault y m d h i s = 3 := by
  unfold dateFault at e ⊢
  split at e
  · omega
  · rename_i c; rw [if_neg c]
theorem daysI_bd {y m d : Int} (h : dayB y m d = true) : 0 ≤ daysI y m d ∧ daysI y m d ≤ 2932896 := by
  obtain ⟨⟨h1, h2⟩, ⟨h3, h4⟩, _⟩ := daysI_at h
  have := ahead_bd y h1 (by omega)
  have := ahead_bd (y + 1) (by omega) (by omega)
  omega
set_option maxHeartbeats 800000 in
theorem impl_secondsOf (y m d h i s : Int) (hd : dayB y m d = true) (a1 : 0 ≤ h) (a2 : h ≤ 23) (a3 : 0 ≤ i) (a4 : i ≤ 59) (a5 : 0 ≤ s) (a6 : s ≤ 59) (w : World) : Calls Tryd.prog 93 #[.agg #[.int .i64 y, .int .i64 m, .int .i64 d, .int .i64 h, .int .i64 i, .int .i64 s]] w fun e w' => e = .returned (.int .i64 (secsI y m d h i s)) ∧ Below w.heap.size w w' := by
  obtain ⟨⟨h1, h2⟩, ⟨h3, h4⟩, h5, h6⟩ := dayB_bd hd
  obtain ⟨b1, b2⟩ := daysI_bd hd
  clear hd
  go_enter Tryd.func93, Tryd.ntmps93
  go_wp2
  go_quiet ((go_at_call 172; exact quiet_pure (impl_daysOf _ _ _ h1 h2 h3 h4 h5 h6 _)))
  go_wp2
  go_ret
  exact ⟨ret_int (by unfold secsI; omega), (by first | (with_reducible exact Below.refl _ _) | ((repeat' (first | (with_reducible exact Below.refl _ _) | (with_reducible assumption) | (with_reducible refine below_alloc ?_ _) | (with_reducible refine Below.drew ?_) | (with_reducible refine below_drewN ?_ _) | (with_reducible refine Below.setCell ?_ ?_ _) | refine below_then ?_ (by with_reducible assumption))) <;> (first | omega | (simp; done) | (simp; omega))))⟩
set_option maxHeartbeats 800000 in
theorem spec_l3Seconds (y m d h i s : Int) (hd : dayB y m d = true) (a1 : 0 ≤ h) (a2 : h ≤ 23) (a3 : 0 ≤ i) (a4 : i ≤ 59) (a5 : 0 ≤ s) (a6 : s ≤ 59) (w : World) : Calls Tryd.prog 170 #[.agg #[.int .i64 y, .int .i64 m, .int .i64 d, .int .i64 h, .int .i64 i, .int .i64 s]] w fun e w' => e = .returned (.int .i64 (secsI y m d h i s)) ∧ Below w.heap.size w w' := by
  obtain ⟨⟨h1, h2⟩, ⟨h3, h4⟩, h5, h6⟩ := dayB_bd hd
  obtain ⟨b1, b2⟩ := daysI_bd hd
  clear hd
  go_enter Tryd.func170, Tryd.ntmps170
  go_wp2
  go_quiet ((go_at_call 212; exact quiet_pure (spec_l3Days _ _ _ h1 h2 h3 h4 h5 h6 _)))
  go_wp2
  go_ret
  exact ⟨ret_int (by unfold secsI; omega), (by first | (with_reducible exact Below.refl _ _) | ((repeat' (first | (with_reducible exact Below.refl _ _) | (with_reducible assumption) | (with_reducible refine below_alloc ?_ _) | (with_reducible refine Below.drew ?_) | (with_reducible refine below_drewN ?_ _) | (with_reducible refine Below.setCell ?_ ?_ _) | refine below_then ?_ (by with_reducible assumption))) <;> (first | omega | (simp; done) | (simp; omega))))⟩
set_option maxHeartbeats 800000 in
theorem impl_SecondsOf (y m d h i s : Int) (w : World) : Calls Tryd.prog 32 #[.agg #[.int .i64 y, .int .i64 m, .int .i64 d, .int .i64 h, .int .i64 i, .int .i64 s]] w fun e w' => e = .returned (.agg #[.int .i64 (secsR y m d h i s).1, .int .i64 (secsR y m d h i s).2]) ∧ Below w.heap.size w w' := by
  by_cases hf : dateFault y m d h i s = 0
  · obtain ⟨hd, ⟨a1, a2⟩, ⟨a3, a4⟩, a5, a6⟩ := dateFault_0 hf
    have e : secsR y m d h i s = (0, secsI y m d h i s) := by simp [secsR, hf]
    rw [e]
    have hc := fun W => impl_DateFault y m d h i s W
    rw [hf] at hc
    have Hc := Lib.hid hc
    have Hd := Lib.hid hd
    clear hc e hf hd
    go_enter Tryd.func32, Tryd.ntmps32
    go_wp2_with (first | (go_at_call 36; ((with_reducible refine (Hc.out _).mono ?_); rintro e w' ⟨rfl, hb⟩; obtain ⟨hc, hf⟩ := bcell hb; have hz := hb.size; (try simp only [World.size_alloc, World.size_setCell, World.size_drew] at hz); obtain ⟨hlt, hle, hn1, hn2, hn3, hn4⟩ := bsize hb; (try simp only [World.size_alloc, World.size_setCell, World.size_drew] at hlt hle hn1 hn2 hn3 hn4); (try have hr0 : w.heap.size < w'.heap.size := by omega); (try have hr1 : w.heap.size + 1 < w'.heap.size := by omega); (try have hs0 : wS.heap.size < w'.heap.size := by omega); (try have hs1 : wG.heap.size < w'.heap.size := by omega))) | (go_at_call 93; ((with_reducible refine (impl_secondsOf _ _ _ _ _ _ Hd.out a1 a2 a3 a4 a5 a6 _).mono ?_); rintro e w' ⟨rfl, hb⟩; obtain ⟨hc, hf⟩ := bcell hb; have hz := hb.size; (try simp only [World.size_alloc, World.size_setCell, World.size_drew] at hz); obtain ⟨hlt, hle, hn1, hn2, hn3, hn4⟩ := bsize hb; (try simp only [World.size_alloc, World.size_setCell, World.size_drew] at hlt hle hn1 hn2 hn3 hn4); (try have hr0 : w.heap.size < w'.heap.size := by omega); (try have hr1 : w.heap.size + 1 < w'.heap.size := by omega); (try have hs0 : wS.heap.size < w'.heap.size := by omega); (try have hs1 : wG.heap.size < w'.heap.size := by omega))))
    all_goals exact bodyPost_ret (by first | ((simp [results, Tryd.results32, go_sem]; try rfl); done) | ((simp [results, Tryd.results32, go_sem, *]; try rfl); done) | ((simp (maxDischargeDepth := 8) [results, Tryd.results32, go_sem, *]; try rfl); done)) rfl ⟨rfl, by first | (with_reducible rfl) | exact (by first | (with_reducible exact Below.refl _ _) | ((repeat' (first | (with_reducible exact Below.refl _ _) | (with_reducible assumption) | (with_reducible refine below_alloc ?_ _) | (with_reducible refine Below.drew ?_) | (with_reducible refine below_drewN ?_ _) | (with_reducible refine Below.setCell ?_ ?_ _) | refine below_then ?_ (by with_reducible assumption))) <;> (first | omega | (simp; done) | (simp; omega))))⟩
  · have e : secsR y m d h i s = (3, 0) := by simp [secsR, hf, dateFault_3 hf]
    rw [e]
    have hc := fun W => impl_DateFault y m d h i s W
    rw [dateFault_3 hf] at hc
    have Hc := Lib.hid hc
    clear hc e hf
    go_enter Tryd.func32, Tryd.ntmps32
    go_wp2_with (go_at_call 36; ((with_reducible refine (Hc.out _).mono ?_); rintro e w' ⟨rfl, hb⟩; obtain ⟨hc, hf⟩ := bcell hb; have hz := hb.size; (try simp only [World.size_alloc, World.size_setCell, World.size_drew] at hz); obtain ⟨hlt, hle, hn1, hn2, hn3, hn4⟩ := bsize hb; (try simp only [World.size_alloc, World.size_setCell, World.size_drew] at hlt hle hn1 hn2 hn3 hn4); (try have hr0 : w.heap.size < w'.heap.size := by omega); (try have hr1 : w.heap.size + 1 < w'.heap.size := by omega); (try have hs0 : wS.heap.size < w'.heap.size := by omega); (try have hs1 : wG.heap.size < w'.heap.size := by omega)))
    all_goals exact bodyPost_ret (by first | ((simp [results, Tryd.results32, go_sem]; try rfl); done) | ((simp [results, Tryd.results32, go_sem, *]; try rfl); done) | ((simp (maxDischargeDepth := 8) [results, Tryd.results32, go_sem, *]; try rfl); done)) rfl ⟨rfl, by first | (with_reducible rfl) | exact (by first | (with_reducible exact Below.refl _ _) | ((repeat' (first | (with_reducible exact Below.refl _ _) | (with_reducible assumption) | (with_reducible refine below_alloc ?_ _) | (with_reducible refine Below.drew ?_) | (with_reducible refine below_drewN ?_ _) | (with_reducible refine Below.setCell ?_ ?_ _) | refine below_then ?_ (by with_reducible assumption))) <;> (first | omega | (simp; done) | (simp; omega))))⟩
/-- The date of seconds. -/
noncomputable def yOf (n : Int) : Int := (ymOf (n / 86400)).1
noncomputable def mOf (n : Int) : Int := (ymOf (n / 86400)).2
noncomputable def dOf (n : Int) : Int := n / 86400 - aheadI (yOf n) - cum (yOf n) (mOf n - 1).toNat + 1
theorem at_of {n y m : Int} (h : AtI (n / 86400) y m) : yOf n = y ∧ mOf n = m ∧ dOf n = n / 86400 - aheadI y - cum y (m - 1).toNat + 1 := by
  have := ymOf_eq h
  have h1 : yOf n = y := by unfold yOf; rw [this]
  have h2 : mOf n = m := by unfold mOf; rw [this]
  exact ⟨h1, h2, by unfold dOf; rw [h1, h2]⟩
theorem AtI.mk' {n y : Int} {k : Nat} (h1 : 1970 ≤ y) (h2 : y ≤ 9999) (h3 : aheadI y ≤ n) (h4 : n < aheadI (y + 1)) (h5 : k + 1 ≤ 12) (h6 : cum y k ≤ n - aheadI y) (h7 : n - aheadI y < cum y (k + 1)) : AtI n y ((k : Int) + 1) := by
  refine ⟨⟨h1, h2⟩, ⟨h3, h4⟩, ⟨by omega, by omega⟩, ?_⟩
  rw [show ((k : Int) + 1 - 1).toNat = k from by omega, show ((k : Int) + 1).toNat = k + 1 from by omega]
  exact ⟨h6, h7⟩
theorem agg6 {a b c d e f a' b' c' d' e' f' : Int} (h1 : a = a') (h2 : b = b') (h3 : c = c') (h4 : d = d') (h5 : e = e') (h6 : f = f') :
    Ending.returned (.agg #[.int .i64 a, .int .i64 b, .int .i64 c, .int .i64 d, .int .i64 e, .int .i64 f]) = .returned (.agg #[.int .i64 a', .int .i64 b', .int .i64 c', .int .i64 d', .int .i64 e', .int .i64 f']) := by
  rw [h1, h2, h3, h4, h5, h6]
set_option maxHeartbeats 1600000 in
theorem impl_dateAt (n : Int) (h1 : 0 ≤ n) (h2 : n ≤ 253402300799) (w : World) : Calls Tryd.prog 98 #[.int .i64 n] w fun e w' => e = .returned (.agg #[.int .i64 (yOf n), .int .i64 (mOf n), .int .i64 (dOf n), .int .i64 (n / 3600 % 24), .int .i64 (n / 60 % 60), .int .i64 (n % 60)]) ∧ Below w.heap.size w w' := by
  have hd1 : 0 ≤ n / 86400 := by omega
  have hd2 : n / 86400 ≤ 2932896 := by omega
  have hgu := ahead_guess (n / 86400 / 366) (by omega)
  have H10 := Lib.hid ahead_10000
  go_enter Tryd.func98, Tryd.ntmps98
  go_wp2
  go_loop [4] (fun v => ∃ y : Int, 1970 ≤ y ∧ y ≤ 9999 ∧ aheadI y ≤ n / 86400 ∧ v = .int .i64 y) (fun v => (10000 - intOf v).toNat)
  case atStart => exact ⟨_, by omega, by omega, by omega, rfl⟩
  case round =>
    clear hgu
    obtain ⟨y, hy1, hy2, hy3, rfl⟩ := hrel
    obtain ⟨hb1, hb2⟩ := ahead_bd y hy1 (by omega)
    by_cases hc : aheadI (y + 1) ≤ n / 86400
    · have hlt : y < 9999 := by
        by_cases e : y = 9999
        · exfalso; rw [e] at hc; have := H10.out; rw [show (9999 : Int) + 1 = 10000 from rfl] at hc; omega
        · omega
      go_wp2_with (go_at_call 176; ((with_reducible refine (impl_daysAhead _ (by omega) (by omega) _).mono ?_); rintro e w' ⟨rfl, rfl⟩))
      go_round
      case rel => exact ⟨y + 1, by omega, by omega, hc, rfl⟩
      case measure => simp [intOf]; omega
    · have Has := Lib.hid (ahead_succ y)
      have H12 := Lib.hid (cum_12 y)
      go_wp2_with (go_at_call 176; ((with_reducible refine (impl_daysAhead _ (by omega) (by omega) _).mono ?_); rintro e w' ⟨rfl, rfl⟩))
      go_loop [3, 5] (fun v i => ∃ k : Nat, k ≤ 11 ∧ i = .int .i64 ((k : Int) + 1) ∧ v = .int .i64 (n / 86400 - aheadI y - cum y k) ∧ cum y k ≤ n / 86400 - aheadI y) (fun _ i => (13 - intOf i).toNat)
      case atStart => exact ⟨0, by omega, rfl, by simp [cum], by simp only [cum]; omega⟩
      case round =>
        obtain ⟨k, hk, rfl, rfl, hck⟩ := hrel
        obtain ⟨hc1, hc2⟩ := cum_bd y k
        obtain ⟨hd3, hd4⟩ := dimI_bd y ((k : Int) + 1)
        have Hcs := Lib.hid (cum_step y k)
        by_cases hg : dimI y ((k : Int) + 1) ≤ n / 86400 - aheadI y - cum y k
        · have hk11 : k < 11 := by
            by_cases e : k = 11
            · exfalso
              have h3 := Hcs.out
              have h4 := H12.out
              have h5 := Has.out
              subst e
              rw [h4] at h3
              omega
            · omega
          go_wp2_with (go_at_call 177; ((with_reducible refine (impl_daysIn _ _ (by omega) (by omega) _).mono ?_); rintro e w' ⟨rfl, rfl⟩))
          go_round
          case rel => exact ⟨k + 1, by omega, by go_num, by rw [Hcs.out]; exact congrArg (Value.int .i64) (by omega), by rw [Hcs.out]; omega⟩
          case measure => simp [intOf]; omega
        · have Hat := Lib.hid (at_of (AtI.mk' (k := k) hy1 hy2 hy3 (by omega) (by omega) hck (by rw [Hcs.out]; omega)))
          go_wp2_with (go_at_call 177; ((with_reducible refine (impl_daysIn _ _ (by omega) (by omega) _).mono ?_); rintro e w' ⟨rfl, rfl⟩))
          refine bodyPost_ret (by simp [results, Tryd.results98, go_sem]; try rfl) rfl ⟨?_, (by first | (with_reducible exact Below.refl _ _) | ((repeat' (first | (with_reducible exact Below.refl _ _) | (with_reducible assumption) | (with_reducible refine below_alloc ?_ _) | (with_reducible refine Below.drew ?_) | (with_reducible refine below_drewN ?_ _) | (with_reducible refine Below.setCell ?_ ?_ _) | refine below_then ?_ (by with_reducible assumption))) <;> (first | omega | (simp; done) | (simp; omega))))⟩
          obtain ⟨e1, e2, e3⟩ := Hat.out
          exact agg6 e1.symm e2.symm (by rw [e3, show ((k : Int) + 1 - 1).toNat = k from by omega]) rfl rfl rfl

set_option maxHeartbeats 1600000 in
theorem spec_l3At (n : Int) (h1 : 0 ≤ n) (h2 : n ≤ 253402300799) (w : World) : Calls Tryd.prog 106 #[.int .i64 n] w fun e w' => e = .returned (.agg #[.int .i64 (yOf n), .int .i64 (mOf n), .int .i64 (dOf n), .int .i64 (n / 3600 % 24), .int .i64 (n / 60 % 60), .int .i64 (n % 60)]) ∧ Below w.heap.size w w' := by
  have hd1 : 0 ≤ n / 86400 := by omega
  have hd2 : n / 86400 ≤ 2932896 := by omega
  have H10 := Lib.hid ahead_10000
  have H70 := Lib.hid ahead_1970
  have e1 : n / 3600 % 24 = n % 86400 / 3600 := by omega
  have e2 : n / 60 % 60 = n % 86400 / 60 % 60 := by omega
  have e3 : n % 60 = n % 86400 % 60 := by omega
  have E := Lib.hid (And.intro e1 (And.intro e2 e3))
  clear e1 e2 e3
  go_enter Tryd.func106, Tryd.ntmps106
  go_wp2
  go_loop [3, 5] (fun v i => ∃ y : Int, 1970 ≤ y ∧ y ≤ 9999 ∧ i = .int .i64 y ∧ v = .int .i64 (n / 86400 - aheadI y) ∧ aheadI y ≤ n / 86400) (fun _ i => (10000 - intOf i).toNat)
  case atStart => exact ⟨1970, by omega, by omega, rfl, by rw [H70.out]; exact congrArg (Value.int .i64) (by omega), by rw [H70.out]; omega⟩
  case round =>
    obtain ⟨y, hy1, hy2, rfl, rfl, hy3⟩ := hrel
    obtain ⟨hb1, hb2⟩ := ahead_bd y hy1 (by omega)
    obtain ⟨hc1, hc2⟩ := yearI_bd y
    have Has := Lib.hid (ahead_succ y)
    by_cases hc : yearI y ≤ n / 86400 - aheadI y
    · have hlt : y < 9999 := by
        by_cases e : y = 9999
        · exfalso; have h3 := Has.out; rw [e] at h3 hc; have := H10.out; rw [show (9999 : Int) + 1 = 10000 from rfl] at h3; omega
        · omega
      go_wp2_with (go_at_call 179; ((with_reducible refine (spec_l3Year _ (by omega) (by omega) _).mono ?_); rintro e w' ⟨rfl, rfl⟩))
      go_round
      case rel => exact ⟨y + 1, by omega, by omega, rfl, by rw [Has.out]; exact congrArg (Value.int .i64) (by omega), by rw [Has.out]; omega⟩
      case measure => simp [intOf]; omega
    · have H12 := Lib.hid (cum_12 y)
      go_wp2_with (go_at_call 179; ((with_reducible refine (spec_l3Year _ (by omega) (by omega) _).mono ?_); rintro e w' ⟨rfl, rfl⟩))
      go_loop [3, 6] (fun v i => ∃ k : Nat, k ≤ 11 ∧ i = .int .i64 ((k : Int) + 1) ∧ v = .int .i64 (n / 86400 - aheadI y - cum y k) ∧ cum y k ≤ n / 86400 - aheadI y) (fun _ i => (13 - intOf i).toNat)
      case atStart => exact ⟨0, by omega, rfl, by simp [cum], by simp only [cum]; omega⟩
      case round =>
        obtain ⟨k, hk, rfl, rfl, hck⟩ := hrel
        obtain ⟨hc3, hc4⟩ := cum_bd y k
        obtain ⟨hd3, hd4⟩ := dimI_bd y ((k : Int) + 1)
        have Hcs := Lib.hid (cum_step y k)
        by_cases hg : dimI y ((k : Int) + 1) ≤ n / 86400 - aheadI y - cum y k
        · have hk11 : k < 11 := by
            by_cases e : k = 11
            · exfalso
              have h3 := Hcs.out
              have h4 := H12.out
              subst e
              rw [h4] at h3
              omega
            · omega
          go_wp2_with (go_at_call 178; ((with_reducible refine (spec_l3Month _ _ (by omega) (by omega) _).mono ?_); rintro e w' ⟨rfl, rfl⟩))
          go_round
          case rel => exact ⟨k + 1, by omega, by go_num, by rw [Hcs.out]; exact congrArg (Value.int .i64) (by omega), by rw [Hcs.out]; omega⟩
          case measure => simp [intOf]; omega
        · have Hat := Lib.hid (at_of (AtI.mk' (k := k) hy1 hy2 hy3 (by rw [Has.out]; omega) (by omega) hck (by rw [Hcs.out]; omega)))
          go_wp2_with (go_at_call 178; ((with_reducible refine (spec_l3Month _ _ (by omega) (by omega) _).mono ?_); rintro e w' ⟨rfl, rfl⟩))
          refine bodyPost_ret (by simp [results, Tryd.results106, go_sem]; try rfl) rfl ⟨?_, (by first | (with_reducible exact Below.refl _ _) | ((repeat' (first | (with_reducible exact Below.refl _ _) | (with_reducible assumption) | (with_reducible refine below_alloc ?_ _) | (with_reducible refine Below.drew ?_) | (with_reducible refine below_drewN ?_ _) | (with_reducible refine Below.setCell ?_ ?_ _) | refine below_then ?_ (by with_reducible assumption))) <;> (first | omega | (simp; done) | (simp; omega))))⟩
          obtain ⟨e1, e2, e3⟩ := Hat.out
          obtain ⟨f1, f2, f3⟩ := E.out
          exact agg6 e1.symm e2.symm (by rw [e3, show ((k : Int) + 1 - 1).toNat = k from by omega]) f1.symm f2.symm (by first | rfl | exact f3.symm)

noncomputable def dateR (n : Int) : Int × Int × Int × Int × Int × Int × Int := if inB n 0 253402300799 then (0, yOf n, mOf n, dOf n, n / 3600 % 24, n / 60 % 60, n % 60) else (3, 0, 0, 0, 0, 0, 0)
set_option maxHeartbeats 1600000 in
theorem spec_DateAt (n : Int) (w : World) : Calls Tryd.prog 38 #[.int .i64 n] w fun e w' => e = .returned (.agg #[.int .i64 (dateR n).1, .int .i64 (dateR n).2.1, .int .i64 (dateR n).2.2.1, .int .i64 (dateR n).2.2.2.1, .int .i64 (dateR n).2.2.2.2.1, .int .i64 (dateR n).2.2.2.2.2.1, .int .i64 (dateR n).2.2.2.2.2.2]) ∧ Below w.heap.size w w' := by
  by_cases h : inB n 0 253402300799 = true
  · obtain ⟨h1, h2⟩ := inB_iff.1 h
    have e : dateR n = (0, yOf n, mOf n, dOf n, n / 3600 % 24, n / 60 % 60, n % 60) := by simp [dateR, h]
    rw [e]
    clear e
    go_enter Tryd.func38, Tryd.ntmps38
    go_wp2_with (first | (go_at_call 105; ((with_reducible refine (spec_l3Known _ _).mono ?_); rintro e w' ⟨rfl, rfl⟩)) | (go_at_call 106; ((with_reducible refine (spec_l3At _ h1 h2 _).mono ?_); rintro e w' ⟨rfl, hb⟩; obtain ⟨hc, hf⟩ := bcell hb; have hz := hb.size; (try simp only [World.size_alloc, World.size_setCell, World.size_drew] at hz); obtain ⟨hlt, hle, hn1, hn2, hn3, hn4⟩ := bsize hb; (try simp only [World.size_alloc, World.size_setCell, World.size_drew] at hlt hle hn1 hn2 hn3 hn4); (try have hr0 : w.heap.size < w'.heap.size := by omega); (try have hr1 : w.heap.size + 1 < w'.heap.size := by omega); (try have hs0 : wS.heap.size < w'.heap.size := by omega); (try have hs1 : wG.heap.size < w'.heap.size := by omega))))
    all_goals exact bodyPost_ret (res_row Tryd.results38 _ _ rfl (blk_cast (by repeat' (first | (with_reducible assumption) | (with_reducible exact blk_new _ _) | (with_reducible apply blk_set) | (with_reducible refine blk_alloc ?_ _) | (with_reducible refine blk_drew ?_) | refine blk_then ?_ (by with_reducible assumption))) (by first | (simp; done) | rfl)) Tryd.underlying51 rfl _ (by kernel_rfl) rfl) rfl ⟨rfl, by first | (with_reducible rfl) | exact (by first | (with_reducible exact Below.refl _ _) | ((repeat' (first | (with_reducible exact Below.refl _ _) | (with_reducible assumption) | (with_reducible refine below_alloc ?_ _) | (with_reducible refine Below.drew ?_) | (with_reducible refine below_drewN ?_ _) | (with_reducible refine Below.setCell ?_ ?_ _) | refine below_then ?_ (by with_reducible assumption))) <;> (first | omega | (simp; done) | (simp; omega))))⟩
  · simp only [Bool.not_eq_true] at h
    have e : dateR n = (3, 0, 0, 0, 0, 0, 0) := by simp [dateR, h]
    rw [e]
    clear e
    go_enter Tryd.func38, Tryd.ntmps38
    go_wp2_with (go_at_call 105; ((with_reducible refine (spec_l3Known _ _).mono ?_); rintro e w' ⟨rfl, rfl⟩))
    all_goals exact bodyPost_ret (res_row Tryd.results38 _ _ rfl (blk_cast (by repeat' (first | (with_reducible assumption) | (with_reducible exact blk_new _ _) | (with_reducible apply blk_set) | (with_reducible refine blk_alloc ?_ _) | (with_reducible refine blk_drew ?_) | refine blk_then ?_ (by with_reducible assumption))) (by first | (simp; done) | rfl)) Tryd.underlying51 rfl _ (by kernel_rfl) rfl) rfl ⟨rfl, by first | (with_reducible rfl) | exact (by first | (with_reducible exact Below.refl _ _) | ((repeat' (first | (with_reducible exact Below.refl _ _) | (with_reducible assumption) | (with_reducible refine below_alloc ?_ _) | (with_reducible refine Below.drew ?_) | (with_reducible refine below_drewN ?_ _) | (with_reducible refine Below.setCell ?_ ?_ _) | refine below_then ?_ (by with_reducible assumption))) <;> (first | omega | (simp; done) | (simp; omega))))⟩
set_option maxHeartbeats 1600000 in
theorem impl_DateAt (n : Int) (w : World) : Calls Tryd.prog 34 #[.int .i64 n] w fun e w' => e = .returned (.agg #[.int .i64 (dateR n).1, .int .i64 (dateR n).2.1, .int .i64 (dateR n).2.2.1, .int .i64 (dateR n).2.2.2.1, .int .i64 (dateR n).2.2.2.2.1, .int .i64 (dateR n).2.2.2.2.2.1, .int .i64 (dateR n).2.2.2.2.2.2]) ∧ Below w.heap.size w w' := by
  by_cases h : inB n 0 253402300799 = true
  · obtain ⟨h1, h2⟩ := inB_iff.1 h
    have e : dateR n = (0, yOf n, mOf n, dOf n, n / 3600 % 24, n / 60 % 60, n % 60) := by simp [dateR, h]
    rw [e]
    clear e
    go_enter Tryd.func34, Tryd.ntmps34
    go_wp2_with (first | (go_at_call 97; ((with_reducible refine (impl_isSeconds _ _).mono ?_); rintro e w' ⟨rfl, rfl⟩)) | (go_at_call 98; ((with_reducible refine (impl_dateAt _ h1 h2 _).mono ?_); rintro e w' ⟨rfl, hb⟩; obtain ⟨hc, hf⟩ := bcell hb; have hz := hb.size; (try simp only [World.size_alloc, World.size_setCell, World.size_drew] at hz); obtain ⟨hlt, hle, hn1, hn2, hn3, hn4⟩ := bsize hb; (try simp only [World.size_alloc, World.size_setCell, World.size_drew] at hlt hle hn1 hn2 hn3 hn4); (try have hr0 : w.heap.size < w'.heap.size := by omega); (try have hr1 : w.heap.size + 1 < w'.heap.size := by omega); (try have hs0 : wS.heap.size < w'.heap.size := by omega); (try have hs1 : wG.heap.size < w'.heap.size := by omega))))
    all_goals exact bodyPost_ret (res_row Tryd.results34 _ _ rfl (blk_cast (by repeat' (first | (with_reducible assumption) | (with_reducible exact blk_new _ _) | (with_reducible apply blk_set) | (with_reducible refine blk_alloc ?_ _) | (with_reducible refine blk_drew ?_) | refine blk_then ?_ (by with_reducible assumption))) (by first | (simp; done) | rfl)) Tryd.underlying51 rfl _ (by kernel_rfl) rfl) rfl ⟨rfl, by first | (with_reducible rfl) | exact (by first | (with_reducible exact Below.refl _ _) | ((repeat' (first | (with_reducible exact Below.refl _ _) | (with_reducible assumption) | (with_reducible refine below_alloc ?_ _) | (with_reducible refine Below.drew ?_) | (with_reducible refine below_drewN ?_ _) | (with_reducible refine Below.setCell ?_ ?_ _) | refine below_then ?_ (by with_reducible assumption))) <;> (first | omega | (simp; done) | (simp; omega))))⟩
  · simp only [Bool.not_eq_true] at h
    have e : dateR n = (3, 0, 0, 0, 0, 0, 0) := by simp [dateR, h]
    rw [e]
    clear e
    go_enter Tryd.func34, Tryd.ntmps34
    go_wp2_with (go_at_call 97; ((with_reducible refine (impl_isSeconds _ _).mono ?_); rintro e w' ⟨rfl, rfl⟩))
    all_goals exact bodyPost_ret (res_row Tryd.results34 _ _ rfl (blk_cast (by repeat' (first | (with_reducible assumption) | (with_reducible exact blk_new _ _) | (with_reducible apply blk_set) | (with_reducible refine blk_alloc ?_ _) | (with_reducible refine blk_drew ?_) | refine blk_then ?_ (by with_reducible assumption))) (by first | (simp; done) | rfl)) Tryd.underlying51 rfl _ (by kernel_rfl) rfl) rfl ⟨rfl, by first | (with_reducible rfl) | exact (by first | (with_reducible exact Below.refl _ _) | ((repeat' (first | (with_reducible exact Below.refl _ _) | (with_reducible assumption) | (with_reducible refine below_alloc ?_ _) | (with_reducible refine Below.drew ?_) | (with_reducible refine below_drewN ?_ _) | (with_reducible refine Below.setCell ?_ ?_ _) | refine below_then ?_ (by with_reducible assumption))) <;> (first | omega | (simp; done) | (simp; omega))))⟩
end Go.Proofs.YtklnccoknldkcaaDoor
