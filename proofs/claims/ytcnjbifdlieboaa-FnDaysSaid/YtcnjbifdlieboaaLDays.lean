/- The law on days: its walk. -/
import Derived.Test.YtcnjbifdlieboaaDrawD
import Derived.Test.YtcnjbifdlieboaaBig
import Derived.Deep.DeepCutAuto
import Derived.Deep.RegionHeld3
namespace Go.Proofs.Ytcnjbifdlieboaa
open Go.RowKit
set_option linter.unusedSimpArgs false
set_option linter.unusedVariables false

theorem dayB_next {y m d : Int} (h : dayB y m d = true) (h1 : dayB y m (d + 1) = true) : daysI y m (d + 1) = daysI y m d + 1 := by unfold daysI; omega
theorem dim_of {y m d : Int} (h : dayB y m d = true) (h1 : dayB y m (d + 1) = false) : d = dimI y m := by
  simp only [dayB, Bool.and_eq_true, inB_iff] at h
  obtain ⟨⟨⟨a1, a2⟩, a3, a4⟩, a5, a6⟩ := h
  have h2 : ¬ (d + 1 ≤ dimI y m) := fun h3 => by
    have : dayB y m (d + 1) = true := by simp only [dayB, Bool.and_eq_true, inB_iff]; exact ⟨⟨⟨a1, a2⟩, a3, a4⟩, by omega, h3⟩
    rw [h1] at this; cases this
  omega
theorem cum_at {y m : Int} (h1 : 1 ≤ m) : cum y m.toNat = cum y (m - 1).toNat + dimI y m := by
  obtain ⟨k, hk⟩ : ∃ k : Nat, m = (k : Int) + 1 := ⟨(m - 1).toNat, by omega⟩
  subst hk
  rw [show ((k : Int) + 1).toNat = k + 1 from by omega, show ((k : Int) + 1 - 1).toNat = k from by omega]; rfl
theorem day_month {y m d : Int} (h : dayB y m d = true) (h1 : dayB y m (d + 1) = false) (h2 : dayB y (m + 1) 1 = true) : daysI y (m + 1) 1 = daysI y m d + 1 := by
  have e := dim_of h h1
  simp only [dayB, Bool.and_eq_true, inB_iff] at h
  have c := cum_at (y := y) (m := m) h.1.2.1
  unfold daysI
  rw [show m + 1 - 1 = m from by omega, c, e]
  omega
theorem month_12 {y m d : Int} (h : dayB y m d = true) (h2 : dayB y (m + 1) 1 = false) : m = 12 := by
  simp only [dayB, Bool.and_eq_true, inB_iff] at h
  obtain ⟨⟨⟨a1, a2⟩, a3, a4⟩, a5, a6⟩ := h
  have hd := dimI_bd y (m + 1)
  have h3 : ¬ (m + 1 ≤ 12) := fun h3 => by
    have : dayB y (m + 1) 1 = true := by simp only [dayB, Bool.and_eq_true, inB_iff]; exact ⟨⟨⟨a1, a2⟩, by omega, h3⟩, by omega, by omega⟩
    rw [h2] at this; cases this
  omega
theorem day_year {y d : Int} (h : dayB y 12 d = true) (h1 : dayB y 12 (d + 1) = false) : daysI (y + 1) 1 1 = daysI y 12 d + 1 := by
  have e := dim_of h h1
  have c := cum_at (y := y) (m := 12) (by omega)
  have hs := ahead_succ y
  have c12 := cum_12 y
  have e0 : cum (y + 1) (1 - 1 : Int).toNat = 0 := rfl
  have e1 : cum y (12 : Int).toNat = cum y 12 := rfl
  unfold daysI
  rw [e0]
  omega
theorem year_9999 {y d : Int} (h : dayB y 12 d = true) (h2 : dayB (y + 1) 1 1 = false) : y = 9999 := by
  simp only [dayB, Bool.and_eq_true, inB_iff] at h
  obtain ⟨⟨⟨a1, a2⟩, a3, a4⟩, a5, a6⟩ := h
  have hd := dimI_bd (y + 1) 1
  have h3 : ¬ (y + 1 ≤ 9999) := fun h3 => by
    have : dayB (y + 1) 1 1 = true := by simp only [dayB, Bool.and_eq_true, inB_iff]; exact ⟨⟨⟨by omega, h3⟩, by omega, by omega⟩, by omega, by omega⟩
    rw [h2] at this; cases this
  omega
theorem daysR_yes {y m d : Int} (h : dayB y m d = true) : daysR y m d = (0, daysI y m d) := by simp [daysR, h]
theorem daysR_no {y m d : Int} (h : dayB y m d = false) : daysR y m d = (3, 0) := by simp [daysR, h]
theorem impl_DaysOf_yes {y m d : Int} (h : dayB y m d = true) (w : World) : Calls Try.prog 8 #[.int .i64 y, .int .i64 m, .int .i64 d] w fun e w' => e = .returned (.agg #[.int .i64 0, .int .i64 (daysI y m d)]) ∧ Below w.heap.size w w' := by
  have := impl_DaysOf y m d w; rw [daysR_yes h] at this; exact this
theorem impl_DaysOf_no {y m d : Int} (h : dayB y m d = false) (w : World) : Calls Try.prog 8 #[.int .i64 y, .int .i64 m, .int .i64 d] w fun e w' => e = .returned (.agg #[.int .i64 3, .int .i64 0]) ∧ Below w.heap.size w w' := by
  have := impl_DaysOf y m d w; rw [daysR_no h] at this; exact this
theorem spec_DaysOf_yes {y m d : Int} (h : dayB y m d = true) (w : World) : Calls Try.prog 9 #[.int .i64 y, .int .i64 m, .int .i64 d] w fun e w' => e = .returned (.agg #[.int .i64 0, .int .i64 (daysI y m d)]) ∧ Below w.heap.size w w' := by
  have := spec_DaysOf y m d w; rw [daysR_yes h] at this; exact this
theorem spec_DaysOf_no {y m d : Int} (h : dayB y m d = false) (w : World) : Calls Try.prog 9 #[.int .i64 y, .int .i64 m, .int .i64 d] w fun e w' => e = .returned (.agg #[.int .i64 3, .int .i64 0]) ∧ Below w.heap.size w w' := by
  have := spec_DaysOf y m d w; rw [daysR_no h] at this; exact this

theorem i2_of {W : World} {g : Nat} {x y : Int} {t : TypeId} (h : W.heap[g]? = some (.cells #[.int .i64 x, .int .i64 y] t (0, 0))) : (W.cell? ⟨g, 0, none⟩ = some (.int .i64 x) ∧ W.cell? ⟨g, 1, none⟩ = some (.int .i64 y)) := by constructor <;> simp [World.cell?, h]
theorem f2_of {W : World} {g : Nat} {x y : Int} {t : TypeId} (h : W.heap[g]? = some (.cells #[.int .i64 x, .int .i64 y] t (0, 0))) (k : Nat) : W.frozen? ⟨g, k, none⟩ = false := by simp [World.frozen?, h]
theorem b2_set {W : World} {g : Nat} {x y x' y' : Int} {t : TypeId} (h : W.heap[g]? = some (.cells #[.int .i64 x, .int .i64 y] t (0, 0))) : ((W.setCell ⟨g, 0, none⟩ (.int .i64 x')).setCell ⟨g, 1, none⟩ (.int .i64 y')).heap[g]? = some (.cells #[.int .i64 x', .int .i64 y'] t (0, 0)) :=
  blk_cast (blk_set (blk_set h 0 _) 1 _) rfl
set_option maxHeartbeats 3200000 in
theorem FnDays_walk (a : Option Addr) (n c : Nat) (bs : List UInt8) (hl : bs.length = n) (w : World) (hr : Rd w a (bs.map byteV)) (hn : n ≤ 9223372036854775807) : Calls Try.prog 3 #[.slice a n c] w fun e w' => e = .returned (.bool true) ∧ Below w.heap.size w w' := by
  by_cases h : n ≤ 1048576
  · go_enter Try.func3, Try.ntmps3
    go_upto_region 4 with (first
      | (go_at_call 6; ((with_reducible refine (lwBig _ _ _ _).mono ?_); rintro e w' ⟨rfl, rfl⟩))
      | (go_at_call 7; ((with_reducible refine (spec_DrawDaysOf a n c bs hl h _ (by first | (with_reducible assumption) | exact RowAt.rd (by repeat' (first | (with_reducible assumption) | (with_reducible refine RowAt.alloc ?_ _) | (with_reducible refine RowAt.drew ?_) | (with_reducible refine RowAt.other ?_ _ _ (by first | omega | (simp; done) | (simp; omega))) | refine RowAt.then ?_ (by with_reducible assumption))) | exact Rd.below (by with_reducible assumption) (by first | (with_reducible exact Below.refl _ _) | ((repeat' (first | (with_reducible exact Below.refl _ _) | (with_reducible assumption) | (with_reducible refine below_alloc ?_ _) | (with_reducible refine Below.drew ?_) | (with_reducible refine below_drewN ?_ _) | (with_reducible refine Below.setCell ?_ ?_ _) | refine below_then ?_ (by with_reducible assumption))) <;> (first | omega | (simp; done) | (simp; omega)))))).mono ?_); rintro e w1 ⟨y, m, d, rfl, hb⟩; have hbA := hb)))
    all_goals (try (go_ret; exact ⟨by first | rfl | (simp [*]; done) | (simp [*]; omega), by first | (with_reducible rfl) | exact (by first | (with_reducible exact Below.refl _ _) | ((repeat' (first | (with_reducible exact Below.refl _ _) | (with_reducible assumption) | (with_reducible refine below_alloc ?_ _) | (with_reducible refine Below.drew ?_) | (with_reducible refine below_drewN ?_ _) | (with_reducible refine Below.setCell ?_ ?_ _) | refine below_then ?_ (by with_reducible assumption))) <;> (first | omega | (simp; done) | (simp; omega))))⟩))
    by_cases hd : dayB y m d = true
    · have hbd := daysI_bd hd
      obtain ⟨⟨y1, y2⟩, ⟨m1, m2⟩, d1, d2⟩ := dayB_bd hd
      have Hd := Lib.hid hd
      clear hd
      go_upto_region 5 with ((go_at_call 8; ((with_reducible refine (impl_DaysOf_yes Hd.out _).mono ?_); rintro e w2 ⟨rfl, hb⟩; obtain ⟨hc, hf⟩ := bcell hb; have hz := hb.size; (try simp only [World.size_alloc, World.size_setCell, World.size_drew] at hz); obtain ⟨hlt, hle, hn1, hn2, hn3, hn4⟩ := bsize hb; (try simp only [World.size_alloc, World.size_setCell, World.size_drew] at hlt hle hn1 hn2 hn3 hn4); (try have hr0 : w.heap.size < w2.heap.size := by omega); (try have hr1 : w.heap.size + 1 < w2.heap.size := by omega); (try have hs0 : wS.heap.size < w2.heap.size := by omega); (try have hs1 : wG.heap.size < w2.heap.size := by omega))); have hbB := hb)
      have hS : ∀ W, Below ((w2.alloc (.cells #[.int .i64 0, .int .i64 (daysI y m d)] 27))).heap.size ((w2.alloc (.cells #[.int .i64 0, .int .i64 (daysI y m d)] 27))) W → W.heap[w2.heap.size]? = some (.cells #[.int .i64 0, .int .i64 (daysI y m d)] 27 (0, 0)) := fun W hb => (by repeat' (first | (with_reducible assumption) | (with_reducible exact blk_new _ _) | (with_reducible apply blk_set) | (with_reducible refine blk_alloc ?_ _) | (with_reducible refine blk_drew ?_) | refine blk_then ?_ (by with_reducible assumption)))
      have HS := Lib.hid hS
      clear hS
      go_cut [25] (fun s25 wx => s25 = .bool false ∧ Below ((w2.alloc (.cells #[.int .i64 0, .int .i64 (daysI y m d)] 27))).heap.size ((w2.alloc (.cells #[.int .i64 0, .int .i64 (daysI y m d)] 27))) wx)
      case first =>
        go_region_held3 (fun W => (W.cell? ⟨w2.heap.size, 0, none⟩ = some (.int .i64 0) ∧ W.cell? ⟨w2.heap.size, 1, none⟩ = some (.int .i64 (daysI y m d)))) (first | (exact i2_of (HS.out _ (by first | (with_reducible exact Below.refl _ _) | ((repeat' (first | (with_reducible exact Below.refl _ _) | (with_reducible assumption) | (with_reducible refine below_alloc ?_ _) | (with_reducible refine Below.drew ?_) | (with_reducible refine below_drewN ?_ _) | (with_reducible refine Below.setCell ?_ ?_ _) | refine below_then ?_ (by with_reducible assumption))) <;> (first | omega | (simp; done) | (simp; omega)))))) | go_keep) (first | (go_at_call 9; ((with_reducible refine (spec_DaysOf_yes Hd.out _).mono ?_); rintro e w' ⟨rfl, hb⟩; obtain ⟨hc, hf⟩ := bcell hb; have hz := hb.size; (try simp only [World.size_alloc, World.size_setCell, World.size_drew] at hz); obtain ⟨hlt, hle, hn1, hn2, hn3, hn4⟩ := bsize hb; (try simp only [World.size_alloc, World.size_setCell, World.size_drew] at hlt hle hn1 hn2 hn3 hn4); (try have hr0 : w.heap.size < w'.heap.size := by omega); (try have hr1 : w.heap.size + 1 < w'.heap.size := by omega); (try have hs0 : wS.heap.size < w'.heap.size := by omega); (try have hs1 : wG.heap.size < w'.heap.size := by omega))))
        all_goals (go_wp2_with fail; go_meet; exact ⟨rfl, (by first | (with_reducible exact Below.refl _ _) | ((repeat' (first | (with_reducible exact Below.refl _ _) | (with_reducible assumption) | (with_reducible refine below_alloc ?_ _) | (with_reducible refine Below.drew ?_) | (with_reducible refine below_drewN ?_ _) | (with_reducible refine Below.setCell ?_ ?_ _) | refine below_then ?_ (by with_reducible assumption))) <;> (first | omega | (simp; done) | (simp; omega))))⟩)
      case rest =>
        obtain ⟨rfl, hb⟩ := hcut
        have xc := HS.out wc hb
        obtain ⟨ic0, ic1⟩ := i2_of xc
        have Xc := Lib.hid xc
        have bel0 : Below w.heap.size w wc := (by first | (with_reducible exact Below.refl _ _) | ((repeat' (first | (with_reducible exact Below.refl _ _) | (with_reducible assumption) | (with_reducible refine below_alloc ?_ _) | (with_reducible refine Below.drew ?_) | (with_reducible refine below_drewN ?_ _) | (with_reducible refine Below.setCell ?_ ?_ _) | refine below_then ?_ (by with_reducible assumption))) <;> (first | omega | (simp; done) | (simp; omega))))
        clear xc hb hbA hbB HS
        have z0 := bel0.size
        by_cases h1 : dayB y m (d + 1) = true
        · have e1 : (daysI y m (d + 1) == daysI y m d + 1) = true := by rw [dayB_next Hd.out h1]; simp
          have H1 := Lib.hid h1
          clear h1
          go_wp2_with (go_at_call 8; ((with_reducible refine (impl_DaysOf_yes H1.out _).mono ?_); rintro e w3 ⟨rfl, hb1⟩; have z1 := hb1.size; have x1 := blk_then Xc.out hb1; have g1 : w2.heap.size < w3.heap.size := (Array.getElem?_eq_some_iff.1 x1).1; have ne1 : (w2.heap.size = w3.heap.size) = False := eq_false (by omega); have ne2 : (w3.heap.size = w2.heap.size) = False := eq_false (by omega); obtain ⟨i10, i11⟩ := i2_of x1; have X1 := Lib.hid x1; clear x1))
          all_goals (go_ret; exact ⟨by first | rfl | (simp [*]; done) | (simp [*]; omega), (by first | (with_reducible exact Below.refl _ _) | ((repeat' (first | (with_reducible exact Below.refl _ _) | (with_reducible assumption) | (with_reducible refine below_alloc ?_ _) | (with_reducible refine Below.drew ?_) | (with_reducible refine below_drewN ?_ _) | (with_reducible refine Below.setCell ?_ ?_ _) | refine below_then ?_ (by with_reducible assumption))) <;> (first | omega | (simp; done) | (simp; omega))))⟩)
        · simp only [Bool.not_eq_true] at h1
          have H1 := Lib.hid h1
          clear h1
          by_cases h2 : dayB y (m + 1) 1 = true
          · have e1 : (daysI y (m + 1) 1 == daysI y m d + 1) = true := by rw [day_month Hd.out H1.out h2]; simp
            have H2 := Lib.hid h2
            clear h2
            go_wp2_with (first | (go_at_call 8; ((with_reducible refine (impl_DaysOf_yes H2.out _).mono ?_); rintro e w4 ⟨rfl, hb2⟩; have x1 := blk_then (blk_alloc X1.out _) hb2; have x2 := blk_then (blk_new w3 _) hb2; obtain ⟨i20, i21⟩ := i2_of x1; obtain ⟨i30, i31⟩ := i2_of x2; have f4 := f2_of x2; have X4 := Lib.hid x1; have X5 := Lib.hid x2; clear x1 x2)) | (go_at_call 8; ((with_reducible refine (impl_DaysOf_no H1.out _).mono ?_); rintro e w3 ⟨rfl, hb1⟩; have z1 := hb1.size; have x1 := blk_then Xc.out hb1; have g1 : w2.heap.size < w3.heap.size := (Array.getElem?_eq_some_iff.1 x1).1; have ne1 : (w2.heap.size = w3.heap.size) = False := eq_false (by omega); have ne2 : (w3.heap.size = w2.heap.size) = False := eq_false (by omega); obtain ⟨i10, i11⟩ := i2_of x1; have X1 := Lib.hid x1; clear x1)))
            all_goals (go_ret; exact ⟨by first | rfl | (simp [*]; done) | (simp [*]; omega), (by first | (with_reducible exact Below.refl _ _) | ((repeat' (first | (with_reducible exact Below.refl _ _) | (with_reducible assumption) | (with_reducible refine below_alloc ?_ _) | (with_reducible refine Below.drew ?_) | (with_reducible refine below_drewN ?_ _) | (with_reducible refine Below.setCell ?_ ?_ _) | refine below_then ?_ (by with_reducible assumption))) <;> (first | omega | (simp; done) | (simp; omega))))⟩)
          · simp only [Bool.not_eq_true] at h2
            obtain rfl := month_12 Hd.out h2
            have H2 := Lib.hid (show dayB y 13 1 = false from h2)
            clear h2
            by_cases h3 : dayB (y + 1) 1 1 = true
            · have e1 : (daysI (y + 1) 1 1 == daysI y 12 d + 1) = true := by rw [day_year Hd.out H1.out]; simp
              have H3 := Lib.hid h3
              clear h3
              go_wp2_with (first | (go_at_call 8; ((with_reducible refine (impl_DaysOf_yes H3.out _).mono ?_); rintro e w5 ⟨rfl, hb3⟩; have x1 := blk_then (blk_oth (blk_oth X4.out _ _ _ (by omega)) _ _ _ (by omega)) hb3; have x2 := blk_then (b2_set X5.out) hb3; obtain ⟨i40, i41⟩ := i2_of x1; obtain ⟨i50, i51⟩ := i2_of x2; have f5 := f2_of x2; clear x1 x2)) | (go_at_call 8; ((with_reducible refine (impl_DaysOf_no H2.out _).mono ?_); rintro e w4 ⟨rfl, hb2⟩; have x1 := blk_then (blk_alloc X1.out _) hb2; have x2 := blk_then (blk_new w3 _) hb2; obtain ⟨i20, i21⟩ := i2_of x1; obtain ⟨i30, i31⟩ := i2_of x2; have f4 := f2_of x2; have X4 := Lib.hid x1; have X5 := Lib.hid x2; clear x1 x2)) | (go_at_call 8; ((with_reducible refine (impl_DaysOf_no H1.out _).mono ?_); rintro e w3 ⟨rfl, hb1⟩; have z1 := hb1.size; have x1 := blk_then Xc.out hb1; have g1 : w2.heap.size < w3.heap.size := (Array.getElem?_eq_some_iff.1 x1).1; have ne1 : (w2.heap.size = w3.heap.size) = False := eq_false (by omega); have ne2 : (w3.heap.size = w2.heap.size) = False := eq_false (by omega); obtain ⟨i10, i11⟩ := i2_of x1; have X1 := Lib.hid x1; clear x1)))
              all_goals (go_ret; exact ⟨by first | rfl | (simp [*]; done) | (simp [*]; omega), (by first | (with_reducible exact Below.refl _ _) | ((repeat' (first | (with_reducible exact Below.refl _ _) | (with_reducible assumption) | (with_reducible refine below_alloc ?_ _) | (with_reducible refine Below.drew ?_) | (with_reducible refine below_drewN ?_ _) | (with_reducible refine Below.setCell ?_ ?_ _) | refine below_then ?_ (by with_reducible assumption))) <;> (first | omega | (simp; done) | (simp; omega))))⟩)
            · simp only [Bool.not_eq_true] at h3
              obtain rfl := year_9999 Hd.out h3
              obtain rfl : d = 31 := dim_of Hd.out H1.out
              have H3 := Lib.hid (show dayB 10000 1 1 = false from h3)
              have H1 := Lib.hid (show dayB 9999 12 32 = false from H1.out)
              clear h3
              go_wp2_with (first | (go_at_call 8; ((with_reducible refine (impl_DaysOf_no H3.out _).mono ?_); rintro e w5 ⟨rfl, hb3⟩; have x1 := blk_then (blk_oth (blk_oth X4.out _ _ _ (by omega)) _ _ _ (by omega)) hb3; have x2 := blk_then (b2_set X5.out) hb3; obtain ⟨i40, i41⟩ := i2_of x1; obtain ⟨i50, i51⟩ := i2_of x2; have f5 := f2_of x2; clear x1 x2)) | (go_at_call 8; ((with_reducible refine (impl_DaysOf_no H2.out _).mono ?_); rintro e w4 ⟨rfl, hb2⟩; have x1 := blk_then (blk_alloc X1.out _) hb2; have x2 := blk_then (blk_new w3 _) hb2; obtain ⟨i20, i21⟩ := i2_of x1; obtain ⟨i30, i31⟩ := i2_of x2; have f4 := f2_of x2; have X4 := Lib.hid x1; have X5 := Lib.hid x2; clear x1 x2)) | (go_at_call 8; ((with_reducible refine (impl_DaysOf_no H1.out _).mono ?_); rintro e w3 ⟨rfl, hb1⟩; have z1 := hb1.size; have x1 := blk_then Xc.out hb1; have g1 : w2.heap.size < w3.heap.size := (Array.getElem?_eq_some_iff.1 x1).1; have ne1 : (w2.heap.size = w3.heap.size) = False := eq_false (by omega); have ne2 : (w3.heap.size = w2.heap.size) = False := eq_false (by omega); obtain ⟨i10, i11⟩ := i2_of x1; have X1 := Lib.hid x1; clear x1)))
              all_goals (go_ret; exact ⟨by first | rfl | (simp [*]; done) | (simp [*]; omega), (by first | (with_reducible exact Below.refl _ _) | ((repeat' (first | (with_reducible exact Below.refl _ _) | (with_reducible assumption) | (with_reducible refine below_alloc ?_ _) | (with_reducible refine Below.drew ?_) | (with_reducible refine below_drewN ?_ _) | (with_reducible refine Below.setCell ?_ ?_ _) | refine below_then ?_ (by with_reducible assumption))) <;> (first | omega | (simp; done) | (simp; omega))))⟩)
    · simp only [Bool.not_eq_true] at hd
      have Hd := Lib.hid hd
      clear hd
      go_upto_region 5 with ((go_at_call 8; ((with_reducible refine (impl_DaysOf_no Hd.out _).mono ?_); rintro e w2 ⟨rfl, hb⟩; obtain ⟨hc, hf⟩ := bcell hb; have hz := hb.size; (try simp only [World.size_alloc, World.size_setCell, World.size_drew] at hz); obtain ⟨hlt, hle, hn1, hn2, hn3, hn4⟩ := bsize hb; (try simp only [World.size_alloc, World.size_setCell, World.size_drew] at hlt hle hn1 hn2 hn3 hn4); (try have hr0 : w.heap.size < w2.heap.size := by omega); (try have hr1 : w.heap.size + 1 < w2.heap.size := by omega); (try have hs0 : wS.heap.size < w2.heap.size := by omega); (try have hs1 : wG.heap.size < w2.heap.size := by omega))); have hbB := hb)
      have hS : ∀ W, Below ((w2.alloc (.cells #[.int .i64 3, .int .i64 0] 27))).heap.size ((w2.alloc (.cells #[.int .i64 3, .int .i64 0] 27))) W → W.heap[w2.heap.size]? = some (.cells #[.int .i64 3, .int .i64 0] 27 (0, 0)) := fun W hb => (by repeat' (first | (with_reducible assumption) | (with_reducible exact blk_new _ _) | (with_reducible apply blk_set) | (with_reducible refine blk_alloc ?_ _) | (with_reducible refine blk_drew ?_) | refine blk_then ?_ (by with_reducible assumption)))
      have HS := Lib.hid hS
      clear hS
      go_cut [25] (fun s25 wx => s25 = .bool false ∧ Below ((w2.alloc (.cells #[.int .i64 3, .int .i64 0] 27))).heap.size ((w2.alloc (.cells #[.int .i64 3, .int .i64 0] 27))) wx)
      case first =>
        go_region_held3 (fun W => (W.cell? ⟨w2.heap.size, 0, none⟩ = some (.int .i64 3) ∧ W.cell? ⟨w2.heap.size, 1, none⟩ = some (.int .i64 0))) (first | (exact i2_of (HS.out _ (by first | (with_reducible exact Below.refl _ _) | ((repeat' (first | (with_reducible exact Below.refl _ _) | (with_reducible assumption) | (with_reducible refine below_alloc ?_ _) | (with_reducible refine Below.drew ?_) | (with_reducible refine below_drewN ?_ _) | (with_reducible refine Below.setCell ?_ ?_ _) | refine below_then ?_ (by with_reducible assumption))) <;> (first | omega | (simp; done) | (simp; omega)))))) | go_keep) (first | (go_at_call 9; ((with_reducible refine (spec_DaysOf_no Hd.out _).mono ?_); rintro e w' ⟨rfl, hb⟩; obtain ⟨hc, hf⟩ := bcell hb; have hz := hb.size; (try simp only [World.size_alloc, World.size_setCell, World.size_drew] at hz); obtain ⟨hlt, hle, hn1, hn2, hn3, hn4⟩ := bsize hb; (try simp only [World.size_alloc, World.size_setCell, World.size_drew] at hlt hle hn1 hn2 hn3 hn4); (try have hr0 : w.heap.size < w'.heap.size := by omega); (try have hr1 : w.heap.size + 1 < w'.heap.size := by omega); (try have hs0 : wS.heap.size < w'.heap.size := by omega); (try have hs1 : wG.heap.size < w'.heap.size := by omega))))
        all_goals (go_wp2_with fail; go_meet; exact ⟨rfl, (by first | (with_reducible exact Below.refl _ _) | ((repeat' (first | (with_reducible exact Below.refl _ _) | (with_reducible assumption) | (with_reducible refine below_alloc ?_ _) | (with_reducible refine Below.drew ?_) | (with_reducible refine below_drewN ?_ _) | (with_reducible refine Below.setCell ?_ ?_ _) | refine below_then ?_ (by with_reducible assumption))) <;> (first | omega | (simp; done) | (simp; omega))))⟩)
      case rest =>
        obtain ⟨rfl, hb⟩ := hcut
        obtain ⟨ic0, ic1⟩ := i2_of (HS.out wc hb)
        go_wp2
        all_goals (go_ret; exact ⟨by first | rfl | (simp [*]; done) | (simp [*]; omega), by first | (with_reducible rfl) | exact (by first | (with_reducible exact Below.refl _ _) | ((repeat' (first | (with_reducible exact Below.refl _ _) | (with_reducible assumption) | (with_reducible refine below_alloc ?_ _) | (with_reducible refine Below.drew ?_) | (with_reducible refine below_drewN ?_ _) | (with_reducible refine Below.setCell ?_ ?_ _) | refine below_then ?_ (by with_reducible assumption))) <;> (first | omega | (simp; done) | (simp; omega))))⟩)
  · go_enter Try.func3, Try.ntmps3
    go_wp2_with (go_at_call 6; ((with_reducible refine (lwBig _ _ _ _).mono ?_); rintro e w' ⟨rfl, rfl⟩))
    all_goals (go_ret; exact ⟨by first | rfl | (simp [*]; done) | (simp [*]; omega), by first | (with_reducible rfl) | exact (by first | (with_reducible exact Below.refl _ _) | ((repeat' (first | (with_reducible exact Below.refl _ _) | (with_reducible assumption) | (with_reducible refine below_alloc ?_ _) | (with_reducible refine Below.drew ?_) | (with_reducible refine below_drewN ?_ _) | (with_reducible refine Below.setCell ?_ ?_ _) | refine below_then ?_ (by with_reducible assumption))) <;> (first | omega | (simp; done) | (simp; omega))))⟩)
end Go.Proofs.Ytcnjbifdlieboaa
