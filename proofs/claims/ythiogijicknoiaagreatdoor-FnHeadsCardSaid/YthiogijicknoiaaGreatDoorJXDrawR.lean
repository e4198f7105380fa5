/- Joined: DrawR. -/
import Derived.Test.YthiogijicknoiaaGreatDoorJXDrawK
import Derived.Test.YthiogijicknoiaaGreatDoorJB15
import Derived.Deep.RegionHeld3
/- What is drawn for head lines: the rows, and a text of them. -/
namespace Go.Proofs.YthiogijicknoiaaGreatDoor
open Go.RowKit
set_option linter.unusedSimpArgs false
set_option linter.unusedVariables false
set_option maxRecDepth 100000

theorem packB_size2 {l : List Hd} (k : Nat) (hl : l.length ≤ 201) (hs : SmH 210 l) : (packB (l.take k)).size ≤ 85224 := by
  have h1 := packL_len 420 (l.take k) fun h hh => by have := hs h (List.mem_of_mem_take hh); omega
  have h2 := List.length_take_le' k l
  have h3 : (packB (l.take k)).size = (packL (l.take k)).length := by simp [packB, ByteArray.size]
  have h4 := Nat.mul_le_mul_right (420 + 4) (show (l.take k).length ≤ 201 by omega)
  omega
set_option maxHeartbeats 1600000 in
theorem spec_l4Pack2 (a : Option Addr) (n c : Nat) (l : List Hd) (hl : l.length = n) (w : World) (hr : Rd w a (hV l)) (hn : n ≤ 201) (hs : SmH 210 l) :
    Calls Tryz.prog 100 #[.slice a n c] w fun e w' => e = .returned (.string (packB l)) ∧ Below w.heap.size w w' := by
  have Hl := Lib.hid hl
  have Hs := Lib.hid hs
  clear hl hs
  go_enter Tryz.func100, Tryz.ntmps100
  go_wp2
  go_loopw [3, 4] (fun s i wr => ∃ k : Nat, k ≤ n ∧ i = .int .i64 (k : Int) ∧ s = .string (packB (l.take k)) ∧ Below w.heap.size w wr) (fun _ i _ => n - (intOf i).toNat)
  case atStart => exact ⟨0, Nat.zero_le _, rfl, rfl, Below.refl _ _⟩
  case round =>
    obtain ⟨k, hk, rfl, rfl, hb⟩ := hrel
    by_cases hlt : k < n
    · have hlk : k < l.length := by rw [Hl.out]; exact hlt
      obtain ⟨bb, off, rfl, hbl, hc0, hc1⟩ := (hr.below hb).hdr k hlk
      obtain ⟨hs1, hs2⟩ := Hs.out l[k] (List.getElem_mem hlk)
      have hpz := packB_size2 (l := l) k (by have := Hl.out; omega) Hs.out
      have E := Lib.hid (packB_succ l k hlk)
      go_wp2
      go_quiet (fail)
      go_wp2
      go_roundw
      case rel => exact ⟨k + 1, by omega, by go_num, by rw [E.out], below_drewN hb _⟩
      case measure => simp [intOf]; omega
    · obtain rfl : k = n := by omega
      have et : l.take k = l := List.take_of_length_le (by have := Hl.out; omega)
      have Et := Lib.hid et
      clear et
      go_wp2
      go_ret
      exact ⟨by rw [Et.out]; rfl, hb⟩
theorem rd_newd (w : World) (cur : Array Value) (e : TypeId) : Rd ((w.alloc (.cells cur e (0, 0))).drew) (some ⟨w.heap.size, 0, none⟩) cur.toList := rd_new w cur e
set_option maxHeartbeats 1600000 in
theorem spec_l4Name (G : Nat) (a : Option Addr) (n c K : Nat) (w : World) (hs : Src w G a n c K) (hK : K ≤ 900000) :
    Calls Tryz.prog 95 #[.pointer (some ⟨G, 0, none⟩)] w fun e w' => ∃ x : ByteArray, e = .returned (.string x) ∧ x.size ≤ 20 ∧ Src w' G a n c (K + 1) ∧ w.grownBy w' (some G) := by
  have hG := hs.lt
  go_enter Tryz.func95, Tryz.ntmps95
  go_wp2_with (go_at_call 56; ((with_reducible refine (spec_l1Word (fun x => x.size ≤ 20) G a n c K _ 10 _ _ rfl (by omega) (by omega) (strs_small _ _ (by kernel_rfl)) _ (by repeat' (first | (with_reducible assumption) | (with_reducible refine Src.alloc ?_ _) | (with_reducible refine Src.drew ?_) | (with_reducible refine Src.other ?_ _ _ (by first | omega | (simp; done) | (simp; omega))) | refine Src.then ?_ (by with_reducible assumption))) (by omega) (rd_at (by first | rfl | (simp; done))) (by first | omega | (simp; omega))).mono ?_); rintro e w1 ⟨x, rfl, hx, hs1, hg1⟩))
  go_ret
  exact ⟨x, rfl, hx, hs1, by exact (by repeat' (first | (with_reducible assumption) | (with_reducible exact World.grownBy.refl _ _) | (with_reducible refine g_alloc ?_ _) | (with_reducible refine g_drew ?_) | (with_reducible refine g_drewN ?_ _) | (with_reducible refine g_set ?_ (by first | omega | (simp; done) | (simp; omega)) _) | refine g_then ?_ (by with_reducible assumption) | refine g_below ?_ (by with_reducible assumption)))⟩
set_option maxHeartbeats 6400000 in
theorem spec_DrawSetHeader (a : Option Addr) (n c : Nat) (bs : List UInt8) (hl : bs.length = n) (hn : n ≤ 1048576) (w : World) (hr : Rd w a (bs.map byteV)) :
    Calls Tryz.prog 34 #[.slice a n c] w fun e w' => ∃ (g cap : Nat) (l : List Hd) (x y : ByteArray), e = .returned (.tuple #[.slice (some ⟨g, 0, none⟩) l.length cap, .string x, .string y]) ∧ RowAt w' g (hV l) ∧ (l.length ≤ 201 ∧ SmH 210 l) ∧ (x.size ≤ 20 ∧ y.size ≤ 20) ∧ Below w.heap.size w w' := by
  have hs0 := src_start w a n c bs hl hn hr
  obtain ⟨hG1, hG2⟩ := gstart hs0.lt
  go_enter Tryz.func34, Tryz.ntmps34
  go_wp2_with (first
    | (go_at_call 54; ((with_reducible refine (spec_l1Source a n c _).mono ?_); rintro e w' ⟨rfl, rfl⟩))
    | (go_at_call 94; ((with_reducible refine (spec_l4Bent w.heap.size a n c 0 _ hs0 (by omega)).mono ?_); rintro e w1 ⟨g0, cap0, l0, rfl, hg0, hV0, ⟨hl0, hsm0⟩, hs1, hg1⟩; have hgw0 : g0 ≠ w.heap.size := (by simp only [World.size_alloc] at hg0; omega); have l1 := hs1.lt))
    | (go_at_call 95; ((with_reducible refine (spec_l4Name w.heap.size a n c 1200 _ (by repeat' (first | (with_reducible assumption) | (with_reducible refine Src.alloc ?_ _) | (with_reducible refine Src.drew ?_) | (with_reducible refine Src.other ?_ _ _ (by first | omega | (simp; done) | (simp; omega))) | refine Src.then ?_ (by with_reducible assumption))) (by omega)).mono ?_); rintro e w2 ⟨x, rfl, hx, hs2, hg2⟩; have hV2 := hV0.grown hg2 hgw0; have l2 := hs2.lt))
    | (go_at_call 56; ((with_reducible refine (spec_l1Word (fun x => x.size ≤ 20) w.heap.size a n c (1201) _ 6 _ _ rfl (by omega) (by omega) (strs_small _ _ (by kernel_rfl)) _ (by repeat' (first | (with_reducible assumption) | (with_reducible refine Src.alloc ?_ _) | (with_reducible refine Src.drew ?_) | (with_reducible refine Src.other ?_ _ _ (by first | omega | (simp; done) | (simp; omega))) | refine Src.then ?_ (by with_reducible assumption))) (by omega) (rd_at (by first | rfl | (simp; done))) (by first | omega | (simp; omega))).mono ?_); rintro e w3 ⟨y, rfl, hy, hs3, hg3⟩; have hV3 := (hV2.alloc _).grown hg3 hgw0)))
  go_ret3
  exact ⟨g0, cap0, l0, x, y, rfl, hV3.row, ⟨hl0, hsm0⟩, ⟨hx, hy⟩, g_start (by repeat' (first | (with_reducible assumption) | (with_reducible exact World.grownBy.refl _ _) | (with_reducible refine g_alloc ?_ _) | (with_reducible refine g_drew ?_) | (with_reducible refine g_drewN ?_ _) | (with_reducible refine g_set ?_ (by first | omega | (simp; done) | (simp; omega)) _) | refine g_then ?_ (by with_reducible assumption) | refine g_below ?_ (by with_reducible assumption)))⟩
set_option maxHeartbeats 6400000 in
theorem spec_DrawReadHeaders (a : Option Addr) (n c : Nat) (bs : List UInt8) (hl : bs.length = n) (hn : n ≤ 1048576) (w : World) (hr : Rd w a (bs.map byteV)) :
    Calls Tryz.prog 38 #[.slice a n c] w fun e w' => ∃ r : ByteArray, e = .returned (.string r) ∧ r.size ≤ 200000 ∧ Below w.heap.size w w' := by
  have hs0 := src_start w a n c bs hl hn hr
  obtain ⟨hG1, hG2⟩ := gstart hs0.lt
  go_enter Tryz.func38, Tryz.ntmps38
  go_upto_region 3 with (first
    | (go_at_call 54; ((with_reducible refine (spec_l1Source a n c _).mono ?_); rintro e w' ⟨rfl, rfl⟩))
    | (go_at_call 94; ((with_reducible refine (spec_l4Bent w.heap.size a n c 0 _ hs0 (by omega)).mono ?_); rintro e w1 ⟨g0, cap0, l0, rfl, hg0, hV0, ⟨hl0, hsm0⟩, hs1, hg1⟩; have l1 := hs1.lt))
    | (go_at_call 100; ((with_reducible refine (spec_l4Pack2 _ _ _ l0 rfl _ hV0.row.rd hl0 hsm0).mono ?_); rintro e w2 ⟨rfl, hb2⟩; have hs2 := hs1.then hb2)))
  have ht := packB_size2 (l := l0) l0.length hl0 hsm0
  rw [List.take_length] at ht
  generalize packB l0 = t at *
  have hgx2 : ((w.alloc (.cells #[.slice a n c, .int .i64 0] 131))).grownBy w2 (some w.heap.size) := by exact (by repeat' (first | (with_reducible assumption) | (with_reducible exact World.grownBy.refl _ _) | (with_reducible refine g_alloc ?_ _) | (with_reducible refine g_drew ?_) | (with_reducible refine g_drewN ?_ _) | (with_reducible refine g_set ?_ (by first | omega | (simp; done) | (simp; omega)) _) | refine g_then ?_ (by with_reducible assumption) | refine g_below ?_ (by with_reducible assumption)))
  have l2 := hs2.lt
  clear hs0 hs1 hg1 hb2 hV0 hsm0 hl0
  by_cases ht0 : 0 < t.size
  · have hm1 : (1 : Int) ≤ (t.size : Int) := by omega
    have hm2 : (t.size : Int) ≤ 9223372036854775807 := by omega
    go_wp2_with (first
      | (go_at_call 71; ((with_reducible refine (spec_l1Next w.heap.size a n c 1200 9 (by omega) (by omega) _ hs2 (by omega)).mono ?_); rintro e w3 ⟨r, rfl, ⟨hr0, hr1⟩, hs3, hg3⟩; have l3 := hs3.lt; have hgx3 := hgx2.trans hg3))
      | (go_at_call 56; ((with_reducible refine (spec_l1Word (fun x => x.size ≤ 50) w.heap.size a n c (1201) _ 10 _ _ rfl (by omega) (by omega) (strs_small _ _ (by kernel_rfl)) _ (by repeat' (first | (with_reducible assumption) | (with_reducible refine Src.alloc ?_ _) | (with_reducible refine Src.drew ?_) | (with_reducible refine Src.other ?_ _ _ (by first | omega | (simp; done) | (simp; omega))) | refine Src.then ?_ (by with_reducible assumption))) (by omega) (rd_at (by first | rfl | (simp; done))) (by first | omega | (simp; omega))).mono ?_); rintro e w4 ⟨v4, rfl, hv4, hs4, hg4⟩))
      | (go_at_call 101; ((with_reducible refine (spec_l1Chance w.heap.size a n c (1201) _ (by omega) (by omega) _ (by repeat' (first | (with_reducible assumption) | (with_reducible refine Src.alloc ?_ _) | (with_reducible refine Src.drew ?_) | (with_reducible refine Src.other ?_ _ _ (by first | omega | (simp; done) | (simp; omega))) | refine Src.then ?_ (by with_reducible assumption))) (by omega)).mono ?_); rintro e w6 ⟨b6, rfl, hs6, hg6⟩; have hgx6 := hgx3.trans hg6; have l6 := hs6.lt))
      | (go_at_call 71; ((with_reducible refine (spec_l1Next w.heap.size a n c 1201 _ hm2 hm1 _ hs3 (by omega)).mono ?_); rintro e w5 ⟨r5, rfl, ⟨hr50, hr51⟩, hs5, hg5⟩; have l5 := hs5.lt; have hgx5 := hgx3.trans hg5)))
    · go_ret
      exact ⟨_, rfl, by omega, g_start (by repeat' (first | (with_reducible assumption) | (with_reducible exact World.grownBy.refl _ _) | (with_reducible refine g_alloc ?_ _) | (with_reducible refine g_drew ?_) | (with_reducible refine g_drewN ?_ _) | (with_reducible refine g_set ?_ (by first | omega | (simp; done) | (simp; omega)) _) | refine g_then ?_ (by with_reducible assumption) | refine g_below ?_ (by with_reducible assumption)))⟩
    · have e1 : (t.extract 0 r5.toNat).size ≤ 85224 := by rw [ByteArray.size_extract]; omega
      have e2 : (t.extract r5.toNat t.size).size ≤ 85224 := by rw [ByteArray.size_extract]; omega
      have e3 : r5 ≤ (t.size : Int) := by omega
      obtain ⟨A, eA⟩ : ∃ A, t.extract 0 r5.toNat = A := ⟨_, rfl⟩
      obtain ⟨B, eB⟩ : ∃ B, t.extract r5.toNat t.size = B := ⟨_, rfl⟩
      rw [eA] at e1
      rw [eB] at e2
      have l5d : w.heap.size < w5.drew.heap.size := l5
      go_region_held3 (fun _ => True) (first | trivial | go_keep) (first | ((go_at_call 56; ((with_reducible refine (spec_l1Word (fun x => x.size ≤ 50) w.heap.size a n c 1202 _ 4 _ _ (by kernel_rfl) (by omega) (by omega) (strs_small _ _ (by kernel_rfl)) _ ((hs5.alloc _).drew) (by omega) (rd_newd _ _ _) (by omega)).mono ?_); rintro e w7 ⟨v7, rfl, hv7, hs7, hg7⟩; have f1 : (9223372036854775807 < A.size + v7.size) = False := eq_false (by omega); have f2 : (9223372036854775807 < A.size + v7.size + B.size) = False := eq_false (by omega); have f3 : (9223372036854775807 < (A ++ v7).size + B.size) = False := eq_false (by rw [ByteArray.size_append]; omega)))))
      go_wp2_with fail
      go_ret
      exact ⟨_, rfl, by rw [ByteArray.size_append, ByteArray.size_append]; omega, g_start (by repeat' (first | (with_reducible assumption) | (with_reducible exact World.grownBy.refl _ _) | (with_reducible refine g_alloc ?_ _) | (with_reducible refine g_drew ?_) | (with_reducible refine g_drewN ?_ _) | (with_reducible refine g_set ?_ (by first | omega | (simp; done) | (simp; omega)) _) | refine g_then ?_ (by with_reducible assumption) | refine g_below ?_ (by with_reducible assumption)))⟩
    · obtain rfl : b6 = true := by assumption
      go_loopw [4] (fun v wr => ∃ s : ByteArray, v = .string s ∧ t.size ≤ s.size ∧ (s.size ≤ 6001 ∨ s = t) ∧ Src wr w.heap.size a n c (1202 + (s.size - t.size)) ∧ ((w.alloc (.cells #[.slice a n c, .int .i64 0] 131))).grownBy wr (some w.heap.size)) (fun v _ => 6001 - strZ v)
      case atStart => exact ⟨t, rfl, Nat.le_refl _, .inr rfl, by rw [Nat.sub_self]; exact hs6, hgx6⟩
      case round =>
        obtain ⟨s, rfl, hsz0, hsz1, hsr, hgr⟩ := hrel
        have lR := hsr.lt
        have hsz : s.size ≤ 85224 := by
          rcases hsz1 with h | h
          · omega
          · rw [h]; exact ht
        have hsd : s.size - t.size ≤ 6001 := by
          rcases hsz1 with h | h
          · omega
          · rw [h]; omega
        clear hsz1
        have f8 : (9223372036854775807 < s.size + (⟨#[32]⟩ : ByteArray).size) = False := eq_false (by show ¬ (_ < _ + 1); omega)
        go_wp2_with (go_at_call 55; ((with_reducible refine (spec_l1Pick (fun x => 6000 ≤ x ∧ x ≤ 6001) w.heap.size a n c (1202 + (s.size - t.size)) _ 2 _ _ rfl (by omega) (by omega) (by (simp; done)) _ (by repeat' (first | (with_reducible assumption) | (with_reducible refine Src.alloc ?_ _) | (with_reducible refine Src.drew ?_) | (with_reducible refine Src.other ?_ _ _ (by first | omega | (simp; done) | (simp; omega))) | refine Src.then ?_ (by with_reducible assumption))) (by omega) (rd_at (by first | rfl | (simp; done))) (by first | omega | (simp; omega))).mono ?_); rintro e w7 ⟨r7, rfl, ⟨hr70, hr71⟩, hs7, hg7⟩))
        · go_roundw
          case rel => exact ⟨s ++ ⟨#[32]⟩, rfl, by rw [ByteArray.size_append]; omega, .inl (by rw [ByteArray.size_append]; show _ + 1 ≤ _; omega), by rw [ByteArray.size_append]; exact hs7.mono (by show _ ≤ _ + (_ + 1 - _); omega), by exact (by repeat' (first | (with_reducible assumption) | (with_reducible exact World.grownBy.refl _ _) | (with_reducible refine g_alloc ?_ _) | (with_reducible refine g_drew ?_) | (with_reducible refine g_drewN ?_ _) | (with_reducible refine g_set ?_ (by first | omega | (simp; done) | (simp; omega)) _) | refine g_then ?_ (by with_reducible assumption) | refine g_below ?_ (by with_reducible assumption)))⟩
          case measure => (show 6001 - (s ++ _).size < 6001 - s.size; rw [ByteArray.size_append]; show 6001 - (_ + 1) < _; omega)
        · go_ret
          exact ⟨_, rfl, by omega, g_start (by repeat' (first | (with_reducible assumption) | (with_reducible exact World.grownBy.refl _ _) | (with_reducible refine g_alloc ?_ _) | (with_reducible refine g_drew ?_) | (with_reducible refine g_drewN ?_ _) | (with_reducible refine g_set ?_ (by first | omega | (simp; done) | (simp; omega)) _) | refine g_then ?_ (by with_reducible assumption) | refine g_below ?_ (by with_reducible assumption)))⟩
    · go_ret
      exact ⟨_, rfl, by omega, g_start (by repeat' (first | (with_reducible assumption) | (with_reducible exact World.grownBy.refl _ _) | (with_reducible refine g_alloc ?_ _) | (with_reducible refine g_drew ?_) | (with_reducible refine g_drewN ?_ _) | (with_reducible refine g_set ?_ (by first | omega | (simp; done) | (simp; omega)) _) | refine g_then ?_ (by with_reducible assumption) | refine g_below ?_ (by with_reducible assumption)))⟩
    · go_ret
      exact ⟨_, rfl, by omega, g_start (by repeat' (first | (with_reducible assumption) | (with_reducible exact World.grownBy.refl _ _) | (with_reducible refine g_alloc ?_ _) | (with_reducible refine g_drew ?_) | (with_reducible refine g_drewN ?_ _) | (with_reducible refine g_set ?_ (by first | omega | (simp; done) | (simp; omega)) _) | refine g_then ?_ (by with_reducible assumption) | refine g_below ?_ (by with_reducible assumption)))⟩
  · have hm1 : (t.size : Int) = 0 := by omega
    have hm2 : ¬ (0 : Int) < (t.size : Int) := by omega
    clear hm1
    go_wp2_with (first
      | (go_at_call 71; ((with_reducible refine (spec_l1Next w.heap.size a n c 1200 9 (by omega) (by omega) _ hs2 (by omega)).mono ?_); rintro e w3 ⟨r, rfl, ⟨hr0, hr1⟩, hs3, hg3⟩; have l3 := hs3.lt; have hgx3 := hgx2.trans hg3))
      | (go_at_call 56; ((with_reducible refine (spec_l1Word (fun x => x.size ≤ 50) w.heap.size a n c (1201) _ 10 _ _ rfl (by omega) (by omega) (strs_small _ _ (by kernel_rfl)) _ (by repeat' (first | (with_reducible assumption) | (with_reducible refine Src.alloc ?_ _) | (with_reducible refine Src.drew ?_) | (with_reducible refine Src.other ?_ _ _ (by first | omega | (simp; done) | (simp; omega))) | refine Src.then ?_ (by with_reducible assumption))) (by omega) (rd_at (by first | rfl | (simp; done))) (by first | omega | (simp; omega))).mono ?_); rintro e w4 ⟨v4, rfl, hv4, hs4, hg4⟩))
      | (go_at_call 101; ((with_reducible refine (spec_l1Chance w.heap.size a n c (1201) _ (by omega) (by omega) _ (by repeat' (first | (with_reducible assumption) | (with_reducible refine Src.alloc ?_ _) | (with_reducible refine Src.drew ?_) | (with_reducible refine Src.other ?_ _ _ (by first | omega | (simp; done) | (simp; omega))) | refine Src.then ?_ (by with_reducible assumption))) (by omega)).mono ?_); rintro e w6 ⟨b6, rfl, hs6, hg6⟩; have hgx6 := hgx3.trans hg6; have l6 := hs6.lt)))
    · go_ret
      exact ⟨_, rfl, by omega, g_start (by repeat' (first | (with_reducible assumption) | (with_reducible exact World.grownBy.refl _ _) | (with_reducible refine g_alloc ?_ _) | (with_reducible refine g_drew ?_) | (with_reducible refine g_drewN ?_ _) | (with_reducible refine g_set ?_ (by first | omega | (simp; done) | (simp; omega)) _) | refine g_then ?_ (by with_reducible assumption) | refine g_below ?_ (by with_reducible assumption)))⟩
    · go_ret
      exact ⟨_, rfl, by omega, g_start (by repeat' (first | (with_reducible assumption) | (with_reducible exact World.grownBy.refl _ _) | (with_reducible refine g_alloc ?_ _) | (with_reducible refine g_drew ?_) | (with_reducible refine g_drewN ?_ _) | (with_reducible refine g_set ?_ (by first | omega | (simp; done) | (simp; omega)) _) | refine g_then ?_ (by with_reducible assumption) | refine g_below ?_ (by with_reducible assumption)))⟩
    · obtain rfl : b6 = true := by assumption
      go_loopw [4] (fun v wr => ∃ s : ByteArray, v = .string s ∧ t.size ≤ s.size ∧ (s.size ≤ 6001 ∨ s = t) ∧ Src wr w.heap.size a n c (1202 + (s.size - t.size)) ∧ ((w.alloc (.cells #[.slice a n c, .int .i64 0] 131))).grownBy wr (some w.heap.size)) (fun v _ => 6001 - strZ v)
      case atStart => exact ⟨t, rfl, Nat.le_refl _, .inr rfl, by rw [Nat.sub_self]; exact hs6, hgx6⟩
      case round =>
        obtain ⟨s, rfl, hsz0, hsz1, hsr, hgr⟩ := hrel
        have lR := hsr.lt
        have hsz : s.size ≤ 85224 := by
          rcases hsz1 with h | h
          · omega
          · rw [h]; exact ht
        have hsd : s.size - t.size ≤ 6001 := by
          rcases hsz1 with h | h
          · omega
          · rw [h]; omega
        clear hsz1
        have f8 : (9223372036854775807 < s.size + (⟨#[32]⟩ : ByteArray).size) = False := eq_false (by show ¬ (_ < _ + 1); omega)
        go_wp2_with (go_at_call 55; ((with_reducible refine (spec_l1Pick (fun x => 6000 ≤ x ∧ x ≤ 6001) w.heap.size a n c (1202 + (s.size - t.size)) _ 2 _ _ rfl (by omega) (by omega) (by (simp; done)) _ (by repeat' (first | (with_reducible assumption) | (with_reducible refine Src.alloc ?_ _) | (with_reducible refine Src.drew ?_) | (with_reducible refine Src.other ?_ _ _ (by first | omega | (simp; done) | (simp; omega))) | refine Src.then ?_ (by with_reducible assumption))) (by omega) (rd_at (by first | rfl | (simp; done))) (by first | omega | (simp; omega))).mono ?_); rintro e w7 ⟨r7, rfl, ⟨hr70, hr71⟩, hs7, hg7⟩))
        · go_roundw
          case rel => exact ⟨s ++ ⟨#[32]⟩, rfl, by rw [ByteArray.size_append]; omega, .inl (by rw [ByteArray.size_append]; show _ + 1 ≤ _; omega), by rw [ByteArray.size_append]; exact hs7.mono (by show _ ≤ _ + (_ + 1 - _); omega), by exact (by repeat' (first | (with_reducible assumption) | (with_reducible exact World.grownBy.refl _ _) | (with_reducible refine g_alloc ?_ _) | (with_reducible refine g_drew ?_) | (with_reducible refine g_drewN ?_ _) | (with_reducible refine g_set ?_ (by first | omega | (simp; done) | (simp; omega)) _) | refine g_then ?_ (by with_reducible assumption) | refine g_below ?_ (by with_reducible assumption)))⟩
          case measure => (show 6001 - (s ++ _).size < 6001 - s.size; rw [ByteArray.size_append]; show 6001 - (_ + 1) < _; omega)
        · go_ret
          exact ⟨_, rfl, by omega, g_start (by repeat' (first | (with_reducible assumption) | (with_reducible exact World.grownBy.refl _ _) | (with_reducible refine g_alloc ?_ _) | (with_reducible refine g_drew ?_) | (with_reducible refine g_drewN ?_ _) | (with_reducible refine g_set ?_ (by first | omega | (simp; done) | (simp; omega)) _) | refine g_then ?_ (by with_reducible assumption) | refine g_below ?_ (by with_reducible assumption)))⟩
    · go_ret
      exact ⟨_, rfl, by omega, g_start (by repeat' (first | (with_reducible assumption) | (with_reducible exact World.grownBy.refl _ _) | (with_reducible refine g_alloc ?_ _) | (with_reducible refine g_drew ?_) | (with_reducible refine g_drewN ?_ _) | (with_reducible refine g_set ?_ (by first | omega | (simp; done) | (simp; omega)) _) | refine g_then ?_ (by with_reducible assumption) | refine g_below ?_ (by with_reducible assumption)))⟩
    · go_ret
      exact ⟨_, rfl, by omega, g_start (by repeat' (first | (with_reducible assumption) | (with_reducible exact World.grownBy.refl _ _) | (with_reducible refine g_alloc ?_ _) | (with_reducible refine g_drew ?_) | (with_reducible refine g_drewN ?_ _) | (with_reducible refine g_set ?_ (by first | omega | (simp; done) | (simp; omega)) _) | refine g_then ?_ (by with_reducible assumption) | refine g_below ?_ (by with_reducible assumption)))⟩
end Go.Proofs.YthiogijicknoiaaGreatDoor
