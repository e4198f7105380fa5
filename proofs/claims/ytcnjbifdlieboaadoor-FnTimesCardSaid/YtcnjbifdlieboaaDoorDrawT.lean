/- What is drawn for times and numbers. -/
import Derived.Test.YtcnjbifdlieboaaDoorDraw
namespace Go.Proofs.YtcnjbifdlieboaaDoor
open Go.RowKit
set_option linter.unusedSimpArgs false
set_option linter.unusedVariables false

def Tm (x : Int) : Prop := -1 ≤ x ∧ x ≤ 1000000000000001
set_option maxHeartbeats 800000 in
theorem spec_l1DrawTime (G : Nat) (a : Option Addr) (n c K : Nat) (w : World) (hs : Src w G a n c K) (hK : K ≤ 900000) :
    Calls Tryd.prog 68 #[.pointer (some ⟨G, 0, none⟩)] w fun e w' => ∃ r : Int, e = .returned (.int .i64 r) ∧ Tm r ∧ Src w' G a n c (K + 3) ∧ w.grownBy w' (some G) := by
  go_enter Tryd.func68, Tryd.ntmps68
  go_wp2_with (first
    | (go_at_call 67; ((with_reducible refine (spec_l1Pick Tm G a n c (K + 1 + 1) _ 9 _ _ rfl (by omega) (by omega) (by simp [Tm]; omega) _ (hs2.alloc _) (by omega) (rd_at rfl) (by have := hs2.lt; omega)).mono ?_); rintro e w' ⟨r3, rfl, hr3, hs3, hg3⟩))
    | (go_at_call 122; ((with_reducible refine (spec_l1Next G a n c (K + 1) _ (by omega) (by omega) _ hs1 (by omega)).mono ?_); rintro e w' ⟨r2, rfl, ⟨hr2, hr2'⟩, hs2, hg2⟩))
    | (go_at_call 122; ((with_reducible refine (spec_l1Next G a n c K _ (by omega) (by omega) _ hs (by omega)).mono ?_); rintro e w' ⟨r1, rfl, ⟨hr1, hr1'⟩, hs1, hg1⟩)))
  all_goals (go_ret; exact ⟨_, rfl, hr3, hs3, by exact (by repeat' (first | (with_reducible assumption) | (with_reducible exact World.grownBy.refl _ _) | (with_reducible refine g_alloc ?_ _) | (with_reducible refine g_drew ?_) | (with_reducible refine g_drewN ?_ _) | (with_reducible refine g_set ?_ (by first | omega | (simp; done) | (simp; omega)) _) | refine g_then ?_ (by with_reducible assumption) | refine g_below ?_ (by with_reducible assumption)))⟩)
set_option maxHeartbeats 1600000 in
theorem spec_DrawNumberText (a : Option Addr) (n c : Nat) (bs : List UInt8) (hl : bs.length = n) (hn : n ≤ 1048576) (w : World) (hr : Rd w a (bs.map byteV)) :
    Calls Tryd.prog 25 #[.slice a n c] w fun e w' => ∃ r : Int, e = .returned (.int .i64 r) ∧ Tm r ∧ Below w.heap.size w w' := by
  have hs0 := src_start w a n c bs hl hn hr
  obtain ⟨hG1, hG2⟩ := gstart hs0.lt
  go_enter Tryd.func25, Tryd.ntmps25
  go_wp2_with (first
    | (go_at_call 66; ((with_reducible refine (spec_l1Source a n c _).mono ?_); rintro e w' ⟨rfl, rfl⟩))
    | (go_at_call 68; ((with_reducible refine (spec_l1DrawTime w.heap.size a n c 0 _ hs0 (by omega)).mono ?_); rintro e w' ⟨r1, rfl, h1, hs1, hg1⟩; unfold Tm at h1))
    | (go_at_call 68; ((with_reducible refine (spec_l1DrawTime w.heap.size a n c 3 _ hs1 (by omega)).mono ?_); rintro e w' ⟨r2, rfl, h2, hs2, hg2⟩; unfold Tm at h2))
    | (go_at_call 68; ((with_reducible refine (spec_l1DrawTime w.heap.size a n c 6 _ hs2 (by omega)).mono ?_); rintro e w' ⟨r3, rfl, h3, hs3, hg3⟩; unfold Tm at h3))
    | (go_at_call 67; ((with_reducible refine (spec_l1Pick Tm w.heap.size a n c 9 _ 5 _ _ rfl (by omega) (by omega) (by simp [Tm]; omega) _ (hs3.alloc _) (by omega) (rd_at rfl) (by have := hs3.lt; omega)).mono ?_); rintro e w' ⟨r4, rfl, h4, hs4, hg4⟩)))
  all_goals (go_ret; exact ⟨_, rfl, h4, g_start (by repeat' (first | (with_reducible assumption) | (with_reducible exact World.grownBy.refl _ _) | (with_reducible refine g_alloc ?_ _) | (with_reducible refine g_drew ?_) | (with_reducible refine g_drewN ?_ _) | (with_reducible refine g_set ?_ (by first | omega | (simp; done) | (simp; omega)) _) | refine g_then ?_ (by with_reducible assumption) | refine g_below ?_ (by with_reducible assumption)))⟩)
set_option maxHeartbeats 3200000 in
theorem spec_DrawAddTime (a : Option Addr) (n c : Nat) (bs : List UInt8) (hl : bs.length = n) (hn : n ≤ 1048576) (w : World) (hr : Rd w a (bs.map byteV)) :
    Calls Tryd.prog 20 #[.slice a n c] w fun e w' => ∃ x y : Int, e = .returned (.tuple #[.int .i64 x, .int .i64 y]) ∧ (Tm x ∧ Tm y) ∧ Below w.heap.size w w' := by
  have hs0 := src_start w a n c bs hl hn hr
  obtain ⟨hG1, hG2⟩ := gstart hs0.lt
  go_enter Tryd.func20, Tryd.ntmps20
  go_wp2_with (first
    | (go_at_call 66; ((with_reducible refine (spec_l1Source a n c _).mono ?_); rintro e w' ⟨rfl, rfl⟩))
    | (go_at_call 68; ((with_reducible refine (spec_l1DrawTime w.heap.size a n c 0 _ hs0 (by omega)).mono ?_); rintro e w' ⟨r1, rfl, h1, hs1, hg1⟩; unfold Tm at h1))
    | (go_at_call 68; ((with_reducible refine (spec_l1DrawTime w.heap.size a n c 3 _ hs1 (by omega)).mono ?_); rintro e w' ⟨r2, rfl, h2, hs2, hg2⟩; unfold Tm at h2))
    | (go_at_call 68; ((with_reducible refine (spec_l1DrawTime w.heap.size a n c 6 _ hs2 (by omega)).mono ?_); rintro e w' ⟨r3, rfl, h3, hs3, hg3⟩; unfold Tm at h3))
    | (go_at_call 68; ((with_reducible refine (spec_l1DrawTime w.heap.size a n c 9 _ hs3 (by omega)).mono ?_); rintro e w' ⟨r4, rfl, h4, hs4, hg4⟩; unfold Tm at h4))
    | (go_at_call 67; ((with_reducible refine (spec_l1Pick Tm w.heap.size a n c 12 _ 6 _ _ rfl (by omega) (by omega) (by simp [Tm]; omega) _ (hs4.alloc _) (by omega) (rd_at rfl) (by have := hs4.lt; omega)).mono ?_); rintro e w' ⟨r5, rfl, h5, hs5, hg5⟩))
    | (go_at_call 68; ((with_reducible refine (spec_l1DrawTime w.heap.size a n c 13 _ hs5 (by omega)).mono ?_); rintro e w' ⟨r6, rfl, h6, hs6, hg6⟩; unfold Tm at h6))
    | (go_at_call 68; ((with_reducible refine (spec_l1DrawTime w.heap.size a n c 16 _ hs6 (by omega)).mono ?_); rintro e w' ⟨r7, rfl, h7, hs7, hg7⟩; unfold Tm at h7))
    | (go_at_call 68; ((with_reducible refine (spec_l1DrawTime w.heap.size a n c 19 _ hs7 (by omega)).mono ?_); rintro e w' ⟨r8, rfl, h8, hs8, hg8⟩; unfold Tm at h8))
    | (go_at_call 67; ((with_reducible refine (spec_l1Pick Tm w.heap.size a n c 22 _ 4 _ _ rfl (by omega) (by omega) (by simp [Tm]; omega) _ (hs8.alloc _) (by omega) (rd_at rfl) (by have := hs8.lt; omega)).mono ?_); rintro e w' ⟨r9, rfl, h9, hs9, hg9⟩)))
  all_goals (go_ret2; exact ⟨_, _, rfl, ⟨h5, h9⟩, g_start (by repeat' (first | (with_reducible assumption) | (with_reducible exact World.grownBy.refl _ _) | (with_reducible refine g_alloc ?_ _) | (with_reducible refine g_drew ?_) | (with_reducible refine g_drewN ?_ _) | (with_reducible refine g_set ?_ (by first | omega | (simp; done) | (simp; omega)) _) | refine g_then ?_ (by with_reducible assumption) | refine g_below ?_ (by with_reducible assumption)))⟩)
set_option maxHeartbeats 1600000 in
set_option maxRecDepth 100000 in
theorem spec_DrawDeltaOf (a : Option Addr) (n c : Nat) (bs : List UInt8) (hl : bs.length = n) (hn : n ≤ 1048576) (w : World) (hr : Rd w a (bs.map byteV)) :
    Calls Tryd.prog 23 #[.slice a n c] w fun e w' => ∃ r : ByteArray, e = .returned (.string r) ∧ r.size ≤ 65 ∧ Below w.heap.size w w' := by
  have hs0 := src_start w a n c bs hl hn hr
  obtain ⟨hG1, hG2⟩ := gstart hs0.lt
  go_enter Tryd.func23, Tryd.ntmps23
  go_wp2_with (first
    | (go_at_call 66; ((with_reducible refine (spec_l1Source a n c _).mono ?_); rintro e w' ⟨rfl, rfl⟩))
    | (go_at_call 70; ((with_reducible refine (spec_l1Word (fun x => x.size ≤ 30) w.heap.size a n c 0 _ 12 _ _ rfl (by omega) (by omega) (strs_small _ _ (by kernel_rfl)) _ (by repeat' (first | (with_reducible assumption) | (with_reducible refine Src.alloc ?_ _) | (with_reducible refine Src.drew ?_) | (with_reducible refine Src.other ?_ _ _ (by first | omega | (simp; done) | (simp; omega))) | refine Src.then ?_ (by with_reducible assumption))) (by omega) (rd_at (by simp)) (by simp)).mono ?_); rintro e w' ⟨t, rfl, ht, hs2, hg2⟩))
    | (go_at_call 71; ((with_reducible refine (spec_l1Chance w.heap.size a n c 1 _ (by omega) (by omega) _ (by repeat' (first | (with_reducible assumption) | (with_reducible refine Src.alloc ?_ _) | (with_reducible refine Src.drew ?_) | (with_reducible refine Src.other ?_ _ _ (by first | omega | (simp; done) | (simp; omega))) | refine Src.then ?_ (by with_reducible assumption))) (by omega)).mono ?_); rintro e w3 ⟨b, rfl, hs3, hg3⟩)))
  · rename_i hbt
    subst hbt
    go_loopw [4] (fun v wr => ∃ s : ByteArray, v = .string s ∧ t.size ≤ s.size ∧ s.size ≤ 65 ∧ Src wr w.heap.size a n c (2 + (s.size - t.size)) ∧ w3.grownBy wr (some w.heap.size)) (fun v _ => 65 - strZ v)
    case atStart => exact ⟨t, rfl, Nat.le_refl _, by omega, by rw [Nat.sub_self]; exact hs3, World.grownBy.refl _ _⟩
    case round =>
      obtain ⟨s, rfl, hz0, hz1, hsr, hgr⟩ := hrel
      have hGr := hsr.lt
      go_wp2_with (go_at_call 67; ((with_reducible refine (spec_l1Pick (fun x => x ≤ 65) w.heap.size a n c (2 + (s.size - t.size)) _ 2 _ _ rfl (by omega) (by omega) (by simp) _ (hsr.alloc _) (by omega) (rd_at rfl) (by omega)).mono ?_); rintro e w' ⟨r, rfl, hr1, hs4, hg4⟩))
      · go_roundw
        case rel =>
          refine ⟨_, rfl, ?_, ?_, ?_, ?_⟩
          · rw [ByteArray.size_append]; show _ ≤ _ + 1; omega
          · rw [ByteArray.size_append]; show _ + 1 ≤ _; omega
          · rw [ByteArray.size_append]; exact hs4.mono (by show _ ≤ _ + (_ + 1 - _); omega)
          · exact g_then (g_alloc hgr _) hg4
        case measure =>
          show 65 - (s ++ _).size < 65 - s.size
          rw [ByteArray.size_append]; show 65 - (_ + 1) < _; omega
      · go_ret
        exact ⟨_, rfl, by omega, g_start (by repeat' (first | (with_reducible assumption) | (with_reducible exact World.grownBy.refl _ _) | (with_reducible refine g_alloc ?_ _) | (with_reducible refine g_drew ?_) | (with_reducible refine g_drewN ?_ _) | (with_reducible refine g_set ?_ (by first | omega | (simp; done) | (simp; omega)) _) | refine g_then ?_ (by with_reducible assumption) | refine g_below ?_ (by with_reducible assumption)))⟩
  · all_goals (go_ret; exact ⟨_, rfl, by first | omega | (simp; omega), g_start (by repeat' (first | (with_reducible assumption) | (with_reducible exact World.grownBy.refl _ _) | (with_reducible refine g_alloc ?_ _) | (with_reducible refine g_drew ?_) | (with_reducible refine g_drewN ?_ _) | (with_reducible refine g_set ?_ (by first | omega | (simp; done) | (simp; omega)) _) | refine g_then ?_ (by with_reducible assumption) | refine g_below ?_ (by with_reducible assumption)))⟩)
end Go.Proofs.YtcnjbifdlieboaaDoor
