/- What is drawn for quotes. -/
import Derived.Test.YtcnjbifdlieboaaDraw
import Derived.Test.YtcnjbifdlieboaaQuote
import Derived.Test.YtcnjbifdlieboaaUnq
import Derived.Test.YtcnjbifdlieboaaQuoteP
namespace Go.Proofs.Ytcnjbifdlieboaa
open Go.RowKit
set_option linter.unusedSimpArgs false
set_option linter.unusedVariables false

theorem spec_DrawQuoteText (a : Option Addr) (n c : Nat) (bs : List UInt8) (hl : bs.length = n) (hn : n ≤ 1048576) (w : World) (hr : Rd w a (bs.map byteV)) :
    Calls Try.prog 10 #[.slice a n c] w fun e w' => ∃ r : ByteArray, e = .returned (.string r) ∧ r.size ≤ 1001 ∧ Below w.heap.size w w' := by
  have hs0 := src_start w a n c bs hl hn hr
  obtain ⟨hG1, hG2⟩ := gstart hs0.lt
  go_enter Try.func10, Try.ntmps10
  go_wp2_with (first
    | (go_at_call 23; ((with_reducible refine (spec_l1Source a n c _).mono ?_); rintro e w' ⟨rfl, rfl⟩))
    | (go_at_call 28; ((with_reducible refine (spec_l1Word (fun x => x.size ≤ 10) w.heap.size a n c 0 _ 10 _ _ rfl (by omega) (by omega) (strs_small _ _ (by kernel_rfl)) _ (by repeat' (first | (with_reducible assumption) | (with_reducible refine Src.alloc ?_ _) | (with_reducible refine Src.drew ?_) | (with_reducible refine Src.other ?_ _ _ (by first | omega | (simp; omega))) | refine Src.then ?_ (by with_reducible assumption))) (by omega) (rd_at (by simp)) (by simp)).mono ?_); rintro e w' ⟨t, rfl, ht, hs1, hg1⟩))
    | (go_at_call 29; ((with_reducible refine (spec_l1Chance w.heap.size a n c 1 _ (by omega) (by omega) _ (by repeat' (first | (with_reducible assumption) | (with_reducible refine Src.alloc ?_ _) | (with_reducible refine Src.drew ?_) | (with_reducible refine Src.other ?_ _ _ (by first | omega | (simp; omega))) | refine Src.then ?_ (by with_reducible assumption))) (by omega)).mono ?_); rintro e w' ⟨b, rfl, hs2, hg2⟩))
    | (go_at_call 30; ((with_reducible refine (spec_l1Long w.heap.size a n c 2 t (by omega) _ (by repeat' (first | (with_reducible assumption) | (with_reducible refine Src.alloc ?_ _) | (with_reducible refine Src.drew ?_) | (with_reducible refine Src.other ?_ _ _ (by first | omega | (simp; omega))) | refine Src.then ?_ (by with_reducible assumption))) (by omega)).mono ?_); rintro e w' ⟨t2, rfl, ht2, hs3, hg3⟩)))
  all_goals (go_ret; exact ⟨_, rfl, by first | omega | (simp; omega), g_start (by repeat' (first | (with_reducible assumption) | (with_reducible exact World.grownBy.refl _ _) | (with_reducible refine g_alloc ?_ _) | (with_reducible refine g_drew ?_) | (with_reducible refine g_drewN ?_ _) | (with_reducible refine g_set ?_ (by first | omega | (simp; omega)) _) | refine g_then ?_ (by with_reducible assumption) | refine g_below ?_ (by with_reducible assumption)))⟩)
set_option maxHeartbeats 800000 in
theorem spec_DrawUnquoteText (a : Option Addr) (n c : Nat) (bs : List UInt8) (hl : bs.length = n) (hn : n ≤ 1048576) (w : World) (hr : Rd w a (bs.map byteV)) :
    Calls Try.prog 12 #[.slice a n c] w fun e w' => ∃ r : ByteArray, e = .returned (.string r) ∧ r.size ≤ 2005 ∧ Below w.heap.size w w' := by
  have hs0 := src_start w a n c bs hl hn hr
  obtain ⟨hG1, hG2⟩ := gstart hs0.lt
  go_enter Try.func12, Try.ntmps12
  go_wp2_with (first
    | (go_at_call 23; ((with_reducible refine (spec_l1Source a n c _).mono ?_); rintro e w' ⟨rfl, rfl⟩))
    | (go_at_call 10; ((with_reducible refine (spec_DrawQuoteText a n c bs hl hn _ (by first | (with_reducible assumption) | exact RowAt.rd (by repeat' (first | (with_reducible assumption) | (with_reducible refine RowAt.alloc ?_ _) | (with_reducible refine RowAt.drew ?_) | (with_reducible refine RowAt.other ?_ _ _ (by first | omega | (simp; omega))) | refine RowAt.then ?_ (by with_reducible assumption))) | exact Rd.below (by with_reducible assumption) (by first | (with_reducible exact Below.refl _ _) | ((repeat' (first | (with_reducible exact Below.refl _ _) | (with_reducible assumption) | (with_reducible refine below_alloc ?_ _) | (with_reducible refine Below.drew ?_) | (with_reducible refine below_drewN ?_ _) | (with_reducible refine Below.setCell ?_ ?_ _) | refine below_then ?_ (by with_reducible assumption))) <;> (first | omega | (simp; done) | (simp; omega)))))).mono ?_); rintro e w' ⟨t, rfl, ht, hb1⟩))
    | (go_at_call 33; ((with_reducible refine (spec_l2Quote t _ (by omega)).mono ?_); rintro e w' ⟨rfl, hb2⟩; have hq := quoteS_size t))
    | (go_at_call 34; ((with_reducible refine (spec_l1Next w.heap.size a n c 0 _ (by omega) (by omega) _ (by repeat' (first | (with_reducible assumption) | (with_reducible refine Src.alloc ?_ _) | (with_reducible refine Src.drew ?_) | (with_reducible refine Src.other ?_ _ _ (by first | omega | (simp; omega))) | refine Src.then ?_ (by with_reducible assumption))) (by omega)).mono ?_); rintro e w' ⟨r, rfl, ⟨hr0, hr1⟩, hs1, hg1⟩))
    | (go_at_call 28; ((with_reducible refine (spec_l1Word (fun x => x.size ≤ 10) w.heap.size a n c 1 _ 6 _ _ rfl (by omega) (by omega) (strs_small _ _ (by kernel_rfl)) _ (by repeat' (first | (with_reducible assumption) | (with_reducible refine Src.alloc ?_ _) | (with_reducible refine Src.drew ?_) | (with_reducible refine Src.other ?_ _ _ (by first | omega | (simp; omega))) | refine Src.then ?_ (by with_reducible assumption))) (by omega) (rd_at (by simp)) (by have := hs1.lt; omega)).mono ?_); rintro e w' ⟨t2, rfl, ht2, hs2, hg2⟩)))
  all_goals (go_ret; exact ⟨_, rfl, by first | omega | (rw [ByteArray.size_append]; show _ + 1 ≤ _; omega) | (rw [ByteArray.size_extract]; omega), g_start (by repeat' (first | (with_reducible assumption) | (with_reducible exact World.grownBy.refl _ _) | (with_reducible refine g_alloc ?_ _) | (with_reducible refine g_drew ?_) | (with_reducible refine g_drewN ?_ _) | (with_reducible refine g_set ?_ (by first | omega | (simp; omega)) _) | refine g_then ?_ (by with_reducible assumption) | refine g_below ?_ (by with_reducible assumption)))⟩)
end Go.Proofs.Ytcnjbifdlieboaa
