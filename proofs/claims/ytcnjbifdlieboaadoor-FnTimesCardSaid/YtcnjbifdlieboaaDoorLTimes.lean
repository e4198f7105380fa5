/- The law on times: its walk. -/
import Derived.Test.YtcnjbifdlieboaaDoorDrawT
import Derived.Test.YtcnjbifdlieboaaDoorTimesP
import Derived.Test.YtcnjbifdlieboaaDoorTimes
import Derived.Test.YtcnjbifdlieboaaDoorDelta
import Derived.Test.YtcnjbifdlieboaaDoorDigits
import Derived.Test.YtcnjbifdlieboaaDoorBig
import Derived.Test.YtcnjbifdlieboaaDoorQuietB
import Derived.Deep.DeepCutAuto
namespace Go.Proofs.YtcnjbifdlieboaaDoor
open Go.RowKit
set_option linter.unusedSimpArgs false
set_option linter.unusedVariables false

theorem fieldI0 (x y : Int) (w : World) : (Instr.field 34 (.agg #[.int .i64 x, .int .i64 y]) 0).run Tryd.prog w = .ok (.int .i64 x) w := by kernel_rfl
theorem fieldX0 (x : Int) (y : ByteArray) (w : World) : (Instr.field 23 (.agg #[.int .i64 x, .string y]) 0).run Tryd.prog w = .ok (.int .i64 x) w := by kernel_rfl
set_option maxHeartbeats 20000000 in
set_option maxRecDepth 100000 in
theorem FnTimes_walk (aa : Option Addr) (n c : Nat) (bs : List UInt8) (hl : bs.length = n) (w : World) (hr : Rd w aa (bs.map byteV)) (hn : n ≤ 9223372036854775807) (ht : Tab w) : Calls Tryd.prog 6 #[.slice aa n c] w fun e w' => e = .returned (.bool true) ∧ Below w.heap.size w w' := by
  have hfd0 := fieldI0
  have hfd1 := fieldX0
  have Ht := Lib.hid ht
  clear ht
  by_cases h : n ≤ 1048576
  · go_enter Tryd.func6, Tryd.ntmps6
    go_upto_region 10 with (first
      | (go_at_call 19; ((with_reducible refine (lwBig _ _ _ _).mono ?_); rintro e w' ⟨rfl, rfl⟩))
      | (go_at_call 20; ((with_reducible refine (spec_DrawAddTime aa n c bs hl h _ (by first | (with_reducible assumption) | exact RowAt.rd (by repeat' (first | (with_reducible assumption) | (with_reducible refine RowAt.alloc ?_ _) | (with_reducible refine RowAt.drew ?_) | (with_reducible refine RowAt.other ?_ _ _ (by first | omega | (simp; done) | (simp; omega))) | refine RowAt.then ?_ (by with_reducible assumption))) | exact Rd.below (by with_reducible assumption) (by first | (with_reducible exact Below.refl _ _) | ((repeat' (first | (with_reducible exact Below.refl _ _) | (with_reducible assumption) | (with_reducible refine below_alloc ?_ _) | (with_reducible refine Below.drew ?_) | (with_reducible refine below_drewN ?_ _) | (with_reducible refine Below.setCell ?_ ?_ _) | refine below_then ?_ (by with_reducible assumption))) <;> (first | omega | (simp; done) | (simp; omega)))))).mono ?_); rintro e w1 ⟨a, b, rfl, ⟨ha, hb0⟩, hb⟩; obtain ⟨hc, hf⟩ := bcell hb; have hz := hb.size; (try simp only [World.size_alloc, World.size_setCell, World.size_drew] at hz); obtain ⟨hlt, hle, hn1, hn2, hn3, hn4⟩ := bsize hb; (try simp only [World.size_alloc, World.size_setCell, World.size_drew] at hlt hle hn1 hn2 hn3 hn4); (try have hr0 : w.heap.size < w1.heap.size := by omega); (try have hr1 : w.heap.size + 1 < w1.heap.size := by omega); (try have hs0 : wS.heap.size < w1.heap.size := by omega); (try have hs1 : wG.heap.size < w1.heap.size := by omega)))
      | (go_at_call 21; ((with_reducible refine (impl_AddTime a b _).mono ?_); rintro e w2 ⟨rfl, hb⟩; obtain ⟨hc, hf⟩ := bcell hb; have hz := hb.size; (try simp only [World.size_alloc, World.size_setCell, World.size_drew] at hz); obtain ⟨hlt, hle, hn1, hn2, hn3, hn4⟩ := bsize hb; (try simp only [World.size_alloc, World.size_setCell, World.size_drew] at hlt hle hn1 hn2 hn3 hn4); (try have hr0 : w.heap.size < w2.heap.size := by omega); (try have hr1 : w.heap.size + 1 < w2.heap.size := by omega); (try have hs0 : wS.heap.size < w2.heap.size := by omega); (try have hs1 : wG.heap.size < w2.heap.size := by omega)))
      | (go_at_call 22; ((with_reducible refine (impl_MulTime a b _).mono ?_); rintro e w3 ⟨rfl, hb⟩; obtain ⟨hc, hf⟩ := bcell hb; have hz := hb.size; (try simp only [World.size_alloc, World.size_setCell, World.size_drew] at hz); obtain ⟨hlt, hle, hn1, hn2, hn3, hn4⟩ := bsize hb; (try simp only [World.size_alloc, World.size_setCell, World.size_drew] at hlt hle hn1 hn2 hn3 hn4); (try have hr0 : w.heap.size < w3.heap.size := by omega); (try have hr1 : w.heap.size + 1 < w3.heap.size := by omega); (try have hs0 : wS.heap.size < w3.heap.size := by omega); (try have hs1 : wG.heap.size < w3.heap.size := by omega)))
      | (go_at_call 23; ((with_reducible refine (spec_DrawDeltaOf aa n c bs hl h _ (by first | (with_reducible assumption) | exact RowAt.rd (by repeat' (first | (with_reducible assumption) | (with_reducible refine RowAt.alloc ?_ _) | (with_reducible refine RowAt.drew ?_) | (with_reducible refine RowAt.other ?_ _ _ (by first | omega | (simp; done) | (simp; omega))) | refine RowAt.then ?_ (by with_reducible assumption))) | exact Rd.below (by with_reducible assumption) (by first | (with_reducible exact Below.refl _ _) | ((repeat' (first | (with_reducible exact Below.refl _ _) | (with_reducible assumption) | (with_reducible refine below_alloc ?_ _) | (with_reducible refine Below.drew ?_) | (with_reducible refine below_drewN ?_ _) | (with_reducible refine Below.setCell ?_ ?_ _) | refine below_then ?_ (by with_reducible assumption))) <;> (first | omega | (simp; done) | (simp; omega)))))).mono ?_); rintro e w4 ⟨u, rfl, hu, hb⟩; obtain ⟨hc, hf⟩ := bcell hb; have hz := hb.size; (try simp only [World.size_alloc, World.size_setCell, World.size_drew] at hz); obtain ⟨hlt, hle, hn1, hn2, hn3, hn4⟩ := bsize hb; (try simp only [World.size_alloc, World.size_setCell, World.size_drew] at hlt hle hn1 hn2 hn3 hn4); (try have hr0 : w.heap.size < w4.heap.size := by omega); (try have hr1 : w.heap.size + 1 < w4.heap.size := by omega); (try have hs0 : wS.heap.size < w4.heap.size := by omega); (try have hs1 : wG.heap.size < w4.heap.size := by omega)))
      | (go_at_call 24; ((with_reducible refine (impl_DeltaOf u _ (by omega)).mono ?_); rintro e w5 ⟨rfl, hb⟩; obtain ⟨hc, hf⟩ := bcell hb; have hz := hb.size; (try simp only [World.size_alloc, World.size_setCell, World.size_drew] at hz); obtain ⟨hlt, hle, hn1, hn2, hn3, hn4⟩ := bsize hb; (try simp only [World.size_alloc, World.size_setCell, World.size_drew] at hlt hle hn1 hn2 hn3 hn4); (try have hr0 : w.heap.size < w5.heap.size := by omega); (try have hr1 : w.heap.size + 1 < w5.heap.size := by omega); (try have hs0 : wS.heap.size < w5.heap.size := by omega); (try have hs1 : wG.heap.size < w5.heap.size := by omega)))
      | (go_at_call 25; ((with_reducible refine (spec_DrawNumberText aa n c bs hl h _ (by first | (with_reducible assumption) | exact RowAt.rd (by repeat' (first | (with_reducible assumption) | (with_reducible refine RowAt.alloc ?_ _) | (with_reducible refine RowAt.drew ?_) | (with_reducible refine RowAt.other ?_ _ _ (by first | omega | (simp; done) | (simp; omega))) | refine RowAt.then ?_ (by with_reducible assumption))) | exact Rd.below (by with_reducible assumption) (by first | (with_reducible exact Below.refl _ _) | ((repeat' (first | (with_reducible exact Below.refl _ _) | (with_reducible assumption) | (with_reducible refine below_alloc ?_ _) | (with_reducible refine Below.drew ?_) | (with_reducible refine below_drewN ?_ _) | (with_reducible refine Below.setCell ?_ ?_ _) | refine below_then ?_ (by with_reducible assumption))) <;> (first | omega | (simp; done) | (simp; omega)))))).mono ?_); rintro e w6 ⟨m, rfl, hm, hb⟩; obtain ⟨hc, hf⟩ := bcell hb; have hz := hb.size; (try simp only [World.size_alloc, World.size_setCell, World.size_drew] at hz); obtain ⟨hlt, hle, hn1, hn2, hn3, hn4⟩ := bsize hb; (try simp only [World.size_alloc, World.size_setCell, World.size_drew] at hlt hle hn1 hn2 hn3 hn4); (try have hr0 : w.heap.size < w6.heap.size := by omega); (try have hr1 : w.heap.size + 1 < w6.heap.size := by omega); (try have hs0 : wS.heap.size < w6.heap.size := by omega); (try have hs1 : wG.heap.size < w6.heap.size := by omega); have Ht6 := Lib.hid (show Tab w6 from Ht.out.then (by first | (with_reducible exact Below.refl _ _) | ((repeat' (first | (with_reducible exact Below.refl _ _) | (with_reducible assumption) | (with_reducible refine below_alloc ?_ _) | (with_reducible refine Below.drew ?_) | (with_reducible refine below_drewN ?_ _) | (with_reducible refine Below.setCell ?_ ?_ _) | refine below_then ?_ (by with_reducible assumption))) <;> (first | omega | (simp; done) | (simp; omega)))))))
      | (go_at_call 13; ((with_reducible refine (impl_NumberText m _ Ht6.out).mono ?_); rintro e w7 ⟨rfl, hb⟩; obtain ⟨hc, hf⟩ := bcell hb; have hz := hb.size; (try simp only [World.size_alloc, World.size_setCell, World.size_drew] at hz); obtain ⟨hlt, hle, hn1, hn2, hn3, hn4⟩ := bsize hb; (try simp only [World.size_alloc, World.size_setCell, World.size_drew] at hlt hle hn1 hn2 hn3 hn4); (try have hr0 : w.heap.size < w7.heap.size := by omega); (try have hr1 : w.heap.size + 1 < w7.heap.size := by omega); (try have hs0 : wS.heap.size < w7.heap.size := by omega); (try have hs1 : wG.heap.size < w7.heap.size := by omega))))
    all_goals (try (go_ret; exact ⟨by first | rfl | (simp [*]; done) | (simp [*]; omega), by first | (with_reducible rfl) | exact (by first | (with_reducible exact Below.refl _ _) | ((repeat' (first | (with_reducible exact Below.refl _ _) | (with_reducible assumption) | (with_reducible refine below_alloc ?_ _) | (with_reducible refine Below.drew ?_) | (with_reducible refine below_drewN ?_ _) | (with_reducible refine Below.setCell ?_ ?_ _) | refine below_then ?_ (by with_reducible assumption))) <;> (first | omega | (simp; done) | (simp; omega))))⟩))
    have hS : ∀ W, Below ((w7.alloc (.cells #[.int .i64 (numR m).1, .string (numR m).2] 23))).heap.size ((w7.alloc (.cells #[.int .i64 (numR m).1, .string (numR m).2] 23))) W → ((W.cell? ⟨w2.heap.size, 0, none⟩ = some (.int .i64 (addT a b).1) ∧ W.cell? ⟨w2.heap.size, 1, none⟩ = some (.int .i64 (addT a b).2)) ∧ (W.cell? ⟨w3.heap.size, 0, none⟩ = some (.int .i64 (mulT a b).1) ∧ W.cell? ⟨w3.heap.size, 1, none⟩ = some (.int .i64 (mulT a b).2)) ∧ (W.cell? ⟨w5.heap.size, 0, none⟩ = some (.int .i64 (deltaR u).1) ∧ W.cell? ⟨w5.heap.size, 1, none⟩ = some (.int .i64 (deltaR u).2)) ∧ (W.cell? ⟨w7.heap.size, 0, none⟩ = some (.int .i64 (numR m).1) ∧ W.cell? ⟨w7.heap.size, 1, none⟩ = some (.string (numR m).2))) := fun W hb => by
      have b1 : W.heap[w2.heap.size]? = some (.cells #[.int .i64 (addT a b).1, .int .i64 (addT a b).2] 34) := (by repeat' (first | (with_reducible assumption) | (with_reducible exact blk_new _ _) | (with_reducible apply blk_set) | (with_reducible refine blk_alloc ?_ _) | (with_reducible refine blk_drew ?_) | refine blk_then ?_ (by with_reducible assumption)))
      have b2 : W.heap[w3.heap.size]? = some (.cells #[.int .i64 (mulT a b).1, .int .i64 (mulT a b).2] 34) := (by repeat' (first | (with_reducible assumption) | (with_reducible exact blk_new _ _) | (with_reducible apply blk_set) | (with_reducible refine blk_alloc ?_ _) | (with_reducible refine blk_drew ?_) | refine blk_then ?_ (by with_reducible assumption)))
      have b3 : W.heap[w5.heap.size]? = some (.cells #[.int .i64 (deltaR u).1, .int .i64 (deltaR u).2] 34) := (by repeat' (first | (with_reducible assumption) | (with_reducible exact blk_new _ _) | (with_reducible apply blk_set) | (with_reducible refine blk_alloc ?_ _) | (with_reducible refine blk_drew ?_) | refine blk_then ?_ (by with_reducible assumption)))
      have b4 : W.heap[w7.heap.size]? = some (.cells #[.int .i64 (numR m).1, .string (numR m).2] 23) := (by repeat' (first | (with_reducible assumption) | (with_reducible exact blk_new _ _) | (with_reducible apply blk_set) | (with_reducible refine blk_alloc ?_ _) | (with_reducible refine blk_drew ?_) | refine blk_then ?_ (by with_reducible assumption)))
      refine ⟨⟨?_, ?_⟩, ⟨?_, ?_⟩, ⟨?_, ?_⟩, ?_, ?_⟩ <;> simp [World.cell?, b1, b2, b3, b4]
    have bel0 : Below w.heap.size w ((w7.alloc (.cells #[.int .i64 (numR m).1, .string (numR m).2] 23))) := (by first | (with_reducible exact Below.refl _ _) | ((repeat' (first | (with_reducible exact Below.refl _ _) | (with_reducible assumption) | (with_reducible refine below_alloc ?_ _) | (with_reducible refine Below.drew ?_) | (with_reducible refine below_drewN ?_ _) | (with_reducible refine Below.setCell ?_ ?_ _) | refine below_then ?_ (by with_reducible assumption))) <;> (first | omega | (simp; done) | (simp; omega))))
    have Hs := Lib.hid hS
    unfold Tm at ha hb0 hm
    generalize (w7.alloc (.cells #[.int .i64 (numR m).1, .string (numR m).2] 23)) = v0 at *
    have hG : ∀ p : Gb v0, ((p.w.cell? ⟨w2.heap.size, 0, none⟩ = some (.int .i64 (addT a b).1) ∧ p.w.cell? ⟨w2.heap.size, 1, none⟩ = some (.int .i64 (addT a b).2)) ∧ (p.w.cell? ⟨w3.heap.size, 0, none⟩ = some (.int .i64 (mulT a b).1) ∧ p.w.cell? ⟨w3.heap.size, 1, none⟩ = some (.int .i64 (mulT a b).2)) ∧ (p.w.cell? ⟨w5.heap.size, 0, none⟩ = some (.int .i64 (deltaR u).1) ∧ p.w.cell? ⟨w5.heap.size, 1, none⟩ = some (.int .i64 (deltaR u).2)) ∧ (p.w.cell? ⟨w7.heap.size, 0, none⟩ = some (.int .i64 (numR m).1) ∧ p.w.cell? ⟨w7.heap.size, 1, none⟩ = some (.string (numR m).2))) := fun p => hS p.w p.h
    have g10 := fun p => (hG p).1.1
    have g11 := fun p => (hG p).1.2
    have g20 := fun p => (hG p).2.1.1
    have g21 := fun p => (hG p).2.1.2
    have g30 := fun p => (hG p).2.2.1.1
    have g31 := fun p => (hG p).2.2.1.2
    have g40 := fun p => (hG p).2.2.2.1
    have g41 := fun p => (hG p).2.2.2.2
    clear hG hS
    refine wp_region_below (by kernel_rfl) (by kernel_rfl) ?_
    repeat (quiet_step (first | (go_at_call 26; exact gb_call (spec_AddTime a b _)) | (go_at_call 27; exact gb_call (spec_MulTime a b _)) | (go_at_call 28; exact gb_call (spec_DeltaOf u _ (by omega))) | (go_at_call 12; exact gb_call (spec_NumberText m _))))
    refine wpQuiet_nil ?_
    intro _ hw'
    obtain ⟨pz, rfl⟩ := hw'
    have belz : Below w.heap.size w pz.w := bel0.trans (pz.h.mono bel0.size)
    have c10 := g10 pz
    have c11 := g11 pz
    have c20 := g20 pz
    have c21 := g21 pz
    have c30 := g30 pz
    have c31 := g31 pz
    have c40 := g40 pz
    have c41 := g41 pz
    have hph := pz.h
    generalize pz.w = z at *
    clear g10 g11 g20 g21 g30 g31 g40 g41
    have q2 : w2.heap.size < z.heap.size := World.block_lt_of_cell? z _ c10
    have q3 : w3.heap.size < z.heap.size := World.block_lt_of_cell? z _ c20
    have q5 : w5.heap.size < z.heap.size := World.block_lt_of_cell? z _ c30
    go_upto_region 12 with fail
    go_cut [89] (fun s89 wx => s89 = .bool false ∧ Below z.heap.size z wx)
    case first =>
      by_cases hnum : inB m 0 1000000000000000 = true
      · obtain ⟨m0, m1⟩ := inB_iff.1 hnum
        rw [numR_yes hnum] at c40 c41
        obtain ⟨k, rfl⟩ := Int.eq_ofNat_of_zero_le m0
        have hds := decS_len (k : Int) (by omega) (by omega)
        by_cases hk : (k : Int) ≤ 2147483648
        · have hdd : deltaR (decS (k : Int)) = (0, (k : Int)) := by
            unfold decS
            rw [Int.toNat_natCast]
            refine delta_dec k (by omega) ?_
            have e : (decS (k : Int)).size = (Lib.decDigits (k : Int).toNat).length := rfl
            rw [e, Int.toNat_natCast] at hds
            omega
          have hcon := fun W => impl_DeltaOf (decS (k : Int)) W (by omega)
          rw [hdd] at hcon
          have Hcon := Lib.hid hcon
          clear hcon hdd hnum
          by_cases hok : deltaOk u = true
          · have hbd := deltaOk_bd hok
            have er : deltaR u = (0, deltaTo u u.size) := by simp [deltaR, hok]
            rw [er] at c30 c31
            obtain ⟨d0, d1⟩ := hbd
            have hneg : (decide (deltaTo u u.size < 0) || decide (2147483648 < deltaTo u u.size)) = false := by rw [decide_eq_false (by omega), decide_eq_false (by omega)]; rfl
            clear er hok
            go_wp2_with (go_at_call 24; ((with_reducible refine (Hcon.out _).mono ?_); rintro e w' ⟨rfl, hb⟩; obtain ⟨hc, hf⟩ := bcell hb; have hz := hb.size; (try simp only [World.size_alloc, World.size_setCell, World.size_drew] at hz); obtain ⟨hlt, hle, hn1, hn2, hn3, hn4⟩ := bsize hb; (try simp only [World.size_alloc, World.size_setCell, World.size_drew] at hlt hle hn1 hn2 hn3 hn4); (try have hr0 : w.heap.size < w'.heap.size := by omega); (try have hr1 : w.heap.size + 1 < w'.heap.size := by omega); (try have hs0 : wS.heap.size < w'.heap.size := by omega); (try have hs1 : wG.heap.size < w'.heap.size := by omega)))
            all_goals (go_meet; exact ⟨by first | rfl | (rw [hneg]), (by first | (with_reducible exact Below.refl _ _) | ((repeat' (first | (with_reducible exact Below.refl _ _) | (with_reducible assumption) | (with_reducible refine below_alloc ?_ _) | (with_reducible refine Below.drew ?_) | (with_reducible refine below_drewN ?_ _) | (with_reducible refine Below.setCell ?_ ?_ _) | refine below_then ?_ (by with_reducible assumption))) <;> (first | omega | (simp; done) | (simp; omega))))⟩)
          · have er : deltaR u = (5, 0) := by simp [deltaR, hok]
            rw [er] at c30 c31
            clear er hok
            go_wp2_with (go_at_call 24; ((with_reducible refine (Hcon.out _).mono ?_); rintro e w' ⟨rfl, hb⟩; obtain ⟨hc, hf⟩ := bcell hb; have hz := hb.size; (try simp only [World.size_alloc, World.size_setCell, World.size_drew] at hz); obtain ⟨hlt, hle, hn1, hn2, hn3, hn4⟩ := bsize hb; (try simp only [World.size_alloc, World.size_setCell, World.size_drew] at hlt hle hn1 hn2 hn3 hn4); (try have hr0 : w.heap.size < w'.heap.size := by omega); (try have hr1 : w.heap.size + 1 < w'.heap.size := by omega); (try have hs0 : wS.heap.size < w'.heap.size := by omega); (try have hs1 : wG.heap.size < w'.heap.size := by omega)))
            all_goals (go_meet; exact ⟨by first | rfl | (rw [hneg]), (by first | (with_reducible exact Below.refl _ _) | ((repeat' (first | (with_reducible exact Below.refl _ _) | (with_reducible assumption) | (with_reducible refine below_alloc ?_ _) | (with_reducible refine Below.drew ?_) | (with_reducible refine below_drewN ?_ _) | (with_reducible refine Below.setCell ?_ ?_ _) | refine below_then ?_ (by with_reducible assumption))) <;> (first | omega | (simp; done) | (simp; omega))))⟩)
        · clear hnum
          have Hcon := Lib.hid True.intro
          by_cases hok : deltaOk u = true
          · have hbd := deltaOk_bd hok
            have er : deltaR u = (0, deltaTo u u.size) := by simp [deltaR, hok]
            rw [er] at c30 c31
            obtain ⟨d0, d1⟩ := hbd
            have hneg : (decide (deltaTo u u.size < 0) || decide (2147483648 < deltaTo u u.size)) = false := by rw [decide_eq_false (by omega), decide_eq_false (by omega)]; rfl
            clear er hok
            go_wp2
            all_goals (go_meet; exact ⟨by first | rfl | (rw [hneg]), (by first | (with_reducible exact Below.refl _ _) | ((repeat' (first | (with_reducible exact Below.refl _ _) | (with_reducible assumption) | (with_reducible refine below_alloc ?_ _) | (with_reducible refine Below.drew ?_) | (with_reducible refine below_drewN ?_ _) | (with_reducible refine Below.setCell ?_ ?_ _) | refine below_then ?_ (by with_reducible assumption))) <;> (first | omega | (simp; done) | (simp; omega))))⟩)
          · have er : deltaR u = (5, 0) := by simp [deltaR, hok]
            rw [er] at c30 c31
            clear er hok
            go_wp2
            all_goals (go_meet; exact ⟨by first | rfl | (rw [hneg]), (by first | (with_reducible exact Below.refl _ _) | ((repeat' (first | (with_reducible exact Below.refl _ _) | (with_reducible assumption) | (with_reducible refine below_alloc ?_ _) | (with_reducible refine Below.drew ?_) | (with_reducible refine below_drewN ?_ _) | (with_reducible refine Below.setCell ?_ ?_ _) | refine below_then ?_ (by with_reducible assumption))) <;> (first | omega | (simp; done) | (simp; omega))))⟩)
      · simp only [Bool.not_eq_true] at hnum
        rw [numR_no hnum] at c40 c41
        clear hnum
        by_cases hok : deltaOk u = true
        · have hbd := deltaOk_bd hok
          have er : deltaR u = (0, deltaTo u u.size) := by simp [deltaR, hok]
          rw [er] at c30 c31
          obtain ⟨d0, d1⟩ := hbd
          have hneg : (decide (deltaTo u u.size < 0) || decide (2147483648 < deltaTo u u.size)) = false := by rw [decide_eq_false (by omega), decide_eq_false (by omega)]; rfl
          clear er hok
          go_wp2
          all_goals (go_meet; exact ⟨by first | rfl | (rw [hneg]), (by first | (with_reducible exact Below.refl _ _) | ((repeat' (first | (with_reducible exact Below.refl _ _) | (with_reducible assumption) | (with_reducible refine below_alloc ?_ _) | (with_reducible refine Below.drew ?_) | (with_reducible refine below_drewN ?_ _) | (with_reducible refine Below.setCell ?_ ?_ _) | refine below_then ?_ (by with_reducible assumption))) <;> (first | omega | (simp; done) | (simp; omega))))⟩)
        · have er : deltaR u = (5, 0) := by simp [deltaR, hok]
          rw [er] at c30 c31
          clear er hok
          go_wp2
          all_goals (go_meet; exact ⟨by first | rfl | (rw [hneg]), (by first | (with_reducible exact Below.refl _ _) | ((repeat' (first | (with_reducible exact Below.refl _ _) | (with_reducible assumption) | (with_reducible refine below_alloc ?_ _) | (with_reducible refine Below.drew ?_) | (with_reducible refine below_drewN ?_ _) | (with_reducible refine Below.setCell ?_ ?_ _) | refine below_then ?_ (by with_reducible assumption))) <;> (first | omega | (simp; done) | (simp; omega))))⟩)
    case rest =>
      obtain ⟨rfl, hb⟩ := hcut
      have belc := belz.trans (hb.mono belz.size)
      obtain ⟨hcz, hfz⟩ := bcell hb
      have e10 := (hcz w2.heap.size 0 q2).trans c10
      have e11 := (hcz w2.heap.size 1 q2).trans c11
      have e20 := (hcz w3.heap.size 0 q3).trans c20
      have e21 := (hcz w3.heap.size 1 q3).trans c21
      clear hb hcz hfz c10 c11 c20 c21 c30 c31 c40 c41 hph Hs bel0 belz
      by_cases hin : (inB a 0 1000000000000000 && inB b 0 1000000000000000) = true
      · have ea : addT a b = (0, min (a + b) 1000000000000000) := by simp only [addT, hin]; rfl
        have em : mulT a b = (0, min (a * b) 1000000000000000) := by simp only [mulT, hin]; rfl
        have hba : (inB b 0 1000000000000000 && inB a 0 1000000000000000) = true := by rw [Bool.and_comm]; exact hin
        have ea' : addT b a = (0, min (a + b) 1000000000000000) := by simp only [addT, hba, Int.add_comm b a]; rfl
        have em' : mulT b a = (0, min (a * b) 1000000000000000) := by simp only [mulT, hba, Int.mul_comm b a]; rfl
        rw [Bool.and_eq_true, inB_iff, inB_iff] at hin
        obtain ⟨⟨a0, a1⟩, b0, b1⟩ := hin
        rw [ea] at e10 e11
        rw [em] at e20 e21
        have hca := fun W => impl_AddTime b a W
        have hcm := fun W => impl_MulTime b a W
        rw [ea'] at hca
        rw [em'] at hcm
        have Hca := Lib.hid hca
        have Hcm := Lib.hid hcm
        have hwr : IntKind.i64.wrap (a + b) = a + b := wrapi _ (by omega) (by omega)
        have n1 : decide (a ≤ min (a + b) 1000000000000000) = true := decide_eq_true (by omega)
        have n2 : decide (b ≤ min (a + b) 1000000000000000) = true := decide_eq_true (by omega)
        have n3 : decide (min (a + b) 1000000000000000 ≤ 1000000000000000) = true := decide_eq_true (by omega)
        clear ea em ea' em' hba hca hcm
        go_upto_region 16 with fail
        have hG : ∀ p : Gb wc, (p.w.cell? ⟨w2.heap.size, 0, none⟩ = some (.int .i64 0) ∧ p.w.cell? ⟨w2.heap.size, 1, none⟩ = some (.int .i64 (min (a + b) 1000000000000000))) ∧ (p.w.cell? ⟨w3.heap.size, 0, none⟩ = some (.int .i64 0) ∧ p.w.cell? ⟨w3.heap.size, 1, none⟩ = some (.int .i64 (min (a * b) 1000000000000000))) := fun p => by
          have l2 := World.block_lt_of_cell? wc _ e10
          have l3 := World.block_lt_of_cell? wc _ e20
          exact ⟨⟨(p.h.cell (p := ⟨w2.heap.size, 0, none⟩) l2).trans e10, (p.h.cell (p := ⟨w2.heap.size, 1, none⟩) l2).trans e11⟩, (p.h.cell (p := ⟨w3.heap.size, 0, none⟩) l3).trans e20, (p.h.cell (p := ⟨w3.heap.size, 1, none⟩) l3).trans e21⟩
        have g10 := fun p => (hG p).1.1
        have g11 := fun p => (hG p).1.2
        have g20 := fun p => (hG p).2.1
        have g21 := fun p => (hG p).2.2
        clear hG
        by_cases hs : a + b ≤ 1000000000000000
        · have em : min (a + b) 1000000000000000 = a + b := by omega
          rw [em] at g11 n1 n2 n3
          have hca := Hca.out
          rw [em] at hca
          have Hca := Lib.hid hca
          clear em hca
          refine wp_region_below (by kernel_rfl) (by kernel_rfl) ?_
          repeat (quiet_step (first | (go_at_call 21; exact gb_call (Hca.out _)) | (go_at_call 22; exact gb_call (Hcm.out _))))
          refine wpQuiet_nil ?_
          intro _ hw'
          obtain ⟨pz, rfl⟩ := hw'
          have bele := belc.trans (pz.h.mono belc.size)
          go_wp2
          go_ret
          exact ⟨rfl, bele⟩
        · have em : min (a + b) 1000000000000000 = 1000000000000000 := by omega
          rw [em] at g11 n1 n2 n3
          have hca := Hca.out
          rw [em] at hca
          have Hca := Lib.hid hca
          have n4 : ((1000000000000000 : Int) == a + b) = false := by rw [beq_eq_false_iff_ne]; omega
          clear em hca
          refine wp_region_below (by kernel_rfl) (by kernel_rfl) ?_
          repeat (quiet_step (first | (go_at_call 21; exact gb_call (Hca.out _)) | (go_at_call 22; exact gb_call (Hcm.out _))))
          refine wpQuiet_nil ?_
          intro _ hw'
          obtain ⟨pz, rfl⟩ := hw'
          have bele := belc.trans (pz.h.mono belc.size)
          go_wp2
          go_ret
          exact ⟨rfl, bele⟩
      · have ea : addT a b = (3, 0) := by simp only [addT]; rw [if_neg hin]
        rw [ea] at e10 e11
        clear ea
        go_wp2
        go_ret
        exact ⟨rfl, belc⟩
  · go_enter Tryd.func6, Tryd.ntmps6
    go_wp2_with (go_at_call 19; ((with_reducible refine (lwBig _ _ _ _).mono ?_); rintro e w' ⟨rfl, rfl⟩))
    all_goals (go_ret; exact ⟨by first | rfl | (simp [*]; done) | (simp [*]; omega), by first | (with_reducible rfl) | exact (by first | (with_reducible exact Below.refl _ _) | ((repeat' (first | (with_reducible exact Below.refl _ _) | (with_reducible assumption) | (with_reducible refine below_alloc ?_ _) | (with_reducible refine Below.drew ?_) | (with_reducible refine below_drewN ?_ _) | (with_reducible refine Below.setCell ?_ ?_ _) | refine below_then ?_ (by with_reducible assumption))) <;> (first | omega | (simp; done) | (simp; omega))))⟩)
end Go.Proofs.YtcnjbifdlieboaaDoor
