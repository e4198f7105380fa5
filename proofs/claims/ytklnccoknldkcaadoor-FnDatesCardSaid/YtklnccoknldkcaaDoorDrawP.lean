/- What is drawn for the laws on dates. -/
import Derived.Test.YtklnccoknldkcaaDoorDrawD
import Derived.Test.YtklnccoknldkcaaDoorDrawW
import Derived.Test.YtklnccoknldkcaaDoorDayI
namespace Go.Proofs.YtklnccoknldkcaaDoor
open Go.RowKit
set_option linter.unusedSimpArgs false
set_option linter.unusedVariables false

theorem fz_of' {w : World} {g : Nat} {cs : Array Value} {t : TypeId} (h : w.heap[g]? = some (.cells cs t (0, 0))) (k : Nat) : w.frozen? ⟨g, k, none⟩ = false := by simp [World.frozen?, h]
theorem cells6 {w : World} {g : Nat} {x y z u v s : Value} {t : TypeId} {f : Nat × Nat} (h : w.heap[g]? = some (.cells #[x, y, z, u, v, s] t f)) : w.cell? ⟨g, 0, none⟩ = some x ∧ w.cell? ⟨g, 1, none⟩ = some y ∧ w.cell? ⟨g, 2, none⟩ = some z ∧ w.cell? ⟨g, 3, none⟩ = some u ∧ w.cell? ⟨g, 4, none⟩ = some v ∧ w.cell? ⟨g, 5, none⟩ = some s := by simp [World.cell?, h]
set_option maxHeartbeats 1600000 in
theorem spec_DrawSecondsOf (a : Option Addr) (n c : Nat) (bs : List UInt8) (hl : bs.length = n) (hn : n ≤ 1048576) (w : World) (hr : Rd w a (bs.map byteV)) :
    Calls Tryd.prog 31 #[.slice a n c] w fun e w' => ∃ y m d h i s : Int, e = .returned (.agg #[.int .i64 y, .int .i64 m, .int .i64 d, .int .i64 h, .int .i64 i, .int .i64 s]) ∧ Below w.heap.size w w' := by
  have hs0 := src_start (w.alloc (.cells #[.int .i64 0, .int .i64 0, .int .i64 0, .int .i64 0, .int .i64 0, .int .i64 0] 46)) a n c bs hl hn (hr.alloc _)
  rw [World.size_alloc] at hs0
  have hG := hs0.lt
  go_enter Tryd.func31, Tryd.ntmps31
  go_wp2_with (first
    | (go_at_call 65; ((with_reducible refine (spec_l1Source a n c _).mono ?_); rintro e w' ⟨rfl, rfl⟩))
    | (go_at_call 95; ((with_reducible refine (spec_l3DrawDate (w.heap.size + 1) a n c 0 _ (by repeat' (first | (with_reducible assumption) | (with_reducible refine Src.alloc ?_ _) | (with_reducible refine Src.drew ?_) | (with_reducible refine Src.other ?_ _ _ (by first | omega | (simp; done) | (simp; omega))) | refine Src.then ?_ (by with_reducible assumption))) (by omega)).mono ?_); rintro e w' ⟨y, m, d, h, i, s, rfl, hs1, hg1⟩; have z0 := blk_g (blk_alloc (blk_new w (.cells #[.int .i64 0, .int .i64 0, .int .i64 0, .int .i64 0, .int .i64 0, .int .i64 0] 46)) _) hg1 (by omega); have hb := g_start (w := w.alloc (.cells #[.int .i64 0, .int .i64 0, .int .i64 0, .int .i64 0, .int .i64 0, .int .i64 0] 46)) (by rw [World.size_alloc]; exact hg1); have zf := fun k => fz_of' z0 k; obtain ⟨z1, z2, z3, z4, z5, z6⟩ := cells6 z0)))
  all_goals exact bodyPost_ret (res_row Tryd.results31 _ _ rfl (blk_cast (by repeat' (first | (with_reducible assumption) | (with_reducible exact blk_new _ _) | (with_reducible apply blk_set) | (with_reducible refine blk_alloc ?_ _) | (with_reducible refine blk_drew ?_) | refine blk_then ?_ (by with_reducible assumption))) (by first | (simp; done) | rfl)) Tryd.underlying46 rfl _ (by kernel_rfl) rfl) rfl ⟨_, _, _, _, _, _, rfl, by exact (by first | (with_reducible exact Below.refl _ _) | ((repeat' (first | (with_reducible exact Below.refl _ _) | (with_reducible assumption) | (with_reducible refine below_alloc ?_ _) | (with_reducible refine Below.drew ?_) | (with_reducible refine below_drewN ?_ _) | (with_reducible refine Below.setCell ?_ ?_ _) | refine below_then ?_ (by with_reducible assumption))) <;> (first | omega | (simp; done) | (simp; omega))))⟩
set_option maxHeartbeats 1600000 in
theorem spec_DrawDateAt (a : Option Addr) (n c : Nat) (bs : List UInt8) (hl : bs.length = n) (hn : n ≤ 1048576) (w : World) (hr : Rd w a (bs.map byteV)) :
    Calls Tryd.prog 33 #[.slice a n c] w fun e w' => ∃ r : Int, e = .returned (.int .i64 r) ∧ Below w.heap.size w w' := by
  have hs0 := src_start w a n c bs hl hn hr
  obtain ⟨hG1, hG2⟩ := gstart hs0.lt
  go_enter Tryd.func33, Tryd.ntmps33
  go_wp2_with (first
    | (go_at_call 65; ((with_reducible refine (spec_l1Source a n c _).mono ?_); rintro e w' ⟨rfl, rfl⟩))
    | (go_at_call 72; ((with_reducible refine (spec_l1Pick (fun r => True) w.heap.size a n c 16 _ 6 _ _ rfl (by omega) (by omega) (by simp) _ (hs4.alloc _) (by omega) (rd_at rfl) (by have := hs4.lt; omega)).mono ?_); rintro e w' ⟨r, rfl, _, hs5, hg5⟩))
    | (go_at_call 96; ((with_reducible refine (spec_l3Draw w.heap.size a n c 12 _ hs3 (by omega)).mono ?_); rintro e w' ⟨r4, rfl, _, hs4, hg4⟩))
    | (go_at_call 96; ((with_reducible refine (spec_l3Draw w.heap.size a n c 8 _ hs2 (by omega)).mono ?_); rintro e w' ⟨r3, rfl, _, hs3, hg3⟩))
    | (go_at_call 96; ((with_reducible refine (spec_l3Draw w.heap.size a n c 4 _ hs1 (by omega)).mono ?_); rintro e w' ⟨r2, rfl, _, hs2, hg2⟩))
    | (go_at_call 96; ((with_reducible refine (spec_l3Draw w.heap.size a n c 0 _ hs0 (by omega)).mono ?_); rintro e w' ⟨r1, rfl, _, hs1, hg1⟩)))
  all_goals (go_ret; exact ⟨_, rfl, g_start (by repeat' (first | (with_reducible assumption) | (with_reducible exact World.grownBy.refl _ _) | (with_reducible refine g_alloc ?_ _) | (with_reducible refine g_drew ?_) | (with_reducible refine g_drewN ?_ _) | (with_reducible refine g_set ?_ (by first | omega | (simp; done) | (simp; omega)) _) | refine g_then ?_ (by with_reducible assumption) | refine g_below ?_ (by with_reducible assumption)))⟩)
theorem fmtR_size (n : Int) : (fmtR n).2.size ≤ 29 := by
  by_cases h : inB n 0 253402300799 = true
  · rw [fmtR_yes h, fmtS_size h]; exact Nat.le_refl _
  · simp only [Bool.not_eq_true] at h
    rw [fmtR_no h]; exact Nat.zero_le _
theorem fieldP1 (x : Int) (y : ByteArray) (w : World) : (Instr.field 26 (.agg #[.int .i64 x, .string y]) 1).run Tryd.prog w = .ok (.string y) w := by kernel_rfl
set_option maxHeartbeats 3200000 in
set_option maxRecDepth 100000 in
theorem spec_DrawParseDate (a : Option Addr) (n c : Nat) (bs : List UInt8) (hl : bs.length = n) (hn : n ≤ 1048576) (w : World) (hr : Rd w a (bs.map byteV)) :
    Calls Tryd.prog 35 #[.slice a n c] w fun e w' => ∃ r : ByteArray, e = .returned (.string r) ∧ r.size ≤ 30 ∧ Below w.heap.size w w' := by
  have hs0 := src_start w a n c bs hl hn hr
  obtain ⟨hG1, hG2⟩ := gstart hs0.lt
  have hfd := fieldP1
  go_enter Tryd.func35, Tryd.ntmps35
  go_upto_region 3 with (first
    | (go_at_call 65; ((with_reducible refine (spec_l1Source a n c _).mono ?_); rintro e w' ⟨rfl, rfl⟩))
    | (go_at_call 33; ((with_reducible refine (spec_DrawDateAt a n c bs hl hn _ (by first | (with_reducible assumption) | exact RowAt.rd (by repeat' (first | (with_reducible assumption) | (with_reducible refine RowAt.alloc ?_ _) | (with_reducible refine RowAt.drew ?_) | (with_reducible refine RowAt.other ?_ _ _ (by first | omega | (simp; done) | (simp; omega))) | refine RowAt.then ?_ (by with_reducible assumption))) | exact Rd.below (by with_reducible assumption) (by first | (with_reducible exact Below.refl _ _) | ((repeat' (first | (with_reducible exact Below.refl _ _) | (with_reducible assumption) | (with_reducible refine below_alloc ?_ _) | (with_reducible refine Below.drew ?_) | (with_reducible refine below_drewN ?_ _) | (with_reducible refine Below.setCell ?_ ?_ _) | refine below_then ?_ (by with_reducible assumption))) <;> (first | omega | (simp; done) | (simp; omega)))))).mono ?_); rintro e w1 ⟨x, rfl, hb⟩; obtain ⟨hc, hf⟩ := bcell hb; have hz := hb.size; (try simp only [World.size_alloc, World.size_setCell, World.size_drew] at hz); obtain ⟨hlt, hle, hn1, hn2, hn3, hn4⟩ := bsize hb; (try simp only [World.size_alloc, World.size_setCell, World.size_drew] at hlt hle hn1 hn2 hn3 hn4); (try have hr0 : w.heap.size < w1.heap.size := by omega); (try have hr1 : w.heap.size + 1 < w1.heap.size := by omega); (try have hs0 : wS.heap.size < w1.heap.size := by omega); (try have hs1 : wG.heap.size < w1.heap.size := by omega)))
    | (go_at_call 99; ((with_reducible refine (spec_FormatDate x _).mono ?_); rintro e w2 ⟨rfl, hb⟩; obtain ⟨hc, hf⟩ := bcell hb; have hz := hb.size; (try simp only [World.size_alloc, World.size_setCell, World.size_drew] at hz); obtain ⟨hlt, hle, hn1, hn2, hn3, hn4⟩ := bsize hb; (try simp only [World.size_alloc, World.size_setCell, World.size_drew] at hlt hle hn1 hn2 hn3 hn4); (try have hr0 : w.heap.size < w2.heap.size := by omega); (try have hr1 : w.heap.size + 1 < w2.heap.size := by omega); (try have hs0 : wS.heap.size < w2.heap.size := by omega); (try have hs1 : wG.heap.size < w2.heap.size := by omega))))
  have ht := fmtR_size x
  generalize (fmtR x).2 = t at *
  have hs2 : Src w2 w.heap.size a n c 0 := (by repeat' (first | (with_reducible assumption) | (with_reducible refine Src.alloc ?_ _) | (with_reducible refine Src.drew ?_) | (with_reducible refine Src.other ?_ _ _ (by first | omega | (simp; done) | (simp; omega))) | refine Src.then ?_ (by with_reducible assumption)))
  have hg2 : (w.alloc (.cells #[.slice a n c, .int .i64 0] 151)).grownBy w2 (some w.heap.size) := (by repeat' (first | (with_reducible assumption) | (with_reducible exact World.grownBy.refl _ _) | (with_reducible refine g_alloc ?_ _) | (with_reducible refine g_drew ?_) | (with_reducible refine g_drewN ?_ _) | (with_reducible refine g_set ?_ (by first | omega | (simp; done) | (simp; omega)) _) | refine g_then ?_ (by with_reducible assumption) | refine g_below ?_ (by with_reducible assumption)))
  have hG := hs2.lt
  clear hs0
  by_cases hz : 0 < (t.size : Int)
  · have hz' : (t.size : Int) ≠ 0 := by omega
    go_wp2_with (first
      | (go_at_call 72; ((with_reducible refine (spec_l1Pick (fun r => 0 ≤ r ∧ r < 256) w.heap.size a n c 2 _ 7 _ _ rfl (by omega) (by omega) (by simp) _ (hs4.alloc _) (by omega) (rd_at rfl) (by have := hs4.lt; omega)).mono ?_); rintro e w5 ⟨r5, rfl, ⟨p0, p1⟩, hs5, hg5⟩; have row5 := (hrow4.alloc _).block (hg5.block _ (by simp only [World.size_alloc]; omega) (by intro q; have := Option.some.inj q; omega)); have q1 := row5.cell j _ (by rw [List.getElem?_map, List.getElem?_eq_getElem (by rw [Array.length_toList]; exact hj)]; rfl); have q2 := row5.free j (by rw [List.length_map, Array.length_toList]; exact hj); have hw5 : IntKind.u8.wrap r5 = r5 := wrapb _ p0 p1; have back := conv_back (w5.setCell ⟨w3.heap.size, j, none⟩ (.int .u8 r5)) w3.heap.size cap (t.data.toList.set j (UInt8.ofNat r5.toNat)) t.size (by rw [List.length_set, Array.length_toList]; rfl) (by rw [List.map_set, byte_of _ p0 p1]; exact row5.set j _)))
      | (go_at_call 100; ((with_reducible refine (spec_l1Next w.heap.size a n c 1 _ (by omega) (by omega) _ hsW (by omega)).mono ?_); rintro e w4 ⟨r4, rfl, ⟨h40, h41⟩, hs4, hg4⟩; obtain ⟨j, rfl⟩ := Int.eq_ofNat_of_zero_le h40; have hj : j < t.size := (by omega); have hrow4 := hrow.block (hg4.block _ hltW (by intro q; have := Option.some.inj q; omega)); have hlt4 := hg4.size))
      | (go_at_call 68; ((with_reducible refine (spec_l1Chance w.heap.size a n c 0 _ (by omega) (by omega) _ hs2 (by omega)).mono ?_); rintro e w3 ⟨b, rfl, hs3, hg3⟩; obtain ⟨cap, W, hcv, hrow, hbW, hltW⟩ := conv_there w3 t; have hsW := hs3.then hbW; have hlt3 := hs3.lt; obtain ⟨hG3, hG4⟩ := gstart hlt3))
      | (go_at_call 68; ((with_reducible refine (spec_l1Chance w.heap.size a n c 1 _ (by omega) (by omega) _ hs3 (by omega)).mono ?_); rintro e w4 ⟨b2, rfl, hs4, hg4⟩)))
    all_goals (go_ret; exact ⟨_, rfl, by first | omega | (rw [ByteArray.size_append]; show _ + 1 ≤ _; omega) | (show (List.toArray _).size ≤ 30; rw [List.size_toArray, List.length_set, Array.length_toList]; show t.size ≤ 30; omega), g_start (by repeat' (first | (with_reducible assumption) | (with_reducible exact World.grownBy.refl _ _) | (with_reducible refine g_alloc ?_ _) | (with_reducible refine g_drew ?_) | (with_reducible refine g_drewN ?_ _) | (with_reducible refine g_set ?_ (by first | omega | (simp; done) | (simp; omega)) _) | refine g_then ?_ (by with_reducible assumption) | refine g_below ?_ (by with_reducible assumption)))⟩)
  · have hz' : (t.size : Int) = 0 := by omega
    go_wp2_with (go_at_call 68; ((with_reducible refine (spec_l1Chance w.heap.size a n c 0 _ (by omega) (by omega) _ hs2 (by omega)).mono ?_); rintro e w3 ⟨b, rfl, hs3, hg3⟩))
    all_goals (go_ret; exact ⟨_, rfl, by first | omega | (rw [ByteArray.size_append]; show _ + 1 ≤ _; omega), g_start (by repeat' (first | (with_reducible assumption) | (with_reducible exact World.grownBy.refl _ _) | (with_reducible refine g_alloc ?_ _) | (with_reducible refine g_drew ?_) | (with_reducible refine g_drewN ?_ _) | (with_reducible refine g_set ?_ (by first | omega | (simp; done) | (simp; omega)) _) | refine g_then ?_ (by with_reducible assumption) | refine g_below ?_ (by with_reducible assumption)))⟩)
end Go.Proofs.YtklnccoknldkcaaDoor
