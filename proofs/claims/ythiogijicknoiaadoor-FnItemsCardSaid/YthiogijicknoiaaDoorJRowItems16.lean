/- Joined: DrawJ. -/
import Derived.Test.YthiogijicknoiaaDoorJRowItems9
import Derived.Test.YthiogijicknoiaaDoorJRowItems15
/- What is drawn for the law on items. -/
namespace Go.Proofs.YthiogijicknoiaaDoor
open Go.RowKit
set_option linter.unusedSimpArgs false
set_option linter.unusedVariables false

theorem SmI.snoc {k : Nat} {l : List It} (h : SmI k l) {x : ByteArray} {y : Bool} {z : ByteArray} (hx : x.size ≤ k) (hz : z.size ≤ k) : SmI k (l ++ [(x, y, z)]) := fun i hi =>
  (List.mem_append.1 hi).elim (fun h' => h i h') (fun h' => by rw [List.mem_singleton.1 h']; exact ⟨hx, hz⟩)
theorem SmI.big {k : Nat} {l : List It} (h : SmI k l) (hk : k ≤ 9223372036854775807) : ∀ i ∈ l, i.1.size ≤ 9223372036854775807 ∧ i.2.2.size ≤ 9223372036854775807 := fun i hi => ⟨Nat.le_trans (h i hi).1 hk, Nat.le_trans (h i hi).2 hk⟩
theorem SmI.mono {k k' : Nat} {l : List It} (h : SmI k l) (hk : k ≤ k') : SmI k' l := fun i hi => ⟨Nat.le_trans (h i hi).1 hk, Nat.le_trans (h i hi).2 hk⟩
set_option maxHeartbeats 6400000 in
theorem spec_DrawItemsText (a : Option Addr) (n c : Nat) (bs : List UInt8) (hl : bs.length = n) (hn : n ≤ 1048576) (w : World) (hr : Rd w a (bs.map byteV)) :
    Calls Tryd.prog 14 #[.slice a n c] w fun e w' => ∃ (g cap : Nat) (l : List It), e = .returned (.slice (some ⟨g, 0, none⟩) l.length cap) ∧ RowAt w' g (iV l) ∧ (l.length ≤ 23 ∧ SmI 1100 l) ∧ Below w.heap.size w w' := by
  have hs0 := src_start w a n c bs hl hn hr
  obtain ⟨hG1, hG2⟩ := gstart hs0.lt
  go_enter Tryd.func14, Tryd.ntmps14
  go_upto_region 5 with (first
    | (go_at_call 40; ((with_reducible refine (spec_l1Source a n c _).mono ?_); rintro e w' ⟨rfl, rfl⟩))
    | (go_at_call 41; ((with_reducible refine (spec_l2DrawItems w.heap.size a n c 0 _ hs0 (by omega)).mono ?_); rintro e w1 ⟨g0, cap0, l0, rfl, hg0, hV0, ⟨hl0, hsm0⟩, hs1, hg1⟩; have hgw0 : g0 ≠ w.heap.size := (by simp only [World.size_alloc] at hg0; omega); have l1 := hs1.lt))
    | (go_at_call 42; ((with_reducible refine (spec_l1Chance w.heap.size a n c (100) _ (by omega) (by omega) _ (by repeat' (first | (with_reducible assumption) | (with_reducible refine Src.alloc ?_ _) | (with_reducible refine Src.drew ?_) | (with_reducible refine Src.other ?_ _ _ (by first | omega | (simp; done) | (simp; omega))) | refine Src.then ?_ (by with_reducible assumption))) (by omega)).mono ?_); rintro e w2 ⟨b2, rfl, hs2, hg2⟩; have hV2 := hV0.grown hg2 hgw0; have l2 := hs2.lt; have hgx2 : ((w.alloc (.cells #[.slice a n c, .int .i64 0] 102))).grownBy w2 (some w.heap.size) := (by exact (by repeat' (first | (with_reducible assumption) | (with_reducible exact World.grownBy.refl _ _) | (with_reducible refine g_alloc ?_ _) | (with_reducible refine g_drew ?_) | (with_reducible refine g_drewN ?_ _) | (with_reducible refine g_set ?_ (by first | omega | (simp; done) | (simp; omega)) _) | refine g_then ?_ (by with_reducible assumption) | refine g_below ?_ (by with_reducible assumption)))); have hb2 := g_start hgx2))
    | (go_at_call 43; ((with_reducible refine (spec_DrawItemFault a n c bs hl hn _ (hr.below hb2)).mono ?_); rintro e w3 ⟨x, y, z, rfl, ⟨hx, hz⟩, hb3⟩; have hV3 := hV2.then hb3; obtain ⟨g3, cap3, W3, d1, d2, d3, d4⟩ := app_item g0 l0.length cap0 l0 rfl (by omega) x y z w3 hV3 35; have D1 := Lib.hid d1; clear d1))
    | (at_builtin; refine wpList_appB (v := .slice (some ⟨g0, 0, none⟩) l0.length cap0) (xv := .slice (some ⟨w3.heap.size, 0, none⟩) 1 1) rfl _ _ rfl (by rfl) (by rfl) D1.out ?_))
  · have hzz := hb3.size
    have hg0' : w.heap.size < g0 := by simp only [World.size_alloc] at hg0; omega
    have hll : (l0 ++ [(x, y, z)]).length = l0.length + 1 := by rw [List.length_append, List.length_singleton]
    rw [← hll] at d3
    have hgx3 : ((w.alloc (.cells #[.slice a n c, .int .i64 0] 102))).grownBy W3 (some w.heap.size) := g_chg (g_alloc (g_below hgx2 hb3) _) d4 (by rw [World.size_alloc]; omega)
    have hsx : Src W3 w.heap.size a n c 101 := src_chg ((hs2.then hb3).alloc _) d4 (by omega)
    have hsm : SmI 1100 (l0 ++ [(x, y, z)]) := (hsm0.mono (by omega)).snoc (by omega) (by omega)
    have hln : (l0 ++ [(x, y, z)]).length ≤ 22 := by omega
    rw [← hll]
    generalize l0 ++ [(x, y, z)] = l at *
    have hgw : g3 ≠ w.heap.size := by omega
    have hg : w.heap.size < g3 := by omega
    have l3 := hsx.lt
    clear hg0 hV0 hs1 hg1 hs2 hg2 hV2 hV3 hb3 d4 D1 hb2 hgx2 hll hgw0
    generalize g3 = g at *
    generalize cap3 = cap at *
    have hV := d3
    clear d3
    clear hs0
    generalize hlL : l.length = nl at *
    go_wp2_with (first
      | (go_at_call 42; ((with_reducible refine (spec_l1Chance w.heap.size a n c (101) _ (by omega) (by omega) _ (by repeat' (first | (with_reducible assumption) | (with_reducible refine Src.alloc ?_ _) | (with_reducible refine Src.drew ?_) | (with_reducible refine Src.other ?_ _ _ (by first | omega | (simp; done) | (simp; omega))) | refine Src.then ?_ (by with_reducible assumption))) (by omega)).mono ?_); rintro e w5 ⟨b5, rfl, hs5, hg5⟩; have hV5 := hV.grown hg5 hgw; have l5 := hs5.lt))
      | (go_at_call 44; ((with_reducible refine (spec_l1Word (fun x => x.size ≤ 20) w.heap.size a n c (102) _ 2 _ _ rfl (by omega) (by omega) (strs_small _ _ (by kernel_rfl)) _ (by repeat' (first | (with_reducible assumption) | (with_reducible refine Src.alloc ?_ _) | (with_reducible refine Src.drew ?_) | (with_reducible refine Src.other ?_ _ _ (by first | omega | (simp; done) | (simp; omega))) | refine Src.then ?_ (by with_reducible assumption))) (by omega) (rd_at (by first | rfl | (simp; done))) (by first | omega | (simp; omega))).mono ?_); rintro e w6 ⟨v6, rfl, hv6, hs6, hg6⟩; have hV6 := (hV5.alloc _).grown hg6 hgw; have l6 := hs6.lt))
      | (go_at_call 45; ((with_reducible refine (spec_l1Long2 w.heap.size a n c 103 _ (by decide) _ (by repeat' (first | (with_reducible assumption) | (with_reducible refine Src.alloc ?_ _) | (with_reducible refine Src.drew ?_) | (with_reducible refine Src.other ?_ _ _ (by first | omega | (simp; done) | (simp; omega))) | refine Src.then ?_ (by with_reducible assumption))) (by omega)).mono ?_); rintro e w7 ⟨v7, rfl, ⟨hv70, hv71⟩, hs7, hg7⟩; have hV7 := hV6.grown hg7 hgw; have l7 := hs7.lt))
      | (go_at_call 46; ((with_reducible refine (spec_l1Pick (fun x => 0 ≤ x ∧ x ≤ 999) w.heap.size a n c (1203) _ 2 _ _ rfl (by omega) (by omega) (by simp) _ (by repeat' (first | (with_reducible assumption) | (with_reducible refine Src.alloc ?_ _) | (with_reducible refine Src.drew ?_) | (with_reducible refine Src.other ?_ _ _ (by first | omega | (simp; done) | (simp; omega))) | refine Src.then ?_ (by with_reducible assumption))) (by omega) (rd_at (by first | rfl | (simp; done))) (by first | omega | (simp; omega))).mono ?_); rintro e w8 ⟨r8, rfl, ⟨hr80, hr81⟩, hs8, hg8⟩; have hV8 := (hV7.alloc _).grown hg8 hgw; have l8 := hs8.lt; have x1 : r8 ≤ (v7.size : Int) := (by omega); have hez : (v7.extract 0 r8.toNat).size ≤ 999 := (by rw [ByteArray.size_extract]; omega); have f8 : (9223372036854775807 < v6.size + (v7.extract 0 r8.toNat).size) = False := eq_false (by omega); have hvz : (v6 ++ v7.extract 0 r8.toNat).size ≤ 1019 := (by rw [ByteArray.size_append]; omega); obtain ⟨g', cap', W', d1, d2, d3, d4⟩ := app_item g nl cap l hlL (by omega) ⟨#[113]⟩ true (v6 ++ v7.extract 0 r8.toNat) w8 hV8 35; have D1 := Lib.hid d1; clear d1))
      | (at_builtin; refine wpList_appB (v := .slice (some ⟨g, 0, none⟩) nl cap) (xv := .slice (some ⟨w8.heap.size, 0, none⟩) 1 1) rfl _ _ rfl (by rfl) (by rfl) D1.out ?_))
    · go_ret
      have hgx8 : ((w.alloc (.cells #[.slice a n c, .int .i64 0] 102))).grownBy w8 (some w.heap.size) := by exact (by repeat' (first | (with_reducible assumption) | (with_reducible exact World.grownBy.refl _ _) | (with_reducible refine g_alloc ?_ _) | (with_reducible refine g_drew ?_) | (with_reducible refine g_drewN ?_ _) | (with_reducible refine g_set ?_ (by first | omega | (simp; done) | (simp; omega)) _) | refine g_then ?_ (by with_reducible assumption) | refine g_below ?_ (by with_reducible assumption)))
      exact ⟨g', cap', l ++ [(⟨#[113]⟩, true, v6 ++ v7.extract 0 r8.toNat)], by rw [List.length_append, List.length_singleton, hlL]; rfl, d3.row, ⟨by rw [List.length_append, List.length_singleton]; omega, hsm.snoc (by decide) (by omega)⟩, g_start (g_chg (g_alloc hgx8 _) d4 (by rw [World.size_alloc]; omega))⟩
    · go_ret
      exact ⟨g, cap, l, by rw [hlL]; rfl, hV5.row, ⟨by omega, hsm⟩, g_start (by repeat' (first | (with_reducible assumption) | (with_reducible exact World.grownBy.refl _ _) | (with_reducible refine g_alloc ?_ _) | (with_reducible refine g_drew ?_) | (with_reducible refine g_drewN ?_ _) | (with_reducible refine g_set ?_ (by first | omega | (simp; done) | (simp; omega)) _) | refine g_then ?_ (by with_reducible assumption) | refine g_below ?_ (by with_reducible assumption)))⟩
  · obtain rfl : b2 = false := by assumption
    have hg : w.heap.size < g0 := by simp only [World.size_alloc] at hg0; omega
    have hsx : Src w2 w.heap.size a n c 101 := hs2
    have hsm : SmI 1100 l0 := hsm0.mono (by omega)
    have hln : l0.length ≤ 22 := by omega
    have hV := hV2
    have hgx3 := hgx2
    clear hg0 hV0 hs1 hg1 hs2 hg2 hV2 hb2 hgx2
    generalize l0 = l at *
    generalize g0 = g at *
    generalize cap0 = cap at *
    have hgw := hgw0
    clear hs0
    generalize hlL : l.length = nl at *
    go_wp2_with (first
      | (go_at_call 42; ((with_reducible refine (spec_l1Chance w.heap.size a n c (101) _ (by omega) (by omega) _ (by repeat' (first | (with_reducible assumption) | (with_reducible refine Src.alloc ?_ _) | (with_reducible refine Src.drew ?_) | (with_reducible refine Src.other ?_ _ _ (by first | omega | (simp; done) | (simp; omega))) | refine Src.then ?_ (by with_reducible assumption))) (by omega)).mono ?_); rintro e w5 ⟨b5, rfl, hs5, hg5⟩; have hV5 := hV.grown hg5 hgw; have l5 := hs5.lt))
      | (go_at_call 44; ((with_reducible refine (spec_l1Word (fun x => x.size ≤ 20) w.heap.size a n c (102) _ 2 _ _ rfl (by omega) (by omega) (strs_small _ _ (by kernel_rfl)) _ (by repeat' (first | (with_reducible assumption) | (with_reducible refine Src.alloc ?_ _) | (with_reducible refine Src.drew ?_) | (with_reducible refine Src.other ?_ _ _ (by first | omega | (simp; done) | (simp; omega))) | refine Src.then ?_ (by with_reducible assumption))) (by omega) (rd_at (by first | rfl | (simp; done))) (by first | omega | (simp; omega))).mono ?_); rintro e w6 ⟨v6, rfl, hv6, hs6, hg6⟩; have hV6 := (hV5.alloc _).grown hg6 hgw; have l6 := hs6.lt))
      | (go_at_call 45; ((with_reducible refine (spec_l1Long2 w.heap.size a n c 103 _ (by decide) _ (by repeat' (first | (with_reducible assumption) | (with_reducible refine Src.alloc ?_ _) | (with_reducible refine Src.drew ?_) | (with_reducible refine Src.other ?_ _ _ (by first | omega | (simp; done) | (simp; omega))) | refine Src.then ?_ (by with_reducible assumption))) (by omega)).mono ?_); rintro e w7 ⟨v7, rfl, ⟨hv70, hv71⟩, hs7, hg7⟩; have hV7 := hV6.grown hg7 hgw; have l7 := hs7.lt))
      | (go_at_call 46; ((with_reducible refine (spec_l1Pick (fun x => 0 ≤ x ∧ x ≤ 999) w.heap.size a n c (1203) _ 2 _ _ rfl (by omega) (by omega) (by simp) _ (by repeat' (first | (with_reducible assumption) | (with_reducible refine Src.alloc ?_ _) | (with_reducible refine Src.drew ?_) | (with_reducible refine Src.other ?_ _ _ (by first | omega | (simp; done) | (simp; omega))) | refine Src.then ?_ (by with_reducible assumption))) (by omega) (rd_at (by first | rfl | (simp; done))) (by first | omega | (simp; omega))).mono ?_); rintro e w8 ⟨r8, rfl, ⟨hr80, hr81⟩, hs8, hg8⟩; have hV8 := (hV7.alloc _).grown hg8 hgw; have l8 := hs8.lt; have x1 : r8 ≤ (v7.size : Int) := (by omega); have hez : (v7.extract 0 r8.toNat).size ≤ 999 := (by rw [ByteArray.size_extract]; omega); have f8 : (9223372036854775807 < v6.size + (v7.extract 0 r8.toNat).size) = False := eq_false (by omega); have hvz : (v6 ++ v7.extract 0 r8.toNat).size ≤ 1019 := (by rw [ByteArray.size_append]; omega); obtain ⟨g', cap', W', d1, d2, d3, d4⟩ := app_item g nl cap l hlL (by omega) ⟨#[113]⟩ true (v6 ++ v7.extract 0 r8.toNat) w8 hV8 35; have D1 := Lib.hid d1; clear d1))
      | (at_builtin; refine wpList_appB (v := .slice (some ⟨g, 0, none⟩) nl cap) (xv := .slice (some ⟨w8.heap.size, 0, none⟩) 1 1) rfl _ _ rfl (by rfl) (by rfl) D1.out ?_))
    · go_ret
      have hgx8 : ((w.alloc (.cells #[.slice a n c, .int .i64 0] 102))).grownBy w8 (some w.heap.size) := by exact (by repeat' (first | (with_reducible assumption) | (with_reducible exact World.grownBy.refl _ _) | (with_reducible refine g_alloc ?_ _) | (with_reducible refine g_drew ?_) | (with_reducible refine g_drewN ?_ _) | (with_reducible refine g_set ?_ (by first | omega | (simp; done) | (simp; omega)) _) | refine g_then ?_ (by with_reducible assumption) | refine g_below ?_ (by with_reducible assumption)))
      exact ⟨g', cap', l ++ [(⟨#[113]⟩, true, v6 ++ v7.extract 0 r8.toNat)], by rw [List.length_append, List.length_singleton, hlL]; rfl, d3.row, ⟨by rw [List.length_append, List.length_singleton]; omega, hsm.snoc (by decide) (by omega)⟩, g_start (g_chg (g_alloc hgx8 _) d4 (by rw [World.size_alloc]; omega))⟩
    · go_ret
      exact ⟨g, cap, l, by rw [hlL]; rfl, hV5.row, ⟨by omega, hsm⟩, g_start (by repeat' (first | (with_reducible assumption) | (with_reducible exact World.grownBy.refl _ _) | (with_reducible refine g_alloc ?_ _) | (with_reducible refine g_drew ?_) | (with_reducible refine g_drewN ?_ _) | (with_reducible refine g_set ?_ (by first | omega | (simp; done) | (simp; omega)) _) | refine g_then ?_ (by with_reducible assumption) | refine g_below ?_ (by with_reducible assumption)))⟩
theorem itemsR_size (l : List It) : (itemsR l).2.size ≤ 1000 := by
  unfold itemsR
  split
  · exact Nat.zero_le _
  · split
    · exact Nat.zero_le _
    · split
      · exact Nat.zero_le _
      · rename_i h; show (joinB commaS (l.map itT)).size ≤ 1000; omega
theorem fieldQ1 (x : Int) (y : ByteArray) (w : World) : (Instr.field 38 (.agg #[.int .i64 x, .string y]) 1).run Tryd.prog w = .ok (.string y) w := by kernel_rfl
set_option maxHeartbeats 6400000 in
theorem spec_DrawParseItems (a : Option Addr) (n c : Nat) (bs : List UInt8) (hl : bs.length = n) (hn : n ≤ 1048576) (w : World) (hr : Rd w a (bs.map byteV)) :
    Calls Tryd.prog 16 #[.slice a n c] w fun e w' => ∃ r : ByteArray, e = .returned (.string r) ∧ r.size ≤ 1100 ∧ Below w.heap.size w w' := by
  have hs0 := src_start w a n c bs hl hn hr
  obtain ⟨hG1, hG2⟩ := gstart hs0.lt
  have hfd := fieldQ1
  go_enter Tryd.func16, Tryd.ntmps16
  go_upto_region 3 with (first
    | (go_at_call 40; ((with_reducible refine (spec_l1Source a n c _).mono ?_); rintro e w' ⟨rfl, rfl⟩))
    | (go_at_call 41; ((with_reducible refine (spec_l2DrawItems w.heap.size a n c 0 _ hs0 (by omega)).mono ?_); rintro e w1 ⟨g0, cap0, l0, rfl, hg0, hV0, ⟨hl0, hsm0⟩, hs1, hg1⟩; have l1 := hs1.lt))
    | (go_at_call 20; ((with_reducible refine (spec_ItemsText _ _ _ l0 rfl _ hV0.row.rd (by omega) (hsm0.big (by omega))).mono ?_); rintro e w2 ⟨rfl, hb2⟩; have hs2 := hs1.then hb2)))
  have ht := itemsR_size l0
  generalize (itemsR l0).2 = t at *
  have l2 := hs2.lt
  clear hs0
  go_wp2_with (first
    | (go_at_call 51; ((with_reducible refine (spec_l1Next w.heap.size a n c 100 _ (by omega) (by omega) _ (by repeat' (first | (with_reducible assumption) | (with_reducible refine Src.alloc ?_ _) | (with_reducible refine Src.drew ?_) | (with_reducible refine Src.other ?_ _ _ (by first | omega | (simp; done) | (simp; omega))) | refine Src.then ?_ (by with_reducible assumption))) (by omega)).mono ?_); rintro e w3 ⟨r, rfl, ⟨hr0, hr1⟩, hs3, hg3⟩; have l3 := hs3.lt))
    | (go_at_call 44; ((with_reducible refine (spec_l1Word (fun x => x.size ≤ 50) w.heap.size a n c (101) _ 11 _ _ rfl (by omega) (by omega) (strs_small _ _ (by kernel_rfl)) _ (by repeat' (first | (with_reducible assumption) | (with_reducible refine Src.alloc ?_ _) | (with_reducible refine Src.drew ?_) | (with_reducible refine Src.other ?_ _ _ (by first | omega | (simp; done) | (simp; omega))) | refine Src.then ?_ (by with_reducible assumption))) (by omega) (rd_at (by first | rfl | (simp; done))) (by first | omega | (simp; omega))).mono ?_); rintro e w4 ⟨v4, rfl, hv4, hs4, hg4⟩))
    | (go_at_call 44; ((with_reducible refine (spec_l1Word (fun x => x.size ≤ 50) w.heap.size a n c (101) _ 5 _ _ rfl (by omega) (by omega) (strs_small _ _ (by kernel_rfl)) _ (by repeat' (first | (with_reducible assumption) | (with_reducible refine Src.alloc ?_ _) | (with_reducible refine Src.drew ?_) | (with_reducible refine Src.other ?_ _ _ (by first | omega | (simp; done) | (simp; omega))) | refine Src.then ?_ (by with_reducible assumption))) (by omega) (rd_at (by first | rfl | (simp; done))) (by first | omega | (simp; omega))).mono ?_); rintro e w4 ⟨v4, rfl, hv4, hs4, hg4⟩; have f4 : (9223372036854775807 < t.size + v4.size) = False := eq_false (by omega)))
    | (go_at_call 45; ((with_reducible refine (spec_l1Long2 w.heap.size a n c 101 t (by omega) _ (by repeat' (first | (with_reducible assumption) | (with_reducible refine Src.alloc ?_ _) | (with_reducible refine Src.drew ?_) | (with_reducible refine Src.other ?_ _ _ (by first | omega | (simp; done) | (simp; omega))) | refine Src.then ?_ (by with_reducible assumption))) (by omega)).mono ?_); rintro e w4 ⟨v4, rfl, ⟨hv40, hv41⟩, hs4, hg4⟩)))
  all_goals (go_ret; exact ⟨_, rfl, by first | omega | (rw [ByteArray.size_append]; omega), g_start (by repeat' (first | (with_reducible assumption) | (with_reducible exact World.grownBy.refl _ _) | (with_reducible refine g_alloc ?_ _) | (with_reducible refine g_drew ?_) | (with_reducible refine g_drewN ?_ _) | (with_reducible refine g_set ?_ (by first | omega | (simp; done) | (simp; omega)) _) | refine g_then ?_ (by with_reducible assumption) | refine g_below ?_ (by with_reducible assumption)))⟩)
set_option maxHeartbeats 6400000 in
theorem spec_DrawFindItem (a : Option Addr) (n c : Nat) (bs : List UInt8) (hl : bs.length = n) (hn : n ≤ 1048576) (w : World) (hr : Rd w a (bs.map byteV)) :
    Calls Tryd.prog 18 #[.slice a n c] w fun e w' => ∃ (g cap : Nat) (l : List It) (x : ByteArray), e = .returned (.tuple #[.slice (some ⟨g, 0, none⟩) l.length cap, .string x]) ∧ RowAt w' g (iV l) ∧ (l.length ≤ 21 ∧ SmI 20 l ∧ x.size ≤ 20) ∧ Below w.heap.size w w' := by
  have hs0 := src_start w a n c bs hl hn hr
  obtain ⟨hG1, hG2⟩ := gstart hs0.lt
  go_enter Tryd.func18, Tryd.ntmps18
  go_wp2_with (first
    | (go_at_call 40; ((with_reducible refine (spec_l1Source a n c _).mono ?_); rintro e w' ⟨rfl, rfl⟩))
    | (go_at_call 41; ((with_reducible refine (spec_l2DrawItems w.heap.size a n c 0 _ hs0 (by omega)).mono ?_); rintro e w1 ⟨g0, cap0, l0, rfl, hg0, hV0, ⟨hl0, hsm0⟩, hs1, hg1⟩; have hgw0 : g0 ≠ w.heap.size := (by simp only [World.size_alloc] at hg0; omega); have l1 := hs1.lt))
    | (go_at_call 44; ((with_reducible refine (spec_l1Word (fun x => x.size ≤ 20) w.heap.size a n c (100) _ 7 _ _ rfl (by omega) (by omega) (strs_small _ _ (by kernel_rfl)) _ (by repeat' (first | (with_reducible assumption) | (with_reducible refine Src.alloc ?_ _) | (with_reducible refine Src.drew ?_) | (with_reducible refine Src.other ?_ _ _ (by first | omega | (simp; done) | (simp; omega))) | refine Src.then ?_ (by with_reducible assumption))) (by omega) (rd_at (by first | rfl | (simp; done))) (by first | omega | (simp; omega))).mono ?_); rintro e w2 ⟨v2, rfl, hv2, hs2, hg2⟩; have hV2 := (hV0.alloc _).grown hg2 hgw0)))
  go_ret2
  exact ⟨g0, cap0, l0, v2, rfl, hV2.row, ⟨hl0, hsm0, hv2⟩, g_start (by repeat' (first | (with_reducible assumption) | (with_reducible exact World.grownBy.refl _ _) | (with_reducible refine g_alloc ?_ _) | (with_reducible refine g_drew ?_) | (with_reducible refine g_drewN ?_ _) | (with_reducible refine g_set ?_ (by first | omega | (simp; done) | (simp; omega)) _) | refine g_then ?_ (by with_reducible assumption) | refine g_below ?_ (by with_reducible assumption)))⟩
end Go.Proofs.YthiogijicknoiaaDoor
