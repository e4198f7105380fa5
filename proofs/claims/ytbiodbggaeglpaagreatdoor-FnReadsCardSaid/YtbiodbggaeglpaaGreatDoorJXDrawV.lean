/- Joined: DrawV. -/
import Derived.Test.YtbiodbggaeglpaaGreatDoorJB17
import Derived.Test.YtbiodbggaeglpaaGreatDoorJB13
/- Bytes that are drawn to be read: requests and responses, bent. -/
namespace Go.Proofs.YtbiodbggaeglpaaGreatDoor
open Go.RowKit
set_option linter.unusedSimpArgs false
set_option linter.unusedVariables false
set_option maxRecDepth 100000

/-- Bytes that can be read. -/
def Dat (w w' : World) (e : Ending) : Prop := ∃ (ad : Option Addr) (lb : List UInt8) (cd : Nat), e = .returned (.slice ad lb.length cd) ∧ Rd w' ad (bV lb) ∧ (lb.length ≤ cd ∧ lb.length ≤ 8000) ∧ Below w.heap.size w w'
theorem bV_tk (l : List UInt8) (k : Nat) : bV (l.take k) = (bV l).take k := by simp [bV]
theorem bV_set (l : List UInt8) (k : Nat) (b : UInt8) : (bV l).set k (byteV b) = bV (l.set k b) := by simp [bV, List.map_set]
theorem byte_small (v : Nat) (h : v < 256) : Value.int .u8 (v : Int) = byteV (UInt8.ofNat v) := by
  unfold byteV
  rw [UInt8.toNat_ofNat', Nat.mod_eq_of_lt h]
theorem fieldV1 (x : Int) (a : Option Addr) (n c : Nat) (w : World) : (Instr.field 38 (.agg #[.int .i64 x, .slice a n c]) 1).run Tryz.prog w = .ok (.slice a n c) w := by kernel_rfl
set_option maxHeartbeats 6400000 in
theorem spec_DrawReadRequest (a : Option Addr) (n c : Nat) (bs : List UInt8) (hl : bs.length = n) (hn : n ≤ 1048576) (w : World) (hr : Rd w a (bs.map byteV)) :
    Calls Tryz.prog 6 #[.slice a n c] w fun e w' => Dat w w' e := by
  have hs0 := src_start w a n c bs hl hn hr
  obtain ⟨hG1, hG2⟩ := gstart hs0.lt
  have hfd := fieldV1
  go_enter Tryz.func6, Tryz.ntmps6
  go_upto_region 3 with (first
    | (go_at_call 23; ((with_reducible refine (spec_l1Source a n c _).mono ?_); rintro e w' ⟨rfl, rfl⟩))
    | (go_at_call 25; ((with_reducible refine (spec_l5Bent w.heap.size a n c 0 _ hs0 (by omega)).mono ?_); rintro e w1 ⟨m, h, p, g, cap, l, rfl, ⟨hm, hh, hp⟩, hg, hW, ⟨hl1, hsm⟩, hs1, hg1⟩; have hbig := hsm.big (by omega); have hdz := packQ_len m h p l))
    | (go_at_call 24; ((with_reducible refine (spec_PackRequestC m h p (by omega) (by omega) (by omega) _ _ _ l rfl _ hW.row.rd (by omega) hbig).mono ?_); rintro e w2 ⟨ad, nd, cd, rfl, ⟨hlD, hsD⟩, hb2, hcd⟩; have hs2 := hs1.then hb2)))
  have hz1 := hg1.size
  have hgx2 : ((w.alloc (.cells #[.slice a n c, .int .i64 0] 86))).grownBy w2 (some w.heap.size) := by exact (by repeat' (first | (with_reducible assumption) | (with_reducible exact World.grownBy.refl _ _) | (with_reducible refine g_alloc ?_ _) | (with_reducible refine g_drew ?_) | (with_reducible refine g_drewN ?_ _) | (with_reducible refine g_set ?_ (by first | omega | (simp; done) | (simp; omega)) _) | refine g_then ?_ (by with_reducible assumption) | refine g_below ?_ (by with_reducible assumption)))
  clear hW hbig hsm hg hg1
  generalize (packQ m h p l).2 = LD at *
  generalize (packQ m h p l).1 = F at *
  have hz2 := hb2.size
  have l2 := hs2.lt
  simp only [World.size_alloc] at hz1
  have hs3 : Src w2 w.heap.size a n c 1300 := hs2.mono (by omega)
  clear hs0 hs1 hs2 hb2 hG1 hG2
  subst hlD
  by_cases h0 : LD.length = 0
  · obtain rfl : LD = [] := List.eq_nil_of_length_eq_zero h0
    clear hsD h0 hdz
    have FN : ∀ W', ((w.alloc (.cells #[.slice a n c, .int .i64 0] 86))).grownBy W' (some w.heap.size) → Dat w W' (.returned (.slice ad 0 cd)) := fun W' hg => ⟨ad, [], cd, rfl, Rd.nil _ _, ⟨Nat.zero_le _, Nat.zero_le _⟩, g_start hg⟩
    rcases ad with _ | ⟨gd, off, pt⟩
    all_goals
      go_wp2_with (first
        | (go_at_call 26; ((with_reducible refine (spec_l1Next w.heap.size a n c 1300 7 (by omega) (by omega) _ hs3 (by omega)).mono ?_); rintro e w3 ⟨r, rfl, ⟨hr0, hr1⟩, hs4, hg4⟩; have l3 := hs4.lt; have hgx4 := hgx2.trans hg4))
        | (go_at_call 27; ((with_reducible refine (spec_l1Word (fun x => x.size ≤ 60) w.heap.size a n c (1301) _ 10 _ _ rfl (by omega) (by omega) (strs_small _ _ (by kernel_rfl)) _ (by repeat' (first | (with_reducible assumption) | (with_reducible refine Src.alloc ?_ _) | (with_reducible refine Src.drew ?_) | (with_reducible refine Src.other ?_ _ _ (by first | omega | (simp; done) | (simp; omega))) | refine Src.then ?_ (by with_reducible assumption))) (by omega) (rd_at (by first | rfl | (simp; done))) (by first | omega | (simp; omega))).mono ?_); rintro e w5 ⟨x, rfl, hx, hs6, hg6⟩; obtain ⟨g, cap, W', cv, ⟨hg, hcx⟩, hrowx, hbw⟩ := bw_goodc x w5 w5.heap.size (Nat.le_refl _); have hgx6 := (g_alloc hgx4 _).trans hg6))
        | (go_at_call 26; ((with_reducible refine (spec_l1Next w.heap.size a n c 1301 1 (by omega) (by omega) _ hs4 (by omega)).mono ?_); rintro e w4 ⟨r5, rfl, ⟨hr50, hr51⟩, hs5, hg5⟩; obtain rfl : r5 = 0 := (by omega); have hgx5 := hgx4.trans hg5)))
      all_goals first
        | (go_ret; exact ⟨some ⟨g, 0, none⟩, x.data.toList, cap, rfl, hrowx.rd, ⟨hcx, by show x.size ≤ 8000; omega⟩, g_start (by repeat' (first | (with_reducible assumption) | (with_reducible exact World.grownBy.refl _ _) | (with_reducible refine g_alloc ?_ _) | (with_reducible refine g_drew ?_) | (with_reducible refine g_drewN ?_ _) | (with_reducible refine g_set ?_ (by first | omega | (simp; done) | (simp; omega)) _) | refine g_then ?_ (by with_reducible assumption) | refine g_below ?_ (by with_reducible assumption)))⟩)
        | (go_ret; exact FN _ (by exact (by repeat' (first | (with_reducible assumption) | (with_reducible exact World.grownBy.refl _ _) | (with_reducible refine g_alloc ?_ _) | (with_reducible refine g_drew ?_) | (with_reducible refine g_drewN ?_ _) | (with_reducible refine g_set ?_ (by first | omega | (simp; done) | (simp; omega)) _) | refine g_then ?_ (by with_reducible assumption) | refine g_below ?_ (by with_reducible assumption)))))
  · obtain ⟨gd, rfl, hgd1, hgd2, hrow⟩ : ∃ gd, ad = some ⟨gd, 0, none⟩ ∧ w1.heap.size ≤ gd ∧ gd < w2.heap.size ∧ RowAt w2 gd (bV LD) := by
      rcases hsD with ⟨h, _⟩ | h
      · exact absurd h h0
      · exact h
    have hgw : gd ≠ w.heap.size := by omega
    have hp0 : 0 < LD.length := by omega
    clear hsD h0
    go_wp2_with (first
        | (go_at_call 26; ((with_reducible refine (spec_l1Next w.heap.size a n c 1300 7 (by omega) (by omega) _ hs3 (by omega)).mono ?_); rintro e w3 ⟨r, rfl, ⟨hr0, hr1⟩, hs4, hg4⟩; have l3 := hs4.lt; have hgx4 := hgx2.trans hg4; have hrow4 := hrow.grown hg4 hgw))
        | (go_at_call 27; ((with_reducible refine (spec_l1Word (fun x => x.size ≤ 60) w.heap.size a n c (1301) _ 10 _ _ rfl (by omega) (by omega) (strs_small _ _ (by kernel_rfl)) _ (by repeat' (first | (with_reducible assumption) | (with_reducible refine Src.alloc ?_ _) | (with_reducible refine Src.drew ?_) | (with_reducible refine Src.other ?_ _ _ (by first | omega | (simp; done) | (simp; omega))) | refine Src.then ?_ (by with_reducible assumption))) (by omega) (rd_at (by first | rfl | (simp; done))) (by first | omega | (simp; omega))).mono ?_); rintro e w5 ⟨x, rfl, hx, hs6, hg6⟩; obtain ⟨g, cap, W', cv, ⟨hg, hcx⟩, hrowx, hbw⟩ := bw_goodc x w5 w5.heap.size (Nat.le_refl _); have hgx6 := (g_alloc hgx4 _).trans hg6))
        | (go_at_call 28; ((with_reducible refine (spec_l1Pick (fun x => 0 ≤ x ∧ x ≤ 255) w.heap.size a n c (1302) _ 5 _ _ rfl (by omega) (by omega) (by (simp; done)) _ (by repeat' (first | (with_reducible assumption) | (with_reducible refine Src.alloc ?_ _) | (with_reducible refine Src.drew ?_) | (with_reducible refine Src.other ?_ _ _ (by first | omega | (simp; done) | (simp; omega))) | refine Src.then ?_ (by with_reducible assumption))) (by omega) (rd_at (by first | rfl | (simp; done))) (by first | omega | (simp; omega))).mono ?_); rintro e w6 ⟨v, rfl, ⟨hv0, hv1⟩, hs6, hg6⟩; obtain ⟨vn, rfl⟩ := Int.eq_ofNat_of_zero_le hv0; have hrow6 := (hrow5.alloc _).grown hg6 hgw; have hfr := hrow6.free k5 (by rw [bV_len]; omega); have hcl := hrow6.cell k5 _ (List.getElem?_eq_getElem (by rw [bV_len]; omega)); have hgx6 := (g_alloc hgx5 _).trans hg6))
        | (go_at_call 26; ((with_reducible refine (spec_l1Next w.heap.size a n c 1301 (LD.length : Int) (by omega) (by omega) _ hs4 (by omega)).mono ?_); rintro e w4 ⟨r5, rfl, ⟨hr50, hr51⟩, hs5, hg5⟩; obtain ⟨k5, rfl⟩ := Int.eq_ofNat_of_zero_le hr50; have l5 := hs5.lt; have hgx5 := hgx4.trans hg5; have hrow5 := hrow4.grown hg5 hgw))
        | (go_at_call 26; ((with_reducible refine (spec_l1Next w.heap.size a n c 1301 ((LD.length : Int) + 1) (by omega) (by omega) _ hs4 (by omega)).mono ?_); rintro e w4 ⟨r5, rfl, ⟨hr50, hr51⟩, hs5, hg5⟩; obtain ⟨k5, rfl⟩ := Int.eq_ofNat_of_zero_le hr50; have l5 := hs5.lt; have hgx5 := hgx4.trans hg5; have hrow5 := hrow4.grown hg5 hgw)))
    all_goals first
      | (go_ret; exact ⟨some ⟨g, 0, none⟩, x.data.toList, cap, rfl, hrowx.rd, ⟨hcx, by show x.size ≤ 8000; omega⟩, g_start (by repeat' (first | (with_reducible assumption) | (with_reducible exact World.grownBy.refl _ _) | (with_reducible refine g_alloc ?_ _) | (with_reducible refine g_drew ?_) | (with_reducible refine g_drewN ?_ _) | (with_reducible refine g_set ?_ (by first | omega | (simp; done) | (simp; omega)) _) | refine g_then ?_ (by with_reducible assumption) | refine g_below ?_ (by with_reducible assumption)))⟩)
      | (go_ret; exact ⟨_, LD, cd, rfl, hrow4.rd, ⟨hcd, by omega⟩, g_start (by repeat' (first | (with_reducible assumption) | (with_reducible exact World.grownBy.refl _ _) | (with_reducible refine g_alloc ?_ _) | (with_reducible refine g_drew ?_) | (with_reducible refine g_drewN ?_ _) | (with_reducible refine g_set ?_ (by first | omega | (simp; done) | (simp; omega)) _) | refine g_then ?_ (by with_reducible assumption) | refine g_below ?_ (by with_reducible assumption)))⟩)
      | (go_ret; exact ⟨_, LD.set k5 (UInt8.ofNat vn), cd, (by rw [List.length_set]; rfl), by rw [← bV_set, ← byte_small vn (by omega)]; exact (hrow6.set k5 _).rd, ⟨by rw [List.length_set]; exact hcd, by rw [List.length_set]; omega⟩, g_start (by repeat' (first | (with_reducible assumption) | (with_reducible exact World.grownBy.refl _ _) | (with_reducible refine g_alloc ?_ _) | (with_reducible refine g_drew ?_) | (with_reducible refine g_drewN ?_ _) | (with_reducible refine g_set ?_ (by first | omega | (simp; done) | (simp; omega)) _) | refine g_then ?_ (by with_reducible assumption) | refine g_below ?_ (by with_reducible assumption)))⟩)
      | (go_ret; exact ⟨_, LD.take k5, cd, (by rw [List.length_take_of_le (by omega)]; rfl), by rw [bV_tk]; exact (RowAt.rd (by repeat' (first | (with_reducible assumption) | (with_reducible refine RowAt.alloc ?_ _) | (with_reducible refine RowAt.drew ?_) | (with_reducible refine RowAt.other ?_ _ _ (by first | omega | (simp; done) | (simp; omega))) | refine RowAt.then ?_ (by with_reducible assumption)))).take k5, ⟨by rw [List.length_take_of_le (by omega)]; omega, by rw [List.length_take_of_le (by omega)]; omega⟩, g_start (by repeat' (first | (with_reducible assumption) | (with_reducible exact World.grownBy.refl _ _) | (with_reducible refine g_alloc ?_ _) | (with_reducible refine g_drew ?_) | (with_reducible refine g_drewN ?_ _) | (with_reducible refine g_set ?_ (by first | omega | (simp; done) | (simp; omega)) _) | refine g_then ?_ (by with_reducible assumption) | refine g_below ?_ (by with_reducible assumption)))⟩)
set_option maxHeartbeats 6400000 in
theorem spec_DrawReadResponse (a : Option Addr) (n c : Nat) (bs : List UInt8) (hl : bs.length = n) (hn : n ≤ 1048576) (w : World) (hr : Rd w a (bs.map byteV)) :
    Calls Tryz.prog 8 #[.slice a n c] w fun e w' => Dat w w' e := by
  have hs0 := src_start w a n c bs hl hn hr
  obtain ⟨hG1, hG2⟩ := gstart hs0.lt
  have hfd := fieldV1
  go_enter Tryz.func8, Tryz.ntmps8
  go_upto_region 3 with (first
    | (go_at_call 23; ((with_reducible refine (spec_l1Source a n c _).mono ?_); rintro e w' ⟨rfl, rfl⟩))
    | (go_at_call 36; ((with_reducible refine (spec_DrawResponseFault a n c bs hl hn _ (hr.alloc _)).mono ?_); rintro e w1 ⟨t, g, cap, l, gb, capb, lb, rfl, ⟨ht0, ht1⟩, ⟨hg, hgb⟩, r1, ⟨hl1, hsm⟩, r2, hlb, hb1⟩; have hs1 := hs0.then hb1; have hbig := hsm.big (by omega); have hdz := packP_len t l lb))
    | (go_at_call 35; ((with_reducible refine (spec_PackResponseC t _ _ _ l rfl _ _ _ lb rfl _ r1.rd (by omega) (by omega) hbig r2.rd).mono ?_); rintro e w2 ⟨ad, nd, cd, rfl, ⟨hlD, hsD⟩, hb2, hcd⟩; have hs2 := hs1.then hb2)))
  have hz1 := hb1.size
  have hgx2 : ((w.alloc (.cells #[.slice a n c, .int .i64 0] 86))).grownBy w2 (some w.heap.size) := by exact (by repeat' (first | (with_reducible assumption) | (with_reducible exact World.grownBy.refl _ _) | (with_reducible refine g_alloc ?_ _) | (with_reducible refine g_drew ?_) | (with_reducible refine g_drewN ?_ _) | (with_reducible refine g_set ?_ (by first | omega | (simp; done) | (simp; omega)) _) | refine g_then ?_ (by with_reducible assumption) | refine g_below ?_ (by with_reducible assumption)))
  clear hbig hsm hg hgb r1 r2 hb1
  generalize (packP t l lb).2 = LD at *
  generalize (packP t l lb).1 = F at *
  have hz2 := hb2.size
  have l2 := hs2.lt
  simp only [World.size_alloc] at hz1
  have hs3 : Src w2 w.heap.size a n c 0 := hs2.mono (by omega)
  clear hs0 hs1 hs2 hb2 hG1 hG2
  subst hlD
  by_cases h0 : LD.length = 0
  · obtain rfl : LD = [] := List.eq_nil_of_length_eq_zero h0
    clear hsD h0 hdz
    have FN : ∀ W', ((w.alloc (.cells #[.slice a n c, .int .i64 0] 86))).grownBy W' (some w.heap.size) → Dat w W' (.returned (.slice ad 0 cd)) := fun W' hg => ⟨ad, [], cd, rfl, Rd.nil _ _, ⟨Nat.zero_le _, Nat.zero_le _⟩, g_start hg⟩
    rcases ad with _ | ⟨gd, off, pt⟩
    all_goals
      go_wp2_with (first
        | (go_at_call 26; ((with_reducible refine (spec_l1Next w.heap.size a n c 0 7 (by omega) (by omega) _ hs3 (by omega)).mono ?_); rintro e w3 ⟨r, rfl, ⟨hr0, hr1⟩, hs4, hg4⟩; have l3 := hs4.lt; have hgx4 := hgx2.trans hg4))
        | (go_at_call 27; ((with_reducible refine (spec_l1Word (fun x => x.size ≤ 60) w.heap.size a n c (1) _ 8 _ _ rfl (by omega) (by omega) (strs_small _ _ (by kernel_rfl)) _ (by repeat' (first | (with_reducible assumption) | (with_reducible refine Src.alloc ?_ _) | (with_reducible refine Src.drew ?_) | (with_reducible refine Src.other ?_ _ _ (by first | omega | (simp; done) | (simp; omega))) | refine Src.then ?_ (by with_reducible assumption))) (by omega) (rd_at (by first | rfl | (simp; done))) (by first | omega | (simp; omega))).mono ?_); rintro e w5 ⟨x, rfl, hx, hs6, hg6⟩; obtain ⟨g, cap, W', cv, ⟨hg, hcx⟩, hrowx, hbw⟩ := bw_goodc x w5 w5.heap.size (Nat.le_refl _); have hgx6 := (g_alloc hgx4 _).trans hg6)))
      all_goals first
        | (go_ret; exact ⟨some ⟨g, 0, none⟩, x.data.toList, cap, rfl, hrowx.rd, ⟨hcx, by show x.size ≤ 8000; omega⟩, g_start (by repeat' (first | (with_reducible assumption) | (with_reducible exact World.grownBy.refl _ _) | (with_reducible refine g_alloc ?_ _) | (with_reducible refine g_drew ?_) | (with_reducible refine g_drewN ?_ _) | (with_reducible refine g_set ?_ (by first | omega | (simp; done) | (simp; omega)) _) | refine g_then ?_ (by with_reducible assumption) | refine g_below ?_ (by with_reducible assumption)))⟩)
        | (go_ret; exact FN _ (by exact (by repeat' (first | (with_reducible assumption) | (with_reducible exact World.grownBy.refl _ _) | (with_reducible refine g_alloc ?_ _) | (with_reducible refine g_drew ?_) | (with_reducible refine g_drewN ?_ _) | (with_reducible refine g_set ?_ (by first | omega | (simp; done) | (simp; omega)) _) | refine g_then ?_ (by with_reducible assumption) | refine g_below ?_ (by with_reducible assumption)))))
  · obtain ⟨gd, rfl, hgd1, hgd2, hrow⟩ : ∃ gd, ad = some ⟨gd, 0, none⟩ ∧ w1.heap.size ≤ gd ∧ gd < w2.heap.size ∧ RowAt w2 gd (bV LD) := by
      rcases hsD with ⟨h, _⟩ | h
      · exact absurd h h0
      · exact h
    have hgw : gd ≠ w.heap.size := by omega
    have hp0 : 0 < LD.length := by omega
    clear hsD h0
    go_wp2_with (first
        | (go_at_call 26; ((with_reducible refine (spec_l1Next w.heap.size a n c 0 7 (by omega) (by omega) _ hs3 (by omega)).mono ?_); rintro e w3 ⟨r, rfl, ⟨hr0, hr1⟩, hs4, hg4⟩; have l3 := hs4.lt; have hgx4 := hgx2.trans hg4; have hrow4 := hrow.grown hg4 hgw))
        | (go_at_call 27; ((with_reducible refine (spec_l1Word (fun x => x.size ≤ 60) w.heap.size a n c (1) _ 8 _ _ rfl (by omega) (by omega) (strs_small _ _ (by kernel_rfl)) _ (by repeat' (first | (with_reducible assumption) | (with_reducible refine Src.alloc ?_ _) | (with_reducible refine Src.drew ?_) | (with_reducible refine Src.other ?_ _ _ (by first | omega | (simp; done) | (simp; omega))) | refine Src.then ?_ (by with_reducible assumption))) (by omega) (rd_at (by first | rfl | (simp; done))) (by first | omega | (simp; omega))).mono ?_); rintro e w5 ⟨x, rfl, hx, hs6, hg6⟩; obtain ⟨g, cap, W', cv, ⟨hg, hcx⟩, hrowx, hbw⟩ := bw_goodc x w5 w5.heap.size (Nat.le_refl _); have hgx6 := (g_alloc hgx4 _).trans hg6))
        | (go_at_call 28; ((with_reducible refine (spec_l1Pick (fun x => 0 ≤ x ∧ x ≤ 255) w.heap.size a n c (2) _ 5 _ _ rfl (by omega) (by omega) (by (simp; done)) _ (by repeat' (first | (with_reducible assumption) | (with_reducible refine Src.alloc ?_ _) | (with_reducible refine Src.drew ?_) | (with_reducible refine Src.other ?_ _ _ (by first | omega | (simp; done) | (simp; omega))) | refine Src.then ?_ (by with_reducible assumption))) (by omega) (rd_at (by first | rfl | (simp; done))) (by first | omega | (simp; omega))).mono ?_); rintro e w6 ⟨v, rfl, ⟨hv0, hv1⟩, hs6, hg6⟩; obtain ⟨vn, rfl⟩ := Int.eq_ofNat_of_zero_le hv0; have hrow6 := (hrow5.alloc _).grown hg6 hgw; have hfr := hrow6.free k5 (by rw [bV_len]; omega); have hcl := hrow6.cell k5 _ (List.getElem?_eq_getElem (by rw [bV_len]; omega)); have hgx6 := (g_alloc hgx5 _).trans hg6))
        | (go_at_call 37; ((with_reducible refine (spec_l1Min _ _ _).mono ?_); rintro e w' ⟨rfl, rfl⟩))
        | (go_at_call 26; ((with_reducible refine (spec_l1Next w.heap.size a n c 1 (min 30 (LD.length : Int)) (by omega) (by omega) _ hs4 (by omega)).mono ?_); rintro e w4 ⟨r5, rfl, ⟨hr50, hr51⟩, hs5, hg5⟩; obtain ⟨k5, rfl⟩ := Int.eq_ofNat_of_zero_le hr50; have l5 := hs5.lt; have hgx5 := hgx4.trans hg5; have hrow5 := hrow4.grown hg5 hgw)))
    all_goals first
      | (go_ret; exact ⟨some ⟨g, 0, none⟩, x.data.toList, cap, rfl, hrowx.rd, ⟨hcx, by show x.size ≤ 8000; omega⟩, g_start (by repeat' (first | (with_reducible assumption) | (with_reducible exact World.grownBy.refl _ _) | (with_reducible refine g_alloc ?_ _) | (with_reducible refine g_drew ?_) | (with_reducible refine g_drewN ?_ _) | (with_reducible refine g_set ?_ (by first | omega | (simp; done) | (simp; omega)) _) | refine g_then ?_ (by with_reducible assumption) | refine g_below ?_ (by with_reducible assumption)))⟩)
      | (go_ret; exact ⟨_, LD, cd, rfl, hrow4.rd, ⟨hcd, by omega⟩, g_start (by repeat' (first | (with_reducible assumption) | (with_reducible exact World.grownBy.refl _ _) | (with_reducible refine g_alloc ?_ _) | (with_reducible refine g_drew ?_) | (with_reducible refine g_drewN ?_ _) | (with_reducible refine g_set ?_ (by first | omega | (simp; done) | (simp; omega)) _) | refine g_then ?_ (by with_reducible assumption) | refine g_below ?_ (by with_reducible assumption)))⟩)
      | (go_ret; exact ⟨_, LD.set k5 (UInt8.ofNat vn), cd, (by rw [List.length_set]; rfl), by rw [← bV_set, ← byte_small vn (by omega)]; exact (hrow6.set k5 _).rd, ⟨by rw [List.length_set]; exact hcd, by rw [List.length_set]; omega⟩, g_start (by repeat' (first | (with_reducible assumption) | (with_reducible exact World.grownBy.refl _ _) | (with_reducible refine g_alloc ?_ _) | (with_reducible refine g_drew ?_) | (with_reducible refine g_drewN ?_ _) | (with_reducible refine g_set ?_ (by first | omega | (simp; done) | (simp; omega)) _) | refine g_then ?_ (by with_reducible assumption) | refine g_below ?_ (by with_reducible assumption)))⟩)
      | (go_ret; exact ⟨_, LD.take k5, cd, (by rw [List.length_take_of_le (by omega)]; rfl), by rw [bV_tk]; exact (RowAt.rd (by repeat' (first | (with_reducible assumption) | (with_reducible refine RowAt.alloc ?_ _) | (with_reducible refine RowAt.drew ?_) | (with_reducible refine RowAt.other ?_ _ _ (by first | omega | (simp; done) | (simp; omega))) | refine RowAt.then ?_ (by with_reducible assumption)))).take k5, ⟨by rw [List.length_take_of_le (by omega)]; omega, by rw [List.length_take_of_le (by omega)]; omega⟩, g_start (by repeat' (first | (with_reducible assumption) | (with_reducible exact World.grownBy.refl _ _) | (with_reducible refine g_alloc ?_ _) | (with_reducible refine g_drew ?_) | (with_reducible refine g_drewN ?_ _) | (with_reducible refine g_set ?_ (by first | omega | (simp; done) | (simp; omega)) _) | refine g_then ?_ (by with_reducible assumption) | refine g_below ?_ (by with_reducible assumption)))⟩)
end Go.Proofs.YtbiodbggaeglpaaGreatDoor
