/- Joined: DrawK. -/
import Derived.Test.YtbiodbggaeglpaaGreatDoorJB9
/- Rows of head lines that are drawn. -/
namespace Go.Proofs.YtbiodbggaeglpaaGreatDoor
open Go.RowKit
set_option linter.unusedSimpArgs false
set_option linter.unusedVariables false

set_option maxHeartbeats 3200000 in
theorem spec_l4Draw (G : Nat) (a : Option Addr) (n c K M : Nat) (hM : M ≤ 30) (w : World) (hs : Src w G a n c K) (hK : K ≤ 800000) :
    Calls Tryz.prog 88 #[.pointer (some ⟨G, 0, none⟩), .int .i64 (M : Int)] w fun e w' => ∃ (g cap : Nat) (l : List Hd), e = .returned (.slice (some ⟨g, 0, none⟩) l.length cap) ∧ w.heap.size ≤ g ∧ VRow w' g l.length cap 2 (hV l) ∧ (l.length ≤ M ∧ SmH 100 l) ∧ Src w' G a n c (K + 3 * M) ∧ w.grownBy w' (some G) := by
  have hG := hs.lt
  have hne0 : w.heap.size ≠ G := by omega
  obtain ⟨hG1, hG2⟩ := gstart hG
  go_enter Tryz.func88, Tryz.ntmps88
  go_wp2
  have st : VRow (w.alloc (.cells #[] 77)) w.heap.size 0 0 2 (hV []) ∧ Src (w.alloc (.cells #[] 77)) G a n c (K + 3 * ([] : List Hd).length) ∧ w.grownBy (w.alloc (.cells #[] 77)) (some G) := ⟨VRow.start w _ 2, hs.alloc _, by exact (by repeat' (first | (with_reducible assumption) | (with_reducible exact World.grownBy.refl _ _) | (with_reducible refine g_alloc ?_ _) | (with_reducible refine g_drew ?_) | (with_reducible refine g_drewN ?_ _) | (with_reducible refine g_set ?_ (by first | omega | (simp; done) | (simp; omega)) _) | refine g_then ?_ (by with_reducible assumption) | refine g_below ?_ (by with_reducible assumption)))⟩
  go_loopw [1, 5] (fun i v wr => ∃ (m g cap : Nat) (l : List Hd), i = .int .i64 (m : Int) ∧ l.length + m = M ∧ v = .slice (some ⟨g, 0, none⟩) l.length cap ∧ w.heap.size ≤ g ∧ VRow wr g l.length cap 2 (hV l) ∧ SmH 100 l ∧ Src wr G a n c (K + 3 * l.length) ∧ w.grownBy wr (some G)) (fun i _ _ => (intOf i).toNat)
  case atStart => exact ⟨M, _, _, [], rfl, Nat.zero_add _, rfl, Nat.le_refl _, st.1, SmH.nil _, st.2.1, st.2.2⟩
  case round =>
    obtain ⟨m, g, cap, l, rfl, hlm, rfl, hg, hV, hsm, hsr, hgr⟩ := hrel
    by_cases hm : 0 < m
    · obtain ⟨m, rfl⟩ : ∃ j, m = j + 1 := ⟨m - 1, by omega⟩
      have HV := Lib.hid hV
      have Hsm := Lib.hid hsm
      clear hV hsm
      go_wp2_with (first
        | (go_at_call 90; ((with_reducible refine (spec_l4DrawLine G a n c (K + 3 * l.length) _ hsr (by omega)).mono ?_); rintro e w2 ⟨x, y, rfl, ⟨hx, hy⟩, hs2, hg2⟩; obtain ⟨g', cap', W', d1, d2, d3, d4⟩ := app_hdr g l.length cap l rfl (by omega) x y w2 (HV.out.grown hg2 (by omega)) 25; have D1 := Lib.hid d1; clear d1))
        | (at_builtin; refine wpList_appB (v := .slice (some ⟨g, 0, none⟩) l.length cap) (xv := .slice (some ⟨w2.heap.size, 0, none⟩) 1 1) rfl _ _ rfl (by rfl) (by rfl) D1.out ?_))
      go_roundw
      case rel =>
        have hg3 := hgr.trans hg2
        have hz2 := hg3.size
        exact ⟨m, g', cap', l ++ [(x, y)], by go_num, by rw [List.length_append, List.length_singleton]; omega, by rw [List.length_append, List.length_singleton], by omega, by rw [List.length_append, List.length_singleton]; exact d3, Hsm.out.snoc hx hy, by rw [List.length_append, List.length_singleton]; exact (src_chg (hs2.alloc _) d4 (by omega)).mono (by omega), g_chg (g_alloc hg3 _) d4 (by omega)⟩
      case measure => (simp [intOf] <;> omega)
    · obtain rfl : m = 0 := by omega
      go_wp2
      go_ret
      exact ⟨g, cap, l, rfl, hg, hV, ⟨by omega, hsm⟩, hsr.mono (by omega), hgr⟩
def slZ : Value → Nat
  | .slice _ n _ => n
  | _ => 0
set_option maxHeartbeats 6400000 in
theorem spec_l4Bent (G : Nat) (a : Option Addr) (n c K : Nat) (w : World) (hs : Src w G a n c K) (hK : K ≤ 700000) :
    Calls Tryz.prog 65 #[.pointer (some ⟨G, 0, none⟩)] w fun e w' => ∃ (g cap : Nat) (l : List Hd), e = .returned (.slice (some ⟨g, 0, none⟩) l.length cap) ∧ w.heap.size ≤ g ∧ VRow w' g l.length cap 2 (hV l) ∧ (l.length ≤ 201 ∧ SmH 210 l) ∧ Src w' G a n c (K + 1200) ∧ w.grownBy w' (some G) := by
  have hG := hs.lt
  have hne0 : w.heap.size ≠ G := by omega
  obtain ⟨hG1, hG2⟩ := gstart hG
  go_enter Tryz.func65, Tryz.ntmps65
  go_upto_region 2 with (first
    | (go_at_call 28; ((with_reducible refine (spec_l1Pick (fun x => 0 ≤ x ∧ x ≤ 5) G a n c (K) _ 5 _ _ rfl (by omega) (by omega) (by (simp; done)) _ (by repeat' (first | (with_reducible assumption) | (with_reducible refine Src.alloc ?_ _) | (with_reducible refine Src.drew ?_) | (with_reducible refine Src.other ?_ _ _ (by first | omega | (simp; done) | (simp; omega))) | refine Src.then ?_ (by with_reducible assumption))) (by omega) (rd_at (by first | rfl | (simp; done))) (by first | omega | (simp; omega))).mono ?_); rintro e w1 ⟨r, rfl, ⟨hr0, hr1⟩, hs1, hg1⟩; have l1 := hs1.lt; obtain ⟨rn, rfl⟩ := Int.eq_ofNat_of_zero_le hr0))
    | (go_at_call 88; ((with_reducible refine (spec_l4Draw G a n c (K + 1) rn (by omega) _ hs1 (by omega)).mono ?_); rintro e w2 ⟨g, cap, l, rfl, hg0, hW, ⟨hl0, hsm0⟩, hs2, hg2⟩)))
  have hsx : Src w2 G a n c (K + 16) := hs2.mono (by omega)
  have hgx : w.grownBy w2 (some G) := by exact (by repeat' (first | (with_reducible assumption) | (with_reducible exact World.grownBy.refl _ _) | (with_reducible refine g_alloc ?_ _) | (with_reducible refine g_drew ?_) | (with_reducible refine g_drewN ?_ _) | (with_reducible refine g_set ?_ (by first | omega | (simp; done) | (simp; omega)) _) | refine g_then ?_ (by with_reducible assumption) | refine g_below ?_ (by with_reducible assumption)))
  have hz1 := hg1.size
  simp only [World.size_alloc] at hz1
  have hg : w.heap.size ≤ g := by omega
  have hgw : g ≠ G := by omega
  have hsm : SmH 210 l := hsm0.mono (by omega)
  have hln : l.length ≤ 5 := by omega
  have l2 := hsx.lt
  have z2 := hgx.size
  have gl2 := hW.lt
  clear hs1 hg1 hs2 hg2 hsm0 hl0
  generalize hlL : l.length = nl at *
  go_wp2_with (first
    | (go_at_call 26; ((with_reducible refine (spec_l1Next G a n c (K + 16) _ (by omega) (by omega) _ (by repeat' (first | (with_reducible assumption) | (with_reducible refine Src.alloc ?_ _) | (with_reducible refine Src.drew ?_) | (with_reducible refine Src.other ?_ _ _ (by first | omega | (simp; done) | (simp; omega))) | refine Src.then ?_ (by with_reducible assumption))) (by omega)).mono ?_); rintro e w3 ⟨r, rfl, ⟨hr0, hr1⟩, hs3, hg3⟩; have hV3 := hW.grown hg3 hgw; have l3 := hs3.lt; have hgx3 := hgx.trans hg3; have z3 := hgx3.size))
    | (go_at_call 27; ((with_reducible refine (spec_l1Word (fun x => x.size ≤ 20) G a n c (K + 17) _ 3 _ _ rfl (by omega) (by omega) (strs_small _ _ (by kernel_rfl)) _ (by repeat' (first | (with_reducible assumption) | (with_reducible refine Src.alloc ?_ _) | (with_reducible refine Src.drew ?_) | (with_reducible refine Src.other ?_ _ _ (by first | omega | (simp; done) | (simp; omega))) | refine Src.then ?_ (by with_reducible assumption))) (by omega) (rd_at (by first | rfl | (simp; done))) (by first | omega | (simp; omega))).mono ?_); rintro e w4 ⟨x, rfl, hx, hs4, hg4⟩; have hV4 := (hV3.alloc _).grown hg4 hgw; have l4 := hs4.lt; have hgx4 := (g_alloc hgx3 _).trans hg4; have z4 := hgx4.size; obtain ⟨g', cap', W', d1, d2, d3, d4⟩ := app_hdr g nl cap l hlL (by omega) x ⟨#[118]⟩ w4 hV4 25; have D1 := Lib.hid d1; clear d1))
    | (go_at_call 27; ((with_reducible refine (spec_l1Word (fun x => x.size ≤ 20) G a n c (K + 17) _ 4 _ _ rfl (by omega) (by omega) (strs_small _ _ (by kernel_rfl)) _ (by repeat' (first | (with_reducible assumption) | (with_reducible refine Src.alloc ?_ _) | (with_reducible refine Src.drew ?_) | (with_reducible refine Src.other ?_ _ _ (by first | omega | (simp; done) | (simp; omega))) | refine Src.then ?_ (by with_reducible assumption))) (by omega) (rd_at (by first | rfl | (simp; done))) (by first | omega | (simp; omega))).mono ?_); rintro e w4 ⟨x, rfl, hx, hs4, hg4⟩; have hV4 := (hV3.alloc _).grown hg4 hgw; have l4 := hs4.lt; have hgx4 := (g_alloc hgx3 _).trans hg4; have z4 := hgx4.size; obtain ⟨g', cap', W', d1, d2, d3, d4⟩ := app_hdr g nl cap l hlL (by omega) ⟨#[120]⟩ x w4 hV4 25; have D1 := Lib.hid d1; clear d1))
    | (go_at_call 89; ((with_reducible refine (spec_l1Long2 G a n c (K + 17) _ (by decide) _ (by repeat' (first | (with_reducible assumption) | (with_reducible refine Src.alloc ?_ _) | (with_reducible refine Src.drew ?_) | (with_reducible refine Src.other ?_ _ _ (by first | omega | (simp; done) | (simp; omega))) | refine Src.then ?_ (by with_reducible assumption))) (by omega)).mono ?_); rintro e w5 ⟨v5, rfl, ⟨hv50, hv51⟩, hs5, hg5⟩; have hV5 := hV3.grown hg5 hgw; have l5 := hs5.lt; have hgx5 := hgx3.trans hg5; have z5 := hgx5.size))
    | (go_at_call 28; ((with_reducible refine (spec_l1Pick (fun x => 200 ≤ x ∧ x ≤ 201) G a n c (K + 17 + 1100) _ 2 _ _ rfl (by omega) (by omega) (by (simp; done)) _ (by repeat' (first | (with_reducible assumption) | (with_reducible refine Src.alloc ?_ _) | (with_reducible refine Src.drew ?_) | (with_reducible refine Src.other ?_ _ _ (by first | omega | (simp; done) | (simp; omega))) | refine Src.then ?_ (by with_reducible assumption))) (by omega) (rd_at (by first | rfl | (simp; done))) (by first | omega | (simp; omega))).mono ?_); rintro e w6 ⟨r6, rfl, ⟨hr60, hr61⟩, hs6, hg6⟩; have hV6 := (hV5.alloc _).grown hg6 hgw; have l6 := hs6.lt; have hgx6 := (g_alloc hgx5 _).trans hg6; have z6 := hgx6.size; have x1 : r6 ≤ (v5.size : Int) := (by omega); have hez : (v5.extract 0 r6.toNat).size ≤ 201 := (by rw [ByteArray.size_extract]; omega); have f8 : (9223372036854775807 < (v5.extract 0 r6.toNat).size + (⟨#[118]⟩ : ByteArray).size) = False := eq_false (by show ¬ (_ < _ + 1); omega); have hvz : (v5.extract 0 r6.toNat ++ ⟨#[118]⟩).size ≤ 202 := (by rw [ByteArray.size_append]; show _ + 1 ≤ _; omega); obtain ⟨g', cap', W', d1, d2, d3, d4⟩ := app_hdr g nl cap l hlL (by omega) ⟨#[120]⟩ (v5.extract 0 r6.toNat ++ ⟨#[118]⟩) w6 hV6 25; have D1 := Lib.hid d1; clear d1))
    | (go_at_call 28; ((with_reducible refine (spec_l1Pick (fun x => x = 20 ∨ x = 21 ∨ x = 200 ∨ x = 201) G a n c (K + 17) _ 2 _ _ rfl (by omega) (by omega) (by (simp; done)) _ (by repeat' (first | (with_reducible assumption) | (with_reducible refine Src.alloc ?_ _) | (with_reducible refine Src.drew ?_) | (with_reducible refine Src.other ?_ _ _ (by first | omega | (simp; done) | (simp; omega))) | refine Src.then ?_ (by with_reducible assumption))) (by omega) (rd_at (by first | rfl | (simp; done))) (by first | omega | (simp; omega))).mono ?_); rintro e w8 ⟨r8, rfl, hr8, hs8, hg8⟩; have hV8 := (hV3.alloc _).grown hg8 hgw; have l8 := hs8.lt; have hgx8 := (g_alloc hgx3 _).trans hg8; have z8 := hgx8.size))
    | (at_builtin; refine wpList_appB (v := .slice (some ⟨g, 0, none⟩) nl cap) (xv := .slice (some ⟨w4.heap.size, 0, none⟩) 1 1) rfl _ _ rfl (by rfl) (by rfl) D1.out ?_) | (at_builtin; refine wpList_appB (v := .slice (some ⟨g, 0, none⟩) nl cap) (xv := .slice (some ⟨w6.heap.size, 0, none⟩) 1 1) rfl _ _ rfl (by rfl) (by rfl) D1.out ?_))
  · go_ret
    exact ⟨g', cap', l ++ [(x, ⟨#[118]⟩)], by rw [List.length_append, List.length_singleton, hlL]; rfl, by omega, by rw [List.length_append, List.length_singleton, hlL]; exact d3, ⟨by rw [List.length_append, List.length_singleton]; omega, hsm.snoc (by first | omega | decide) (by first | omega | decide)⟩, (src_chg (hs4.alloc _) d4 (by omega)).mono (by omega), g_chg (g_alloc hgx4 _) d4 (by omega)⟩
  · go_ret
    exact ⟨g', cap', l ++ [(⟨#[120]⟩, x)], by rw [List.length_append, List.length_singleton, hlL]; rfl, by omega, by rw [List.length_append, List.length_singleton, hlL]; exact d3, ⟨by rw [List.length_append, List.length_singleton]; omega, hsm.snoc (by first | omega | decide) (by first | omega | decide)⟩, (src_chg (hs4.alloc _) d4 (by omega)).mono (by omega), g_chg (g_alloc hgx4 _) d4 (by omega)⟩
  · go_ret
    exact ⟨g', cap', l ++ [(⟨#[120]⟩, v5.extract 0 r6.toNat ++ ⟨#[118]⟩)], by rw [List.length_append, List.length_singleton, hlL]; rfl, by omega, by rw [List.length_append, List.length_singleton, hlL]; exact d3, ⟨by rw [List.length_append, List.length_singleton]; omega, hsm.snoc (by first | omega | decide) (by first | omega | decide)⟩, (src_chg (hs6.alloc _) d4 (by omega)).mono (by omega), g_chg (g_alloc hgx6 _) d4 (by omega)⟩
  · have hr9 : r8 ≤ 201 := by omega
    have st : l.length ≤ 201 ∧ VRow w8 g l.length cap 2 (hV l) ∧ Src w8 G a n c (K + 18 + 3 * l.length) := ⟨by omega, by rw [hlL]; exact hV8, hs8.mono (by omega)⟩
    have HS := Lib.hid st
    have HSM := Lib.hid hsm
    clear hW hV3 hV8 hs3 hs8 hg3 hg8 hgx hgx3 hsx hr8 hsm st
    subst hlL
    go_loopw [3] (fun v wr => ∃ (g cap : Nat) (l : List Hd), v = .slice (some ⟨g, 0, none⟩) l.length cap ∧ w.heap.size ≤ g ∧ l.length ≤ 201 ∧ VRow wr g l.length cap 2 (hV l) ∧ SmH 210 l ∧ Src wr G a n c (K + 18 + 3 * l.length) ∧ w.grownBy wr (some G)) (fun v _ => 201 - slZ v)
    case atStart => exact ⟨_, _, l, rfl, hg, HS.out.1, HS.out.2.1, HSM.out, HS.out.2.2, hgx8⟩
    case round =>
      clear HS HSM hgx8
      obtain ⟨g', cap', l', rfl, hg', hln', hV', hsm', hsr, hgr⟩ := hrel
      have Hsm := Lib.hid hsm'
      have HV := Lib.hid hV'
      clear hsm' hV'
      by_cases hlt : (l'.length : Int) < r8
      · go_wp2_with (first
          | (go_at_call 90; ((with_reducible refine (spec_l4DrawLine G a n c (K + 18 + 3 * l'.length) _ hsr (by omega)).mono ?_); rintro e w9 ⟨x, y, rfl, ⟨hx, hy⟩, hs9, hg9⟩; obtain ⟨g2, cap2, W', d1, d2, d3, d4⟩ := app_hdr g' l'.length cap' l' rfl (by omega) x y w9 (HV.out.grown hg9 (by omega)) 25; have D1 := Lib.hid d1; clear d1))
          | (at_builtin; refine wpList_appB (v := .slice (some ⟨g', 0, none⟩) l'.length cap') (xv := .slice (some ⟨w9.heap.size, 0, none⟩) 1 1) rfl _ _ rfl (by rfl) (by rfl) D1.out ?_))
        go_roundw
        case rel =>
          have hg3 := hgr.trans hg9
          have hz2 := hg3.size
          exact ⟨g2, cap2, l' ++ [(x, y)], by rw [List.length_append, List.length_singleton], by omega, by rw [List.length_append, List.length_singleton]; omega, by rw [List.length_append, List.length_singleton]; exact d3, Hsm.out.snoc (by omega) (by omega), by rw [List.length_append, List.length_singleton]; exact (src_chg (hs9.alloc _) d4 (by omega)).mono (by omega), g_chg (g_alloc hg3 _) d4 (by omega)⟩
        case measure => (simp [slZ] <;> omega)
      · go_wp2
        go_ret
        exact ⟨g', cap', l', rfl, hg', HV.out, ⟨hln', Hsm.out⟩, hsr.mono (by omega), hgr⟩
  · have hr9 : r8 ≤ 201 := by omega
    have HS := Lib.hid hs8
    clear hW hV3 hs3 hs8 hg3 hg8 hgx hgx3 hsx hr8
    go_loop [5] (fun v => ∃ s : ByteArray, v = .string s ∧ s.size ≤ 201) (fun v => 201 - strZ v)
    case atStart => exact ⟨_, rfl, Nat.zero_le _⟩
    case round =>
      obtain ⟨s, rfl, hsz⟩ := hrel
      by_cases hlt : (s.size : Int) < r8
      · have f8 : (9223372036854775807 < s.size + (⟨#[119]⟩ : ByteArray).size) = False := eq_false (by show ¬ (_ < _ + 1); omega)
        go_wp2
        go_round
        case rel => exact ⟨_, rfl, by rw [ByteArray.size_append]; show _ + 1 ≤ _; omega⟩
        case measure => (show 201 - (s ++ _).size < 201 - s.size; rw [ByteArray.size_append]; show 201 - (_ + 1) < _; omega)
      · obtain ⟨g', cap', W', d1, d2, d3, d4⟩ := app_hdr g nl cap l hlL (by omega) ⟨#[120]⟩ s w8 hV8 25; have D1 := Lib.hid d1; clear d1
        go_wp2_with (at_builtin; refine wpList_appB (v := .slice (some ⟨g, 0, none⟩) nl cap) (xv := .slice (some ⟨w8.heap.size, 0, none⟩) 1 1) rfl _ _ rfl (by rfl) (by rfl) D1.out ?_)
        go_ret
        exact ⟨g', cap', l ++ [(⟨#[120]⟩, s)], by rw [List.length_append, List.length_singleton, hlL]; rfl, by omega, by rw [List.length_append, List.length_singleton, hlL]; exact d3, ⟨by rw [List.length_append, List.length_singleton]; omega, hsm.snoc (by first | omega | decide) (by first | omega | decide)⟩, (src_chg (HS.out.alloc _) d4 (by omega)).mono (by omega), g_chg (g_alloc hgx8 _) d4 (by omega)⟩
  · go_ret
    exact ⟨g, cap, l, by rw [hlL]; rfl, hg, by rw [hlL]; exact hV3, ⟨by omega, hsm⟩, hs3.mono (by omega), hgx3⟩
end Go.Proofs.YtbiodbggaeglpaaGreatDoor
