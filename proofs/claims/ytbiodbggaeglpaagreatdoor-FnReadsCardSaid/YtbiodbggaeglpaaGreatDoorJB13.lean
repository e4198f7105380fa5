/- Joined: DrawL, PackR. -/
import Derived.Test.YtbiodbggaeglpaaGreatDoorJB10
import Derived.Test.YtbiodbggaeglpaaGreatDoorJB1
import Derived.Test.YtbiodbggaeglpaaGreatDoorJB11
/- Requests that are drawn. -/
namespace Go.Proofs.YtbiodbggaeglpaaGreatDoor
open Go.RowKit
set_option linter.unusedSimpArgs false
set_option linter.unusedVariables false

theorem VRow.other {w : World} {g n cap sz : Nat} {xs : List Value} (h : VRow w g n cap sz xs) (b k : Nat) (v : Value) (hne : b ≠ g) : VRow (w.setCell ⟨b, k, none⟩ v) g n cap sz xs := h.block (by simp [World.setCell, Array.getElem?_modify, hne])
set_option maxHeartbeats 6400000 in
theorem spec_l5Draw (G : Nat) (a : Option Addr) (n c K : Nat) (w : World) (hs : Src w G a n c K) (hK : K ≤ 700000) :
    Calls Tryz.prog 64 #[.pointer (some ⟨G, 0, none⟩)] w fun e w' => ∃ (m h p : ByteArray) (g cap : Nat) (l : List Hd), e = .returned (.agg #[.string m, .string h, .string p, .slice (some ⟨g, 0, none⟩) l.length cap]) ∧ (m.size ≤ 20 ∧ h.size ≤ 20 ∧ p.size ≤ 20) ∧ w.heap.size < g ∧ VRow w' g l.length cap 2 (hV l) ∧ (l.length ≤ 2 ∧ SmH 100 l) ∧ Src w' G a n c (K + 10) ∧ w.grownBy w' (some G) := by
  have hG := hs.lt
  have hne0 : w.heap.size ≠ G := by omega
  obtain ⟨hG1, hG2⟩ := gstart hG
  go_enter Tryz.func64, Tryz.ntmps64
  go_wp2_with (first
    | (go_at_call 27; ((with_reducible refine (spec_l1Word (fun x => x.size ≤ 20) G a n c (K) _ 4 _ _ rfl (by omega) (by omega) (strs_small _ _ (by kernel_rfl)) _ (by repeat' (first | (with_reducible assumption) | (with_reducible refine Src.alloc ?_ _) | (with_reducible refine Src.drew ?_) | (with_reducible refine Src.other ?_ _ _ (by first | omega | (simp; done) | (simp; omega))) | refine Src.then ?_ (by with_reducible assumption))) (by omega) (rd_at (by first | rfl | (simp; done))) (by first | omega | (simp; omega))).mono ?_); rintro e w1 ⟨m, rfl, hm, hs1, hg1⟩; have z1 := blk_g (blk_alloc (blk_new w (.cells #[.string ⟨#[]⟩, .string ⟨#[]⟩, .string ⟨#[]⟩, .slice none 0 0] 27)) _) hg1 hne0; have l1 := hs1.lt))
    | (go_at_call 27; ((with_reducible refine (spec_l1Word (fun x => x.size ≤ 20) G a n c (K + 1) _ 3 _ _ rfl (by omega) (by omega) (strs_small _ _ (by kernel_rfl)) _ (by repeat' (first | (with_reducible assumption) | (with_reducible refine Src.alloc ?_ _) | (with_reducible refine Src.drew ?_) | (with_reducible refine Src.other ?_ _ _ (by first | omega | (simp; done) | (simp; omega))) | refine Src.then ?_ (by with_reducible assumption))) (by omega) (rd_at (by first | rfl | (simp; done))) (by first | omega | (simp; omega))).mono ?_); rintro e w2 ⟨h, rfl, hh, hs2, hg2⟩; have z2 := blk_g (blk_alloc z1 _) hg2 hne0; have l2 := hs2.lt))
    | (go_at_call 27; ((with_reducible refine (spec_l1Word (fun x => x.size ≤ 20) G a n c (K + 1 + 1) _ 7 _ _ rfl (by omega) (by omega) (strs_small _ _ (by kernel_rfl)) _ (by repeat' (first | (with_reducible assumption) | (with_reducible refine Src.alloc ?_ _) | (with_reducible refine Src.drew ?_) | (with_reducible refine Src.other ?_ _ _ (by first | omega | (simp; done) | (simp; omega))) | refine Src.then ?_ (by with_reducible assumption))) (by omega) (rd_at (by first | rfl | (simp; done))) (by first | omega | (simp; omega))).mono ?_); rintro e w3 ⟨p, rfl, hp, hs3, hg3⟩; have z3 := blk_g (blk_alloc z2 _) hg3 hne0; have l3 := hs3.lt))
    | (go_at_call 28; ((with_reducible refine (spec_l1Pick (fun x => 0 ≤ x ∧ x ≤ 2) G a n c (K + 1 + 1 + 1) _ 4 _ _ rfl (by omega) (by omega) (by (simp; done)) _ (by repeat' (first | (with_reducible assumption) | (with_reducible refine Src.alloc ?_ _) | (with_reducible refine Src.drew ?_) | (with_reducible refine Src.other ?_ _ _ (by first | omega | (simp; done) | (simp; omega))) | refine Src.then ?_ (by with_reducible assumption))) (by omega) (rd_at (by first | rfl | (simp; done))) (by first | omega | (simp; omega))).mono ?_); rintro e w4 ⟨r, rfl, ⟨hr0, hr1⟩, hs4, hg4⟩; have z4 := blk_g (blk_alloc z3 _) hg4 hne0; have l4 := hs4.lt; have lz4 := (Array.getElem?_eq_some_iff.1 z4).1; obtain ⟨rn, rfl⟩ := Int.eq_ofNat_of_zero_le hr0))
    | (go_at_call 88; ((with_reducible refine (spec_l4Draw G a n c (K + 1 + 1 + 1 + 1) rn (by omega) _ hs4 (by omega)).mono ?_); rintro e w5 ⟨g, cap, l, rfl, hg0, hW, ⟨hl0, hsm0⟩, hs5, hg5⟩; have z5 := blk_g z4 hg5 hne0; have fz := fzh z5; obtain ⟨j0, j1, j2, j3⟩ := cells4 z5)))
  have hs6 : Src w5 G a n c (K + 10) := hs5.mono (by omega)
  have hgx : w.grownBy w5 (some G) := by exact (by repeat' (first | (with_reducible assumption) | (with_reducible exact World.grownBy.refl _ _) | (with_reducible refine g_alloc ?_ _) | (with_reducible refine g_drew ?_) | (with_reducible refine g_drewN ?_ _) | (with_reducible refine g_set ?_ (by first | omega | (simp; done) | (simp; omega)) _) | refine g_then ?_ (by with_reducible assumption) | refine g_below ?_ (by with_reducible assumption)))
  exact bodyPost_ret (res_row Tryz.results64 _ _ rfl (blk_set (blk_set (blk_set (blk_set z5 0 _) 1 _) 2 _) 3 _) Tryz.underlying27 rfl _ (by kernel_rfl) rfl) rfl ⟨m, h, p, g, cap, l, rfl, ⟨by omega, by omega, by omega⟩, by omega, (((hW.other _ _ _ (by omega)).other _ _ _ (by omega)).other _ _ _ (by omega)).other _ _ _ (by omega), ⟨by omega, hsm0⟩, by exact (by repeat' (first | (with_reducible assumption) | (with_reducible refine Src.alloc ?_ _) | (with_reducible refine Src.drew ?_) | (with_reducible refine Src.other ?_ _ _ (by first | omega | (simp; done) | (simp; omega))) | refine Src.then ?_ (by with_reducible assumption))), by exact (by repeat' (first | (with_reducible assumption) | (with_reducible exact World.grownBy.refl _ _) | (with_reducible refine g_alloc ?_ _) | (with_reducible refine g_drew ?_) | (with_reducible refine g_drewN ?_ _) | (with_reducible refine g_set ?_ (by first | omega | (simp; done) | (simp; omega)) _) | refine g_then ?_ (by with_reducible assumption) | refine g_below ?_ (by with_reducible assumption)))⟩
end Go.Proofs.YtbiodbggaeglpaaGreatDoor

/- PackRequest: the program's own, and the law. -/
namespace Go.Proofs.YtbiodbggaeglpaaGreatDoor
open Go.RowKit
set_option linter.unusedSimpArgs false
set_option linter.unusedVariables false

set_option maxHeartbeats 3200000 in
theorem impl_PackRequest (m h p : ByteArray) (hm : m.size ≤ 9223372036854775807) (hh : h.size ≤ 9223372036854775807) (hp : p.size ≤ 9223372036854775807) (a : Option Addr) (n c : Nat) (l : List Hd) (hl : l.length = n) (w : World) (hr : Rd w a (hV l)) (hn : n ≤ 9223372036854775807)
    (hs : ∀ h ∈ l, h.1.size ≤ 9223372036854775807 ∧ h.2.size ≤ 9223372036854775807) : Calls Tryz.prog 13 #[.agg #[.string m, .string h, .string p, .slice a n c]] w (bqR w (packQ m h p l)) := by
  have hc := fun W hr => impl_RequestFault m h p hm hh hp a n c l hl W hr hn hs
  by_cases hz : rqFault m h p l = 0
  · obtain ⟨h20, hs2, hm1, hh1, hp1⟩ := rq_small hz
    have hd := fun W hr => impl_requestBytes m h p hm1 hh1 hp1 a n c l hl W hr (by omega) hs2
    rw [packQ_ok hz]
    rw [hz] at hc
    have Hc := Lib.hid hc
    have Hd := Lib.hid hd
    clear hz hc hl hs hd hs2 hm hh hp
    have HB := Lib.hid (bytes_len (reqS m h p l))
    go_enter Tryz.func13, Tryz.ntmps13
    go_wp2_with (first
      | (go_at_call 20; ((with_reducible refine (Hc.out _ (by first | (with_reducible assumption) | exact RowAt.rd (by repeat' (first | (with_reducible assumption) | (with_reducible refine RowAt.alloc ?_ _) | (with_reducible refine RowAt.drew ?_) | (with_reducible refine RowAt.other ?_ _ _ (by first | omega | (simp; done) | (simp; omega))) | refine RowAt.then ?_ (by with_reducible assumption))) | exact Rd.below (by with_reducible assumption) (by first | (with_reducible exact Below.refl _ _) | ((repeat' (first | (with_reducible exact Below.refl _ _) | (with_reducible assumption) | (with_reducible refine below_alloc ?_ _) | (with_reducible refine Below.drew ?_) | (with_reducible refine below_drewN ?_ _) | (with_reducible refine Below.setCell ?_ ?_ _) | refine below_then ?_ (by with_reducible assumption))) <;> (first | omega | (simp; done) | (simp; omega)))))).mono ?_); rintro e w' ⟨rfl, hb⟩; obtain ⟨hc, hf⟩ := bcell hb; have hz := hb.size; (try simp only [World.size_alloc, World.size_setCell, World.size_drew] at hz); obtain ⟨hlt, hle, hn1, hn2, hn3, hn4⟩ := bsize hb; (try simp only [World.size_alloc, World.size_setCell, World.size_drew] at hlt hle hn1 hn2 hn3 hn4); (try have hr0 : w.heap.size < w'.heap.size := by omega); (try have hr1 : w.heap.size + 1 < w'.heap.size := by omega); (try have hs0 : wS.heap.size < w'.heap.size := by omega); (try have hs1 : wG.heap.size < w'.heap.size := by omega)))
      | (go_at_call 50; ((with_reducible refine (Hd.out _ (by first | (with_reducible assumption) | exact RowAt.rd (by repeat' (first | (with_reducible assumption) | (with_reducible refine RowAt.alloc ?_ _) | (with_reducible refine RowAt.drew ?_) | (with_reducible refine RowAt.other ?_ _ _ (by first | omega | (simp; done) | (simp; omega))) | refine RowAt.then ?_ (by with_reducible assumption))) | exact Rd.below (by with_reducible assumption) (by first | (with_reducible exact Below.refl _ _) | ((repeat' (first | (with_reducible exact Below.refl _ _) | (with_reducible assumption) | (with_reducible refine below_alloc ?_ _) | (with_reducible refine Below.drew ?_) | (with_reducible refine below_drewN ?_ _) | (with_reducible refine Below.setCell ?_ ?_ _) | refine below_then ?_ (by with_reducible assumption))) <;> (first | omega | (simp; done) | (simp; omega)))))).mono ?_); rintro e w' ⟨g, cap, rfl, hlo, hrow, hb⟩; obtain ⟨hc, hf⟩ := bcell hb; have hz := hb.size; (try simp only [World.size_alloc, World.size_setCell, World.size_drew] at hz); obtain ⟨hlt, hle, hn1, hn2, hn3, hn4⟩ := bsize hb; (try simp only [World.size_alloc, World.size_setCell, World.size_drew] at hlt hle hn1 hn2 hn3 hn4); (try have hr0 : w.heap.size < w'.heap.size := by omega); (try have hr1 : w.heap.size + 1 < w'.heap.size := by omega); (try have hs0 : wS.heap.size < w'.heap.size := by omega); (try have hs1 : wG.heap.size < w'.heap.size := by omega))))
    have hgl := hrow.lt
    exact bodyPost_ret (res_row Tryz.results13 _ _ rfl (blk_cast (by repeat' (first | (with_reducible assumption) | (with_reducible exact blk_new _ _) | (with_reducible apply blk_set) | (with_reducible refine blk_new' _ _ _ (by first | omega | (simp only [World.size_alloc]; first | done | omega))) | (with_reducible refine blk_other ?_ _ _ _ (by omega)) | (with_reducible refine blk_drew ?_) | (with_reducible refine blk_alloc ?_ _) | refine blk_then ?_ (by with_reducible assumption))) (by first | (simp; done) | rfl)) Tryz.underlying38 rfl _ (by kernel_rfl) rfl) rfl ⟨some ⟨g, 0, none⟩, _, cap, rfl, ⟨HB.out, .inr ⟨g, rfl, by omega, by first | omega | (simp; omega), by exact (by repeat' (first | (with_reducible assumption) | (with_reducible refine RowAt.alloc ?_ _) | (with_reducible refine RowAt.drew ?_) | (with_reducible refine RowAt.other ?_ _ _ (by first | omega | (simp; done) | (simp; omega))) | refine RowAt.then ?_ (by with_reducible assumption)))⟩⟩, by exact (by first | (with_reducible exact Below.refl _ _) | ((repeat' (first | (with_reducible exact Below.refl _ _) | (with_reducible assumption) | (with_reducible refine below_alloc ?_ _) | (with_reducible refine Below.drew ?_) | (with_reducible refine below_drewN ?_ _) | (with_reducible refine Below.setCell ?_ ?_ _) | refine below_then ?_ (by with_reducible assumption))) <;> (first | omega | (simp; done) | (simp; omega))))⟩
  · have hne : (rqFault m h p l != 0) = true := by simpa using hz
    rw [packQ_bad hz]
    have Hc := Lib.hid hc
    clear hz hc hl hs
    go_enter Tryz.func13, Tryz.ntmps13
    go_wp2_with (go_at_call 20; ((with_reducible refine (Hc.out _ (by first | (with_reducible assumption) | exact RowAt.rd (by repeat' (first | (with_reducible assumption) | (with_reducible refine RowAt.alloc ?_ _) | (with_reducible refine RowAt.drew ?_) | (with_reducible refine RowAt.other ?_ _ _ (by first | omega | (simp; done) | (simp; omega))) | refine RowAt.then ?_ (by with_reducible assumption))) | exact Rd.below (by with_reducible assumption) (by first | (with_reducible exact Below.refl _ _) | ((repeat' (first | (with_reducible exact Below.refl _ _) | (with_reducible assumption) | (with_reducible refine below_alloc ?_ _) | (with_reducible refine Below.drew ?_) | (with_reducible refine below_drewN ?_ _) | (with_reducible refine Below.setCell ?_ ?_ _) | refine below_then ?_ (by with_reducible assumption))) <;> (first | omega | (simp; done) | (simp; omega)))))).mono ?_); rintro e w' ⟨rfl, hb⟩; obtain ⟨hc, hf⟩ := bcell hb; have hz := hb.size; (try simp only [World.size_alloc, World.size_setCell, World.size_drew] at hz); obtain ⟨hlt, hle, hn1, hn2, hn3, hn4⟩ := bsize hb; (try simp only [World.size_alloc, World.size_setCell, World.size_drew] at hlt hle hn1 hn2 hn3 hn4); (try have hr0 : w.heap.size < w'.heap.size := by omega); (try have hr1 : w.heap.size + 1 < w'.heap.size := by omega); (try have hs0 : wS.heap.size < w'.heap.size := by omega); (try have hs1 : wG.heap.size < w'.heap.size := by omega)))
    exact bodyPost_ret (res_row Tryz.results13 _ _ rfl (blk_cast (by repeat' (first | (with_reducible assumption) | (with_reducible exact blk_new _ _) | (with_reducible apply blk_set) | (with_reducible refine blk_new' _ _ _ (by first | omega | (simp only [World.size_alloc]; first | done | omega))) | (with_reducible refine blk_other ?_ _ _ _ (by omega)) | (with_reducible refine blk_drew ?_) | (with_reducible refine blk_alloc ?_ _) | refine blk_then ?_ (by with_reducible assumption))) (by first | (simp; done) | rfl)) Tryz.underlying38 rfl _ (by kernel_rfl) rfl) rfl ⟨none, 0, 0, rfl, ⟨rfl, .nil _ _ _ _⟩, by exact (by first | (with_reducible exact Below.refl _ _) | ((repeat' (first | (with_reducible exact Below.refl _ _) | (with_reducible assumption) | (with_reducible refine below_alloc ?_ _) | (with_reducible refine Below.drew ?_) | (with_reducible refine below_drewN ?_ _) | (with_reducible refine Below.setCell ?_ ?_ _) | refine below_then ?_ (by with_reducible assumption))) <;> (first | omega | (simp; done) | (simp; omega))))⟩
theorem reqS_size (m h p : ByteArray) (l : List Hd) : (reqS m h p l).size = m.size + 1 + p.size + 17 + h.size + 2 + (packB l).size + 2 := by
  unfold reqS
  simp only [ByteArray.size_append]
  rfl
theorem packQ_len (m h p : ByteArray) (l : List Hd) : (packQ m h p l).2.length ≤ 6000 := by
  by_cases hz : rqFault m h p l = 0
  · obtain ⟨h20, hs2, hm1, hh1, hp1⟩ := rq_small hz
    have hpz : (packB l).size ≤ 5360 := by
      have := packB_size (l := l) l.length (by omega) hs2
      rw [List.take_length] at this
      exact this
    rw [packQ_ok hz]
    show (reqS m h p l).data.toList.length ≤ 6000
    rw [bytes_len, reqS_size]
    omega
  · rw [packQ_bad hz]; exact Nat.zero_le _
end Go.Proofs.YtbiodbggaeglpaaGreatDoor
