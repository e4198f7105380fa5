/- Joined: LHeads. -/
import Derived.Test.YthiogijicknoiaaGreatDoorJXDrawR
import Derived.Test.YthiogijicknoiaaGreatDoorJB16
import Derived.Test.YthiogijicknoiaaGreatDoorJB18
import Derived.Test.YthiogijicknoiaaGreatDoorJXReadI
import Derived.Test.YthiogijicknoiaaGreatDoorJXSetH
import Derived.Test.YthiogijicknoiaaGreatDoorJB12
import Derived.Test.YthiogijicknoiaaGreatDoorJB13
import Derived.Test.YthiogijicknoiaaGreatDoorJXRegF
import Derived.Test.YthiogijicknoiaaGreatDoorJXBig
import Derived.Deep.DeepCutAuto
/- The law on head lines: its walk. Printed by gen/heads.py. -/
namespace Go.Proofs.YthiogijicknoiaaGreatDoor
open Go.RowKit
set_option linter.unusedSimpArgs false
set_option linter.unusedVariables false

theorem drop_good {nm : ByteArray} {l : List Hd} (h : (dropR nm l).1 = 0) : hdsFault (dropR nm l).2 = 0 := by
  by_cases ha : askF nm l = 0
  · have e : dropR nm l = (0, dropL nm l) := if_pos ha
    rw [e]; exact drop_fault (askF_0 ha).1
  · have e : dropR nm l = (askF nm l, []) := if_neg ha
    rw [e] at h
    exact absurd h ha
theorem set_good {nm vl : ByteArray} {l : List Hd} (h : (setR nm vl l).1 = 0) : hdsFault (setR nm vl l).2 = 0 ∧ (dropR nm l).1 = 0 := by
  obtain ⟨e1, ha, e3, e4⟩ := set_found h
  have e5 : dropR nm l = (0, dropL nm l) := if_pos ha
  have ha2 : askF nm (setR nm vl l).2 = 0 := by
    by_cases hb : askF nm (setR nm vl l).2 = 0
    · exact hb
    · rw [joinR, if_neg hb] at e3
      exact absurd (Prod.mk.inj e3).1 hb
  exact ⟨(askF_0 ha2).1, by rw [e5]⟩
theorem hds_big {l : List Hd} (e : hdsFault l = 0) : l.length ≤ 20 ∧ ∀ h ∈ l, h.1.size ≤ 9223372036854775807 ∧ h.2.size ≤ 9223372036854775807 := by
  obtain ⟨h1, h2⟩ := hds_small e
  exact ⟨h1, fun h hh => by have := h2 h hh; omega⟩
theorem packB_20 {l : List Hd} (e : hdsFault l = 0) : (packB l).size ≤ 5360 := by
  obtain ⟨h1, h2⟩ := hds_small e
  have := packB_size (l := l) l.length h1 h2
  rwa [List.take_length] at this
theorem fieldH0 (x : Int) (a : Option Addr) (n c : Nat) (w : World) : (Instr.field 66 (.agg #[.int .i64 x, .slice a n c]) 0).run Tryz.prog w = .ok (.int .i64 x) w := by kernel_rfl
theorem fieldH1 (x : Int) (a : Option Addr) (n c : Nat) (w : World) : (Instr.field 66 (.agg #[.int .i64 x, .slice a n c]) 1).run Tryz.prog w = .ok (.slice a n c) w := by kernel_rfl
theorem fieldX0 (x : Int) (y : ByteArray) (w : World) : (Instr.field 31 (.agg #[.int .i64 x, .string y]) 0).run Tryz.prog w = .ok (.int .i64 x) w := by kernel_rfl
set_option maxRecDepth 100000 in
set_option maxHeartbeats 20000000 in
theorem FnHeads_walk (a : Option Addr) (n c : Nat) (bs : List UInt8) (hl : bs.length = n) (w : World) (hr : Rd w a (bs.map byteV)) (hn : n ≤ 9223372036854775807) (hm : MaxL w) : Calls Tryz.prog 6 #[.slice a n c] w fun e w' => e = .returned (.bool true) ∧ Below w.heap.size w w' := by
  by_cases h : n ≤ 1048576
  · have HM := Lib.hid hm
    clear hm
    go_enter Tryz.func6, Tryz.ntmps6
    go_upto_region 9 with (first
      | (go_at_call 9; ((with_reducible refine (lwBig _ _ _ _).mono ?_); rintro e w' ⟨rfl, rfl⟩))
      | (go_at_call 34; ((with_reducible refine (spec_DrawSetHeader a n c bs hl h _ (by first | (with_reducible assumption) | exact RowAt.rd (by repeat' (first | (with_reducible assumption) | (with_reducible refine RowAt.alloc ?_ _) | (with_reducible refine RowAt.drew ?_) | (with_reducible refine RowAt.other ?_ _ _ (by first | omega | (simp; done) | (simp; omega))) | refine RowAt.then ?_ (by with_reducible assumption))) | exact Rd.below (by with_reducible assumption) (by first | (with_reducible exact Below.refl _ _) | ((repeat' (first | (with_reducible exact Below.refl _ _) | (with_reducible assumption) | (with_reducible refine below_alloc ?_ _) | (with_reducible refine Below.drew ?_) | (with_reducible refine below_drewN ?_ _) | (with_reducible refine Below.setCell ?_ ?_ _) | refine below_then ?_ (by with_reducible assumption))) <;> (first | omega | (simp; done) | (simp; omega)))))).mono ?_); rintro e w1 ⟨gl, capl, l, nm, vl, rfl, rowl, ⟨hl2, hsm⟩, ⟨hnm, hvl⟩, hb⟩; have hbig := hsm.big (by omega); obtain ⟨hc, hf⟩ := bcell hb; have hz := hb.size; (try simp only [World.size_alloc, World.size_setCell, World.size_drew] at hz); obtain ⟨hlt, hle, hn1, hn2, hn3, hn4⟩ := bsize hb; (try simp only [World.size_alloc, World.size_setCell, World.size_drew] at hlt hle hn1 hn2 hn3 hn4); (try have hr0 : w.heap.size < w1.heap.size := by omega); (try have hr1 : w.heap.size + 1 < w1.heap.size := by omega); (try have hs0 : wS.heap.size < w1.heap.size := by omega); (try have hs1 : wG.heap.size < w1.heap.size := by omega)))
      | (go_at_call 35; ((with_reducible refine (impl_PackHeaders _ _ _ l rfl _ (by first | (with_reducible assumption) | exact RowAt.rd (by repeat' (first | (with_reducible assumption) | (with_reducible refine RowAt.alloc ?_ _) | (with_reducible refine RowAt.drew ?_) | (with_reducible refine RowAt.other ?_ _ _ (by first | omega | (simp; done) | (simp; omega))) | refine RowAt.then ?_ (by with_reducible assumption))) | exact Rd.below (by with_reducible assumption) (by first | (with_reducible exact Below.refl _ _) | ((repeat' (first | (with_reducible exact Below.refl _ _) | (with_reducible assumption) | (with_reducible refine below_alloc ?_ _) | (with_reducible refine Below.drew ?_) | (with_reducible refine below_drewN ?_ _) | (with_reducible refine Below.setCell ?_ ?_ _) | refine below_then ?_ (by with_reducible assumption))) <;> (first | omega | (simp; done) | (simp; omega))))) (by omega) hbig).mono ?_); rintro e w2 ⟨rfl, hb⟩; obtain ⟨hc, hf⟩ := bcell hb; have hz := hb.size; (try simp only [World.size_alloc, World.size_setCell, World.size_drew] at hz); obtain ⟨hlt, hle, hn1, hn2, hn3, hn4⟩ := bsize hb; (try simp only [World.size_alloc, World.size_setCell, World.size_drew] at hlt hle hn1 hn2 hn3 hn4); (try have hr0 : w.heap.size < w2.heap.size := by omega); (try have hr1 : w.heap.size + 1 < w2.heap.size := by omega); (try have hs0 : wS.heap.size < w2.heap.size := by omega); (try have hs1 : wG.heap.size < w2.heap.size := by omega)))
      | (go_at_call 36; ((with_reducible refine (impl_SetHeader nm vl (by omega) (by omega) _ _ _ l rfl _ (by first | (with_reducible assumption) | exact RowAt.rd (by repeat' (first | (with_reducible assumption) | (with_reducible refine RowAt.alloc ?_ _) | (with_reducible refine RowAt.drew ?_) | (with_reducible refine RowAt.other ?_ _ _ (by first | omega | (simp; done) | (simp; omega))) | refine RowAt.then ?_ (by with_reducible assumption))) | exact Rd.below (by with_reducible assumption) (by first | (with_reducible exact Below.refl _ _) | ((repeat' (first | (with_reducible exact Below.refl _ _) | (with_reducible assumption) | (with_reducible refine below_alloc ?_ _) | (with_reducible refine Below.drew ?_) | (with_reducible refine below_drewN ?_ _) | (with_reducible refine Below.setCell ?_ ?_ _) | refine below_then ?_ (by with_reducible assumption))) <;> (first | omega | (simp; done) | (simp; omega))))) (by omega) hbig).mono ?_); rintro e w3 ⟨aS, nS, cS, rfl, ⟨hlS, hsS⟩, hb⟩; obtain ⟨hc, hf⟩ := bcell hb; have hz := hb.size; (try simp only [World.size_alloc, World.size_setCell, World.size_drew] at hz); obtain ⟨hlt, hle, hn1, hn2, hn3, hn4⟩ := bsize hb; (try simp only [World.size_alloc, World.size_setCell, World.size_drew] at hlt hle hn1 hn2 hn3 hn4); (try have hr0 : w.heap.size < w3.heap.size := by omega); (try have hr1 : w.heap.size + 1 < w3.heap.size := by omega); (try have hs0 : wS.heap.size < w3.heap.size := by omega); (try have hs1 : wG.heap.size < w3.heap.size := by omega)))
      | (go_at_call 37; ((with_reducible refine (impl_DropHeader nm (by omega) _ _ _ l rfl _ (by first | (with_reducible assumption) | exact RowAt.rd (by repeat' (first | (with_reducible assumption) | (with_reducible refine RowAt.alloc ?_ _) | (with_reducible refine RowAt.drew ?_) | (with_reducible refine RowAt.other ?_ _ _ (by first | omega | (simp; done) | (simp; omega))) | refine RowAt.then ?_ (by with_reducible assumption))) | exact Rd.below (by with_reducible assumption) (by first | (with_reducible exact Below.refl _ _) | ((repeat' (first | (with_reducible exact Below.refl _ _) | (with_reducible assumption) | (with_reducible refine below_alloc ?_ _) | (with_reducible refine Below.drew ?_) | (with_reducible refine below_drewN ?_ _) | (with_reducible refine Below.setCell ?_ ?_ _) | refine below_then ?_ (by with_reducible assumption))) <;> (first | omega | (simp; done) | (simp; omega))))) (by omega) hbig).mono ?_); rintro e w4 ⟨aD, nD, cD, rfl, ⟨hlD, hsD⟩, hb⟩; obtain ⟨hc, hf⟩ := bcell hb; have hz := hb.size; (try simp only [World.size_alloc, World.size_setCell, World.size_drew] at hz); obtain ⟨hlt, hle, hn1, hn2, hn3, hn4⟩ := bsize hb; (try simp only [World.size_alloc, World.size_setCell, World.size_drew] at hlt hle hn1 hn2 hn3 hn4); (try have hr0 : w.heap.size < w4.heap.size := by omega); (try have hr1 : w.heap.size + 1 < w4.heap.size := by omega); (try have hs0 : wS.heap.size < w4.heap.size := by omega); (try have hs1 : wG.heap.size < w4.heap.size := by omega)))
      | (go_at_call 38; ((with_reducible refine (spec_DrawReadHeaders a n c bs hl h _ (by first | (with_reducible assumption) | exact RowAt.rd (by repeat' (first | (with_reducible assumption) | (with_reducible refine RowAt.alloc ?_ _) | (with_reducible refine RowAt.drew ?_) | (with_reducible refine RowAt.other ?_ _ _ (by first | omega | (simp; done) | (simp; omega))) | refine RowAt.then ?_ (by with_reducible assumption))) | exact Rd.below (by with_reducible assumption) (by first | (with_reducible exact Below.refl _ _) | ((repeat' (first | (with_reducible exact Below.refl _ _) | (with_reducible assumption) | (with_reducible refine below_alloc ?_ _) | (with_reducible refine Below.drew ?_) | (with_reducible refine below_drewN ?_ _) | (with_reducible refine Below.setCell ?_ ?_ _) | refine below_then ?_ (by with_reducible assumption))) <;> (first | omega | (simp; done) | (simp; omega)))))).mono ?_); rintro e w5 ⟨t, rfl, ht, hb⟩; obtain ⟨hc, hf⟩ := bcell hb; have hz := hb.size; (try simp only [World.size_alloc, World.size_setCell, World.size_drew] at hz); obtain ⟨hlt, hle, hn1, hn2, hn3, hn4⟩ := bsize hb; (try simp only [World.size_alloc, World.size_setCell, World.size_drew] at hlt hle hn1 hn2 hn3 hn4); (try have hr0 : w.heap.size < w5.heap.size := by omega); (try have hr1 : w.heap.size + 1 < w5.heap.size := by omega); (try have hs0 : wS.heap.size < w5.heap.size := by omega); (try have hs1 : wG.heap.size < w5.heap.size := by omega)))
      | (go_at_call 39; ((with_reducible refine (impl_ReadHeaders t (by omega) _ (HM.out.then (by exact (by first | (with_reducible exact Below.refl _ _) | ((repeat' (first | (with_reducible exact Below.refl _ _) | (with_reducible assumption) | (with_reducible refine below_alloc ?_ _) | (with_reducible refine Below.drew ?_) | (with_reducible refine below_drewN ?_ _) | (with_reducible refine Below.setCell ?_ ?_ _) | refine below_then ?_ (by with_reducible assumption))) <;> (first | omega | (simp; done) | (simp; omega))))))).mono ?_); rintro e w6 ⟨aR, nR, cR, rfl, ⟨hlR, hsR⟩, hb⟩; obtain ⟨hc, hf⟩ := bcell hb; have hz := hb.size; (try simp only [World.size_alloc, World.size_setCell, World.size_drew] at hz); obtain ⟨hlt, hle, hn1, hn2, hn3, hn4⟩ := bsize hb; (try simp only [World.size_alloc, World.size_setCell, World.size_drew] at hlt hle hn1 hn2 hn3 hn4); (try have hr0 : w.heap.size < w6.heap.size := by omega); (try have hr1 : w.heap.size + 1 < w6.heap.size := by omega); (try have hs0 : wS.heap.size < w6.heap.size := by omega); (try have hs1 : wG.heap.size < w6.heap.size := by omega))))
    all_goals (try (go_ret; exact ⟨by first | rfl | (simp [*]; done) | (simp [*]; omega), by first | (with_reducible rfl) | exact (by first | (with_reducible exact Below.refl _ _) | ((repeat' (first | (with_reducible exact Below.refl _ _) | (with_reducible assumption) | (with_reducible refine below_alloc ?_ _) | (with_reducible refine Below.drew ?_) | (with_reducible refine below_drewN ?_ _) | (with_reducible refine Below.setCell ?_ ?_ _) | refine below_then ?_ (by with_reducible assumption))) <;> (first | omega | (simp; done) | (simp; omega))))⟩))
    have kP : (w6.alloc (.cells #[.int .i64 (readR t).1, .slice aR nR cR] 66)).heap[w2.heap.size]? = some (.cells #[.int .i64 (packR l).1, .string (packR l).2] 31 (0, 0)) := (by repeat' (first | (with_reducible assumption) | (with_reducible exact blk_new _ _) | (with_reducible apply blk_set) | (with_reducible refine blk_new' _ _ _ (by first | omega | (simp only [World.size_alloc]; first | done | omega))) | (with_reducible refine blk_other ?_ _ _ _ (by omega)) | (with_reducible refine blk_drew ?_) | (with_reducible refine blk_alloc ?_ _) | refine blk_then ?_ (by with_reducible assumption)))
    have kS : (w6.alloc (.cells #[.int .i64 (readR t).1, .slice aR nR cR] 66)).heap[w3.heap.size]? = some (.cells #[.int .i64 (setR nm vl l).1, .slice aS nS cS] 66 (0, 0)) := (by repeat' (first | (with_reducible assumption) | (with_reducible exact blk_new _ _) | (with_reducible apply blk_set) | (with_reducible refine blk_new' _ _ _ (by first | omega | (simp only [World.size_alloc]; first | done | omega))) | (with_reducible refine blk_other ?_ _ _ _ (by omega)) | (with_reducible refine blk_drew ?_) | (with_reducible refine blk_alloc ?_ _) | refine blk_then ?_ (by with_reducible assumption)))
    have kD : (w6.alloc (.cells #[.int .i64 (readR t).1, .slice aR nR cR] 66)).heap[w4.heap.size]? = some (.cells #[.int .i64 (dropR nm l).1, .slice aD nD cD] 66 (0, 0)) := (by repeat' (first | (with_reducible assumption) | (with_reducible exact blk_new _ _) | (with_reducible apply blk_set) | (with_reducible refine blk_new' _ _ _ (by first | omega | (simp only [World.size_alloc]; first | done | omega))) | (with_reducible refine blk_other ?_ _ _ _ (by omega)) | (with_reducible refine blk_drew ?_) | (with_reducible refine blk_alloc ?_ _) | refine blk_then ?_ (by with_reducible assumption)))
    have kR : (w6.alloc (.cells #[.int .i64 (readR t).1, .slice aR nR cR] 66)).heap[w6.heap.size]? = some (.cells #[.int .i64 (readR t).1, .slice aR nR cR] 66 (0, 0)) := blk_new _ _
    have belV : Below w.heap.size w (w6.alloc (.cells #[.int .i64 (readR t).1, .slice aR nR cR] 66)) := by exact (by first | (with_reducible exact Below.refl _ _) | ((repeat' (first | (with_reducible exact Below.refl _ _) | (with_reducible assumption) | (with_reducible refine below_alloc ?_ _) | (with_reducible refine Below.drew ?_) | (with_reducible refine below_drewN ?_ _) | (with_reducible refine Below.setCell ?_ ?_ _) | refine below_then ?_ (by with_reducible assumption))) <;> (first | omega | (simp; done) | (simp; omega))))
    have rdl : Rd (w6.alloc (.cells #[.int .i64 (readR t).1, .slice aR nR cR] 66)) (some ⟨gl, 0, none⟩) (hV l) := RowAt.rd (by exact (by repeat' (first | (with_reducible assumption) | (with_reducible refine RowAt.alloc ?_ _) | (with_reducible refine RowAt.drew ?_) | (with_reducible refine RowAt.other ?_ _ _ (by first | omega | (simp; done) | (simp; omega))) | refine RowAt.then ?_ (by with_reducible assumption))))
    have rdS : Rd (w6.alloc (.cells #[.int .i64 (readR t).1, .slice aR nR cR] 66)) aS (hV (setR nm vl l).2) := hsS.rd.below (by exact (by first | (with_reducible exact Below.refl _ _) | ((repeat' (first | (with_reducible exact Below.refl _ _) | (with_reducible assumption) | (with_reducible refine below_alloc ?_ _) | (with_reducible refine Below.drew ?_) | (with_reducible refine below_drewN ?_ _) | (with_reducible refine Below.setCell ?_ ?_ _) | refine below_then ?_ (by with_reducible assumption))) <;> (first | omega | (simp; done) | (simp; omega)))))
    have rdD : Rd (w6.alloc (.cells #[.int .i64 (readR t).1, .slice aR nR cR] 66)) aD (hV (dropR nm l).2) := hsD.rd.below (by exact (by first | (with_reducible exact Below.refl _ _) | ((repeat' (first | (with_reducible exact Below.refl _ _) | (with_reducible assumption) | (with_reducible refine below_alloc ?_ _) | (with_reducible refine Below.drew ?_) | (with_reducible refine below_drewN ?_ _) | (with_reducible refine Below.setCell ?_ ?_ _) | refine below_then ?_ (by with_reducible assumption))) <;> (first | omega | (simp; done) | (simp; omega)))))
    have rdR : Rd (w6.alloc (.cells #[.int .i64 (readR t).1, .slice aR nR cR] 66)) aR (hV (readR t).2) := hsR.rd.below (by exact (by first | (with_reducible exact Below.refl _ _) | ((repeat' (first | (with_reducible exact Below.refl _ _) | (with_reducible assumption) | (with_reducible refine below_alloc ?_ _) | (with_reducible refine Below.drew ?_) | (with_reducible refine below_drewN ?_ _) | (with_reducible refine Below.setCell ?_ ?_ _) | refine below_then ?_ (by with_reducible assumption))) <;> (first | omega | (simp; done) | (simp; omega)))))
    have hM := HM.out.then belV
    have c1 := fun W hr => spec_HeadersFault (some ⟨gl, 0, none⟩) l.length capl l rfl W hr (by omega) hbig
    have c2 := fun W hr => impl_HeadersFault (some ⟨gl, 0, none⟩) l.length capl l rfl W hr (by omega) hbig
    have c3 := fun W hr => spec_SetHeader nm vl (by omega) (by omega) (some ⟨gl, 0, none⟩) l.length capl l rfl W hr (by omega) hbig
    have c4 := fun W hr => spec_DropHeader nm (by omega) (some ⟨gl, 0, none⟩) l.length capl l rfl W hr (by omega) hbig
    have c5 := fun W => spec_ReadHeaders t (by omega) W
    have hpf : (packR l).1 = hdsFault l := by
      unfold packR
      split
      · rename_i q; exact q.symm
      · rfl
    have hsg := fun e => set_good (nm := nm) (vl := vl) (l := l) e
    have hsf := fun e => set_found (nm := nm) (vl := vl) (l := l) e
    have hdg := fun e => drop_good (nm := nm) (l := l) e
    have hdj := fun e => join_dropped (nm := nm) (l := l) e
    have hrg := fun e => readR_ok (t := t) e
    generalize (w6.alloc (.cells #[.int .i64 (readR t).1, .slice aR nR cR] 66)) = V at *
    subst hlS hlD hlR
    generalize w2.heap.size = bP at *
    generalize w3.heap.size = bS at *
    generalize w4.heap.size = bD at *
    generalize w6.heap.size = bR at *
    clear HM hr hsS hsD hsR hb hc hf hz
    rcases hpr : packR l with ⟨F, P⟩
    rcases hsr : setR nm vl l with ⟨eS, LS⟩
    rcases hdr : dropR nm l with ⟨eD, LD⟩
    rcases hrr : readR t with ⟨eR, LR⟩
    rw [hpr] at hpf
    simp only at hpf
    rw [← hpf] at c1 c2
    simp only [hpr] at kP
    simp only [hsr] at kS rdS c3 hsg hsf
    simp only [hdr] at kD rdD c4 hsg hsf hdg hdj
    simp only [hrr] at kR rdR c5 hrg
    have C1 := Lib.hid c1
    have C2 := Lib.hid c2
    have C3 := Lib.hid c3
    have C4 := Lib.hid c4
    have C5 := Lib.hid c5
    have Hsg := Lib.hid hsg
    have Hsf := Lib.hid hsf
    have Hdg := Lib.hid hdg
    have Hdj := Lib.hid hdj
    have Hrg := Lib.hid hrg
    have Hpr := Lib.hid hpr
    have Hpf := Lib.hid hpf
    have Hbig := Lib.hid hbig
    clear c1 c2 c3 c4 c5 hsg hsf hdg hdj hrg hpr hpf hsr hdr hrr hbig hsm
    have hcP := fun W (hI : Below V.heap.size V W) => cells2 (blk_then kP hI)
    have hcS := fun W (hI : Below V.heap.size V W) => cells2 (blk_then kS hI)
    have hcD := fun W (hI : Below V.heap.size V W) => cells2 (blk_then kD hI)
    have hcR := fun W (hI : Below V.heap.size V W) => cells2 (blk_then kR hI)
    refine wp_region_relG (fun W => Below V.heap.size V W) (fun _ w w' => Below w.heap.size w w') (FF [.pointer (some ⟨bP, 0, none⟩), .int .i64 (F), .slice (some ⟨gl, 0, none⟩) (l.length) (capl), .int .i64 (F), .bool false, .bool false, .slice (some ⟨gl, 0, none⟩) (l.length) (capl), .int .i64 (F), .pointer (some ⟨bP, 0, none⟩), .int .i64 (F), .bool false, .bool false, .bool false, .pointer (some ⟨bS, 0, none⟩), .int .i64 (eS), .slice (some ⟨gl, 0, none⟩) (l.length) (capl), .string (nm), .string (vl), undef, .int .i64 (eS), .bool false, .bool false, .bool false, .pointer (some ⟨bD, 0, none⟩), .int .i64 (eD), .slice (some ⟨gl, 0, none⟩) (l.length) (capl), .string (nm), undef, .int .i64 (eD), .bool false, .bool false, .bool false, .pointer (some ⟨bR, 0, none⟩), .int .i64 (eR), .string (t), undef, .int .i64 (eR), .bool false, .bool false] [(18, SpR (eS) (LS.length) (hV LS)), (27, SpR (eD) (LD.length) (hV LD)), (35, SpR (eR) (LR.length) (hV LR))]) (fun _ => true) (by kernel_rfl) (by kernel_rfl) (guard_FF (by kernel_rfl) (by kernel_rfl)) ?_ (Below.refl _ _).drew (fun _ _ _ h1 h2 => below_then h1 h2) (fun _ _ _ _ _ _ _ h2 h3 => FF.keep (by simp only [List.forall_mem_cons]; exact ⟨SpR.keep, SpR.keep, SpR.keep, fun _ h => by cases h⟩) _ _ _ _ h2 h3) ?_ ?_ ?_
    · intro i w h; cases h
    · intro i o v w hi hd hF
      exact absurd hd (by have := unB_spec (k := 999) (by kernel_rfl) hi hd; have := (Array.getElem?_eq_some_iff.1 hi).1; simp at this; omega)
    · repeat' (refine And.intro ?_ ?_)
      · intro _ ρ W hI hbase hdep
        have hc : ∀ v, ρ (.const v) = v := fun v => hbase _ (fun _ _ _ _ _ e => by cases e)
        have b6 : ρ (.tmp 6) = .pointer (some ⟨bP, 0, none⟩) := hbase (.tmp 6) (base_tmp (by kernel_rfl))
        simp only [execOp, hc, b6]
        go_simp
        exact ⟨Below.refl _ _, rfl⟩
      · intro _ ρ W hI hbase hdep
        have hc : ∀ v, ρ (.const v) = v := fun v => hbase _ (fun _ _ _ _ _ e => by cases e)
        have p0 : ρ (.tmp 33) = .pointer (some ⟨bP, 0, none⟩) := (Option.some.inj (hdep ⟨0, .data⟩ (by simp) rfl _ 33 rfl rfl : some (.pointer (some ⟨bP, 0, none⟩)) = some (ρ (.tmp 33)))).symm
        obtain ⟨m0, m1⟩ := hcP W hI
        simp only [execOp, hc, p0]
        go_simp
        exact ⟨Below.refl _ _, rfl⟩
      · intro _ ρ W hI hbase hdep
        have hc : ∀ v, ρ (.const v) = v := fun v => hbase _ (fun _ _ _ _ _ e => by cases e)
        have b3 : ρ (.tmp 3) = .slice (some ⟨gl, 0, none⟩) (l.length) (capl) := hbase (.tmp 3) (base_tmp (by kernel_rfl))
        simp only [execOp, hc, b3]
        go_simp
        exact ⟨Below.refl _ _, rfl⟩
      · intro _ ρ W hI hbase hdep
        have hc : ∀ v, ρ (.const v) = v := fun v => hbase _ (fun _ _ _ _ _ e => by cases e)
        have hfn : ∀ f, ρ (.func f) = .func (.func f) #[] #[] := fun v => hbase _ (fun _ _ _ _ _ e => by cases e)
        have p2 : ρ (.tmp 35) = .slice (some ⟨gl, 0, none⟩) (l.length) (capl) := (Option.some.inj (hdep ⟨2, .data⟩ (by simp) rfl _ 35 rfl rfl : some (.slice (some ⟨gl, 0, none⟩) (l.length) (capl)) = some (ρ (.tmp 35)))).symm
        simp only [execOp, hc, hfn, p2]
        go_simp
        exact ⟨rfl, (C1.out W (rdl.below hI)).mono fun e w' h => ⟨_, h.1, h.2, rfl⟩⟩
      · intro _ ρ W hI hbase hdep
        have hc : ∀ v, ρ (.const v) = v := fun v => hbase _ (fun _ _ _ _ _ e => by cases e)
        have p1 : ρ (.tmp 34) = .int .i64 (F) := (Option.some.inj (hdep ⟨1, .data⟩ (by simp) rfl _ 34 rfl rfl : some (.int .i64 (F)) = some (ρ (.tmp 34)))).symm
        have p3 : ρ (.tmp 36) = .int .i64 (F) := (Option.some.inj (hdep ⟨3, .data⟩ (by simp) rfl _ 36 rfl rfl : some (.int .i64 (F)) = some (ρ (.tmp 36)))).symm
        simp only [execOp, hc, p1, p3]
        go_simp
        exact ⟨Below.refl _ _, rfl⟩
      · intro _ ρ W hI hbase hdep
        have hc : ∀ v, ρ (.const v) = v := fun v => hbase _ (fun _ _ _ _ _ e => by cases e)
        have p4 : ρ (.tmp 37) = .bool false := (Option.some.inj (hdep ⟨4, .data⟩ (by simp) rfl _ 37 rfl rfl : some (.bool false) = some (ρ (.tmp 37)))).symm
        simp only [execOp, hc, p4]
        go_simp
        exact ⟨Below.refl _ _, rfl⟩
      · intro _ ρ W hI hbase hdep
        have hc : ∀ v, ρ (.const v) = v := fun v => hbase _ (fun _ _ _ _ _ e => by cases e)
        have b3 : ρ (.tmp 3) = .slice (some ⟨gl, 0, none⟩) (l.length) (capl) := hbase (.tmp 3) (base_tmp (by kernel_rfl))
        simp only [execOp, hc, b3]
        go_simp
        exact ⟨Below.refl _ _, rfl⟩
      · intro _ ρ W hI hbase hdep
        have hc : ∀ v, ρ (.const v) = v := fun v => hbase _ (fun _ _ _ _ _ e => by cases e)
        have hfn : ∀ f, ρ (.func f) = .func (.func f) #[] #[] := fun v => hbase _ (fun _ _ _ _ _ e => by cases e)
        have p6 : ρ (.tmp 39) = .slice (some ⟨gl, 0, none⟩) (l.length) (capl) := (Option.some.inj (hdep ⟨6, .data⟩ (by simp) rfl _ 39 rfl rfl : some (.slice (some ⟨gl, 0, none⟩) (l.length) (capl)) = some (ρ (.tmp 39)))).symm
        simp only [execOp, hc, hfn, p6]
        go_simp
        exact ⟨rfl, (C2.out W (rdl.below hI)).mono fun e w' h => ⟨_, h.1, h.2, rfl⟩⟩
      · intro _ ρ W hI hbase hdep
        have hc : ∀ v, ρ (.const v) = v := fun v => hbase _ (fun _ _ _ _ _ e => by cases e)
        have b6 : ρ (.tmp 6) = .pointer (some ⟨bP, 0, none⟩) := hbase (.tmp 6) (base_tmp (by kernel_rfl))
        simp only [execOp, hc, b6]
        go_simp
        exact ⟨Below.refl _ _, rfl⟩
      · intro _ ρ W hI hbase hdep
        have hc : ∀ v, ρ (.const v) = v := fun v => hbase _ (fun _ _ _ _ _ e => by cases e)
        have p8 : ρ (.tmp 41) = .pointer (some ⟨bP, 0, none⟩) := (Option.some.inj (hdep ⟨8, .data⟩ (by simp) rfl _ 41 rfl rfl : some (.pointer (some ⟨bP, 0, none⟩)) = some (ρ (.tmp 41)))).symm
        obtain ⟨m0, m1⟩ := hcP W hI
        simp only [execOp, hc, p8]
        go_simp
        exact ⟨Below.refl _ _, rfl⟩
      · intro _ ρ W hI hbase hdep
        have hc : ∀ v, ρ (.const v) = v := fun v => hbase _ (fun _ _ _ _ _ e => by cases e)
        have p7 : ρ (.tmp 40) = .int .i64 (F) := (Option.some.inj (hdep ⟨7, .data⟩ (by simp) rfl _ 40 rfl rfl : some (.int .i64 (F)) = some (ρ (.tmp 40)))).symm
        have p9 : ρ (.tmp 42) = .int .i64 (F) := (Option.some.inj (hdep ⟨9, .data⟩ (by simp) rfl _ 42 rfl rfl : some (.int .i64 (F)) = some (ρ (.tmp 42)))).symm
        simp only [execOp, hc, p7, p9]
        go_simp
        exact ⟨Below.refl _ _, rfl⟩
      · intro _ ρ W hI hbase hdep
        have hc : ∀ v, ρ (.const v) = v := fun v => hbase _ (fun _ _ _ _ _ e => by cases e)
        have p5 : ρ (.tmp 38) = .bool false := (Option.some.inj (hdep ⟨5, .data⟩ (by simp) rfl _ 38 rfl rfl : some (.bool false) = some (ρ (.tmp 38)))).symm
        have p10 : ρ (.tmp 43) = .bool false := (Option.some.inj (hdep ⟨10, .data⟩ (by simp) rfl _ 43 rfl rfl : some (.bool false) = some (ρ (.tmp 43)))).symm
        simp only [execOp, hc, p5, p10]
        go_simp
        exact ⟨Below.refl _ _, rfl⟩
      · intro _ ρ W hI hbase hdep
        have hc : ∀ v, ρ (.const v) = v := fun v => hbase _ (fun _ _ _ _ _ e => by cases e)
        have p11 : ρ (.tmp 44) = .bool false := (Option.some.inj (hdep ⟨11, .data⟩ (by simp) rfl _ 44 rfl rfl : some (.bool false) = some (ρ (.tmp 44)))).symm
        simp only [execOp, hc, p11]
        go_simp
        exact ⟨Below.refl _ _, rfl⟩
      · intro _ ρ W hI hbase hdep
        have hc : ∀ v, ρ (.const v) = v := fun v => hbase _ (fun _ _ _ _ _ e => by cases e)
        have b7 : ρ (.tmp 7) = .pointer (some ⟨bS, 0, none⟩) := hbase (.tmp 7) (base_tmp (by kernel_rfl))
        simp only [execOp, hc, b7]
        go_simp
        exact ⟨Below.refl _ _, rfl⟩
      · intro _ ρ W hI hbase hdep
        have hc : ∀ v, ρ (.const v) = v := fun v => hbase _ (fun _ _ _ _ _ e => by cases e)
        have p13 : ρ (.tmp 46) = .pointer (some ⟨bS, 0, none⟩) := (Option.some.inj (hdep ⟨13, .data⟩ (by simp) rfl _ 46 rfl rfl : some (.pointer (some ⟨bS, 0, none⟩)) = some (ρ (.tmp 46)))).symm
        obtain ⟨m0, m1⟩ := hcS W hI
        simp only [execOp, hc, p13]
        go_simp
        exact ⟨Below.refl _ _, rfl⟩
      · intro _ ρ W hI hbase hdep
        have hc : ∀ v, ρ (.const v) = v := fun v => hbase _ (fun _ _ _ _ _ e => by cases e)
        have b3 : ρ (.tmp 3) = .slice (some ⟨gl, 0, none⟩) (l.length) (capl) := hbase (.tmp 3) (base_tmp (by kernel_rfl))
        simp only [execOp, hc, b3]
        go_simp
        exact ⟨Below.refl _ _, rfl⟩
      · intro _ ρ W hI hbase hdep
        have hc : ∀ v, ρ (.const v) = v := fun v => hbase _ (fun _ _ _ _ _ e => by cases e)
        have b4 : ρ (.tmp 4) = .string (nm) := hbase (.tmp 4) (base_tmp (by kernel_rfl))
        simp only [execOp, hc, b4]
        go_simp
        exact ⟨Below.refl _ _, rfl⟩
      · intro _ ρ W hI hbase hdep
        have hc : ∀ v, ρ (.const v) = v := fun v => hbase _ (fun _ _ _ _ _ e => by cases e)
        have b5 : ρ (.tmp 5) = .string (vl) := hbase (.tmp 5) (base_tmp (by kernel_rfl))
        simp only [execOp, hc, b5]
        go_simp
        exact ⟨Below.refl _ _, rfl⟩
      · intro _ ρ W hI hbase hdep
        have hc : ∀ v, ρ (.const v) = v := fun v => hbase _ (fun _ _ _ _ _ e => by cases e)
        have hfn : ∀ f, ρ (.func f) = .func (.func f) #[] #[] := fun v => hbase _ (fun _ _ _ _ _ e => by cases e)
        have p15 : ρ (.tmp 48) = .slice (some ⟨gl, 0, none⟩) (l.length) (capl) := (Option.some.inj (hdep ⟨15, .data⟩ (by simp) rfl _ 48 rfl rfl : some (.slice (some ⟨gl, 0, none⟩) (l.length) (capl)) = some (ρ (.tmp 48)))).symm
        have p16 : ρ (.tmp 49) = .string (nm) := (Option.some.inj (hdep ⟨16, .data⟩ (by simp) rfl _ 49 rfl rfl : some (.string (nm)) = some (ρ (.tmp 49)))).symm
        have p17 : ρ (.tmp 50) = .string (vl) := (Option.some.inj (hdep ⟨17, .data⟩ (by simp) rfl _ 50 rfl rfl : some (.string (vl)) = some (ρ (.tmp 50)))).symm
        simp only [execOp, hc, hfn, p15, p16, p17]
        go_simp
        exact ⟨rfl, (C3.out W (rdl.below hI)).mono fun e w' ⟨a, n, c, h1, ⟨h2, h3⟩, h4⟩ => by subst h2; exact ⟨_, h1, h4, a, c, rfl, h3.rd⟩⟩
      · intro _ ρ W hI hbase hdep
        have hc : ∀ v, ρ (.const v) = v := fun v => hbase _ (fun _ _ _ _ _ e => by cases e)
        obtain ⟨a18, c18, p18, hsp18⟩ : ∃ a18 c18, ρ (.tmp 51) = .agg #[.int .i64 (eS), .slice (a18) (LS.length) (c18)] ∧ Rd W a18 (hV LS) := hdep ⟨18, .data⟩ (by simp) rfl _ 51 rfl rfl
        simp only [execOp, hc, p18]
        exact good_val (show (Instr.field 66 (.agg #[.int .i64 (eS), .slice (a18) (LS.length) (c18)]) 0).run Tryz.prog W = .ok (.int .i64 (eS)) W by kernel_rfl) ⟨Below.refl _ _, rfl⟩
      · intro _ ρ W hI hbase hdep
        have hc : ∀ v, ρ (.const v) = v := fun v => hbase _ (fun _ _ _ _ _ e => by cases e)
        have p14 : ρ (.tmp 47) = .int .i64 (eS) := (Option.some.inj (hdep ⟨14, .data⟩ (by simp) rfl _ 47 rfl rfl : some (.int .i64 (eS)) = some (ρ (.tmp 47)))).symm
        have p19 : ρ (.tmp 52) = .int .i64 (eS) := (Option.some.inj (hdep ⟨19, .data⟩ (by simp) rfl _ 52 rfl rfl : some (.int .i64 (eS)) = some (ρ (.tmp 52)))).symm
        simp only [execOp, hc, p14, p19]
        go_simp
        exact ⟨Below.refl _ _, rfl⟩
      · intro _ ρ W hI hbase hdep
        have hc : ∀ v, ρ (.const v) = v := fun v => hbase _ (fun _ _ _ _ _ e => by cases e)
        have p12 : ρ (.tmp 45) = .bool false := (Option.some.inj (hdep ⟨12, .data⟩ (by simp) rfl _ 45 rfl rfl : some (.bool false) = some (ρ (.tmp 45)))).symm
        have p20 : ρ (.tmp 53) = .bool false := (Option.some.inj (hdep ⟨20, .data⟩ (by simp) rfl _ 53 rfl rfl : some (.bool false) = some (ρ (.tmp 53)))).symm
        simp only [execOp, hc, p12, p20]
        go_simp
        exact ⟨Below.refl _ _, rfl⟩
      · intro _ ρ W hI hbase hdep
        have hc : ∀ v, ρ (.const v) = v := fun v => hbase _ (fun _ _ _ _ _ e => by cases e)
        have p21 : ρ (.tmp 54) = .bool false := (Option.some.inj (hdep ⟨21, .data⟩ (by simp) rfl _ 54 rfl rfl : some (.bool false) = some (ρ (.tmp 54)))).symm
        simp only [execOp, hc, p21]
        go_simp
        exact ⟨Below.refl _ _, rfl⟩
      · intro _ ρ W hI hbase hdep
        have hc : ∀ v, ρ (.const v) = v := fun v => hbase _ (fun _ _ _ _ _ e => by cases e)
        have b8 : ρ (.tmp 8) = .pointer (some ⟨bD, 0, none⟩) := hbase (.tmp 8) (base_tmp (by kernel_rfl))
        simp only [execOp, hc, b8]
        go_simp
        exact ⟨Below.refl _ _, rfl⟩
      · intro _ ρ W hI hbase hdep
        have hc : ∀ v, ρ (.const v) = v := fun v => hbase _ (fun _ _ _ _ _ e => by cases e)
        have p23 : ρ (.tmp 56) = .pointer (some ⟨bD, 0, none⟩) := (Option.some.inj (hdep ⟨23, .data⟩ (by simp) rfl _ 56 rfl rfl : some (.pointer (some ⟨bD, 0, none⟩)) = some (ρ (.tmp 56)))).symm
        obtain ⟨m0, m1⟩ := hcD W hI
        simp only [execOp, hc, p23]
        go_simp
        exact ⟨Below.refl _ _, rfl⟩
      · intro _ ρ W hI hbase hdep
        have hc : ∀ v, ρ (.const v) = v := fun v => hbase _ (fun _ _ _ _ _ e => by cases e)
        have b3 : ρ (.tmp 3) = .slice (some ⟨gl, 0, none⟩) (l.length) (capl) := hbase (.tmp 3) (base_tmp (by kernel_rfl))
        simp only [execOp, hc, b3]
        go_simp
        exact ⟨Below.refl _ _, rfl⟩
      · intro _ ρ W hI hbase hdep
        have hc : ∀ v, ρ (.const v) = v := fun v => hbase _ (fun _ _ _ _ _ e => by cases e)
        have b4 : ρ (.tmp 4) = .string (nm) := hbase (.tmp 4) (base_tmp (by kernel_rfl))
        simp only [execOp, hc, b4]
        go_simp
        exact ⟨Below.refl _ _, rfl⟩
      · intro _ ρ W hI hbase hdep
        have hc : ∀ v, ρ (.const v) = v := fun v => hbase _ (fun _ _ _ _ _ e => by cases e)
        have hfn : ∀ f, ρ (.func f) = .func (.func f) #[] #[] := fun v => hbase _ (fun _ _ _ _ _ e => by cases e)
        have p25 : ρ (.tmp 58) = .slice (some ⟨gl, 0, none⟩) (l.length) (capl) := (Option.some.inj (hdep ⟨25, .data⟩ (by simp) rfl _ 58 rfl rfl : some (.slice (some ⟨gl, 0, none⟩) (l.length) (capl)) = some (ρ (.tmp 58)))).symm
        have p26 : ρ (.tmp 59) = .string (nm) := (Option.some.inj (hdep ⟨26, .data⟩ (by simp) rfl _ 59 rfl rfl : some (.string (nm)) = some (ρ (.tmp 59)))).symm
        simp only [execOp, hc, hfn, p25, p26]
        go_simp
        exact ⟨rfl, (C4.out W (rdl.below hI)).mono fun e w' ⟨a, n, c, h1, ⟨h2, h3⟩, h4⟩ => by subst h2; exact ⟨_, h1, h4, a, c, rfl, h3.rd⟩⟩
      · intro _ ρ W hI hbase hdep
        have hc : ∀ v, ρ (.const v) = v := fun v => hbase _ (fun _ _ _ _ _ e => by cases e)
        obtain ⟨a27, c27, p27, hsp27⟩ : ∃ a27 c27, ρ (.tmp 60) = .agg #[.int .i64 (eD), .slice (a27) (LD.length) (c27)] ∧ Rd W a27 (hV LD) := hdep ⟨27, .data⟩ (by simp) rfl _ 60 rfl rfl
        simp only [execOp, hc, p27]
        exact good_val (show (Instr.field 66 (.agg #[.int .i64 (eD), .slice (a27) (LD.length) (c27)]) 0).run Tryz.prog W = .ok (.int .i64 (eD)) W by kernel_rfl) ⟨Below.refl _ _, rfl⟩
      · intro _ ρ W hI hbase hdep
        have hc : ∀ v, ρ (.const v) = v := fun v => hbase _ (fun _ _ _ _ _ e => by cases e)
        have p24 : ρ (.tmp 57) = .int .i64 (eD) := (Option.some.inj (hdep ⟨24, .data⟩ (by simp) rfl _ 57 rfl rfl : some (.int .i64 (eD)) = some (ρ (.tmp 57)))).symm
        have p28 : ρ (.tmp 61) = .int .i64 (eD) := (Option.some.inj (hdep ⟨28, .data⟩ (by simp) rfl _ 61 rfl rfl : some (.int .i64 (eD)) = some (ρ (.tmp 61)))).symm
        simp only [execOp, hc, p24, p28]
        go_simp
        exact ⟨Below.refl _ _, rfl⟩
      · intro _ ρ W hI hbase hdep
        have hc : ∀ v, ρ (.const v) = v := fun v => hbase _ (fun _ _ _ _ _ e => by cases e)
        have p22 : ρ (.tmp 55) = .bool false := (Option.some.inj (hdep ⟨22, .data⟩ (by simp) rfl _ 55 rfl rfl : some (.bool false) = some (ρ (.tmp 55)))).symm
        have p29 : ρ (.tmp 62) = .bool false := (Option.some.inj (hdep ⟨29, .data⟩ (by simp) rfl _ 62 rfl rfl : some (.bool false) = some (ρ (.tmp 62)))).symm
        simp only [execOp, hc, p22, p29]
        go_simp
        exact ⟨Below.refl _ _, rfl⟩
      · intro _ ρ W hI hbase hdep
        have hc : ∀ v, ρ (.const v) = v := fun v => hbase _ (fun _ _ _ _ _ e => by cases e)
        have p30 : ρ (.tmp 63) = .bool false := (Option.some.inj (hdep ⟨30, .data⟩ (by simp) rfl _ 63 rfl rfl : some (.bool false) = some (ρ (.tmp 63)))).symm
        simp only [execOp, hc, p30]
        go_simp
        exact ⟨Below.refl _ _, rfl⟩
      · intro _ ρ W hI hbase hdep
        have hc : ∀ v, ρ (.const v) = v := fun v => hbase _ (fun _ _ _ _ _ e => by cases e)
        have b10 : ρ (.tmp 10) = .pointer (some ⟨bR, 0, none⟩) := hbase (.tmp 10) (base_tmp (by kernel_rfl))
        simp only [execOp, hc, b10]
        go_simp
        exact ⟨Below.refl _ _, rfl⟩
      · intro _ ρ W hI hbase hdep
        have hc : ∀ v, ρ (.const v) = v := fun v => hbase _ (fun _ _ _ _ _ e => by cases e)
        have p32 : ρ (.tmp 65) = .pointer (some ⟨bR, 0, none⟩) := (Option.some.inj (hdep ⟨32, .data⟩ (by simp) rfl _ 65 rfl rfl : some (.pointer (some ⟨bR, 0, none⟩)) = some (ρ (.tmp 65)))).symm
        obtain ⟨m0, m1⟩ := hcR W hI
        simp only [execOp, hc, p32]
        go_simp
        exact ⟨Below.refl _ _, rfl⟩
      · intro _ ρ W hI hbase hdep
        have hc : ∀ v, ρ (.const v) = v := fun v => hbase _ (fun _ _ _ _ _ e => by cases e)
        have b9 : ρ (.tmp 9) = .string (t) := hbase (.tmp 9) (base_tmp (by kernel_rfl))
        simp only [execOp, hc, b9]
        go_simp
        exact ⟨Below.refl _ _, rfl⟩
      · intro _ ρ W hI hbase hdep
        have hc : ∀ v, ρ (.const v) = v := fun v => hbase _ (fun _ _ _ _ _ e => by cases e)
        have hfn : ∀ f, ρ (.func f) = .func (.func f) #[] #[] := fun v => hbase _ (fun _ _ _ _ _ e => by cases e)
        have p34 : ρ (.tmp 67) = .string (t) := (Option.some.inj (hdep ⟨34, .data⟩ (by simp) rfl _ 67 rfl rfl : some (.string (t)) = some (ρ (.tmp 67)))).symm
        simp only [execOp, hc, hfn, p34]
        go_simp
        exact ⟨rfl, (C5.out W).mono fun e w' ⟨a, n, c, h1, ⟨h2, h3⟩, h4⟩ => by subst h2; exact ⟨_, h1, h4, a, c, rfl, h3.rd⟩⟩
      · intro _ ρ W hI hbase hdep
        have hc : ∀ v, ρ (.const v) = v := fun v => hbase _ (fun _ _ _ _ _ e => by cases e)
        obtain ⟨a35, c35, p35, hsp35⟩ : ∃ a35 c35, ρ (.tmp 68) = .agg #[.int .i64 (eR), .slice (a35) (LR.length) (c35)] ∧ Rd W a35 (hV LR) := hdep ⟨35, .data⟩ (by simp) rfl _ 68 rfl rfl
        simp only [execOp, hc, p35]
        exact good_val (show (Instr.field 66 (.agg #[.int .i64 (eR), .slice (a35) (LR.length) (c35)]) 0).run Tryz.prog W = .ok (.int .i64 (eR)) W by kernel_rfl) ⟨Below.refl _ _, rfl⟩
      · intro _ ρ W hI hbase hdep
        have hc : ∀ v, ρ (.const v) = v := fun v => hbase _ (fun _ _ _ _ _ e => by cases e)
        have p33 : ρ (.tmp 66) = .int .i64 (eR) := (Option.some.inj (hdep ⟨33, .data⟩ (by simp) rfl _ 66 rfl rfl : some (.int .i64 (eR)) = some (ρ (.tmp 66)))).symm
        have p36 : ρ (.tmp 69) = .int .i64 (eR) := (Option.some.inj (hdep ⟨36, .data⟩ (by simp) rfl _ 69 rfl rfl : some (.int .i64 (eR)) = some (ρ (.tmp 69)))).symm
        simp only [execOp, hc, p33, p36]
        go_simp
        exact ⟨Below.refl _ _, rfl⟩
      · intro _ ρ W hI hbase hdep
        have hc : ∀ v, ρ (.const v) = v := fun v => hbase _ (fun _ _ _ _ _ e => by cases e)
        have p31 : ρ (.tmp 64) = .bool false := (Option.some.inj (hdep ⟨31, .data⟩ (by simp) rfl _ 64 rfl rfl : some (.bool false) = some (ρ (.tmp 64)))).symm
        have p37 : ρ (.tmp 70) = .bool false := (Option.some.inj (hdep ⟨37, .data⟩ (by simp) rfl _ 70 rfl rfl : some (.bool false) = some (ρ (.tmp 70)))).symm
        simp only [execOp, hc, p31, p37]
        go_simp
        exact ⟨Below.refl _ _, rfl⟩
      · trivial
    intro a' W hI ha hdf hall _ hrest
    have p0 : a'.tmps.getD 33 undef = .pointer (some ⟨bP, 0, none⟩) := (Option.some.inj (hall 0 _ 33 rfl rfl : some (.pointer (some ⟨bP, 0, none⟩)) = some (a'.tmps.getD 33 undef))).symm
    have p1 : a'.tmps.getD 34 undef = .int .i64 (F) := (Option.some.inj (hall 1 _ 34 rfl rfl : some (.int .i64 (F)) = some (a'.tmps.getD 34 undef))).symm
    have p2 : a'.tmps.getD 35 undef = .slice (some ⟨gl, 0, none⟩) (l.length) (capl) := (Option.some.inj (hall 2 _ 35 rfl rfl : some (.slice (some ⟨gl, 0, none⟩) (l.length) (capl)) = some (a'.tmps.getD 35 undef))).symm
    have p3 : a'.tmps.getD 36 undef = .int .i64 (F) := (Option.some.inj (hall 3 _ 36 rfl rfl : some (.int .i64 (F)) = some (a'.tmps.getD 36 undef))).symm
    have p4 : a'.tmps.getD 37 undef = .bool false := (Option.some.inj (hall 4 _ 37 rfl rfl : some (.bool false) = some (a'.tmps.getD 37 undef))).symm
    have p5 : a'.tmps.getD 38 undef = .bool false := (Option.some.inj (hall 5 _ 38 rfl rfl : some (.bool false) = some (a'.tmps.getD 38 undef))).symm
    have p6 : a'.tmps.getD 39 undef = .slice (some ⟨gl, 0, none⟩) (l.length) (capl) := (Option.some.inj (hall 6 _ 39 rfl rfl : some (.slice (some ⟨gl, 0, none⟩) (l.length) (capl)) = some (a'.tmps.getD 39 undef))).symm
    have p7 : a'.tmps.getD 40 undef = .int .i64 (F) := (Option.some.inj (hall 7 _ 40 rfl rfl : some (.int .i64 (F)) = some (a'.tmps.getD 40 undef))).symm
    have p8 : a'.tmps.getD 41 undef = .pointer (some ⟨bP, 0, none⟩) := (Option.some.inj (hall 8 _ 41 rfl rfl : some (.pointer (some ⟨bP, 0, none⟩)) = some (a'.tmps.getD 41 undef))).symm
    have p9 : a'.tmps.getD 42 undef = .int .i64 (F) := (Option.some.inj (hall 9 _ 42 rfl rfl : some (.int .i64 (F)) = some (a'.tmps.getD 42 undef))).symm
    have p10 : a'.tmps.getD 43 undef = .bool false := (Option.some.inj (hall 10 _ 43 rfl rfl : some (.bool false) = some (a'.tmps.getD 43 undef))).symm
    have p11 : a'.tmps.getD 44 undef = .bool false := (Option.some.inj (hall 11 _ 44 rfl rfl : some (.bool false) = some (a'.tmps.getD 44 undef))).symm
    have p12 : a'.tmps.getD 45 undef = .bool false := (Option.some.inj (hall 12 _ 45 rfl rfl : some (.bool false) = some (a'.tmps.getD 45 undef))).symm
    have p13 : a'.tmps.getD 46 undef = .pointer (some ⟨bS, 0, none⟩) := (Option.some.inj (hall 13 _ 46 rfl rfl : some (.pointer (some ⟨bS, 0, none⟩)) = some (a'.tmps.getD 46 undef))).symm
    have p14 : a'.tmps.getD 47 undef = .int .i64 (eS) := (Option.some.inj (hall 14 _ 47 rfl rfl : some (.int .i64 (eS)) = some (a'.tmps.getD 47 undef))).symm
    have p15 : a'.tmps.getD 48 undef = .slice (some ⟨gl, 0, none⟩) (l.length) (capl) := (Option.some.inj (hall 15 _ 48 rfl rfl : some (.slice (some ⟨gl, 0, none⟩) (l.length) (capl)) = some (a'.tmps.getD 48 undef))).symm
    have p16 : a'.tmps.getD 49 undef = .string (nm) := (Option.some.inj (hall 16 _ 49 rfl rfl : some (.string (nm)) = some (a'.tmps.getD 49 undef))).symm
    have p17 : a'.tmps.getD 50 undef = .string (vl) := (Option.some.inj (hall 17 _ 50 rfl rfl : some (.string (vl)) = some (a'.tmps.getD 50 undef))).symm
    obtain ⟨a18, c18, p18, hsp18⟩ : ∃ a18 c18, a'.tmps.getD 51 undef = .agg #[.int .i64 (eS), .slice (a18) (LS.length) (c18)] ∧ Rd W a18 (hV LS) := hall 18 _ 51 rfl rfl
    have p19 : a'.tmps.getD 52 undef = .int .i64 (eS) := (Option.some.inj (hall 19 _ 52 rfl rfl : some (.int .i64 (eS)) = some (a'.tmps.getD 52 undef))).symm
    have p20 : a'.tmps.getD 53 undef = .bool false := (Option.some.inj (hall 20 _ 53 rfl rfl : some (.bool false) = some (a'.tmps.getD 53 undef))).symm
    have p21 : a'.tmps.getD 54 undef = .bool false := (Option.some.inj (hall 21 _ 54 rfl rfl : some (.bool false) = some (a'.tmps.getD 54 undef))).symm
    have p22 : a'.tmps.getD 55 undef = .bool false := (Option.some.inj (hall 22 _ 55 rfl rfl : some (.bool false) = some (a'.tmps.getD 55 undef))).symm
    have p23 : a'.tmps.getD 56 undef = .pointer (some ⟨bD, 0, none⟩) := (Option.some.inj (hall 23 _ 56 rfl rfl : some (.pointer (some ⟨bD, 0, none⟩)) = some (a'.tmps.getD 56 undef))).symm
    have p24 : a'.tmps.getD 57 undef = .int .i64 (eD) := (Option.some.inj (hall 24 _ 57 rfl rfl : some (.int .i64 (eD)) = some (a'.tmps.getD 57 undef))).symm
    have p25 : a'.tmps.getD 58 undef = .slice (some ⟨gl, 0, none⟩) (l.length) (capl) := (Option.some.inj (hall 25 _ 58 rfl rfl : some (.slice (some ⟨gl, 0, none⟩) (l.length) (capl)) = some (a'.tmps.getD 58 undef))).symm
    have p26 : a'.tmps.getD 59 undef = .string (nm) := (Option.some.inj (hall 26 _ 59 rfl rfl : some (.string (nm)) = some (a'.tmps.getD 59 undef))).symm
    obtain ⟨a27, c27, p27, hsp27⟩ : ∃ a27 c27, a'.tmps.getD 60 undef = .agg #[.int .i64 (eD), .slice (a27) (LD.length) (c27)] ∧ Rd W a27 (hV LD) := hall 27 _ 60 rfl rfl
    have p28 : a'.tmps.getD 61 undef = .int .i64 (eD) := (Option.some.inj (hall 28 _ 61 rfl rfl : some (.int .i64 (eD)) = some (a'.tmps.getD 61 undef))).symm
    have p29 : a'.tmps.getD 62 undef = .bool false := (Option.some.inj (hall 29 _ 62 rfl rfl : some (.bool false) = some (a'.tmps.getD 62 undef))).symm
    have p30 : a'.tmps.getD 63 undef = .bool false := (Option.some.inj (hall 30 _ 63 rfl rfl : some (.bool false) = some (a'.tmps.getD 63 undef))).symm
    have p31 : a'.tmps.getD 64 undef = .bool false := (Option.some.inj (hall 31 _ 64 rfl rfl : some (.bool false) = some (a'.tmps.getD 64 undef))).symm
    have p32 : a'.tmps.getD 65 undef = .pointer (some ⟨bR, 0, none⟩) := (Option.some.inj (hall 32 _ 65 rfl rfl : some (.pointer (some ⟨bR, 0, none⟩)) = some (a'.tmps.getD 65 undef))).symm
    have p33 : a'.tmps.getD 66 undef = .int .i64 (eR) := (Option.some.inj (hall 33 _ 66 rfl rfl : some (.int .i64 (eR)) = some (a'.tmps.getD 66 undef))).symm
    have p34 : a'.tmps.getD 67 undef = .string (t) := (Option.some.inj (hall 34 _ 67 rfl rfl : some (.string (t)) = some (a'.tmps.getD 67 undef))).symm
    obtain ⟨a35, c35, p35, hsp35⟩ : ∃ a35 c35, a'.tmps.getD 68 undef = .agg #[.int .i64 (eR), .slice (a35) (LR.length) (c35)] ∧ Rd W a35 (hV LR) := hall 35 _ 68 rfl rfl
    have p36 : a'.tmps.getD 69 undef = .int .i64 (eR) := (Option.some.inj (hall 36 _ 69 rfl rfl : some (.int .i64 (eR)) = some (a'.tmps.getD 69 undef))).symm
    have p37 : a'.tmps.getD 70 undef = .bool false := (Option.some.inj (hall 37 _ 70 rfl rfl : some (.bool false) = some (a'.tmps.getD 70 undef))).symm
    have p38 : a'.tmps.getD 71 undef = .bool false := (Option.some.inj (hall 38 _ 71 rfl rfl : some (.bool false) = some (a'.tmps.getD 71 undef))).symm
    have ea := after_region [(33, _), (34, _), (35, _), (36, _), (37, _), (38, _), (39, _), (40, _), (41, _), (42, _), (43, _), (44, _), (45, _), (46, _), (47, _), (48, _), (49, _), (50, _), (51, _), (52, _), (53, _), (54, _), (55, _), (56, _), (57, _), (58, _), (59, _), (60, _), (61, _), (62, _), (63, _), (64, _), (65, _), (66, _), (67, _), (68, _), (69, _), (70, _), (71, _)] ha hdf hrest (by kernel_rfl) (by simp only [List.forall_mem_cons]; exact ⟨p0, p1, p2, p3, p4, p5, p6, p7, p8, p9, p10, p11, p12, p13, p14, p15, p16, p17, p18, p19, p20, p21, p22, p23, p24, p25, p26, p27, p28, p29, p30, p31, p32, p33, p34, p35, p36, p37, p38, fun _ h => by cases h⟩)
    subst ea
    simp only [List.foldl_cons, List.foldl_nil, List.setIfInBounds_toArray, List.set_cons_zero, List.set_cons_succ]
    clear p0 p1 p2 p3 p4 p5 p6 p7 p8 p9 p10 p11 p12 p13 p14 p15 p16 p17 p18 p19 p20 p21 p22 p23 p24 p25 p26 p27 p28 p29 p30 p31 p32 p33 p34 p35 p36 p37 p38 hall hrest ha hdf
    have hzb : Below V.heap.size V W := hI
    have kP := blk_then kP hzb
    have kS := blk_then kS hzb
    have kD := blk_then kD hzb
    have kR := blk_then kR hzb
    have rdl := rdl.below hzb
    have rdS := rdS.below hzb
    have rdD := rdD.below hzb
    have rdR := rdR.below hzb
    have hM := hM.then hzb
    have belV := below_then belV hzb
    clear hI hzb hcP hcS hcD hcR hsp18 hsp27 hsp35 C1 C2 C3 C4 C5
    generalize W = z at *
    clear hb hc hf hz hlt hle hn1 hn2 hn3 hn4 hr0 hr1
    go_upto_region 11 with fail
    go_cut [92] (fun s92 wx => s92 = .bool false ∧ Below z.heap.size z wx)
    case first =>
      have hcP := fun W (hI : Below z.heap.size z W) => cells2 (blk_then kP hI)
      have hcS := fun W (hI : Below z.heap.size z W) => cells2 (blk_then kS hI)
      have hcD := fun W (hI : Below z.heap.size z W) => cells2 (blk_then kD hI)
      have hcR := fun W (hI : Below z.heap.size z W) => cells2 (blk_then kR hI)
      by_cases hc0 : eR = 0
      · subst hc0
        have hR := Hrg.out rfl
        obtain ⟨l20, lbig⟩ := hds_big hR
        have pz := packB_20 hR
        have d1 := fun W hr => impl_HeadersFault aR LR.length cR LR rfl W hr (by omega) lbig
        have d2 := fun W hr => impl_PackHeaders aR LR.length cR LR rfl W hr (by omega) lbig
        have ep : packR LR = (0, packB LR) := if_pos hR
        have er := read_pack hR
        simp only [hR] at d1
        simp only [ep] at d2
        have d3 := fun W hM => impl_ReadHeaders (packB LR) (by omega) W hM
        simp only [er] at d3
        have d4 := fun a c W hr hr' => impl_SameHeaders a aR LR.length LR.length c cR LR LR rfl rfl W hr hr' (by omega) (by omega)
        simp only [decide_true] at d4
        generalize packB LR = TB at *
        have D1 := Lib.hid d1
        have D2 := Lib.hid d2
        have D3 := Lib.hid d3
        have D4 := Lib.hid d4
        clear d1 d2 d3 d4 ep er hR lbig
        --LEAF again
        refine wp_region_relG (fun W => Below z.heap.size z W) (fun _ w w' => Below w.heap.size w w') (FF [.pointer (some ⟨bR, 0, none⟩), .int .i64 (0), .bool true, .bool true, .pointer (some ⟨bR, 1, none⟩), .slice (aR) (LR.length) (cR), .int .i64 (0), .bool false, .bool false, .pointer (some ⟨bR, 1, none⟩), .slice (aR) (LR.length) (cR), .agg #[.int .i64 (0), .string (TB)], .string (TB), undef, undef, .pointer (some ⟨bR, 1, none⟩), .slice (aR) (LR.length) (cR), .bool true, .bool false, .bool false, .bool false] [(13, SpR (0) (LR.length) (hV LR)), (14, SpV (LR.length) (hV LR))]) (fun _ => true) (by kernel_rfl) (by kernel_rfl) (guard_FF (by kernel_rfl) (by kernel_rfl)) ?_ (Below.refl _ _).drew (fun _ _ _ h1 h2 => below_then h1 h2) (fun _ _ _ _ _ _ _ h2 h3 => FF.keep (by simp only [List.forall_mem_cons]; exact ⟨SpR.keep, SpV.keep, fun _ h => by cases h⟩) _ _ _ _ h2 h3) ?_ ?_ ?_
        · intro i w h; cases h
        · intro i o v w hi hd hF
          exact absurd hd (by have := unB_spec (k := 999) (by kernel_rfl) hi hd; have := (Array.getElem?_eq_some_iff.1 hi).1; simp at this; omega)
        · repeat' (refine And.intro ?_ ?_)
          · intro _ ρ W hI hbase hdep
            have hc : ∀ v, ρ (.const v) = v := fun v => hbase _ (fun _ _ _ _ _ e => by cases e)
            have b10 : ρ (.tmp 10) = .pointer (some ⟨bR, 0, none⟩) := hbase (.tmp 10) (base_tmp (by kernel_rfl))
            simp only [execOp, hc, b10]
            go_simp
            exact ⟨Below.refl _ _, rfl⟩
          · intro _ ρ W hI hbase hdep
            have hc : ∀ v, ρ (.const v) = v := fun v => hbase _ (fun _ _ _ _ _ e => by cases e)
            have p0 : ρ (.tmp 72) = .pointer (some ⟨bR, 0, none⟩) := (Option.some.inj (hdep ⟨0, .data⟩ (by simp) rfl _ 72 rfl rfl : some (.pointer (some ⟨bR, 0, none⟩)) = some (ρ (.tmp 72)))).symm
            obtain ⟨m0, m1⟩ := hcR W hI
            simp only [execOp, hc, p0]
            go_simp
            exact ⟨Below.refl _ _, rfl⟩
          · intro _ ρ W hI hbase hdep
            have hc : ∀ v, ρ (.const v) = v := fun v => hbase _ (fun _ _ _ _ _ e => by cases e)
            have p1 : ρ (.tmp 73) = .int .i64 (0) := (Option.some.inj (hdep ⟨1, .data⟩ (by simp) rfl _ 73 rfl rfl : some (.int .i64 (0)) = some (ρ (.tmp 73)))).symm
            simp only [execOp, hc, p1]
            go_simp
            exact ⟨Below.refl _ _, rfl⟩
          · intro _ ρ W hI hbase hdep
            have hc : ∀ v, ρ (.const v) = v := fun v => hbase _ (fun _ _ _ _ _ e => by cases e)
            have p2 : ρ (.tmp 74) = .bool true := (Option.some.inj (hdep ⟨2, .data⟩ (by simp) rfl _ 74 rfl rfl : some (.bool true) = some (ρ (.tmp 74)))).symm
            simp only [execOp, hc, p2]
            go_simp
            exact ⟨Below.refl _ _, rfl⟩
          · intro _ ρ W hI hbase hdep
            have hc : ∀ v, ρ (.const v) = v := fun v => hbase _ (fun _ _ _ _ _ e => by cases e)
            have b10 : ρ (.tmp 10) = .pointer (some ⟨bR, 0, none⟩) := hbase (.tmp 10) (base_tmp (by kernel_rfl))
            simp only [execOp, hc, b10]
            go_simp
            exact ⟨Below.refl _ _, rfl⟩
          · intro _ ρ W hI hbase hdep
            have hc : ∀ v, ρ (.const v) = v := fun v => hbase _ (fun _ _ _ _ _ e => by cases e)
            have p4 : ρ (.tmp 76) = .pointer (some ⟨bR, 1, none⟩) := (Option.some.inj (hdep ⟨4, .data⟩ (by simp) rfl _ 76 rfl rfl : some (.pointer (some ⟨bR, 1, none⟩)) = some (ρ (.tmp 76)))).symm
            obtain ⟨m0, m1⟩ := hcR W hI
            simp only [execOp, hc, p4]
            go_simp
            exact ⟨Below.refl _ _, rfl⟩
          · intro _ ρ W hI hbase hdep
            have hc : ∀ v, ρ (.const v) = v := fun v => hbase _ (fun _ _ _ _ _ e => by cases e)
            have hfn : ∀ f, ρ (.func f) = .func (.func f) #[] #[] := fun v => hbase _ (fun _ _ _ _ _ e => by cases e)
            have p5 : ρ (.tmp 77) = .slice (aR) (LR.length) (cR) := (Option.some.inj (hdep ⟨5, .data⟩ (by simp) rfl _ 77 rfl rfl : some (.slice (aR) (LR.length) (cR)) = some (ρ (.tmp 77)))).symm
            simp only [execOp, hc, hfn, p5]
            go_simp
            exact ⟨rfl, (D1.out W (rdR.below hI)).mono fun e w' h => ⟨_, h.1, h.2, rfl⟩⟩
          · intro _ ρ W hI hbase hdep
            have hc : ∀ v, ρ (.const v) = v := fun v => hbase _ (fun _ _ _ _ _ e => by cases e)
            have p6 : ρ (.tmp 78) = .int .i64 (0) := (Option.some.inj (hdep ⟨6, .data⟩ (by simp) rfl _ 78 rfl rfl : some (.int .i64 (0)) = some (ρ (.tmp 78)))).symm
            simp only [execOp, hc, p6]
            go_simp
            exact ⟨Below.refl _ _, rfl⟩
          · intro _ ρ W hI hbase hdep
            have hc : ∀ v, ρ (.const v) = v := fun v => hbase _ (fun _ _ _ _ _ e => by cases e)
            have p7 : ρ (.tmp 79) = .bool false := (Option.some.inj (hdep ⟨7, .data⟩ (by simp) rfl _ 79 rfl rfl : some (.bool false) = some (ρ (.tmp 79)))).symm
            simp only [execOp, hc, p7]
            go_simp
            exact ⟨Below.refl _ _, rfl⟩
          · intro _ ρ W hI hbase hdep
            have hc : ∀ v, ρ (.const v) = v := fun v => hbase _ (fun _ _ _ _ _ e => by cases e)
            have b10 : ρ (.tmp 10) = .pointer (some ⟨bR, 0, none⟩) := hbase (.tmp 10) (base_tmp (by kernel_rfl))
            simp only [execOp, hc, b10]
            go_simp
            exact ⟨Below.refl _ _, rfl⟩
          · intro _ ρ W hI hbase hdep
            have hc : ∀ v, ρ (.const v) = v := fun v => hbase _ (fun _ _ _ _ _ e => by cases e)
            have p9 : ρ (.tmp 81) = .pointer (some ⟨bR, 1, none⟩) := (Option.some.inj (hdep ⟨9, .data⟩ (by simp) rfl _ 81 rfl rfl : some (.pointer (some ⟨bR, 1, none⟩)) = some (ρ (.tmp 81)))).symm
            obtain ⟨m0, m1⟩ := hcR W hI
            simp only [execOp, hc, p9]
            go_simp
            exact ⟨Below.refl _ _, rfl⟩
          · intro _ ρ W hI hbase hdep
            have hc : ∀ v, ρ (.const v) = v := fun v => hbase _ (fun _ _ _ _ _ e => by cases e)
            have hfn : ∀ f, ρ (.func f) = .func (.func f) #[] #[] := fun v => hbase _ (fun _ _ _ _ _ e => by cases e)
            have p10 : ρ (.tmp 82) = .slice (aR) (LR.length) (cR) := (Option.some.inj (hdep ⟨10, .data⟩ (by simp) rfl _ 82 rfl rfl : some (.slice (aR) (LR.length) (cR)) = some (ρ (.tmp 82)))).symm
            simp only [execOp, hc, hfn, p10]
            go_simp
            exact ⟨rfl, (D2.out W (rdR.below hI)).mono fun e w' h => ⟨_, h.1, h.2, rfl⟩⟩
          · intro _ ρ W hI hbase hdep
            have hc : ∀ v, ρ (.const v) = v := fun v => hbase _ (fun _ _ _ _ _ e => by cases e)
            have p11 : ρ (.tmp 83) = .agg #[.int .i64 (0), .string (TB)] := (Option.some.inj (hdep ⟨11, .data⟩ (by simp) rfl _ 83 rfl rfl : some (.agg #[.int .i64 (0), .string (TB)]) = some (ρ (.tmp 83)))).symm
            simp only [execOp, hc, p11]
            exact good_val (show (Instr.field 31 (.agg #[.int .i64 (0), .string (TB)]) 1).run Tryz.prog W = .ok (.string (TB)) W by kernel_rfl) ⟨Below.refl _ _, rfl⟩
          · intro _ ρ W hI hbase hdep
            have hc : ∀ v, ρ (.const v) = v := fun v => hbase _ (fun _ _ _ _ _ e => by cases e)
            have hfn : ∀ f, ρ (.func f) = .func (.func f) #[] #[] := fun v => hbase _ (fun _ _ _ _ _ e => by cases e)
            have p12 : ρ (.tmp 84) = .string (TB) := (Option.some.inj (hdep ⟨12, .data⟩ (by simp) rfl _ 84 rfl rfl : some (.string (TB)) = some (ρ (.tmp 84)))).symm
            simp only [execOp, hc, hfn, p12]
            go_simp
            exact ⟨rfl, (D3.out W (hM.then hI)).mono fun e w' ⟨a, n, c, h1, ⟨h2, h3⟩, h4⟩ => by subst h2; exact ⟨_, h1, h4, a, c, rfl, h3.rd⟩⟩
          · intro _ ρ W hI hbase hdep
            have hc : ∀ v, ρ (.const v) = v := fun v => hbase _ (fun _ _ _ _ _ e => by cases e)
            obtain ⟨a13, c13, p13, hsp13⟩ : ∃ a13 c13, ρ (.tmp 85) = .agg #[.int .i64 (0), .slice (a13) (LR.length) (c13)] ∧ Rd W a13 (hV LR) := hdep ⟨13, .data⟩ (by simp) rfl _ 85 rfl rfl
            simp only [execOp, hc, p13]
            exact good_val (show (Instr.field 66 (.agg #[.int .i64 (0), .slice (a13) (LR.length) (c13)]) 1).run Tryz.prog W = .ok (.slice (a13) (LR.length) (c13)) W by kernel_rfl) ⟨Below.refl _ _, a13, c13, rfl, hsp13⟩
          · intro _ ρ W hI hbase hdep
            have hc : ∀ v, ρ (.const v) = v := fun v => hbase _ (fun _ _ _ _ _ e => by cases e)
            have b10 : ρ (.tmp 10) = .pointer (some ⟨bR, 0, none⟩) := hbase (.tmp 10) (base_tmp (by kernel_rfl))
            simp only [execOp, hc, b10]
            go_simp
            exact ⟨Below.refl _ _, rfl⟩
          · intro _ ρ W hI hbase hdep
            have hc : ∀ v, ρ (.const v) = v := fun v => hbase _ (fun _ _ _ _ _ e => by cases e)
            have p15 : ρ (.tmp 87) = .pointer (some ⟨bR, 1, none⟩) := (Option.some.inj (hdep ⟨15, .data⟩ (by simp) rfl _ 87 rfl rfl : some (.pointer (some ⟨bR, 1, none⟩)) = some (ρ (.tmp 87)))).symm
            obtain ⟨m0, m1⟩ := hcR W hI
            simp only [execOp, hc, p15]
            go_simp
            exact ⟨Below.refl _ _, rfl⟩
          · intro _ ρ W hI hbase hdep
            have hc : ∀ v, ρ (.const v) = v := fun v => hbase _ (fun _ _ _ _ _ e => by cases e)
            have hfn : ∀ f, ρ (.func f) = .func (.func f) #[] #[] := fun v => hbase _ (fun _ _ _ _ _ e => by cases e)
            obtain ⟨a14, c14, p14, hsp14⟩ : ∃ a14 c14, ρ (.tmp 86) = .slice (a14) (LR.length) (c14) ∧ Rd W a14 (hV LR) := hdep ⟨14, .data⟩ (by simp) rfl _ 86 rfl rfl
            have p16 : ρ (.tmp 88) = .slice (aR) (LR.length) (cR) := (Option.some.inj (hdep ⟨16, .data⟩ (by simp) rfl _ 88 rfl rfl : some (.slice (aR) (LR.length) (cR)) = some (ρ (.tmp 88)))).symm
            simp only [execOp, hc, hfn, p14, p16]
            go_simp
            exact ⟨rfl, (D4.out a14 c14 W hsp14 (rdR.below hI)).mono fun e w' h => ⟨_, h.1, h.2, rfl⟩⟩
          · intro _ ρ W hI hbase hdep
            have hc : ∀ v, ρ (.const v) = v := fun v => hbase _ (fun _ _ _ _ _ e => by cases e)
            have p17 : ρ (.tmp 89) = .bool true := (Option.some.inj (hdep ⟨17, .data⟩ (by simp) rfl _ 89 rfl rfl : some (.bool true) = some (ρ (.tmp 89)))).symm
            simp only [execOp, hc, p17]
            go_simp
            exact ⟨Below.refl _ _, rfl⟩
          · intro _ ρ W hI hbase hdep
            have hc : ∀ v, ρ (.const v) = v := fun v => hbase _ (fun _ _ _ _ _ e => by cases e)
            have p8 : ρ (.tmp 80) = .bool false := (Option.some.inj (hdep ⟨8, .data⟩ (by simp) rfl _ 80 rfl rfl : some (.bool false) = some (ρ (.tmp 80)))).symm
            have p18 : ρ (.tmp 90) = .bool false := (Option.some.inj (hdep ⟨18, .data⟩ (by simp) rfl _ 90 rfl rfl : some (.bool false) = some (ρ (.tmp 90)))).symm
            simp only [execOp, hc, p8, p18]
            go_simp
            exact ⟨Below.refl _ _, rfl⟩
          · intro _ ρ W hI hbase hdep
            have hc : ∀ v, ρ (.const v) = v := fun v => hbase _ (fun _ _ _ _ _ e => by cases e)
            have p3 : ρ (.tmp 75) = .bool true := (Option.some.inj (hdep ⟨3, .data⟩ (by simp) rfl _ 75 rfl rfl : some (.bool true) = some (ρ (.tmp 75)))).symm
            have p19 : ρ (.tmp 91) = .bool false := (Option.some.inj (hdep ⟨19, .data⟩ (by simp) rfl _ 91 rfl rfl : some (.bool false) = some (ρ (.tmp 91)))).symm
            simp only [execOp, hc, p3, p19]
            go_simp
            exact ⟨Below.refl _ _, rfl⟩
          · trivial
        intro a' W hI ha hdf hall _ hrest
        have p0 : a'.tmps.getD 72 undef = .pointer (some ⟨bR, 0, none⟩) := (Option.some.inj (hall 0 _ 72 rfl rfl : some (.pointer (some ⟨bR, 0, none⟩)) = some (a'.tmps.getD 72 undef))).symm
        have p1 : a'.tmps.getD 73 undef = .int .i64 (0) := (Option.some.inj (hall 1 _ 73 rfl rfl : some (.int .i64 (0)) = some (a'.tmps.getD 73 undef))).symm
        have p2 : a'.tmps.getD 74 undef = .bool true := (Option.some.inj (hall 2 _ 74 rfl rfl : some (.bool true) = some (a'.tmps.getD 74 undef))).symm
        have p3 : a'.tmps.getD 75 undef = .bool true := (Option.some.inj (hall 3 _ 75 rfl rfl : some (.bool true) = some (a'.tmps.getD 75 undef))).symm
        have p4 : a'.tmps.getD 76 undef = .pointer (some ⟨bR, 1, none⟩) := (Option.some.inj (hall 4 _ 76 rfl rfl : some (.pointer (some ⟨bR, 1, none⟩)) = some (a'.tmps.getD 76 undef))).symm
        have p5 : a'.tmps.getD 77 undef = .slice (aR) (LR.length) (cR) := (Option.some.inj (hall 5 _ 77 rfl rfl : some (.slice (aR) (LR.length) (cR)) = some (a'.tmps.getD 77 undef))).symm
        have p6 : a'.tmps.getD 78 undef = .int .i64 (0) := (Option.some.inj (hall 6 _ 78 rfl rfl : some (.int .i64 (0)) = some (a'.tmps.getD 78 undef))).symm
        have p7 : a'.tmps.getD 79 undef = .bool false := (Option.some.inj (hall 7 _ 79 rfl rfl : some (.bool false) = some (a'.tmps.getD 79 undef))).symm
        have p8 : a'.tmps.getD 80 undef = .bool false := (Option.some.inj (hall 8 _ 80 rfl rfl : some (.bool false) = some (a'.tmps.getD 80 undef))).symm
        have p9 : a'.tmps.getD 81 undef = .pointer (some ⟨bR, 1, none⟩) := (Option.some.inj (hall 9 _ 81 rfl rfl : some (.pointer (some ⟨bR, 1, none⟩)) = some (a'.tmps.getD 81 undef))).symm
        have p10 : a'.tmps.getD 82 undef = .slice (aR) (LR.length) (cR) := (Option.some.inj (hall 10 _ 82 rfl rfl : some (.slice (aR) (LR.length) (cR)) = some (a'.tmps.getD 82 undef))).symm
        have p11 : a'.tmps.getD 83 undef = .agg #[.int .i64 (0), .string (TB)] := (Option.some.inj (hall 11 _ 83 rfl rfl : some (.agg #[.int .i64 (0), .string (TB)]) = some (a'.tmps.getD 83 undef))).symm
        have p12 : a'.tmps.getD 84 undef = .string (TB) := (Option.some.inj (hall 12 _ 84 rfl rfl : some (.string (TB)) = some (a'.tmps.getD 84 undef))).symm
        obtain ⟨a13, c13, p13, hsp13⟩ : ∃ a13 c13, a'.tmps.getD 85 undef = .agg #[.int .i64 (0), .slice (a13) (LR.length) (c13)] ∧ Rd W a13 (hV LR) := hall 13 _ 85 rfl rfl
        obtain ⟨a14, c14, p14, hsp14⟩ : ∃ a14 c14, a'.tmps.getD 86 undef = .slice (a14) (LR.length) (c14) ∧ Rd W a14 (hV LR) := hall 14 _ 86 rfl rfl
        have p15 : a'.tmps.getD 87 undef = .pointer (some ⟨bR, 1, none⟩) := (Option.some.inj (hall 15 _ 87 rfl rfl : some (.pointer (some ⟨bR, 1, none⟩)) = some (a'.tmps.getD 87 undef))).symm
        have p16 : a'.tmps.getD 88 undef = .slice (aR) (LR.length) (cR) := (Option.some.inj (hall 16 _ 88 rfl rfl : some (.slice (aR) (LR.length) (cR)) = some (a'.tmps.getD 88 undef))).symm
        have p17 : a'.tmps.getD 89 undef = .bool true := (Option.some.inj (hall 17 _ 89 rfl rfl : some (.bool true) = some (a'.tmps.getD 89 undef))).symm
        have p18 : a'.tmps.getD 90 undef = .bool false := (Option.some.inj (hall 18 _ 90 rfl rfl : some (.bool false) = some (a'.tmps.getD 90 undef))).symm
        have p19 : a'.tmps.getD 91 undef = .bool false := (Option.some.inj (hall 19 _ 91 rfl rfl : some (.bool false) = some (a'.tmps.getD 91 undef))).symm
        have p20 : a'.tmps.getD 92 undef = .bool false := (Option.some.inj (hall 20 _ 92 rfl rfl : some (.bool false) = some (a'.tmps.getD 92 undef))).symm
        have ea := after_region [(72, _), (73, _), (74, _), (75, _), (76, _), (77, _), (78, _), (79, _), (80, _), (81, _), (82, _), (83, _), (84, _), (85, _), (86, _), (87, _), (88, _), (89, _), (90, _), (91, _), (92, _)] ha hdf hrest (by kernel_rfl) (by simp only [List.forall_mem_cons]; exact ⟨p0, p1, p2, p3, p4, p5, p6, p7, p8, p9, p10, p11, p12, p13, p14, p15, p16, p17, p18, p19, p20, fun _ h => by cases h⟩)
        subst ea
        simp only [List.foldl_cons, List.foldl_nil, List.setIfInBounds_toArray, List.set_cons_zero, List.set_cons_succ]
        clear p0 p1 p2 p3 p4 p5 p6 p7 p8 p9 p10 p11 p12 p13 p14 p15 p16 p17 p18 p19 p20 hall hrest ha hdf
        go_wp2_with fail
        go_meet
        exact ⟨rfl, hI⟩
        --END
      · have hcb : (eR == 0) = false := by rw [beq_eq_false_iff_ne]; exact hc0
        --LEAF notagain
        refine wp_region_relG (fun W => Below z.heap.size z W) (fun _ w w' => Below w.heap.size w w') (FF [.pointer (some ⟨bR, 0, none⟩), .int .i64 (eR), .bool false, .bool false, undef, undef, undef, undef, undef, undef, undef, undef, undef, undef, undef, undef, undef, undef, undef, undef, .bool false] []) (fun i => !(decide (i = 4) || decide (i = 5) || decide (i = 6) || decide (i = 7) || decide (i = 8) || decide (i = 9) || decide (i = 10) || decide (i = 11) || decide (i = 12) || decide (i = 13) || decide (i = 14) || decide (i = 15) || decide (i = 16) || decide (i = 17) || decide (i = 18) || decide (i = 19))) (by kernel_rfl) (by kernel_rfl) (guard_FF (by kernel_rfl) (by kernel_rfl)) ?_ (Below.refl _ _).drew (fun _ _ _ h1 h2 => below_then h1 h2) (fun _ _ _ _ _ _ _ h2 h3 => FF.keep (fun _ h => by cases h) _ _ _ _ h2 h3) ?_ ?_ ?_
        · intro i w h _
          simp only [Bool.not_eq_false', Bool.or_eq_true, decide_eq_true_eq] at h
          rcases (show i = 4 ∨ i = 5 ∨ i = 6 ∨ i = 7 ∨ i = 8 ∨ i = 9 ∨ i = 10 ∨ i = 11 ∨ i = 12 ∨ i = 13 ∨ i = 14 ∨ i = 15 ∨ i = 16 ∨ i = 17 ∨ i = 18 ∨ i = 19 by omega) with rfl | rfl | rfl | rfl | rfl | rfl | rfl | rfl | rfl | rfl | rfl | rfl | rfl | rfl | rfl | rfl <;> rfl
        · intro i o v w hi hd hF
          exact absurd hd (by have := unB_spec (k := 999) (by kernel_rfl) hi hd; have := (Array.getElem?_eq_some_iff.1 hi).1; simp at this; omega)
        · repeat' (refine And.intro ?_ ?_)
          · intro _ ρ W hI hbase hdep
            have hc : ∀ v, ρ (.const v) = v := fun v => hbase _ (fun _ _ _ _ _ e => by cases e)
            have b10 : ρ (.tmp 10) = .pointer (some ⟨bR, 0, none⟩) := hbase (.tmp 10) (base_tmp (by kernel_rfl))
            simp only [execOp, hc, b10]
            go_simp
            exact ⟨Below.refl _ _, rfl⟩
          · intro _ ρ W hI hbase hdep
            have hc : ∀ v, ρ (.const v) = v := fun v => hbase _ (fun _ _ _ _ _ e => by cases e)
            have p0 : ρ (.tmp 72) = .pointer (some ⟨bR, 0, none⟩) := (Option.some.inj (hdep ⟨0, .data⟩ (by simp) rfl _ 72 rfl rfl : some (.pointer (some ⟨bR, 0, none⟩)) = some (ρ (.tmp 72)))).symm
            obtain ⟨m0, m1⟩ := hcR W hI
            simp only [execOp, hc, p0]
            go_simp
            exact ⟨Below.refl _ _, rfl⟩
          · intro _ ρ W hI hbase hdep
            have hc : ∀ v, ρ (.const v) = v := fun v => hbase _ (fun _ _ _ _ _ e => by cases e)
            have p1 : ρ (.tmp 73) = .int .i64 (eR) := (Option.some.inj (hdep ⟨1, .data⟩ (by simp) rfl _ 73 rfl rfl : some (.int .i64 (eR)) = some (ρ (.tmp 73)))).symm
            simp only [execOp, hc, p1]
            go_simp
            exact ⟨Below.refl _ _, rfl⟩
          · intro _ ρ W hI hbase hdep
            have hc : ∀ v, ρ (.const v) = v := fun v => hbase _ (fun _ _ _ _ _ e => by cases e)
            have p2 : ρ (.tmp 74) = .bool false := (Option.some.inj (hdep ⟨2, .data⟩ (by simp) rfl _ 74 rfl rfl : some (.bool false) = some (ρ (.tmp 74)))).symm
            simp only [execOp, hc, p2]
            go_simp
            exact ⟨Below.refl _ _, rfl⟩
          · intro h; exact absurd h (by decide)
          · intro h; exact absurd h (by decide)
          · intro h; exact absurd h (by decide)
          · intro h; exact absurd h (by decide)
          · intro h; exact absurd h (by decide)
          · intro h; exact absurd h (by decide)
          · intro h; exact absurd h (by decide)
          · intro h; exact absurd h (by decide)
          · intro h; exact absurd h (by decide)
          · intro h; exact absurd h (by decide)
          · intro h; exact absurd h (by decide)
          · intro h; exact absurd h (by decide)
          · intro h; exact absurd h (by decide)
          · intro h; exact absurd h (by decide)
          · intro h; exact absurd h (by decide)
          · intro h; exact absurd h (by decide)
          · intro _ ρ W hI hbase hdep
            have hc : ∀ v, ρ (.const v) = v := fun v => hbase _ (fun _ _ _ _ _ e => by cases e)
            have p3 : ρ (.tmp 75) = .bool false := (Option.some.inj (hdep ⟨3, .data⟩ (by simp) rfl _ 75 rfl rfl : some (.bool false) = some (ρ (.tmp 75)))).symm
            have p19 : ρ (.tmp 91) = undef := (Option.some.inj (hdep ⟨19, .data⟩ (by simp) rfl _ 91 rfl rfl : some (undef) = some (ρ (.tmp 91)))).symm
            simp only [execOp, hc, p3, p19]
            go_simp
            exact ⟨Below.refl _ _, rfl⟩
          · trivial
        intro a' W hI ha hdf hall _ hrest
        have p0 : a'.tmps.getD 72 undef = .pointer (some ⟨bR, 0, none⟩) := (Option.some.inj (hall 0 _ 72 rfl rfl : some (.pointer (some ⟨bR, 0, none⟩)) = some (a'.tmps.getD 72 undef))).symm
        have p1 : a'.tmps.getD 73 undef = .int .i64 (eR) := (Option.some.inj (hall 1 _ 73 rfl rfl : some (.int .i64 (eR)) = some (a'.tmps.getD 73 undef))).symm
        have p2 : a'.tmps.getD 74 undef = .bool false := (Option.some.inj (hall 2 _ 74 rfl rfl : some (.bool false) = some (a'.tmps.getD 74 undef))).symm
        have p3 : a'.tmps.getD 75 undef = .bool false := (Option.some.inj (hall 3 _ 75 rfl rfl : some (.bool false) = some (a'.tmps.getD 75 undef))).symm
        have p4 : a'.tmps.getD 76 undef = undef := (Option.some.inj (hall 4 _ 76 rfl rfl : some (undef) = some (a'.tmps.getD 76 undef))).symm
        have p5 : a'.tmps.getD 77 undef = undef := (Option.some.inj (hall 5 _ 77 rfl rfl : some (undef) = some (a'.tmps.getD 77 undef))).symm
        have p6 : a'.tmps.getD 78 undef = undef := (Option.some.inj (hall 6 _ 78 rfl rfl : some (undef) = some (a'.tmps.getD 78 undef))).symm
        have p7 : a'.tmps.getD 79 undef = undef := (Option.some.inj (hall 7 _ 79 rfl rfl : some (undef) = some (a'.tmps.getD 79 undef))).symm
        have p8 : a'.tmps.getD 80 undef = undef := (Option.some.inj (hall 8 _ 80 rfl rfl : some (undef) = some (a'.tmps.getD 80 undef))).symm
        have p9 : a'.tmps.getD 81 undef = undef := (Option.some.inj (hall 9 _ 81 rfl rfl : some (undef) = some (a'.tmps.getD 81 undef))).symm
        have p10 : a'.tmps.getD 82 undef = undef := (Option.some.inj (hall 10 _ 82 rfl rfl : some (undef) = some (a'.tmps.getD 82 undef))).symm
        have p11 : a'.tmps.getD 83 undef = undef := (Option.some.inj (hall 11 _ 83 rfl rfl : some (undef) = some (a'.tmps.getD 83 undef))).symm
        have p12 : a'.tmps.getD 84 undef = undef := (Option.some.inj (hall 12 _ 84 rfl rfl : some (undef) = some (a'.tmps.getD 84 undef))).symm
        have p13 : a'.tmps.getD 85 undef = undef := (Option.some.inj (hall 13 _ 85 rfl rfl : some (undef) = some (a'.tmps.getD 85 undef))).symm
        have p14 : a'.tmps.getD 86 undef = undef := (Option.some.inj (hall 14 _ 86 rfl rfl : some (undef) = some (a'.tmps.getD 86 undef))).symm
        have p15 : a'.tmps.getD 87 undef = undef := (Option.some.inj (hall 15 _ 87 rfl rfl : some (undef) = some (a'.tmps.getD 87 undef))).symm
        have p16 : a'.tmps.getD 88 undef = undef := (Option.some.inj (hall 16 _ 88 rfl rfl : some (undef) = some (a'.tmps.getD 88 undef))).symm
        have p17 : a'.tmps.getD 89 undef = undef := (Option.some.inj (hall 17 _ 89 rfl rfl : some (undef) = some (a'.tmps.getD 89 undef))).symm
        have p18 : a'.tmps.getD 90 undef = undef := (Option.some.inj (hall 18 _ 90 rfl rfl : some (undef) = some (a'.tmps.getD 90 undef))).symm
        have p19 : a'.tmps.getD 91 undef = undef := (Option.some.inj (hall 19 _ 91 rfl rfl : some (undef) = some (a'.tmps.getD 91 undef))).symm
        have p20 : a'.tmps.getD 92 undef = .bool false := (Option.some.inj (hall 20 _ 92 rfl rfl : some (.bool false) = some (a'.tmps.getD 92 undef))).symm
        have ea := after_region [(72, _), (73, _), (74, _), (75, _), (76, _), (77, _), (78, _), (79, _), (80, _), (81, _), (82, _), (83, _), (84, _), (85, _), (86, _), (87, _), (88, _), (89, _), (90, _), (91, _), (92, _)] ha hdf hrest (by kernel_rfl) (by simp only [List.forall_mem_cons]; exact ⟨p0, p1, p2, p3, p4, p5, p6, p7, p8, p9, p10, p11, p12, p13, p14, p15, p16, p17, p18, p19, p20, fun _ h => by cases h⟩)
        subst ea
        simp only [List.foldl_cons, List.foldl_nil, List.setIfInBounds_toArray, List.set_cons_zero, List.set_cons_succ]
        clear p0 p1 p2 p3 p4 p5 p6 p7 p8 p9 p10 p11 p12 p13 p14 p15 p16 p17 p18 p19 p20 hall hrest ha hdf
        go_wp2_with fail
        go_meet
        exact ⟨rfl, hI⟩
        --END
    case rest =>
      obtain ⟨rfl, hbc⟩ := hcut
      have kP := blk_then kP hbc
      have kS := blk_then kS hbc
      have kD := blk_then kD hbc
      have kR := blk_then kR hbc
      have rdl := rdl.below hbc
      have rdS := rdS.below hbc
      have rdD := rdD.below hbc
      have rdR := rdR.below hbc
      have hM := hM.then hbc
      have belV := below_then belV hbc
      clear hbc
      go_upto_region 13 with fail
      go_cut [111] (fun s111 wx => s111 = .bool false ∧ Below wc.heap.size wc wx)
      case first =>
        obtain ⟨m0, m1⟩ := cells2 kP
        have lP := (Array.getElem?_eq_some_iff.1 kP).1
        by_cases hc0 : F = 0
        · subst hc0
          have hF : hdsFault l = 0 := Hpf.out.symm
          have ep : packR l = (0, packB l) := if_pos hF
          have hP : P = packB l := (Prod.mk.inj (Hpr.out.symm.trans ep)).2
          have er := read_pack hF
          have pz := packB_20 hF
          rw [← hP] at er pz
          have d1 := fun W hM => impl_ReadHeaders P (by omega) W hM
          simp only [er] at d1
          have d2 := fun a c W hr hr' => impl_SameHeaders a (some ⟨gl, 0, none⟩) l.length l.length c capl l l rfl rfl W hr hr' (by omega) (by omega)
          simp only [decide_true] at d2
          have D1 := Lib.hid d1
          have D2 := Lib.hid d2
          clear d1 d2 er ep hP hF
          have hfh0 := fieldH0
          have hfh1 := fieldH1
          --LEAF pack
          go_wp2_with (first
            | (go_at_call 39; ((with_reducible refine (D1.out _ (hM.then (by exact (by first | (with_reducible exact Below.refl _ _) | ((repeat' (first | (with_reducible exact Below.refl _ _) | (with_reducible assumption) | (with_reducible refine below_alloc ?_ _) | (with_reducible refine Below.drew ?_) | (with_reducible refine below_drewN ?_ _) | (with_reducible refine Below.setCell ?_ ?_ _) | refine below_then ?_ (by with_reducible assumption))) <;> (first | omega | (simp; done) | (simp; omega))))))).mono ?_); rintro e wB ⟨aB, nB, cB, rfl, ⟨hlB, hsB⟩, hb⟩; subst hlB; have rdB := hsB.rd; obtain ⟨hc, hf⟩ := bcell hb; have hz := hb.size; (try simp only [World.size_alloc, World.size_setCell, World.size_drew] at hz); obtain ⟨hlt, hle, hn1, hn2, hn3, hn4⟩ := bsize hb; (try simp only [World.size_alloc, World.size_setCell, World.size_drew] at hlt hle hn1 hn2 hn3 hn4); (try have hr0 : w.heap.size < wB.heap.size := by omega); (try have hr1 : w.heap.size + 1 < wB.heap.size := by omega); (try have hs0 : wS.heap.size < wB.heap.size := by omega); (try have hs1 : wG.heap.size < wB.heap.size := by omega)))
            | (go_at_call 45; ((with_reducible refine (D2.out _ _ _ (rdB.below (by exact (by first | (with_reducible exact Below.refl _ _) | ((repeat' (first | (with_reducible exact Below.refl _ _) | (with_reducible assumption) | (with_reducible refine below_alloc ?_ _) | (with_reducible refine Below.drew ?_) | (with_reducible refine below_drewN ?_ _) | (with_reducible refine Below.setCell ?_ ?_ _) | refine below_then ?_ (by with_reducible assumption))) <;> (first | omega | (simp; done) | (simp; omega)))))) (rdl.below (by exact (by first | (with_reducible exact Below.refl _ _) | ((repeat' (first | (with_reducible exact Below.refl _ _) | (with_reducible assumption) | (with_reducible refine below_alloc ?_ _) | (with_reducible refine Below.drew ?_) | (with_reducible refine below_drewN ?_ _) | (with_reducible refine Below.setCell ?_ ?_ _) | refine below_then ?_ (by with_reducible assumption))) <;> (first | omega | (simp; done) | (simp; omega))))))).mono ?_); rintro e wC ⟨rfl, hb⟩)))
          go_meet
          exact ⟨rfl, by exact (by first | (with_reducible exact Below.refl _ _) | ((repeat' (first | (with_reducible exact Below.refl _ _) | (with_reducible assumption) | (with_reducible refine below_alloc ?_ _) | (with_reducible refine Below.drew ?_) | (with_reducible refine below_drewN ?_ _) | (with_reducible refine Below.setCell ?_ ?_ _) | refine below_then ?_ (by with_reducible assumption))) <;> (first | omega | (simp; done) | (simp; omega))))⟩
          --END
        · have hcb : (F == 0) = false := by rw [beq_eq_false_iff_ne]; exact hc0
          go_wp2
          go_meet
          exact ⟨rfl, Below.refl _ _⟩
      case rest =>
        obtain ⟨rfl, hbc⟩ := hcut
        have kP := blk_then kP hbc
        have kS := blk_then kS hbc
        have kD := blk_then kD hbc
        have kR := blk_then kR hbc
        have rdl := rdl.below hbc
        have rdS := rdS.below hbc
        have rdD := rdD.below hbc
        have rdR := rdR.below hbc
        have hM := hM.then hbc
        have belV := below_then belV hbc
        clear hbc
        go_upto_region 15 with fail
        go_cut [122] (fun s122 wx => s122 = .bool false ∧ Below wc.heap.size wc wx)
        case first =>
          obtain ⟨m0, m1⟩ := cells2 kD
          have lD := (Array.getElem?_eq_some_iff.1 kD).1
          by_cases hc0 : eD = 0
          · subst hc0
            have hD := Hdg.out rfl
            obtain ⟨l20, lbig⟩ := hds_big hD
            have hj := Hdj.out rfl
            have d1 := fun W hr => impl_JoinHeader nm (by omega) aD LD.length cD LD rfl W hr (by omega) lbig
            simp only [hj] at d1
            have D1 := Lib.hid d1
            clear d1 hj hD lbig
            have hfx0 := fieldX0
            --LEAF drop
            go_wp2_with (go_at_call 46; ((with_reducible refine (D1.out _ (rdD.below (by exact (by first | (with_reducible exact Below.refl _ _) | ((repeat' (first | (with_reducible exact Below.refl _ _) | (with_reducible assumption) | (with_reducible refine below_alloc ?_ _) | (with_reducible refine Below.drew ?_) | (with_reducible refine below_drewN ?_ _) | (with_reducible refine Below.setCell ?_ ?_ _) | refine below_then ?_ (by with_reducible assumption))) <;> (first | omega | (simp; done) | (simp; omega))))))).mono ?_); rintro e wC ⟨rfl, hb⟩))
            go_meet
            exact ⟨rfl, by exact (by first | (with_reducible exact Below.refl _ _) | ((repeat' (first | (with_reducible exact Below.refl _ _) | (with_reducible assumption) | (with_reducible refine below_alloc ?_ _) | (with_reducible refine Below.drew ?_) | (with_reducible refine below_drewN ?_ _) | (with_reducible refine Below.setCell ?_ ?_ _) | refine below_then ?_ (by with_reducible assumption))) <;> (first | omega | (simp; done) | (simp; omega))))⟩
            --END
          · have hcb : (eD == 0) = false := by rw [beq_eq_false_iff_ne]; exact hc0
            go_wp2
            go_meet
            exact ⟨rfl, Below.refl _ _⟩
        case rest =>
          obtain ⟨rfl, hbc⟩ := hcut
          have kP := blk_then kP hbc
          have kS := blk_then kS hbc
          have kD := blk_then kD hbc
          have kR := blk_then kR hbc
          have rdl := rdl.below hbc
          have rdS := rdS.below hbc
          have rdD := rdD.below hbc
          have rdR := rdR.below hbc
          have hM := hM.then hbc
          have belV := below_then belV hbc
          clear hbc
          obtain ⟨m0, m1⟩ := cells2 kS
          have lS := (Array.getElem?_eq_some_iff.1 kS).1
          by_cases hc0 : eS = 0
          · subst hc0
            obtain ⟨f1, f2, f3, f4⟩ := Hsf.out rfl
            obtain ⟨s1, s2⟩ := Hsg.out rfl
            subst s2
            have hD := Hdg.out rfl
            obtain ⟨l20, lbig⟩ := hds_big s1
            obtain ⟨l21, lbig2⟩ := hds_big hD
            have d1 := fun W hr => impl_JoinHeader nm (by omega) aS LS.length cS LS rfl W hr (by omega) lbig
            simp only [f3] at d1
            have g2 := fun W hr => impl_DropHeader nm (by omega) aS LS.length cS LS rfl W hr (by omega) lbig
            simp only [f4] at g2
            have g3 := fun a c W hr hr' => impl_SameHeaders a aD LD.length LD.length c cD LD LD rfl rfl W hr hr' (by omega) (by omega)
            have g4 := fun a c W hr hr' => spec_SameHeaders a aD LD.length LD.length c cD LD LD rfl rfl W hr hr' (by omega) (by omega)
            simp only [decide_true] at g3 g4
            have D1 := Lib.hid d1
            have G2 := Lib.hid g2
            have G3 := Lib.hid g3
            have G4 := Lib.hid g4
            clear d1 g2 g3 g4 f1 f2 f3 f4 s1 hD lbig lbig2
            --LEAF set
            go_upto_region 20 with (go_at_call 46; ((with_reducible refine (D1.out _ (rdS.below (by exact (by first | (with_reducible exact Below.refl _ _) | ((repeat' (first | (with_reducible exact Below.refl _ _) | (with_reducible assumption) | (with_reducible refine below_alloc ?_ _) | (with_reducible refine Below.drew ?_) | (with_reducible refine below_drewN ?_ _) | (with_reducible refine Below.setCell ?_ ?_ _) | refine below_then ?_ (by with_reducible assumption))) <;> (first | omega | (simp; done) | (simp; omega))))))).mono ?_); rintro e wJ ⟨rfl, hb⟩))
            have kJ : (wJ.alloc (.cells #[.int .i64 0, .string vl] 31)).heap[wJ.heap.size]? = some (.cells #[.int .i64 0, .string vl] 31 (0, 0)) := blk_new _ _
            have belJ : Below wc.heap.size wc (wJ.alloc (.cells #[.int .i64 0, .string vl] 31)) := by exact (by first | (with_reducible exact Below.refl _ _) | ((repeat' (first | (with_reducible exact Below.refl _ _) | (with_reducible assumption) | (with_reducible refine below_alloc ?_ _) | (with_reducible refine Below.drew ?_) | (with_reducible refine below_drewN ?_ _) | (with_reducible refine Below.setCell ?_ ?_ _) | refine below_then ?_ (by with_reducible assumption))) <;> (first | omega | (simp; done) | (simp; omega))))
            have kP := blk_then kP belJ
            have kS := blk_then kS belJ
            have kD := blk_then kD belJ
            have kR := blk_then kR belJ
            have rdl := rdl.below belJ
            have rdS := rdS.below belJ
            have rdD := rdD.below belJ
            have rdR := rdR.below belJ
            have hM := hM.then belJ
            have belV := below_then belV belJ
            clear belJ hb m0 m1 lS
            generalize (wJ.alloc (.cells #[.int .i64 0, .string vl] 31)) = y at *
            generalize wJ.heap.size = bJ at *
            have hcJ := fun W (hI : Below y.heap.size y W) => cells2 (blk_then kJ hI)
            have hcS := fun W (hI : Below y.heap.size y W) => cells2 (blk_then kS hI)
            have hcD := fun W (hI : Below y.heap.size y W) => cells2 (blk_then kD hI)
            refine wp_region_relG (fun W => Below y.heap.size y W) (fun _ w w' => Below w.heap.size w w') (FF [.pointer (some ⟨bJ, 0, none⟩), .int .i64 (0), .bool true, .bool true, .pointer (some ⟨bJ, 1, none⟩), .string (vl), .string (vl), .bool true, .bool true, .bool true, .pointer (some ⟨bS, 1, none⟩), .slice (aS) (LS.length) (cS), .string (nm), undef, undef, .pointer (some ⟨bD, 1, none⟩), .slice (aD) (LD.length) (cD), .bool true, .bool true, .bool true, .pointer (some ⟨bS, 1, none⟩), .slice (aS) (LS.length) (cS), .string (nm), undef, undef, .pointer (some ⟨bD, 1, none⟩), .slice (aD) (LD.length) (cD), .bool true, .bool true, .bool true] [(13, SpR (0) (LD.length) (hV LD)), (14, SpV (LD.length) (hV LD)), (23, SpR (0) (LD.length) (hV LD)), (24, SpV (LD.length) (hV LD))]) (fun _ => true) (by kernel_rfl) (by kernel_rfl) (guard_FF (by kernel_rfl) (by kernel_rfl)) ?_ (Below.refl _ _).drew (fun _ _ _ h1 h2 => below_then h1 h2) (fun _ _ _ _ _ _ _ h2 h3 => FF.keep (by simp only [List.forall_mem_cons]; exact ⟨SpR.keep, SpV.keep, SpR.keep, SpV.keep, fun _ h => by cases h⟩) _ _ _ _ h2 h3) ?_ ?_ ?_
            · intro i w h; cases h
            · intro i o v w hi hd hF
              exact absurd hd (by have := unB_spec (k := 999) (by kernel_rfl) hi hd; have := (Array.getElem?_eq_some_iff.1 hi).1; simp at this; omega)
            · repeat' (refine And.intro ?_ ?_)
              · intro _ ρ W hI hbase hdep
                have hc : ∀ v, ρ (.const v) = v := fun v => hbase _ (fun _ _ _ _ _ e => by cases e)
                have b11 : ρ (.tmp 11) = .pointer (some ⟨bJ, 0, none⟩) := hbase (.tmp 11) (base_tmp (by kernel_rfl))
                simp only [execOp, hc, b11]
                go_simp
                exact ⟨Below.refl _ _, rfl⟩
              · intro _ ρ W hI hbase hdep
                have hc : ∀ v, ρ (.const v) = v := fun v => hbase _ (fun _ _ _ _ _ e => by cases e)
                have p0 : ρ (.tmp 130) = .pointer (some ⟨bJ, 0, none⟩) := (Option.some.inj (hdep ⟨0, .data⟩ (by simp) rfl _ 130 rfl rfl : some (.pointer (some ⟨bJ, 0, none⟩)) = some (ρ (.tmp 130)))).symm
                obtain ⟨m0, m1⟩ := hcJ W hI
                simp only [execOp, hc, p0]
                go_simp
                exact ⟨Below.refl _ _, rfl⟩
              · intro _ ρ W hI hbase hdep
                have hc : ∀ v, ρ (.const v) = v := fun v => hbase _ (fun _ _ _ _ _ e => by cases e)
                have p1 : ρ (.tmp 131) = .int .i64 (0) := (Option.some.inj (hdep ⟨1, .data⟩ (by simp) rfl _ 131 rfl rfl : some (.int .i64 (0)) = some (ρ (.tmp 131)))).symm
                simp only [execOp, hc, p1]
                go_simp
                exact ⟨Below.refl _ _, rfl⟩
              · intro _ ρ W hI hbase hdep
                have hc : ∀ v, ρ (.const v) = v := fun v => hbase _ (fun _ _ _ _ _ e => by cases e)
                have p2 : ρ (.tmp 132) = .bool true := (Option.some.inj (hdep ⟨2, .data⟩ (by simp) rfl _ 132 rfl rfl : some (.bool true) = some (ρ (.tmp 132)))).symm
                simp only [execOp, hc, p2]
                go_simp
                exact ⟨Below.refl _ _, rfl⟩
              · intro _ ρ W hI hbase hdep
                have hc : ∀ v, ρ (.const v) = v := fun v => hbase _ (fun _ _ _ _ _ e => by cases e)
                have b11 : ρ (.tmp 11) = .pointer (some ⟨bJ, 0, none⟩) := hbase (.tmp 11) (base_tmp (by kernel_rfl))
                simp only [execOp, hc, b11]
                go_simp
                exact ⟨Below.refl _ _, rfl⟩
              · intro _ ρ W hI hbase hdep
                have hc : ∀ v, ρ (.const v) = v := fun v => hbase _ (fun _ _ _ _ _ e => by cases e)
                have p4 : ρ (.tmp 134) = .pointer (some ⟨bJ, 1, none⟩) := (Option.some.inj (hdep ⟨4, .data⟩ (by simp) rfl _ 134 rfl rfl : some (.pointer (some ⟨bJ, 1, none⟩)) = some (ρ (.tmp 134)))).symm
                obtain ⟨m0, m1⟩ := hcJ W hI
                simp only [execOp, hc, p4]
                go_simp
                exact ⟨Below.refl _ _, rfl⟩
              · intro _ ρ W hI hbase hdep
                have hc : ∀ v, ρ (.const v) = v := fun v => hbase _ (fun _ _ _ _ _ e => by cases e)
                have b5 : ρ (.tmp 5) = .string (vl) := hbase (.tmp 5) (base_tmp (by kernel_rfl))
                simp only [execOp, hc, b5]
                go_simp
                exact ⟨Below.refl _ _, rfl⟩
              · intro _ ρ W hI hbase hdep
                have hc : ∀ v, ρ (.const v) = v := fun v => hbase _ (fun _ _ _ _ _ e => by cases e)
                have p5 : ρ (.tmp 135) = .string (vl) := (Option.some.inj (hdep ⟨5, .data⟩ (by simp) rfl _ 135 rfl rfl : some (.string (vl)) = some (ρ (.tmp 135)))).symm
                have p6 : ρ (.tmp 136) = .string (vl) := (Option.some.inj (hdep ⟨6, .data⟩ (by simp) rfl _ 136 rfl rfl : some (.string (vl)) = some (ρ (.tmp 136)))).symm
                simp only [execOp, hc, p5, p6]
                go_simp
                exact ⟨Below.refl _ _, rfl⟩
              · intro _ ρ W hI hbase hdep
                have hc : ∀ v, ρ (.const v) = v := fun v => hbase _ (fun _ _ _ _ _ e => by cases e)
                have p3 : ρ (.tmp 133) = .bool true := (Option.some.inj (hdep ⟨3, .data⟩ (by simp) rfl _ 133 rfl rfl : some (.bool true) = some (ρ (.tmp 133)))).symm
                have p7 : ρ (.tmp 137) = .bool true := (Option.some.inj (hdep ⟨7, .data⟩ (by simp) rfl _ 137 rfl rfl : some (.bool true) = some (ρ (.tmp 137)))).symm
                simp only [execOp, hc, p3, p7]
                go_simp
                exact ⟨Below.refl _ _, rfl⟩
              · intro _ ρ W hI hbase hdep
                have hc : ∀ v, ρ (.const v) = v := fun v => hbase _ (fun _ _ _ _ _ e => by cases e)
                have p8 : ρ (.tmp 138) = .bool true := (Option.some.inj (hdep ⟨8, .data⟩ (by simp) rfl _ 138 rfl rfl : some (.bool true) = some (ρ (.tmp 138)))).symm
                simp only [execOp, hc, p8]
                go_simp
                exact ⟨Below.refl _ _, rfl⟩
              · intro _ ρ W hI hbase hdep
                have hc : ∀ v, ρ (.const v) = v := fun v => hbase _ (fun _ _ _ _ _ e => by cases e)
                have b7 : ρ (.tmp 7) = .pointer (some ⟨bS, 0, none⟩) := hbase (.tmp 7) (base_tmp (by kernel_rfl))
                simp only [execOp, hc, b7]
                go_simp
                exact ⟨Below.refl _ _, rfl⟩
              · intro _ ρ W hI hbase hdep
                have hc : ∀ v, ρ (.const v) = v := fun v => hbase _ (fun _ _ _ _ _ e => by cases e)
                have p10 : ρ (.tmp 140) = .pointer (some ⟨bS, 1, none⟩) := (Option.some.inj (hdep ⟨10, .data⟩ (by simp) rfl _ 140 rfl rfl : some (.pointer (some ⟨bS, 1, none⟩)) = some (ρ (.tmp 140)))).symm
                obtain ⟨m0, m1⟩ := hcS W hI
                simp only [execOp, hc, p10]
                go_simp
                exact ⟨Below.refl _ _, rfl⟩
              · intro _ ρ W hI hbase hdep
                have hc : ∀ v, ρ (.const v) = v := fun v => hbase _ (fun _ _ _ _ _ e => by cases e)
                have b4 : ρ (.tmp 4) = .string (nm) := hbase (.tmp 4) (base_tmp (by kernel_rfl))
                simp only [execOp, hc, b4]
                go_simp
                exact ⟨Below.refl _ _, rfl⟩
              · intro _ ρ W hI hbase hdep
                have hc : ∀ v, ρ (.const v) = v := fun v => hbase _ (fun _ _ _ _ _ e => by cases e)
                have hfn : ∀ f, ρ (.func f) = .func (.func f) #[] #[] := fun v => hbase _ (fun _ _ _ _ _ e => by cases e)
                have p11 : ρ (.tmp 141) = .slice (aS) (LS.length) (cS) := (Option.some.inj (hdep ⟨11, .data⟩ (by simp) rfl _ 141 rfl rfl : some (.slice (aS) (LS.length) (cS)) = some (ρ (.tmp 141)))).symm
                have p12 : ρ (.tmp 142) = .string (nm) := (Option.some.inj (hdep ⟨12, .data⟩ (by simp) rfl _ 142 rfl rfl : some (.string (nm)) = some (ρ (.tmp 142)))).symm
                simp only [execOp, hc, hfn, p11, p12]
                go_simp
                exact ⟨rfl, (G2.out W (rdS.below hI)).mono fun e w' ⟨a, n, c, h1, ⟨h2, h3⟩, h4⟩ => by subst h2; exact ⟨_, h1, h4, a, c, rfl, h3.rd⟩⟩
              · intro _ ρ W hI hbase hdep
                have hc : ∀ v, ρ (.const v) = v := fun v => hbase _ (fun _ _ _ _ _ e => by cases e)
                obtain ⟨a13, c13, p13, hsp13⟩ : ∃ a13 c13, ρ (.tmp 143) = .agg #[.int .i64 (0), .slice (a13) (LD.length) (c13)] ∧ Rd W a13 (hV LD) := hdep ⟨13, .data⟩ (by simp) rfl _ 143 rfl rfl
                simp only [execOp, hc, p13]
                exact good_val (show (Instr.field 66 (.agg #[.int .i64 (0), .slice (a13) (LD.length) (c13)]) 1).run Tryz.prog W = .ok (.slice (a13) (LD.length) (c13)) W by kernel_rfl) ⟨Below.refl _ _, a13, c13, rfl, hsp13⟩
              · intro _ ρ W hI hbase hdep
                have hc : ∀ v, ρ (.const v) = v := fun v => hbase _ (fun _ _ _ _ _ e => by cases e)
                have b8 : ρ (.tmp 8) = .pointer (some ⟨bD, 0, none⟩) := hbase (.tmp 8) (base_tmp (by kernel_rfl))
                simp only [execOp, hc, b8]
                go_simp
                exact ⟨Below.refl _ _, rfl⟩
              · intro _ ρ W hI hbase hdep
                have hc : ∀ v, ρ (.const v) = v := fun v => hbase _ (fun _ _ _ _ _ e => by cases e)
                have p15 : ρ (.tmp 145) = .pointer (some ⟨bD, 1, none⟩) := (Option.some.inj (hdep ⟨15, .data⟩ (by simp) rfl _ 145 rfl rfl : some (.pointer (some ⟨bD, 1, none⟩)) = some (ρ (.tmp 145)))).symm
                obtain ⟨m0, m1⟩ := hcD W hI
                simp only [execOp, hc, p15]
                go_simp
                exact ⟨Below.refl _ _, rfl⟩
              · intro _ ρ W hI hbase hdep
                have hc : ∀ v, ρ (.const v) = v := fun v => hbase _ (fun _ _ _ _ _ e => by cases e)
                have hfn : ∀ f, ρ (.func f) = .func (.func f) #[] #[] := fun v => hbase _ (fun _ _ _ _ _ e => by cases e)
                obtain ⟨a14, c14, p14, hsp14⟩ : ∃ a14 c14, ρ (.tmp 144) = .slice (a14) (LD.length) (c14) ∧ Rd W a14 (hV LD) := hdep ⟨14, .data⟩ (by simp) rfl _ 144 rfl rfl
                have p16 : ρ (.tmp 146) = .slice (aD) (LD.length) (cD) := (Option.some.inj (hdep ⟨16, .data⟩ (by simp) rfl _ 146 rfl rfl : some (.slice (aD) (LD.length) (cD)) = some (ρ (.tmp 146)))).symm
                simp only [execOp, hc, hfn, p14, p16]
                go_simp
                exact ⟨rfl, (G3.out a14 c14 W hsp14 (rdD.below hI)).mono fun e w' h => ⟨_, h.1, h.2, rfl⟩⟩
              · intro _ ρ W hI hbase hdep
                have hc : ∀ v, ρ (.const v) = v := fun v => hbase _ (fun _ _ _ _ _ e => by cases e)
                have p9 : ρ (.tmp 139) = .bool true := (Option.some.inj (hdep ⟨9, .data⟩ (by simp) rfl _ 139 rfl rfl : some (.bool true) = some (ρ (.tmp 139)))).symm
                have p17 : ρ (.tmp 147) = .bool true := (Option.some.inj (hdep ⟨17, .data⟩ (by simp) rfl _ 147 rfl rfl : some (.bool true) = some (ρ (.tmp 147)))).symm
                simp only [execOp, hc, p9, p17]
                go_simp
                exact ⟨Below.refl _ _, rfl⟩
              · intro _ ρ W hI hbase hdep
                have hc : ∀ v, ρ (.const v) = v := fun v => hbase _ (fun _ _ _ _ _ e => by cases e)
                have p18 : ρ (.tmp 148) = .bool true := (Option.some.inj (hdep ⟨18, .data⟩ (by simp) rfl _ 148 rfl rfl : some (.bool true) = some (ρ (.tmp 148)))).symm
                simp only [execOp, hc, p18]
                go_simp
                exact ⟨Below.refl _ _, rfl⟩
              · intro _ ρ W hI hbase hdep
                have hc : ∀ v, ρ (.const v) = v := fun v => hbase _ (fun _ _ _ _ _ e => by cases e)
                have b7 : ρ (.tmp 7) = .pointer (some ⟨bS, 0, none⟩) := hbase (.tmp 7) (base_tmp (by kernel_rfl))
                simp only [execOp, hc, b7]
                go_simp
                exact ⟨Below.refl _ _, rfl⟩
              · intro _ ρ W hI hbase hdep
                have hc : ∀ v, ρ (.const v) = v := fun v => hbase _ (fun _ _ _ _ _ e => by cases e)
                have p20 : ρ (.tmp 150) = .pointer (some ⟨bS, 1, none⟩) := (Option.some.inj (hdep ⟨20, .data⟩ (by simp) rfl _ 150 rfl rfl : some (.pointer (some ⟨bS, 1, none⟩)) = some (ρ (.tmp 150)))).symm
                obtain ⟨m0, m1⟩ := hcS W hI
                simp only [execOp, hc, p20]
                go_simp
                exact ⟨Below.refl _ _, rfl⟩
              · intro _ ρ W hI hbase hdep
                have hc : ∀ v, ρ (.const v) = v := fun v => hbase _ (fun _ _ _ _ _ e => by cases e)
                have b4 : ρ (.tmp 4) = .string (nm) := hbase (.tmp 4) (base_tmp (by kernel_rfl))
                simp only [execOp, hc, b4]
                go_simp
                exact ⟨Below.refl _ _, rfl⟩
              · intro _ ρ W hI hbase hdep
                have hc : ∀ v, ρ (.const v) = v := fun v => hbase _ (fun _ _ _ _ _ e => by cases e)
                have hfn : ∀ f, ρ (.func f) = .func (.func f) #[] #[] := fun v => hbase _ (fun _ _ _ _ _ e => by cases e)
                have p21 : ρ (.tmp 151) = .slice (aS) (LS.length) (cS) := (Option.some.inj (hdep ⟨21, .data⟩ (by simp) rfl _ 151 rfl rfl : some (.slice (aS) (LS.length) (cS)) = some (ρ (.tmp 151)))).symm
                have p22 : ρ (.tmp 152) = .string (nm) := (Option.some.inj (hdep ⟨22, .data⟩ (by simp) rfl _ 152 rfl rfl : some (.string (nm)) = some (ρ (.tmp 152)))).symm
                simp only [execOp, hc, hfn, p21, p22]
                go_simp
                exact ⟨rfl, (G2.out W (rdS.below hI)).mono fun e w' ⟨a, n, c, h1, ⟨h2, h3⟩, h4⟩ => by subst h2; exact ⟨_, h1, h4, a, c, rfl, h3.rd⟩⟩
              · intro _ ρ W hI hbase hdep
                have hc : ∀ v, ρ (.const v) = v := fun v => hbase _ (fun _ _ _ _ _ e => by cases e)
                obtain ⟨a23, c23, p23, hsp23⟩ : ∃ a23 c23, ρ (.tmp 153) = .agg #[.int .i64 (0), .slice (a23) (LD.length) (c23)] ∧ Rd W a23 (hV LD) := hdep ⟨23, .data⟩ (by simp) rfl _ 153 rfl rfl
                simp only [execOp, hc, p23]
                exact good_val (show (Instr.field 66 (.agg #[.int .i64 (0), .slice (a23) (LD.length) (c23)]) 1).run Tryz.prog W = .ok (.slice (a23) (LD.length) (c23)) W by kernel_rfl) ⟨Below.refl _ _, a23, c23, rfl, hsp23⟩
              · intro _ ρ W hI hbase hdep
                have hc : ∀ v, ρ (.const v) = v := fun v => hbase _ (fun _ _ _ _ _ e => by cases e)
                have b8 : ρ (.tmp 8) = .pointer (some ⟨bD, 0, none⟩) := hbase (.tmp 8) (base_tmp (by kernel_rfl))
                simp only [execOp, hc, b8]
                go_simp
                exact ⟨Below.refl _ _, rfl⟩
              · intro _ ρ W hI hbase hdep
                have hc : ∀ v, ρ (.const v) = v := fun v => hbase _ (fun _ _ _ _ _ e => by cases e)
                have p25 : ρ (.tmp 155) = .pointer (some ⟨bD, 1, none⟩) := (Option.some.inj (hdep ⟨25, .data⟩ (by simp) rfl _ 155 rfl rfl : some (.pointer (some ⟨bD, 1, none⟩)) = some (ρ (.tmp 155)))).symm
                obtain ⟨m0, m1⟩ := hcD W hI
                simp only [execOp, hc, p25]
                go_simp
                exact ⟨Below.refl _ _, rfl⟩
              · intro _ ρ W hI hbase hdep
                have hc : ∀ v, ρ (.const v) = v := fun v => hbase _ (fun _ _ _ _ _ e => by cases e)
                have hfn : ∀ f, ρ (.func f) = .func (.func f) #[] #[] := fun v => hbase _ (fun _ _ _ _ _ e => by cases e)
                obtain ⟨a24, c24, p24, hsp24⟩ : ∃ a24 c24, ρ (.tmp 154) = .slice (a24) (LD.length) (c24) ∧ Rd W a24 (hV LD) := hdep ⟨24, .data⟩ (by simp) rfl _ 154 rfl rfl
                have p26 : ρ (.tmp 156) = .slice (aD) (LD.length) (cD) := (Option.some.inj (hdep ⟨26, .data⟩ (by simp) rfl _ 156 rfl rfl : some (.slice (aD) (LD.length) (cD)) = some (ρ (.tmp 156)))).symm
                simp only [execOp, hc, hfn, p24, p26]
                go_simp
                exact ⟨rfl, (G4.out a24 c24 W hsp24 (rdD.below hI)).mono fun e w' h => ⟨_, h.1, h.2, rfl⟩⟩
              · intro _ ρ W hI hbase hdep
                have hc : ∀ v, ρ (.const v) = v := fun v => hbase _ (fun _ _ _ _ _ e => by cases e)
                have p19 : ρ (.tmp 149) = .bool true := (Option.some.inj (hdep ⟨19, .data⟩ (by simp) rfl _ 149 rfl rfl : some (.bool true) = some (ρ (.tmp 149)))).symm
                have p27 : ρ (.tmp 157) = .bool true := (Option.some.inj (hdep ⟨27, .data⟩ (by simp) rfl _ 157 rfl rfl : some (.bool true) = some (ρ (.tmp 157)))).symm
                simp only [execOp, hc, p19, p27]
                go_simp
                exact ⟨Below.refl _ _, rfl⟩
              · intro _ ρ W hI hbase hdep
                have hc : ∀ v, ρ (.const v) = v := fun v => hbase _ (fun _ _ _ _ _ e => by cases e)
                have p28 : ρ (.tmp 158) = .bool true := (Option.some.inj (hdep ⟨28, .data⟩ (by simp) rfl _ 158 rfl rfl : some (.bool true) = some (ρ (.tmp 158)))).symm
                simp only [execOp, hc, p28]
                go_simp
                exact ⟨Below.refl _ _, rfl⟩
              · trivial
            intro a' W hI ha hdf hall _ hrest
            have p0 : a'.tmps.getD 130 undef = .pointer (some ⟨bJ, 0, none⟩) := (Option.some.inj (hall 0 _ 130 rfl rfl : some (.pointer (some ⟨bJ, 0, none⟩)) = some (a'.tmps.getD 130 undef))).symm
            have p1 : a'.tmps.getD 131 undef = .int .i64 (0) := (Option.some.inj (hall 1 _ 131 rfl rfl : some (.int .i64 (0)) = some (a'.tmps.getD 131 undef))).symm
            have p2 : a'.tmps.getD 132 undef = .bool true := (Option.some.inj (hall 2 _ 132 rfl rfl : some (.bool true) = some (a'.tmps.getD 132 undef))).symm
            have p3 : a'.tmps.getD 133 undef = .bool true := (Option.some.inj (hall 3 _ 133 rfl rfl : some (.bool true) = some (a'.tmps.getD 133 undef))).symm
            have p4 : a'.tmps.getD 134 undef = .pointer (some ⟨bJ, 1, none⟩) := (Option.some.inj (hall 4 _ 134 rfl rfl : some (.pointer (some ⟨bJ, 1, none⟩)) = some (a'.tmps.getD 134 undef))).symm
            have p5 : a'.tmps.getD 135 undef = .string (vl) := (Option.some.inj (hall 5 _ 135 rfl rfl : some (.string (vl)) = some (a'.tmps.getD 135 undef))).symm
            have p6 : a'.tmps.getD 136 undef = .string (vl) := (Option.some.inj (hall 6 _ 136 rfl rfl : some (.string (vl)) = some (a'.tmps.getD 136 undef))).symm
            have p7 : a'.tmps.getD 137 undef = .bool true := (Option.some.inj (hall 7 _ 137 rfl rfl : some (.bool true) = some (a'.tmps.getD 137 undef))).symm
            have p8 : a'.tmps.getD 138 undef = .bool true := (Option.some.inj (hall 8 _ 138 rfl rfl : some (.bool true) = some (a'.tmps.getD 138 undef))).symm
            have p9 : a'.tmps.getD 139 undef = .bool true := (Option.some.inj (hall 9 _ 139 rfl rfl : some (.bool true) = some (a'.tmps.getD 139 undef))).symm
            have p10 : a'.tmps.getD 140 undef = .pointer (some ⟨bS, 1, none⟩) := (Option.some.inj (hall 10 _ 140 rfl rfl : some (.pointer (some ⟨bS, 1, none⟩)) = some (a'.tmps.getD 140 undef))).symm
            have p11 : a'.tmps.getD 141 undef = .slice (aS) (LS.length) (cS) := (Option.some.inj (hall 11 _ 141 rfl rfl : some (.slice (aS) (LS.length) (cS)) = some (a'.tmps.getD 141 undef))).symm
            have p12 : a'.tmps.getD 142 undef = .string (nm) := (Option.some.inj (hall 12 _ 142 rfl rfl : some (.string (nm)) = some (a'.tmps.getD 142 undef))).symm
            obtain ⟨a13, c13, p13, hsp13⟩ : ∃ a13 c13, a'.tmps.getD 143 undef = .agg #[.int .i64 (0), .slice (a13) (LD.length) (c13)] ∧ Rd W a13 (hV LD) := hall 13 _ 143 rfl rfl
            obtain ⟨a14, c14, p14, hsp14⟩ : ∃ a14 c14, a'.tmps.getD 144 undef = .slice (a14) (LD.length) (c14) ∧ Rd W a14 (hV LD) := hall 14 _ 144 rfl rfl
            have p15 : a'.tmps.getD 145 undef = .pointer (some ⟨bD, 1, none⟩) := (Option.some.inj (hall 15 _ 145 rfl rfl : some (.pointer (some ⟨bD, 1, none⟩)) = some (a'.tmps.getD 145 undef))).symm
            have p16 : a'.tmps.getD 146 undef = .slice (aD) (LD.length) (cD) := (Option.some.inj (hall 16 _ 146 rfl rfl : some (.slice (aD) (LD.length) (cD)) = some (a'.tmps.getD 146 undef))).symm
            have p17 : a'.tmps.getD 147 undef = .bool true := (Option.some.inj (hall 17 _ 147 rfl rfl : some (.bool true) = some (a'.tmps.getD 147 undef))).symm
            have p18 : a'.tmps.getD 148 undef = .bool true := (Option.some.inj (hall 18 _ 148 rfl rfl : some (.bool true) = some (a'.tmps.getD 148 undef))).symm
            have p19 : a'.tmps.getD 149 undef = .bool true := (Option.some.inj (hall 19 _ 149 rfl rfl : some (.bool true) = some (a'.tmps.getD 149 undef))).symm
            have p20 : a'.tmps.getD 150 undef = .pointer (some ⟨bS, 1, none⟩) := (Option.some.inj (hall 20 _ 150 rfl rfl : some (.pointer (some ⟨bS, 1, none⟩)) = some (a'.tmps.getD 150 undef))).symm
            have p21 : a'.tmps.getD 151 undef = .slice (aS) (LS.length) (cS) := (Option.some.inj (hall 21 _ 151 rfl rfl : some (.slice (aS) (LS.length) (cS)) = some (a'.tmps.getD 151 undef))).symm
            have p22 : a'.tmps.getD 152 undef = .string (nm) := (Option.some.inj (hall 22 _ 152 rfl rfl : some (.string (nm)) = some (a'.tmps.getD 152 undef))).symm
            obtain ⟨a23, c23, p23, hsp23⟩ : ∃ a23 c23, a'.tmps.getD 153 undef = .agg #[.int .i64 (0), .slice (a23) (LD.length) (c23)] ∧ Rd W a23 (hV LD) := hall 23 _ 153 rfl rfl
            obtain ⟨a24, c24, p24, hsp24⟩ : ∃ a24 c24, a'.tmps.getD 154 undef = .slice (a24) (LD.length) (c24) ∧ Rd W a24 (hV LD) := hall 24 _ 154 rfl rfl
            have p25 : a'.tmps.getD 155 undef = .pointer (some ⟨bD, 1, none⟩) := (Option.some.inj (hall 25 _ 155 rfl rfl : some (.pointer (some ⟨bD, 1, none⟩)) = some (a'.tmps.getD 155 undef))).symm
            have p26 : a'.tmps.getD 156 undef = .slice (aD) (LD.length) (cD) := (Option.some.inj (hall 26 _ 156 rfl rfl : some (.slice (aD) (LD.length) (cD)) = some (a'.tmps.getD 156 undef))).symm
            have p27 : a'.tmps.getD 157 undef = .bool true := (Option.some.inj (hall 27 _ 157 rfl rfl : some (.bool true) = some (a'.tmps.getD 157 undef))).symm
            have p28 : a'.tmps.getD 158 undef = .bool true := (Option.some.inj (hall 28 _ 158 rfl rfl : some (.bool true) = some (a'.tmps.getD 158 undef))).symm
            have p29 : a'.tmps.getD 2 undef = .bool true := (Option.some.inj (hall 29 _ 2 rfl rfl : some (.bool true) = some (a'.tmps.getD 2 undef))).symm
            have ea := after_region [(130, _), (131, _), (132, _), (133, _), (134, _), (135, _), (136, _), (137, _), (138, _), (139, _), (140, _), (141, _), (142, _), (143, _), (144, _), (145, _), (146, _), (147, _), (148, _), (149, _), (150, _), (151, _), (152, _), (153, _), (154, _), (155, _), (156, _), (157, _), (158, _), (2, _)] ha hdf hrest (by kernel_rfl) (by simp only [List.forall_mem_cons]; exact ⟨p0, p1, p2, p3, p4, p5, p6, p7, p8, p9, p10, p11, p12, p13, p14, p15, p16, p17, p18, p19, p20, p21, p22, p23, p24, p25, p26, p27, p28, p29, fun _ h => by cases h⟩)
            subst ea
            simp only [List.foldl_cons, List.foldl_nil, List.setIfInBounds_toArray, List.set_cons_zero, List.set_cons_succ]
            clear p0 p1 p2 p3 p4 p5 p6 p7 p8 p9 p10 p11 p12 p13 p14 p15 p16 p17 p18 p19 p20 p21 p22 p23 p24 p25 p26 p27 p28 p29 hall hrest ha hdf
            go_wp2_with fail
            exact bodyPost_ret (results_tmp Tryz.results6 _ _ _) rfl ⟨rfl, below_then belV hI⟩
            --END
          · have hcb : (eS != 0) = true := by rw [bne_iff_ne]; exact hc0
            go_wp2
            exact bodyPost_ret (results_tmp Tryz.results6 _ _ _) rfl ⟨rfl, belV⟩
  · go_enter Tryz.func6, Tryz.ntmps6
    go_wp2_with (go_at_call 9; ((with_reducible refine (lwBig _ _ _ _).mono ?_); rintro e w' ⟨rfl, rfl⟩))
    all_goals (go_ret; exact ⟨by first | rfl | (simp [*]; done) | (simp [*]; omega), by first | (with_reducible rfl) | exact (by first | (with_reducible exact Below.refl _ _) | ((repeat' (first | (with_reducible exact Below.refl _ _) | (with_reducible assumption) | (with_reducible refine below_alloc ?_ _) | (with_reducible refine Below.drew ?_) | (with_reducible refine below_drewN ?_ _) | (with_reducible refine Below.setCell ?_ ?_ _) | refine below_then ?_ (by with_reducible assumption))) <;> (first | omega | (simp; done) | (simp; omega))))⟩)
end Go.Proofs.YthiogijicknoiaaGreatDoor
