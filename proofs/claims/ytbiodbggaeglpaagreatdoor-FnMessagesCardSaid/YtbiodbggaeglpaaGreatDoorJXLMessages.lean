/- Joined: LMessages. -/
import Derived.Test.YtbiodbggaeglpaaGreatDoorJB17
import Derived.Test.YtbiodbggaeglpaaGreatDoorJB18
import Derived.Test.YtbiodbggaeglpaaGreatDoorJB13
import Derived.Test.YtbiodbggaeglpaaGreatDoorJB22
import Derived.Test.YtbiodbggaeglpaaGreatDoorJB19
import Derived.Test.YtbiodbggaeglpaaGreatDoorJB7
import Derived.Test.YtbiodbggaeglpaaGreatDoorJB1
import Derived.Test.YtbiodbggaeglpaaGreatDoorJB0
import Derived.Deep.DeepCutAuto
/- The law on messages: its walk. Printed by gen/messages.py. -/
namespace Go.Proofs.YtbiodbggaeglpaaGreatDoor
open Go.RowKit
set_option linter.unusedSimpArgs false
set_option linter.unusedVariables false

set_option maxRecDepth 100000 in
set_option maxHeartbeats 20000000 in
theorem FnMessages_walk (a : Option Addr) (n c : Nat) (bs : List UInt8) (hl : bs.length = n) (w : World) (hr : Rd w a (bs.map byteV)) (hn : n ≤ 9223372036854775807) (ht : Tab w) (hm : MaxL w) : Calls Tryz.prog 4 #[.slice a n c] w fun e w' => e = .returned (.bool true) ∧ Below w.heap.size w w' := by
  by_cases h : n ≤ 1048576
  · have HM := Lib.hid hm
    have HT := Lib.hid ht
    clear hm ht
    go_enter Tryz.func4, Tryz.ntmps4
    go_upto_region 7 with (first
      | (go_at_call 5; ((with_reducible refine (lwBig _ _ _ _).mono ?_); rintro e w' ⟨rfl, rfl⟩))
      | (go_at_call 17; ((with_reducible refine (spec_DrawPackRequest a n c bs hl h _ (by first | (with_reducible assumption) | exact RowAt.rd (by repeat' (first | (with_reducible assumption) | (with_reducible refine RowAt.alloc ?_ _) | (with_reducible refine RowAt.drew ?_) | (with_reducible refine RowAt.other ?_ _ _ (by first | omega | (simp; done) | (simp; omega))) | refine RowAt.then ?_ (by with_reducible assumption))) | exact Rd.below (by with_reducible assumption) (by first | (with_reducible exact Below.refl _ _) | ((repeat' (first | (with_reducible exact Below.refl _ _) | (with_reducible assumption) | (with_reducible refine below_alloc ?_ _) | (with_reducible refine Below.drew ?_) | (with_reducible refine below_drewN ?_ _) | (with_reducible refine Below.setCell ?_ ?_ _) | refine below_then ?_ (by with_reducible assumption))) <;> (first | omega | (simp; done) | (simp; omega)))))).mono ?_); rintro e w1 ⟨m, q, p, gl, capl, l, rfl, ⟨hmz, hqz, hpz⟩, rowl, ⟨hl2, hsm⟩, hb⟩; have hbig := hsm.big (by omega); obtain ⟨hc, hf⟩ := bcell hb; have hz := hb.size; (try simp only [World.size_alloc, World.size_setCell, World.size_drew] at hz); obtain ⟨hlt, hle, hn1, hn2, hn3, hn4⟩ := bsize hb; (try simp only [World.size_alloc, World.size_setCell, World.size_drew] at hlt hle hn1 hn2 hn3 hn4); (try have hr0 : w.heap.size < w1.heap.size := by omega); (try have hr1 : w.heap.size + 1 < w1.heap.size := by omega); (try have hs0 : wS.heap.size < w1.heap.size := by omega); (try have hs1 : wG.heap.size < w1.heap.size := by omega)))
      | (go_at_call 13; ((with_reducible refine (impl_PackRequest m q p (by omega) (by omega) (by omega) _ _ _ l rfl _ (by first | (with_reducible assumption) | exact RowAt.rd (by repeat' (first | (with_reducible assumption) | (with_reducible refine RowAt.alloc ?_ _) | (with_reducible refine RowAt.drew ?_) | (with_reducible refine RowAt.other ?_ _ _ (by first | omega | (simp; done) | (simp; omega))) | refine RowAt.then ?_ (by with_reducible assumption))) | exact Rd.below (by with_reducible assumption) (by first | (with_reducible exact Below.refl _ _) | ((repeat' (first | (with_reducible exact Below.refl _ _) | (with_reducible assumption) | (with_reducible refine below_alloc ?_ _) | (with_reducible refine Below.drew ?_) | (with_reducible refine below_drewN ?_ _) | (with_reducible refine Below.setCell ?_ ?_ _) | refine below_then ?_ (by with_reducible assumption))) <;> (first | omega | (simp; done) | (simp; omega))))) (by omega) hbig).mono ?_); rintro e w2 ⟨aA, nA, cA, rfl, ⟨hlA, hsA⟩, hb⟩; obtain ⟨hc, hf⟩ := bcell hb; have hz := hb.size; (try simp only [World.size_alloc, World.size_setCell, World.size_drew] at hz); obtain ⟨hlt, hle, hn1, hn2, hn3, hn4⟩ := bsize hb; (try simp only [World.size_alloc, World.size_setCell, World.size_drew] at hlt hle hn1 hn2 hn3 hn4); (try have hr0 : w.heap.size < w2.heap.size := by omega); (try have hr1 : w.heap.size + 1 < w2.heap.size := by omega); (try have hs0 : wS.heap.size < w2.heap.size := by omega); (try have hs1 : wG.heap.size < w2.heap.size := by omega)))
      | (go_at_call 18; ((with_reducible refine (spec_DrawPackResponse a n c bs hl h _ (by first | (with_reducible assumption) | exact RowAt.rd (by repeat' (first | (with_reducible assumption) | (with_reducible refine RowAt.alloc ?_ _) | (with_reducible refine RowAt.drew ?_) | (with_reducible refine RowAt.other ?_ _ _ (by first | omega | (simp; done) | (simp; omega))) | refine RowAt.then ?_ (by with_reducible assumption))) | exact Rd.below (by with_reducible assumption) (by first | (with_reducible exact Below.refl _ _) | ((repeat' (first | (with_reducible exact Below.refl _ _) | (with_reducible assumption) | (with_reducible refine below_alloc ?_ _) | (with_reducible refine Below.drew ?_) | (with_reducible refine below_drewN ?_ _) | (with_reducible refine Below.setCell ?_ ?_ _) | refine below_then ?_ (by with_reducible assumption))) <;> (first | omega | (simp; done) | (simp; omega)))))).mono ?_); rintro e w3 ⟨t, gr, capr, lr, gb, capb, lb, rfl, ⟨ht0, ht1⟩, rowr, ⟨hlr2, hsmr⟩, rowb, hlb2, hb⟩; have hbigr := hsmr.big (by omega); obtain ⟨hc, hf⟩ := bcell hb; have hz := hb.size; (try simp only [World.size_alloc, World.size_setCell, World.size_drew] at hz); obtain ⟨hlt, hle, hn1, hn2, hn3, hn4⟩ := bsize hb; (try simp only [World.size_alloc, World.size_setCell, World.size_drew] at hlt hle hn1 hn2 hn3 hn4); (try have hr0 : w.heap.size < w3.heap.size := by omega); (try have hr1 : w.heap.size + 1 < w3.heap.size := by omega); (try have hs0 : wS.heap.size < w3.heap.size := by omega); (try have hs1 : wG.heap.size < w3.heap.size := by omega)))
      | (go_at_call 15; ((with_reducible refine (impl_PackResponse t _ _ _ lr rfl _ _ _ lb rfl _ (by first | (with_reducible assumption) | exact RowAt.rd (by repeat' (first | (with_reducible assumption) | (with_reducible refine RowAt.alloc ?_ _) | (with_reducible refine RowAt.drew ?_) | (with_reducible refine RowAt.other ?_ _ _ (by first | omega | (simp; done) | (simp; omega))) | refine RowAt.then ?_ (by with_reducible assumption))) | exact Rd.below (by with_reducible assumption) (by first | (with_reducible exact Below.refl _ _) | ((repeat' (first | (with_reducible exact Below.refl _ _) | (with_reducible assumption) | (with_reducible refine below_alloc ?_ _) | (with_reducible refine Below.drew ?_) | (with_reducible refine below_drewN ?_ _) | (with_reducible refine Below.setCell ?_ ?_ _) | refine below_then ?_ (by with_reducible assumption))) <;> (first | omega | (simp; done) | (simp; omega))))) (by omega) (by omega) hbigr (by first | (with_reducible assumption) | exact RowAt.rd (by repeat' (first | (with_reducible assumption) | (with_reducible refine RowAt.alloc ?_ _) | (with_reducible refine RowAt.drew ?_) | (with_reducible refine RowAt.other ?_ _ _ (by first | omega | (simp; done) | (simp; omega))) | refine RowAt.then ?_ (by with_reducible assumption))) | exact Rd.below (by with_reducible assumption) (by first | (with_reducible exact Below.refl _ _) | ((repeat' (first | (with_reducible exact Below.refl _ _) | (with_reducible assumption) | (with_reducible refine below_alloc ?_ _) | (with_reducible refine Below.drew ?_) | (with_reducible refine below_drewN ?_ _) | (with_reducible refine Below.setCell ?_ ?_ _) | refine below_then ?_ (by with_reducible assumption))) <;> (first | omega | (simp; done) | (simp; omega))))) (HT.out.then (by exact (by first | (with_reducible exact Below.refl _ _) | ((repeat' (first | (with_reducible exact Below.refl _ _) | (with_reducible assumption) | (with_reducible refine below_alloc ?_ _) | (with_reducible refine Below.drew ?_) | (with_reducible refine below_drewN ?_ _) | (with_reducible refine Below.setCell ?_ ?_ _) | refine below_then ?_ (by with_reducible assumption))) <;> (first | omega | (simp; done) | (simp; omega))))))).mono ?_); rintro e w4 ⟨aB, nB, cB, rfl, ⟨hlB, hsB⟩, hb⟩; obtain ⟨hc, hf⟩ := bcell hb; have hz := hb.size; (try simp only [World.size_alloc, World.size_setCell, World.size_drew] at hz); obtain ⟨hlt, hle, hn1, hn2, hn3, hn4⟩ := bsize hb; (try simp only [World.size_alloc, World.size_setCell, World.size_drew] at hlt hle hn1 hn2 hn3 hn4); (try have hr0 : w.heap.size < w4.heap.size := by omega); (try have hr1 : w.heap.size + 1 < w4.heap.size := by omega); (try have hs0 : wS.heap.size < w4.heap.size := by omega); (try have hs1 : wG.heap.size < w4.heap.size := by omega))))
    all_goals (try (go_ret; exact ⟨by first | rfl | (simp [*]; done) | (simp [*]; omega), by first | (with_reducible rfl) | exact (by first | (with_reducible exact Below.refl _ _) | ((repeat' (first | (with_reducible exact Below.refl _ _) | (with_reducible assumption) | (with_reducible refine below_alloc ?_ _) | (with_reducible refine Below.drew ?_) | (with_reducible refine below_drewN ?_ _) | (with_reducible refine Below.setCell ?_ ?_ _) | refine below_then ?_ (by with_reducible assumption))) <;> (first | omega | (simp; done) | (simp; omega))))⟩))
    have kQ : (w4.alloc (.cells #[.int .i64 (packP t lr lb).1, .slice aB nB cB] 38)).heap[w1.heap.size]? = some (.cells #[.string m, .string q, .string p, .slice (some ⟨gl, 0, none⟩) l.length capl] 27 (0, 0)) := (by repeat' (first | (with_reducible assumption) | (with_reducible exact blk_new _ _) | (with_reducible apply blk_set) | (with_reducible refine blk_new' _ _ _ (by first | omega | (simp only [World.size_alloc]; first | done | omega))) | (with_reducible refine blk_other ?_ _ _ _ (by omega)) | (with_reducible refine blk_drew ?_) | (with_reducible refine blk_alloc ?_ _) | refine blk_then ?_ (by with_reducible assumption)))
    have kA : (w4.alloc (.cells #[.int .i64 (packP t lr lb).1, .slice aB nB cB] 38)).heap[w2.heap.size]? = some (.cells #[.int .i64 (packQ m q p l).1, .slice aA nA cA] 38 (0, 0)) := (by repeat' (first | (with_reducible assumption) | (with_reducible exact blk_new _ _) | (with_reducible apply blk_set) | (with_reducible refine blk_new' _ _ _ (by first | omega | (simp only [World.size_alloc]; first | done | omega))) | (with_reducible refine blk_other ?_ _ _ _ (by omega)) | (with_reducible refine blk_drew ?_) | (with_reducible refine blk_alloc ?_ _) | refine blk_then ?_ (by with_reducible assumption)))
    have kR : (w4.alloc (.cells #[.int .i64 (packP t lr lb).1, .slice aB nB cB] 38)).heap[w3.heap.size]? = some (.cells #[.int .i64 t, .slice (some ⟨gr, 0, none⟩) lr.length capr, .slice (some ⟨gb, 0, none⟩) lb.length capb] 32 (0, 0)) := (by repeat' (first | (with_reducible assumption) | (with_reducible exact blk_new _ _) | (with_reducible apply blk_set) | (with_reducible refine blk_new' _ _ _ (by first | omega | (simp only [World.size_alloc]; first | done | omega))) | (with_reducible refine blk_other ?_ _ _ _ (by omega)) | (with_reducible refine blk_drew ?_) | (with_reducible refine blk_alloc ?_ _) | refine blk_then ?_ (by with_reducible assumption)))
    have kB : (w4.alloc (.cells #[.int .i64 (packP t lr lb).1, .slice aB nB cB] 38)).heap[w4.heap.size]? = some (.cells #[.int .i64 (packP t lr lb).1, .slice aB nB cB] 38 (0, 0)) := blk_new _ _
    have belV : Below w.heap.size w (w4.alloc (.cells #[.int .i64 (packP t lr lb).1, .slice aB nB cB] 38)) := by exact (by first | (with_reducible exact Below.refl _ _) | ((repeat' (first | (with_reducible exact Below.refl _ _) | (with_reducible assumption) | (with_reducible refine below_alloc ?_ _) | (with_reducible refine Below.drew ?_) | (with_reducible refine below_drewN ?_ _) | (with_reducible refine Below.setCell ?_ ?_ _) | refine below_then ?_ (by with_reducible assumption))) <;> (first | omega | (simp; done) | (simp; omega))))
    have rdl : Rd (w4.alloc (.cells #[.int .i64 (packP t lr lb).1, .slice aB nB cB] 38)) (some ⟨gl, 0, none⟩) (hV l) := RowAt.rd (by exact (by repeat' (first | (with_reducible assumption) | (with_reducible refine RowAt.alloc ?_ _) | (with_reducible refine RowAt.drew ?_) | (with_reducible refine RowAt.other ?_ _ _ (by first | omega | (simp; done) | (simp; omega))) | refine RowAt.then ?_ (by with_reducible assumption))))
    have rdr : Rd (w4.alloc (.cells #[.int .i64 (packP t lr lb).1, .slice aB nB cB] 38)) (some ⟨gr, 0, none⟩) (hV lr) := RowAt.rd (by exact (by repeat' (first | (with_reducible assumption) | (with_reducible refine RowAt.alloc ?_ _) | (with_reducible refine RowAt.drew ?_) | (with_reducible refine RowAt.other ?_ _ _ (by first | omega | (simp; done) | (simp; omega))) | refine RowAt.then ?_ (by with_reducible assumption))))
    have rdb : Rd (w4.alloc (.cells #[.int .i64 (packP t lr lb).1, .slice aB nB cB] 38)) (some ⟨gb, 0, none⟩) (bV lb) := RowAt.rd (by exact (by repeat' (first | (with_reducible assumption) | (with_reducible refine RowAt.alloc ?_ _) | (with_reducible refine RowAt.drew ?_) | (with_reducible refine RowAt.other ?_ _ _ (by first | omega | (simp; done) | (simp; omega))) | refine RowAt.then ?_ (by with_reducible assumption))))
    have rdA : Rd (w4.alloc (.cells #[.int .i64 (packP t lr lb).1, .slice aB nB cB] 38)) aA (bV (packQ m q p l).2) := hsA.rd.below (by exact (by first | (with_reducible exact Below.refl _ _) | ((repeat' (first | (with_reducible exact Below.refl _ _) | (with_reducible assumption) | (with_reducible refine below_alloc ?_ _) | (with_reducible refine Below.drew ?_) | (with_reducible refine below_drewN ?_ _) | (with_reducible refine Below.setCell ?_ ?_ _) | refine below_then ?_ (by with_reducible assumption))) <;> (first | omega | (simp; done) | (simp; omega)))))
    have rdB : Rd (w4.alloc (.cells #[.int .i64 (packP t lr lb).1, .slice aB nB cB] 38)) aB (bV (packP t lr lb).2) := hsB.rd.below (by exact (by first | (with_reducible exact Below.refl _ _) | ((repeat' (first | (with_reducible exact Below.refl _ _) | (with_reducible assumption) | (with_reducible refine below_alloc ?_ _) | (with_reducible refine Below.drew ?_) | (with_reducible refine below_drewN ?_ _) | (with_reducible refine Below.setCell ?_ ?_ _) | refine below_then ?_ (by with_reducible assumption))) <;> (first | omega | (simp; done) | (simp; omega)))))
    have hM := HM.out.then belV
    have c1 := fun W hr => spec_RequestFault m q p (by omega) (by omega) (by omega) (some ⟨gl, 0, none⟩) l.length capl l rfl W hr (by omega) hbig
    have c2 := fun W hr => impl_RequestFault m q p (by omega) (by omega) (by omega) (some ⟨gl, 0, none⟩) l.length capl l rfl W hr (by omega) hbig
    have c3 := fun W hr => spec_ResponseFault t (some ⟨gr, 0, none⟩) lr.length capr lr rfl (some ⟨gb, 0, none⟩) lb.length capb W hr (by omega) (by omega) hbigr
    have c4 := fun W hr => impl_ResponseFault t (some ⟨gr, 0, none⟩) lr.length capr lr rfl (some ⟨gb, 0, none⟩) lb.length capb W hr (by omega) (by omega) hbigr
    have hpf : (packQ m q p l).1 = rqFault m q p l := by
      unfold packQ
      split
      · rename_i e; exact e.symm
      · rfl
    have hpg : (packP t lr lb).1 = rspFault t lr lb.length := by
      unfold packP
      split
      · rename_i e; exact e.symm
      · rfl
    generalize (w4.alloc (.cells #[.int .i64 (packP t lr lb).1, .slice aB nB cB] 38)) = V at *
    subst hlA hlB
    generalize w1.heap.size = bQ at *
    generalize w2.heap.size = bA at *
    generalize w3.heap.size = bR at *
    generalize w4.heap.size = bB at *
    clear HM HT hr hsA hsB hb hc hf hz hsm hsmr
    rcases hpq : packQ m q p l with ⟨F, LA⟩
    rcases hpp : packP t lr lb with ⟨G, LB⟩
    simp only [hpq] at kA rdA hpf
    simp only [hpp] at kB rdB hpg
    rw [← hpf] at c1 c2
    rw [← hpg] at c3 c4
    have C1 := Lib.hid c1
    have C2 := Lib.hid c2
    have C3 := Lib.hid c3
    have C4 := Lib.hid c4
    have Hpf := Lib.hid hpf
    have Hpg := Lib.hid hpg
    have Hpq := Lib.hid hpq
    have Hpp := Lib.hid hpp
    clear c1 c2 c3 c4 hpf hpg hpq hpp hbig hbigr
    have hcQ := fun W (hI : Below V.heap.size V W) => cells4 (blk_then kQ hI)
    have hcA := fun W (hI : Below V.heap.size V W) => cells2 (blk_then kA hI)
    have hcR := fun W (hI : Below V.heap.size V W) => cells3 (blk_then kR hI)
    have hcB := fun W (hI : Below V.heap.size V W) => cells2 (blk_then kB hI)
    refine wp_region_relG (fun W => Below V.heap.size V W) (fun _ w w' => Below w.heap.size w w') (FF [.pointer (some ⟨bA, 0, none⟩), .int .i64 (F), .agg #[.string (m), .string (q), .string (p), .slice (some ⟨gl, 0, none⟩) (l.length) (capl)], .int .i64 (F), .bool false, .bool false, .agg #[.string (m), .string (q), .string (p), .slice (some ⟨gl, 0, none⟩) (l.length) (capl)], .int .i64 (F), .pointer (some ⟨bA, 0, none⟩), .int .i64 (F), .bool false, .bool false, .bool false, .pointer (some ⟨bB, 0, none⟩), .int .i64 (G), .agg #[.int .i64 (t), .slice (some ⟨gr, 0, none⟩) (lr.length) (capr), .slice (some ⟨gb, 0, none⟩) (lb.length) (capb)], .int .i64 (G), .bool false, .bool false, .bool false, .agg #[.int .i64 (t), .slice (some ⟨gr, 0, none⟩) (lr.length) (capr), .slice (some ⟨gb, 0, none⟩) (lb.length) (capb)], .int .i64 (G), .pointer (some ⟨bB, 0, none⟩), .int .i64 (G), .bool false, .bool false] []) (fun _ => true) (by kernel_rfl) (by kernel_rfl) (guard_FF (by kernel_rfl) (by kernel_rfl)) ?_ (Below.refl _ _).drew (fun _ _ _ h1 h2 => below_then h1 h2) (fun _ _ _ _ _ _ _ h2 h3 => FF.keep (fun _ h => by cases h) _ _ _ _ h2 h3) ?_ ?_ ?_
    · intro i w h; cases h
    · intro i o v w hi hd hF
      exact absurd hd (by have := unB_spec (k := 999) (by kernel_rfl) hi hd; have := (Array.getElem?_eq_some_iff.1 hi).1; simp at this; omega)
    · repeat' (refine And.intro ?_ ?_)
      · intro _ ρ W hI hbase hdep
        have hc : ∀ v, ρ (.const v) = v := fun v => hbase _ (fun _ _ _ _ _ e => by cases e)
        have b4 : ρ (.tmp 4) = .pointer (some ⟨bA, 0, none⟩) := hbase (.tmp 4) (base_tmp (by kernel_rfl))
        simp only [execOp, hc, b4]
        go_simp
        exact ⟨Below.refl _ _, rfl⟩
      · intro _ ρ W hI hbase hdep
        have hc : ∀ v, ρ (.const v) = v := fun v => hbase _ (fun _ _ _ _ _ e => by cases e)
        have p0 : ρ (.tmp 17) = .pointer (some ⟨bA, 0, none⟩) := (Option.some.inj (hdep ⟨0, .data⟩ (by simp) rfl _ 17 rfl rfl : some (.pointer (some ⟨bA, 0, none⟩)) = some (ρ (.tmp 17)))).symm
        obtain ⟨m0, m1⟩ := hcA W hI
        simp only [execOp, hc, p0]
        go_simp
        exact ⟨Below.refl _ _, rfl⟩
      · intro _ ρ W hI hbase hdep
        have hc : ∀ v, ρ (.const v) = v := fun v => hbase _ (fun _ _ _ _ _ e => by cases e)
        have b3 : ρ (.tmp 3) = .pointer (some ⟨bQ, 0, none⟩) := hbase (.tmp 3) (base_tmp (by kernel_rfl))
        obtain ⟨m0, m1, m2, m3⟩ := hcQ W hI
        simp only [execOp, hc, b3]
        go_simp
        exact ⟨Below.refl _ _, rfl⟩
      · intro _ ρ W hI hbase hdep
        have hc : ∀ v, ρ (.const v) = v := fun v => hbase _ (fun _ _ _ _ _ e => by cases e)
        have hfn : ∀ f, ρ (.func f) = .func (.func f) #[] #[] := fun v => hbase _ (fun _ _ _ _ _ e => by cases e)
        have p2 : ρ (.tmp 19) = .agg #[.string (m), .string (q), .string (p), .slice (some ⟨gl, 0, none⟩) (l.length) (capl)] := (Option.some.inj (hdep ⟨2, .data⟩ (by simp) rfl _ 19 rfl rfl : some (.agg #[.string (m), .string (q), .string (p), .slice (some ⟨gl, 0, none⟩) (l.length) (capl)]) = some (ρ (.tmp 19)))).symm
        simp only [execOp, hc, hfn, p2]
        go_simp
        exact ⟨rfl, (C1.out W (rdl.below hI)).mono fun e w' h => ⟨_, h.1, h.2, rfl⟩⟩
      · intro _ ρ W hI hbase hdep
        have hc : ∀ v, ρ (.const v) = v := fun v => hbase _ (fun _ _ _ _ _ e => by cases e)
        have p1 : ρ (.tmp 18) = .int .i64 (F) := (Option.some.inj (hdep ⟨1, .data⟩ (by simp) rfl _ 18 rfl rfl : some (.int .i64 (F)) = some (ρ (.tmp 18)))).symm
        have p3 : ρ (.tmp 20) = .int .i64 (F) := (Option.some.inj (hdep ⟨3, .data⟩ (by simp) rfl _ 20 rfl rfl : some (.int .i64 (F)) = some (ρ (.tmp 20)))).symm
        simp only [execOp, hc, p1, p3]
        go_simp
        exact ⟨Below.refl _ _, rfl⟩
      · intro _ ρ W hI hbase hdep
        have hc : ∀ v, ρ (.const v) = v := fun v => hbase _ (fun _ _ _ _ _ e => by cases e)
        have p4 : ρ (.tmp 21) = .bool false := (Option.some.inj (hdep ⟨4, .data⟩ (by simp) rfl _ 21 rfl rfl : some (.bool false) = some (ρ (.tmp 21)))).symm
        simp only [execOp, hc, p4]
        go_simp
        exact ⟨Below.refl _ _, rfl⟩
      · intro _ ρ W hI hbase hdep
        have hc : ∀ v, ρ (.const v) = v := fun v => hbase _ (fun _ _ _ _ _ e => by cases e)
        have b3 : ρ (.tmp 3) = .pointer (some ⟨bQ, 0, none⟩) := hbase (.tmp 3) (base_tmp (by kernel_rfl))
        obtain ⟨m0, m1, m2, m3⟩ := hcQ W hI
        simp only [execOp, hc, b3]
        go_simp
        exact ⟨Below.refl _ _, rfl⟩
      · intro _ ρ W hI hbase hdep
        have hc : ∀ v, ρ (.const v) = v := fun v => hbase _ (fun _ _ _ _ _ e => by cases e)
        have hfn : ∀ f, ρ (.func f) = .func (.func f) #[] #[] := fun v => hbase _ (fun _ _ _ _ _ e => by cases e)
        have p6 : ρ (.tmp 23) = .agg #[.string (m), .string (q), .string (p), .slice (some ⟨gl, 0, none⟩) (l.length) (capl)] := (Option.some.inj (hdep ⟨6, .data⟩ (by simp) rfl _ 23 rfl rfl : some (.agg #[.string (m), .string (q), .string (p), .slice (some ⟨gl, 0, none⟩) (l.length) (capl)]) = some (ρ (.tmp 23)))).symm
        simp only [execOp, hc, hfn, p6]
        go_simp
        exact ⟨rfl, (C2.out W (rdl.below hI)).mono fun e w' h => ⟨_, h.1, h.2, rfl⟩⟩
      · intro _ ρ W hI hbase hdep
        have hc : ∀ v, ρ (.const v) = v := fun v => hbase _ (fun _ _ _ _ _ e => by cases e)
        have b4 : ρ (.tmp 4) = .pointer (some ⟨bA, 0, none⟩) := hbase (.tmp 4) (base_tmp (by kernel_rfl))
        simp only [execOp, hc, b4]
        go_simp
        exact ⟨Below.refl _ _, rfl⟩
      · intro _ ρ W hI hbase hdep
        have hc : ∀ v, ρ (.const v) = v := fun v => hbase _ (fun _ _ _ _ _ e => by cases e)
        have p8 : ρ (.tmp 25) = .pointer (some ⟨bA, 0, none⟩) := (Option.some.inj (hdep ⟨8, .data⟩ (by simp) rfl _ 25 rfl rfl : some (.pointer (some ⟨bA, 0, none⟩)) = some (ρ (.tmp 25)))).symm
        obtain ⟨m0, m1⟩ := hcA W hI
        simp only [execOp, hc, p8]
        go_simp
        exact ⟨Below.refl _ _, rfl⟩
      · intro _ ρ W hI hbase hdep
        have hc : ∀ v, ρ (.const v) = v := fun v => hbase _ (fun _ _ _ _ _ e => by cases e)
        have p7 : ρ (.tmp 24) = .int .i64 (F) := (Option.some.inj (hdep ⟨7, .data⟩ (by simp) rfl _ 24 rfl rfl : some (.int .i64 (F)) = some (ρ (.tmp 24)))).symm
        have p9 : ρ (.tmp 26) = .int .i64 (F) := (Option.some.inj (hdep ⟨9, .data⟩ (by simp) rfl _ 26 rfl rfl : some (.int .i64 (F)) = some (ρ (.tmp 26)))).symm
        simp only [execOp, hc, p7, p9]
        go_simp
        exact ⟨Below.refl _ _, rfl⟩
      · intro _ ρ W hI hbase hdep
        have hc : ∀ v, ρ (.const v) = v := fun v => hbase _ (fun _ _ _ _ _ e => by cases e)
        have p5 : ρ (.tmp 22) = .bool false := (Option.some.inj (hdep ⟨5, .data⟩ (by simp) rfl _ 22 rfl rfl : some (.bool false) = some (ρ (.tmp 22)))).symm
        have p10 : ρ (.tmp 27) = .bool false := (Option.some.inj (hdep ⟨10, .data⟩ (by simp) rfl _ 27 rfl rfl : some (.bool false) = some (ρ (.tmp 27)))).symm
        simp only [execOp, hc, p5, p10]
        go_simp
        exact ⟨Below.refl _ _, rfl⟩
      · intro _ ρ W hI hbase hdep
        have hc : ∀ v, ρ (.const v) = v := fun v => hbase _ (fun _ _ _ _ _ e => by cases e)
        have p11 : ρ (.tmp 28) = .bool false := (Option.some.inj (hdep ⟨11, .data⟩ (by simp) rfl _ 28 rfl rfl : some (.bool false) = some (ρ (.tmp 28)))).symm
        simp only [execOp, hc, p11]
        go_simp
        exact ⟨Below.refl _ _, rfl⟩
      · intro _ ρ W hI hbase hdep
        have hc : ∀ v, ρ (.const v) = v := fun v => hbase _ (fun _ _ _ _ _ e => by cases e)
        have b6 : ρ (.tmp 6) = .pointer (some ⟨bB, 0, none⟩) := hbase (.tmp 6) (base_tmp (by kernel_rfl))
        simp only [execOp, hc, b6]
        go_simp
        exact ⟨Below.refl _ _, rfl⟩
      · intro _ ρ W hI hbase hdep
        have hc : ∀ v, ρ (.const v) = v := fun v => hbase _ (fun _ _ _ _ _ e => by cases e)
        have p13 : ρ (.tmp 30) = .pointer (some ⟨bB, 0, none⟩) := (Option.some.inj (hdep ⟨13, .data⟩ (by simp) rfl _ 30 rfl rfl : some (.pointer (some ⟨bB, 0, none⟩)) = some (ρ (.tmp 30)))).symm
        obtain ⟨m0, m1⟩ := hcB W hI
        simp only [execOp, hc, p13]
        go_simp
        exact ⟨Below.refl _ _, rfl⟩
      · intro _ ρ W hI hbase hdep
        have hc : ∀ v, ρ (.const v) = v := fun v => hbase _ (fun _ _ _ _ _ e => by cases e)
        have b5 : ρ (.tmp 5) = .pointer (some ⟨bR, 0, none⟩) := hbase (.tmp 5) (base_tmp (by kernel_rfl))
        obtain ⟨m0, m1, m2⟩ := hcR W hI
        simp only [execOp, hc, b5]
        go_simp
        exact ⟨Below.refl _ _, rfl⟩
      · intro _ ρ W hI hbase hdep
        have hc : ∀ v, ρ (.const v) = v := fun v => hbase _ (fun _ _ _ _ _ e => by cases e)
        have hfn : ∀ f, ρ (.func f) = .func (.func f) #[] #[] := fun v => hbase _ (fun _ _ _ _ _ e => by cases e)
        have p15 : ρ (.tmp 32) = .agg #[.int .i64 (t), .slice (some ⟨gr, 0, none⟩) (lr.length) (capr), .slice (some ⟨gb, 0, none⟩) (lb.length) (capb)] := (Option.some.inj (hdep ⟨15, .data⟩ (by simp) rfl _ 32 rfl rfl : some (.agg #[.int .i64 (t), .slice (some ⟨gr, 0, none⟩) (lr.length) (capr), .slice (some ⟨gb, 0, none⟩) (lb.length) (capb)]) = some (ρ (.tmp 32)))).symm
        simp only [execOp, hc, hfn, p15]
        go_simp
        exact ⟨rfl, (C3.out W (rdr.below hI)).mono fun e w' h => ⟨_, h.1, h.2, rfl⟩⟩
      · intro _ ρ W hI hbase hdep
        have hc : ∀ v, ρ (.const v) = v := fun v => hbase _ (fun _ _ _ _ _ e => by cases e)
        have p14 : ρ (.tmp 31) = .int .i64 (G) := (Option.some.inj (hdep ⟨14, .data⟩ (by simp) rfl _ 31 rfl rfl : some (.int .i64 (G)) = some (ρ (.tmp 31)))).symm
        have p16 : ρ (.tmp 33) = .int .i64 (G) := (Option.some.inj (hdep ⟨16, .data⟩ (by simp) rfl _ 33 rfl rfl : some (.int .i64 (G)) = some (ρ (.tmp 33)))).symm
        simp only [execOp, hc, p14, p16]
        go_simp
        exact ⟨Below.refl _ _, rfl⟩
      · intro _ ρ W hI hbase hdep
        have hc : ∀ v, ρ (.const v) = v := fun v => hbase _ (fun _ _ _ _ _ e => by cases e)
        have p12 : ρ (.tmp 29) = .bool false := (Option.some.inj (hdep ⟨12, .data⟩ (by simp) rfl _ 29 rfl rfl : some (.bool false) = some (ρ (.tmp 29)))).symm
        have p17 : ρ (.tmp 34) = .bool false := (Option.some.inj (hdep ⟨17, .data⟩ (by simp) rfl _ 34 rfl rfl : some (.bool false) = some (ρ (.tmp 34)))).symm
        simp only [execOp, hc, p12, p17]
        go_simp
        exact ⟨Below.refl _ _, rfl⟩
      · intro _ ρ W hI hbase hdep
        have hc : ∀ v, ρ (.const v) = v := fun v => hbase _ (fun _ _ _ _ _ e => by cases e)
        have p18 : ρ (.tmp 35) = .bool false := (Option.some.inj (hdep ⟨18, .data⟩ (by simp) rfl _ 35 rfl rfl : some (.bool false) = some (ρ (.tmp 35)))).symm
        simp only [execOp, hc, p18]
        go_simp
        exact ⟨Below.refl _ _, rfl⟩
      · intro _ ρ W hI hbase hdep
        have hc : ∀ v, ρ (.const v) = v := fun v => hbase _ (fun _ _ _ _ _ e => by cases e)
        have b5 : ρ (.tmp 5) = .pointer (some ⟨bR, 0, none⟩) := hbase (.tmp 5) (base_tmp (by kernel_rfl))
        obtain ⟨m0, m1, m2⟩ := hcR W hI
        simp only [execOp, hc, b5]
        go_simp
        exact ⟨Below.refl _ _, rfl⟩
      · intro _ ρ W hI hbase hdep
        have hc : ∀ v, ρ (.const v) = v := fun v => hbase _ (fun _ _ _ _ _ e => by cases e)
        have hfn : ∀ f, ρ (.func f) = .func (.func f) #[] #[] := fun v => hbase _ (fun _ _ _ _ _ e => by cases e)
        have p20 : ρ (.tmp 37) = .agg #[.int .i64 (t), .slice (some ⟨gr, 0, none⟩) (lr.length) (capr), .slice (some ⟨gb, 0, none⟩) (lb.length) (capb)] := (Option.some.inj (hdep ⟨20, .data⟩ (by simp) rfl _ 37 rfl rfl : some (.agg #[.int .i64 (t), .slice (some ⟨gr, 0, none⟩) (lr.length) (capr), .slice (some ⟨gb, 0, none⟩) (lb.length) (capb)]) = some (ρ (.tmp 37)))).symm
        simp only [execOp, hc, hfn, p20]
        go_simp
        exact ⟨rfl, (C4.out W (rdr.below hI)).mono fun e w' h => ⟨_, h.1, h.2, rfl⟩⟩
      · intro _ ρ W hI hbase hdep
        have hc : ∀ v, ρ (.const v) = v := fun v => hbase _ (fun _ _ _ _ _ e => by cases e)
        have b6 : ρ (.tmp 6) = .pointer (some ⟨bB, 0, none⟩) := hbase (.tmp 6) (base_tmp (by kernel_rfl))
        simp only [execOp, hc, b6]
        go_simp
        exact ⟨Below.refl _ _, rfl⟩
      · intro _ ρ W hI hbase hdep
        have hc : ∀ v, ρ (.const v) = v := fun v => hbase _ (fun _ _ _ _ _ e => by cases e)
        have p22 : ρ (.tmp 39) = .pointer (some ⟨bB, 0, none⟩) := (Option.some.inj (hdep ⟨22, .data⟩ (by simp) rfl _ 39 rfl rfl : some (.pointer (some ⟨bB, 0, none⟩)) = some (ρ (.tmp 39)))).symm
        obtain ⟨m0, m1⟩ := hcB W hI
        simp only [execOp, hc, p22]
        go_simp
        exact ⟨Below.refl _ _, rfl⟩
      · intro _ ρ W hI hbase hdep
        have hc : ∀ v, ρ (.const v) = v := fun v => hbase _ (fun _ _ _ _ _ e => by cases e)
        have p21 : ρ (.tmp 38) = .int .i64 (G) := (Option.some.inj (hdep ⟨21, .data⟩ (by simp) rfl _ 38 rfl rfl : some (.int .i64 (G)) = some (ρ (.tmp 38)))).symm
        have p23 : ρ (.tmp 40) = .int .i64 (G) := (Option.some.inj (hdep ⟨23, .data⟩ (by simp) rfl _ 40 rfl rfl : some (.int .i64 (G)) = some (ρ (.tmp 40)))).symm
        simp only [execOp, hc, p21, p23]
        go_simp
        exact ⟨Below.refl _ _, rfl⟩
      · intro _ ρ W hI hbase hdep
        have hc : ∀ v, ρ (.const v) = v := fun v => hbase _ (fun _ _ _ _ _ e => by cases e)
        have p19 : ρ (.tmp 36) = .bool false := (Option.some.inj (hdep ⟨19, .data⟩ (by simp) rfl _ 36 rfl rfl : some (.bool false) = some (ρ (.tmp 36)))).symm
        have p24 : ρ (.tmp 41) = .bool false := (Option.some.inj (hdep ⟨24, .data⟩ (by simp) rfl _ 41 rfl rfl : some (.bool false) = some (ρ (.tmp 41)))).symm
        simp only [execOp, hc, p19, p24]
        go_simp
        exact ⟨Below.refl _ _, rfl⟩
      · trivial
    intro a' W hI ha hdf hall _ hrest
    have p0 : a'.tmps.getD 17 undef = .pointer (some ⟨bA, 0, none⟩) := (Option.some.inj (hall 0 _ 17 rfl rfl : some (.pointer (some ⟨bA, 0, none⟩)) = some (a'.tmps.getD 17 undef))).symm
    have p1 : a'.tmps.getD 18 undef = .int .i64 (F) := (Option.some.inj (hall 1 _ 18 rfl rfl : some (.int .i64 (F)) = some (a'.tmps.getD 18 undef))).symm
    have p2 : a'.tmps.getD 19 undef = .agg #[.string (m), .string (q), .string (p), .slice (some ⟨gl, 0, none⟩) (l.length) (capl)] := (Option.some.inj (hall 2 _ 19 rfl rfl : some (.agg #[.string (m), .string (q), .string (p), .slice (some ⟨gl, 0, none⟩) (l.length) (capl)]) = some (a'.tmps.getD 19 undef))).symm
    have p3 : a'.tmps.getD 20 undef = .int .i64 (F) := (Option.some.inj (hall 3 _ 20 rfl rfl : some (.int .i64 (F)) = some (a'.tmps.getD 20 undef))).symm
    have p4 : a'.tmps.getD 21 undef = .bool false := (Option.some.inj (hall 4 _ 21 rfl rfl : some (.bool false) = some (a'.tmps.getD 21 undef))).symm
    have p5 : a'.tmps.getD 22 undef = .bool false := (Option.some.inj (hall 5 _ 22 rfl rfl : some (.bool false) = some (a'.tmps.getD 22 undef))).symm
    have p6 : a'.tmps.getD 23 undef = .agg #[.string (m), .string (q), .string (p), .slice (some ⟨gl, 0, none⟩) (l.length) (capl)] := (Option.some.inj (hall 6 _ 23 rfl rfl : some (.agg #[.string (m), .string (q), .string (p), .slice (some ⟨gl, 0, none⟩) (l.length) (capl)]) = some (a'.tmps.getD 23 undef))).symm
    have p7 : a'.tmps.getD 24 undef = .int .i64 (F) := (Option.some.inj (hall 7 _ 24 rfl rfl : some (.int .i64 (F)) = some (a'.tmps.getD 24 undef))).symm
    have p8 : a'.tmps.getD 25 undef = .pointer (some ⟨bA, 0, none⟩) := (Option.some.inj (hall 8 _ 25 rfl rfl : some (.pointer (some ⟨bA, 0, none⟩)) = some (a'.tmps.getD 25 undef))).symm
    have p9 : a'.tmps.getD 26 undef = .int .i64 (F) := (Option.some.inj (hall 9 _ 26 rfl rfl : some (.int .i64 (F)) = some (a'.tmps.getD 26 undef))).symm
    have p10 : a'.tmps.getD 27 undef = .bool false := (Option.some.inj (hall 10 _ 27 rfl rfl : some (.bool false) = some (a'.tmps.getD 27 undef))).symm
    have p11 : a'.tmps.getD 28 undef = .bool false := (Option.some.inj (hall 11 _ 28 rfl rfl : some (.bool false) = some (a'.tmps.getD 28 undef))).symm
    have p12 : a'.tmps.getD 29 undef = .bool false := (Option.some.inj (hall 12 _ 29 rfl rfl : some (.bool false) = some (a'.tmps.getD 29 undef))).symm
    have p13 : a'.tmps.getD 30 undef = .pointer (some ⟨bB, 0, none⟩) := (Option.some.inj (hall 13 _ 30 rfl rfl : some (.pointer (some ⟨bB, 0, none⟩)) = some (a'.tmps.getD 30 undef))).symm
    have p14 : a'.tmps.getD 31 undef = .int .i64 (G) := (Option.some.inj (hall 14 _ 31 rfl rfl : some (.int .i64 (G)) = some (a'.tmps.getD 31 undef))).symm
    have p15 : a'.tmps.getD 32 undef = .agg #[.int .i64 (t), .slice (some ⟨gr, 0, none⟩) (lr.length) (capr), .slice (some ⟨gb, 0, none⟩) (lb.length) (capb)] := (Option.some.inj (hall 15 _ 32 rfl rfl : some (.agg #[.int .i64 (t), .slice (some ⟨gr, 0, none⟩) (lr.length) (capr), .slice (some ⟨gb, 0, none⟩) (lb.length) (capb)]) = some (a'.tmps.getD 32 undef))).symm
    have p16 : a'.tmps.getD 33 undef = .int .i64 (G) := (Option.some.inj (hall 16 _ 33 rfl rfl : some (.int .i64 (G)) = some (a'.tmps.getD 33 undef))).symm
    have p17 : a'.tmps.getD 34 undef = .bool false := (Option.some.inj (hall 17 _ 34 rfl rfl : some (.bool false) = some (a'.tmps.getD 34 undef))).symm
    have p18 : a'.tmps.getD 35 undef = .bool false := (Option.some.inj (hall 18 _ 35 rfl rfl : some (.bool false) = some (a'.tmps.getD 35 undef))).symm
    have p19 : a'.tmps.getD 36 undef = .bool false := (Option.some.inj (hall 19 _ 36 rfl rfl : some (.bool false) = some (a'.tmps.getD 36 undef))).symm
    have p20 : a'.tmps.getD 37 undef = .agg #[.int .i64 (t), .slice (some ⟨gr, 0, none⟩) (lr.length) (capr), .slice (some ⟨gb, 0, none⟩) (lb.length) (capb)] := (Option.some.inj (hall 20 _ 37 rfl rfl : some (.agg #[.int .i64 (t), .slice (some ⟨gr, 0, none⟩) (lr.length) (capr), .slice (some ⟨gb, 0, none⟩) (lb.length) (capb)]) = some (a'.tmps.getD 37 undef))).symm
    have p21 : a'.tmps.getD 38 undef = .int .i64 (G) := (Option.some.inj (hall 21 _ 38 rfl rfl : some (.int .i64 (G)) = some (a'.tmps.getD 38 undef))).symm
    have p22 : a'.tmps.getD 39 undef = .pointer (some ⟨bB, 0, none⟩) := (Option.some.inj (hall 22 _ 39 rfl rfl : some (.pointer (some ⟨bB, 0, none⟩)) = some (a'.tmps.getD 39 undef))).symm
    have p23 : a'.tmps.getD 40 undef = .int .i64 (G) := (Option.some.inj (hall 23 _ 40 rfl rfl : some (.int .i64 (G)) = some (a'.tmps.getD 40 undef))).symm
    have p24 : a'.tmps.getD 41 undef = .bool false := (Option.some.inj (hall 24 _ 41 rfl rfl : some (.bool false) = some (a'.tmps.getD 41 undef))).symm
    have p25 : a'.tmps.getD 42 undef = .bool false := (Option.some.inj (hall 25 _ 42 rfl rfl : some (.bool false) = some (a'.tmps.getD 42 undef))).symm
    have ea := after_region [(17, _), (18, _), (19, _), (20, _), (21, _), (22, _), (23, _), (24, _), (25, _), (26, _), (27, _), (28, _), (29, _), (30, _), (31, _), (32, _), (33, _), (34, _), (35, _), (36, _), (37, _), (38, _), (39, _), (40, _), (41, _), (42, _)] ha hdf hrest (by kernel_rfl) (by simp only [List.forall_mem_cons]; exact ⟨p0, p1, p2, p3, p4, p5, p6, p7, p8, p9, p10, p11, p12, p13, p14, p15, p16, p17, p18, p19, p20, p21, p22, p23, p24, p25, fun _ h => by cases h⟩)
    subst ea
    simp only [List.foldl_cons, List.foldl_nil, List.setIfInBounds_toArray, List.set_cons_zero, List.set_cons_succ]
    clear p0 p1 p2 p3 p4 p5 p6 p7 p8 p9 p10 p11 p12 p13 p14 p15 p16 p17 p18 p19 p20 p21 p22 p23 p24 p25 hall hrest ha hdf
    have hzb : Below V.heap.size V W := hI
    have kQ := blk_then kQ hzb
    have kA := blk_then kA hzb
    have kR := blk_then kR hzb
    have kB := blk_then kB hzb
    have rdl := rdl.below hzb
    have rdr := rdr.below hzb
    have rdb := rdb.below hzb
    have rdA := rdA.below hzb
    have rdB := rdB.below hzb
    have hM := hM.then hzb
    have belV := below_then belV hzb
    clear hI hzb hcQ hcA hcR hcB C1 C2 C3 C4
    generalize W = z at *
    clear hb hc hf hz hlt hle hn1 hn2 hn3 hn4 hr0 hr1
    go_upto_region 9 with fail
    go_cut [61] (fun s61 wx => s61 = .bool false ∧ Below z.heap.size z wx)
    case first =>
      have hcQ := fun W (hI : Below z.heap.size z W) => cells4 (blk_then kQ hI)
      have hcA := fun W (hI : Below z.heap.size z W) => cells2 (blk_then kA hI)
      by_cases hc0 : F = 0
      · subst hc0
        have e0 : rqFault m q p l = 0 := Hpf.out.symm
        have hq := Hpq.out
        rw [packQ_ok e0] at hq
        have hLA : (reqS m q p l).data.toList = LA := (Prod.mk.inj hq).2
        have hbk := request_back e0
        rw [hLA] at hbk
        have hlen : LA.length ≤ 8000 := by
          by_cases hx : 8000 < LA.length
          · have e2 := reqR_many (t := LA) hx
            rw [e2] at hbk
            exact absurd (Prod.mk.inj hbk).1 (by decide)
          · omega
        have d1 := fun W hr hM => impl_ReadRequest aA LA.length cA LA rfl W hr (by omega) hM
        simp only [hbk] at d1
        have d2 := fun a c W hr hr' => impl_SameRequests m q p a l.length c l rfl m q p (some ⟨gl, 0, none⟩) l.length capl l rfl W hr hr' (by omega) (by omega)
        have hs : sameReq m q p l m q p l = true := by simp [sameReq]
        simp only [hs] at d2
        have D1 := Lib.hid d1
        have D2 := Lib.hid d2
        clear d1 d2 hbk hq hLA e0
        --LEAF again
        refine wp_region_relG (fun W => Below z.heap.size z W) (fun _ w w' => Below w.heap.size w w') (FF [.pointer (some ⟨bA, 0, none⟩), .int .i64 (0), .bool true, .bool true, .pointer (some ⟨bA, 1, none⟩), .slice (aA) (LA.length) (cA), undef, .int .i64 (0), .bool false, .bool false, .pointer (some ⟨bA, 1, none⟩), .slice (aA) (LA.length) (cA), undef, undef, .agg #[.string (m), .string (q), .string (p), .slice (some ⟨gl, 0, none⟩) (l.length) (capl)], .bool true, .bool false, .bool false, .bool false] [(6, SpQ (0) (m) (q) (p) (l.length) (hV l)), (12, SpQ (0) (m) (q) (p) (l.length) (hV l)), (13, SpQ1 (m) (q) (p) (l.length) (hV l))]) (fun _ => true) (by kernel_rfl) (by kernel_rfl) (guard_FF (by kernel_rfl) (by kernel_rfl)) ?_ (Below.refl _ _).drew (fun _ _ _ h1 h2 => below_then h1 h2) (fun _ _ _ _ _ _ _ h2 h3 => FF.keep (by simp only [List.forall_mem_cons]; exact ⟨SpQ.keep, SpQ.keep, SpQ1.keep, fun _ h => by cases h⟩) _ _ _ _ h2 h3) ?_ ?_ ?_
        · intro i w h; cases h
        · intro i o v w hi hd hF
          exact absurd hd (by have := unB_spec (k := 999) (by kernel_rfl) hi hd; have := (Array.getElem?_eq_some_iff.1 hi).1; simp at this; omega)
        · repeat' (refine And.intro ?_ ?_)
          · intro _ ρ W hI hbase hdep
            have hc : ∀ v, ρ (.const v) = v := fun v => hbase _ (fun _ _ _ _ _ e => by cases e)
            have b4 : ρ (.tmp 4) = .pointer (some ⟨bA, 0, none⟩) := hbase (.tmp 4) (base_tmp (by kernel_rfl))
            simp only [execOp, hc, b4]
            go_simp
            exact ⟨Below.refl _ _, rfl⟩
          · intro _ ρ W hI hbase hdep
            have hc : ∀ v, ρ (.const v) = v := fun v => hbase _ (fun _ _ _ _ _ e => by cases e)
            have p0 : ρ (.tmp 43) = .pointer (some ⟨bA, 0, none⟩) := (Option.some.inj (hdep ⟨0, .data⟩ (by simp) rfl _ 43 rfl rfl : some (.pointer (some ⟨bA, 0, none⟩)) = some (ρ (.tmp 43)))).symm
            obtain ⟨m0, m1⟩ := hcA W hI
            simp only [execOp, hc, p0]
            go_simp
            exact ⟨Below.refl _ _, rfl⟩
          · intro _ ρ W hI hbase hdep
            have hc : ∀ v, ρ (.const v) = v := fun v => hbase _ (fun _ _ _ _ _ e => by cases e)
            have p1 : ρ (.tmp 44) = .int .i64 (0) := (Option.some.inj (hdep ⟨1, .data⟩ (by simp) rfl _ 44 rfl rfl : some (.int .i64 (0)) = some (ρ (.tmp 44)))).symm
            simp only [execOp, hc, p1]
            go_simp
            exact ⟨Below.refl _ _, rfl⟩
          · intro _ ρ W hI hbase hdep
            have hc : ∀ v, ρ (.const v) = v := fun v => hbase _ (fun _ _ _ _ _ e => by cases e)
            have p2 : ρ (.tmp 45) = .bool true := (Option.some.inj (hdep ⟨2, .data⟩ (by simp) rfl _ 45 rfl rfl : some (.bool true) = some (ρ (.tmp 45)))).symm
            simp only [execOp, hc, p2]
            go_simp
            exact ⟨Below.refl _ _, rfl⟩
          · intro _ ρ W hI hbase hdep
            have hc : ∀ v, ρ (.const v) = v := fun v => hbase _ (fun _ _ _ _ _ e => by cases e)
            have b4 : ρ (.tmp 4) = .pointer (some ⟨bA, 0, none⟩) := hbase (.tmp 4) (base_tmp (by kernel_rfl))
            simp only [execOp, hc, b4]
            go_simp
            exact ⟨Below.refl _ _, rfl⟩
          · intro _ ρ W hI hbase hdep
            have hc : ∀ v, ρ (.const v) = v := fun v => hbase _ (fun _ _ _ _ _ e => by cases e)
            have p4 : ρ (.tmp 47) = .pointer (some ⟨bA, 1, none⟩) := (Option.some.inj (hdep ⟨4, .data⟩ (by simp) rfl _ 47 rfl rfl : some (.pointer (some ⟨bA, 1, none⟩)) = some (ρ (.tmp 47)))).symm
            obtain ⟨m0, m1⟩ := hcA W hI
            simp only [execOp, hc, p4]
            go_simp
            exact ⟨Below.refl _ _, rfl⟩
          · intro _ ρ W hI hbase hdep
            have hc : ∀ v, ρ (.const v) = v := fun v => hbase _ (fun _ _ _ _ _ e => by cases e)
            have hfn : ∀ f, ρ (.func f) = .func (.func f) #[] #[] := fun v => hbase _ (fun _ _ _ _ _ e => by cases e)
            have p5 : ρ (.tmp 48) = .slice (aA) (LA.length) (cA) := (Option.some.inj (hdep ⟨5, .data⟩ (by simp) rfl _ 48 rfl rfl : some (.slice (aA) (LA.length) (cA)) = some (ρ (.tmp 48)))).symm
            simp only [execOp, hc, hfn, p5]
            go_simp
            exact ⟨rfl, (D1.out W (rdA.below hI) (hM.then hI)).mono fun e w' ⟨a, n, c, h1, ⟨h2, h3⟩, h4⟩ => by subst h2; exact ⟨_, h1, h4, a, c, rfl, h3.rd⟩⟩
          · intro _ ρ W hI hbase hdep
            have hc : ∀ v, ρ (.const v) = v := fun v => hbase _ (fun _ _ _ _ _ e => by cases e)
            obtain ⟨a6, c6, p6, hsp6⟩ : ∃ a6 c6, ρ (.tmp 49) = .agg #[.int .i64 (0), .string (m), .string (q), .string (p), .slice (a6) (l.length) (c6)] ∧ Rd W a6 (hV l) := hdep ⟨6, .data⟩ (by simp) rfl _ 49 rfl rfl
            simp only [execOp, hc, p6]
            exact good_val (show (Instr.field 29 (.agg #[.int .i64 (0), .string (m), .string (q), .string (p), .slice (a6) (l.length) (c6)]) 0).run Tryz.prog W = .ok (.int .i64 (0)) W by kernel_rfl) ⟨Below.refl _ _, rfl⟩
          · intro _ ρ W hI hbase hdep
            have hc : ∀ v, ρ (.const v) = v := fun v => hbase _ (fun _ _ _ _ _ e => by cases e)
            have p7 : ρ (.tmp 50) = .int .i64 (0) := (Option.some.inj (hdep ⟨7, .data⟩ (by simp) rfl _ 50 rfl rfl : some (.int .i64 (0)) = some (ρ (.tmp 50)))).symm
            simp only [execOp, hc, p7]
            go_simp
            exact ⟨Below.refl _ _, rfl⟩
          · intro _ ρ W hI hbase hdep
            have hc : ∀ v, ρ (.const v) = v := fun v => hbase _ (fun _ _ _ _ _ e => by cases e)
            have p8 : ρ (.tmp 51) = .bool false := (Option.some.inj (hdep ⟨8, .data⟩ (by simp) rfl _ 51 rfl rfl : some (.bool false) = some (ρ (.tmp 51)))).symm
            simp only [execOp, hc, p8]
            go_simp
            exact ⟨Below.refl _ _, rfl⟩
          · intro _ ρ W hI hbase hdep
            have hc : ∀ v, ρ (.const v) = v := fun v => hbase _ (fun _ _ _ _ _ e => by cases e)
            have b4 : ρ (.tmp 4) = .pointer (some ⟨bA, 0, none⟩) := hbase (.tmp 4) (base_tmp (by kernel_rfl))
            simp only [execOp, hc, b4]
            go_simp
            exact ⟨Below.refl _ _, rfl⟩
          · intro _ ρ W hI hbase hdep
            have hc : ∀ v, ρ (.const v) = v := fun v => hbase _ (fun _ _ _ _ _ e => by cases e)
            have p10 : ρ (.tmp 53) = .pointer (some ⟨bA, 1, none⟩) := (Option.some.inj (hdep ⟨10, .data⟩ (by simp) rfl _ 53 rfl rfl : some (.pointer (some ⟨bA, 1, none⟩)) = some (ρ (.tmp 53)))).symm
            obtain ⟨m0, m1⟩ := hcA W hI
            simp only [execOp, hc, p10]
            go_simp
            exact ⟨Below.refl _ _, rfl⟩
          · intro _ ρ W hI hbase hdep
            have hc : ∀ v, ρ (.const v) = v := fun v => hbase _ (fun _ _ _ _ _ e => by cases e)
            have hfn : ∀ f, ρ (.func f) = .func (.func f) #[] #[] := fun v => hbase _ (fun _ _ _ _ _ e => by cases e)
            have p11 : ρ (.tmp 54) = .slice (aA) (LA.length) (cA) := (Option.some.inj (hdep ⟨11, .data⟩ (by simp) rfl _ 54 rfl rfl : some (.slice (aA) (LA.length) (cA)) = some (ρ (.tmp 54)))).symm
            simp only [execOp, hc, hfn, p11]
            go_simp
            exact ⟨rfl, (D1.out W (rdA.below hI) (hM.then hI)).mono fun e w' ⟨a, n, c, h1, ⟨h2, h3⟩, h4⟩ => by subst h2; exact ⟨_, h1, h4, a, c, rfl, h3.rd⟩⟩
          · intro _ ρ W hI hbase hdep
            have hc : ∀ v, ρ (.const v) = v := fun v => hbase _ (fun _ _ _ _ _ e => by cases e)
            obtain ⟨a12, c12, p12, hsp12⟩ : ∃ a12 c12, ρ (.tmp 55) = .agg #[.int .i64 (0), .string (m), .string (q), .string (p), .slice (a12) (l.length) (c12)] ∧ Rd W a12 (hV l) := hdep ⟨12, .data⟩ (by simp) rfl _ 55 rfl rfl
            simp only [execOp, hc, p12]
            exact good_val (show (Instr.field 29 (.agg #[.int .i64 (0), .string (m), .string (q), .string (p), .slice (a12) (l.length) (c12)]) 1).run Tryz.prog W = .ok (.agg #[.string (m), .string (q), .string (p), .slice (a12) (l.length) (c12)]) W by kernel_rfl) ⟨Below.refl _ _, a12, c12, rfl, hsp12⟩
          · intro _ ρ W hI hbase hdep
            have hc : ∀ v, ρ (.const v) = v := fun v => hbase _ (fun _ _ _ _ _ e => by cases e)
            have b3 : ρ (.tmp 3) = .pointer (some ⟨bQ, 0, none⟩) := hbase (.tmp 3) (base_tmp (by kernel_rfl))
            obtain ⟨m0, m1, m2, m3⟩ := hcQ W hI
            simp only [execOp, hc, b3]
            go_simp
            exact ⟨Below.refl _ _, rfl⟩
          · intro _ ρ W hI hbase hdep
            have hc : ∀ v, ρ (.const v) = v := fun v => hbase _ (fun _ _ _ _ _ e => by cases e)
            have hfn : ∀ f, ρ (.func f) = .func (.func f) #[] #[] := fun v => hbase _ (fun _ _ _ _ _ e => by cases e)
            obtain ⟨a13, c13, p13, hsp13⟩ : ∃ a13 c13, ρ (.tmp 56) = .agg #[.string (m), .string (q), .string (p), .slice (a13) (l.length) (c13)] ∧ Rd W a13 (hV l) := hdep ⟨13, .data⟩ (by simp) rfl _ 56 rfl rfl
            have p14 : ρ (.tmp 57) = .agg #[.string (m), .string (q), .string (p), .slice (some ⟨gl, 0, none⟩) (l.length) (capl)] := (Option.some.inj (hdep ⟨14, .data⟩ (by simp) rfl _ 57 rfl rfl : some (.agg #[.string (m), .string (q), .string (p), .slice (some ⟨gl, 0, none⟩) (l.length) (capl)]) = some (ρ (.tmp 57)))).symm
            simp only [execOp, hc, hfn, p13, p14]
            go_simp
            exact ⟨rfl, (D2.out a13 c13 W hsp13 (rdl.below hI)).mono fun e w' h => ⟨_, h.1, h.2, rfl⟩⟩
          · intro _ ρ W hI hbase hdep
            have hc : ∀ v, ρ (.const v) = v := fun v => hbase _ (fun _ _ _ _ _ e => by cases e)
            have p15 : ρ (.tmp 58) = .bool true := (Option.some.inj (hdep ⟨15, .data⟩ (by simp) rfl _ 58 rfl rfl : some (.bool true) = some (ρ (.tmp 58)))).symm
            simp only [execOp, hc, p15]
            go_simp
            exact ⟨Below.refl _ _, rfl⟩
          · intro _ ρ W hI hbase hdep
            have hc : ∀ v, ρ (.const v) = v := fun v => hbase _ (fun _ _ _ _ _ e => by cases e)
            have p9 : ρ (.tmp 52) = .bool false := (Option.some.inj (hdep ⟨9, .data⟩ (by simp) rfl _ 52 rfl rfl : some (.bool false) = some (ρ (.tmp 52)))).symm
            have p16 : ρ (.tmp 59) = .bool false := (Option.some.inj (hdep ⟨16, .data⟩ (by simp) rfl _ 59 rfl rfl : some (.bool false) = some (ρ (.tmp 59)))).symm
            simp only [execOp, hc, p9, p16]
            go_simp
            exact ⟨Below.refl _ _, rfl⟩
          · intro _ ρ W hI hbase hdep
            have hc : ∀ v, ρ (.const v) = v := fun v => hbase _ (fun _ _ _ _ _ e => by cases e)
            have p3 : ρ (.tmp 46) = .bool true := (Option.some.inj (hdep ⟨3, .data⟩ (by simp) rfl _ 46 rfl rfl : some (.bool true) = some (ρ (.tmp 46)))).symm
            have p17 : ρ (.tmp 60) = .bool false := (Option.some.inj (hdep ⟨17, .data⟩ (by simp) rfl _ 60 rfl rfl : some (.bool false) = some (ρ (.tmp 60)))).symm
            simp only [execOp, hc, p3, p17]
            go_simp
            exact ⟨Below.refl _ _, rfl⟩
          · trivial
        intro a' W hI ha hdf hall _ hrest
        have p0 : a'.tmps.getD 43 undef = .pointer (some ⟨bA, 0, none⟩) := (Option.some.inj (hall 0 _ 43 rfl rfl : some (.pointer (some ⟨bA, 0, none⟩)) = some (a'.tmps.getD 43 undef))).symm
        have p1 : a'.tmps.getD 44 undef = .int .i64 (0) := (Option.some.inj (hall 1 _ 44 rfl rfl : some (.int .i64 (0)) = some (a'.tmps.getD 44 undef))).symm
        have p2 : a'.tmps.getD 45 undef = .bool true := (Option.some.inj (hall 2 _ 45 rfl rfl : some (.bool true) = some (a'.tmps.getD 45 undef))).symm
        have p3 : a'.tmps.getD 46 undef = .bool true := (Option.some.inj (hall 3 _ 46 rfl rfl : some (.bool true) = some (a'.tmps.getD 46 undef))).symm
        have p4 : a'.tmps.getD 47 undef = .pointer (some ⟨bA, 1, none⟩) := (Option.some.inj (hall 4 _ 47 rfl rfl : some (.pointer (some ⟨bA, 1, none⟩)) = some (a'.tmps.getD 47 undef))).symm
        have p5 : a'.tmps.getD 48 undef = .slice (aA) (LA.length) (cA) := (Option.some.inj (hall 5 _ 48 rfl rfl : some (.slice (aA) (LA.length) (cA)) = some (a'.tmps.getD 48 undef))).symm
        obtain ⟨a6, c6, p6, hsp6⟩ : ∃ a6 c6, a'.tmps.getD 49 undef = .agg #[.int .i64 (0), .string (m), .string (q), .string (p), .slice (a6) (l.length) (c6)] ∧ Rd W a6 (hV l) := hall 6 _ 49 rfl rfl
        have p7 : a'.tmps.getD 50 undef = .int .i64 (0) := (Option.some.inj (hall 7 _ 50 rfl rfl : some (.int .i64 (0)) = some (a'.tmps.getD 50 undef))).symm
        have p8 : a'.tmps.getD 51 undef = .bool false := (Option.some.inj (hall 8 _ 51 rfl rfl : some (.bool false) = some (a'.tmps.getD 51 undef))).symm
        have p9 : a'.tmps.getD 52 undef = .bool false := (Option.some.inj (hall 9 _ 52 rfl rfl : some (.bool false) = some (a'.tmps.getD 52 undef))).symm
        have p10 : a'.tmps.getD 53 undef = .pointer (some ⟨bA, 1, none⟩) := (Option.some.inj (hall 10 _ 53 rfl rfl : some (.pointer (some ⟨bA, 1, none⟩)) = some (a'.tmps.getD 53 undef))).symm
        have p11 : a'.tmps.getD 54 undef = .slice (aA) (LA.length) (cA) := (Option.some.inj (hall 11 _ 54 rfl rfl : some (.slice (aA) (LA.length) (cA)) = some (a'.tmps.getD 54 undef))).symm
        obtain ⟨a12, c12, p12, hsp12⟩ : ∃ a12 c12, a'.tmps.getD 55 undef = .agg #[.int .i64 (0), .string (m), .string (q), .string (p), .slice (a12) (l.length) (c12)] ∧ Rd W a12 (hV l) := hall 12 _ 55 rfl rfl
        obtain ⟨a13, c13, p13, hsp13⟩ : ∃ a13 c13, a'.tmps.getD 56 undef = .agg #[.string (m), .string (q), .string (p), .slice (a13) (l.length) (c13)] ∧ Rd W a13 (hV l) := hall 13 _ 56 rfl rfl
        have p14 : a'.tmps.getD 57 undef = .agg #[.string (m), .string (q), .string (p), .slice (some ⟨gl, 0, none⟩) (l.length) (capl)] := (Option.some.inj (hall 14 _ 57 rfl rfl : some (.agg #[.string (m), .string (q), .string (p), .slice (some ⟨gl, 0, none⟩) (l.length) (capl)]) = some (a'.tmps.getD 57 undef))).symm
        have p15 : a'.tmps.getD 58 undef = .bool true := (Option.some.inj (hall 15 _ 58 rfl rfl : some (.bool true) = some (a'.tmps.getD 58 undef))).symm
        have p16 : a'.tmps.getD 59 undef = .bool false := (Option.some.inj (hall 16 _ 59 rfl rfl : some (.bool false) = some (a'.tmps.getD 59 undef))).symm
        have p17 : a'.tmps.getD 60 undef = .bool false := (Option.some.inj (hall 17 _ 60 rfl rfl : some (.bool false) = some (a'.tmps.getD 60 undef))).symm
        have p18 : a'.tmps.getD 61 undef = .bool false := (Option.some.inj (hall 18 _ 61 rfl rfl : some (.bool false) = some (a'.tmps.getD 61 undef))).symm
        have ea := after_region [(43, _), (44, _), (45, _), (46, _), (47, _), (48, _), (49, _), (50, _), (51, _), (52, _), (53, _), (54, _), (55, _), (56, _), (57, _), (58, _), (59, _), (60, _), (61, _)] ha hdf hrest (by kernel_rfl) (by simp only [List.forall_mem_cons]; exact ⟨p0, p1, p2, p3, p4, p5, p6, p7, p8, p9, p10, p11, p12, p13, p14, p15, p16, p17, p18, fun _ h => by cases h⟩)
        subst ea
        simp only [List.foldl_cons, List.foldl_nil, List.setIfInBounds_toArray, List.set_cons_zero, List.set_cons_succ]
        clear p0 p1 p2 p3 p4 p5 p6 p7 p8 p9 p10 p11 p12 p13 p14 p15 p16 p17 p18 hall hrest ha hdf
        go_wp2_with fail
        go_meet
        exact ⟨rfl, hI⟩
        --END
      · have hcb : (F == 0) = false := by rw [beq_eq_false_iff_ne]; exact hc0
        --LEAF notagain
        refine wp_region_relG (fun W => Below z.heap.size z W) (fun _ w w' => Below w.heap.size w w') (FF [.pointer (some ⟨bA, 0, none⟩), .int .i64 (F), .bool false, .bool false, undef, undef, undef, undef, undef, undef, undef, undef, undef, undef, undef, undef, undef, undef, .bool false] []) (fun i => !(decide (i = 4) || decide (i = 5) || decide (i = 6) || decide (i = 7) || decide (i = 8) || decide (i = 9) || decide (i = 10) || decide (i = 11) || decide (i = 12) || decide (i = 13) || decide (i = 14) || decide (i = 15) || decide (i = 16) || decide (i = 17))) (by kernel_rfl) (by kernel_rfl) (guard_FF (by kernel_rfl) (by kernel_rfl)) ?_ (Below.refl _ _).drew (fun _ _ _ h1 h2 => below_then h1 h2) (fun _ _ _ _ _ _ _ h2 h3 => FF.keep (fun _ h => by cases h) _ _ _ _ h2 h3) ?_ ?_ ?_
        · intro i w h _
          simp only [Bool.not_eq_false', Bool.or_eq_true, decide_eq_true_eq] at h
          rcases (show i = 4 ∨ i = 5 ∨ i = 6 ∨ i = 7 ∨ i = 8 ∨ i = 9 ∨ i = 10 ∨ i = 11 ∨ i = 12 ∨ i = 13 ∨ i = 14 ∨ i = 15 ∨ i = 16 ∨ i = 17 by omega) with rfl | rfl | rfl | rfl | rfl | rfl | rfl | rfl | rfl | rfl | rfl | rfl | rfl | rfl <;> rfl
        · intro i o v w hi hd hF
          exact absurd hd (by have := unB_spec (k := 999) (by kernel_rfl) hi hd; have := (Array.getElem?_eq_some_iff.1 hi).1; simp at this; omega)
        · repeat' (refine And.intro ?_ ?_)
          · intro _ ρ W hI hbase hdep
            have hc : ∀ v, ρ (.const v) = v := fun v => hbase _ (fun _ _ _ _ _ e => by cases e)
            have b4 : ρ (.tmp 4) = .pointer (some ⟨bA, 0, none⟩) := hbase (.tmp 4) (base_tmp (by kernel_rfl))
            simp only [execOp, hc, b4]
            go_simp
            exact ⟨Below.refl _ _, rfl⟩
          · intro _ ρ W hI hbase hdep
            have hc : ∀ v, ρ (.const v) = v := fun v => hbase _ (fun _ _ _ _ _ e => by cases e)
            have p0 : ρ (.tmp 43) = .pointer (some ⟨bA, 0, none⟩) := (Option.some.inj (hdep ⟨0, .data⟩ (by simp) rfl _ 43 rfl rfl : some (.pointer (some ⟨bA, 0, none⟩)) = some (ρ (.tmp 43)))).symm
            obtain ⟨m0, m1⟩ := hcA W hI
            simp only [execOp, hc, p0]
            go_simp
            exact ⟨Below.refl _ _, rfl⟩
          · intro _ ρ W hI hbase hdep
            have hc : ∀ v, ρ (.const v) = v := fun v => hbase _ (fun _ _ _ _ _ e => by cases e)
            have p1 : ρ (.tmp 44) = .int .i64 (F) := (Option.some.inj (hdep ⟨1, .data⟩ (by simp) rfl _ 44 rfl rfl : some (.int .i64 (F)) = some (ρ (.tmp 44)))).symm
            simp only [execOp, hc, p1]
            go_simp
            exact ⟨Below.refl _ _, rfl⟩
          · intro _ ρ W hI hbase hdep
            have hc : ∀ v, ρ (.const v) = v := fun v => hbase _ (fun _ _ _ _ _ e => by cases e)
            have p2 : ρ (.tmp 45) = .bool false := (Option.some.inj (hdep ⟨2, .data⟩ (by simp) rfl _ 45 rfl rfl : some (.bool false) = some (ρ (.tmp 45)))).symm
            simp only [execOp, hc, p2]
            go_simp
            exact ⟨Below.refl _ _, rfl⟩
          · intro h; exact absurd h (by decide)
          · intro h; exact absurd h (by decide)
          · intro h; exact absurd h (by decide)
          · intro h; exact absurd h (by decide)
          · intro h; exact absurd h (by decide)
          · intro h; exact absurd h (by decide)
          · intro h; exact absurd h (by decide)
          · intro h; exact absurd h (by decide)
          · intro h; exact absurd h (by decide)
          · intro h; exact absurd h (by decide)
          · intro h; exact absurd h (by decide)
          · intro h; exact absurd h (by decide)
          · intro h; exact absurd h (by decide)
          · intro h; exact absurd h (by decide)
          · intro _ ρ W hI hbase hdep
            have hc : ∀ v, ρ (.const v) = v := fun v => hbase _ (fun _ _ _ _ _ e => by cases e)
            have p3 : ρ (.tmp 46) = .bool false := (Option.some.inj (hdep ⟨3, .data⟩ (by simp) rfl _ 46 rfl rfl : some (.bool false) = some (ρ (.tmp 46)))).symm
            have p17 : ρ (.tmp 60) = undef := (Option.some.inj (hdep ⟨17, .data⟩ (by simp) rfl _ 60 rfl rfl : some (undef) = some (ρ (.tmp 60)))).symm
            simp only [execOp, hc, p3, p17]
            go_simp
            exact ⟨Below.refl _ _, rfl⟩
          · trivial
        intro a' W hI ha hdf hall _ hrest
        have p0 : a'.tmps.getD 43 undef = .pointer (some ⟨bA, 0, none⟩) := (Option.some.inj (hall 0 _ 43 rfl rfl : some (.pointer (some ⟨bA, 0, none⟩)) = some (a'.tmps.getD 43 undef))).symm
        have p1 : a'.tmps.getD 44 undef = .int .i64 (F) := (Option.some.inj (hall 1 _ 44 rfl rfl : some (.int .i64 (F)) = some (a'.tmps.getD 44 undef))).symm
        have p2 : a'.tmps.getD 45 undef = .bool false := (Option.some.inj (hall 2 _ 45 rfl rfl : some (.bool false) = some (a'.tmps.getD 45 undef))).symm
        have p3 : a'.tmps.getD 46 undef = .bool false := (Option.some.inj (hall 3 _ 46 rfl rfl : some (.bool false) = some (a'.tmps.getD 46 undef))).symm
        have p4 : a'.tmps.getD 47 undef = undef := (Option.some.inj (hall 4 _ 47 rfl rfl : some (undef) = some (a'.tmps.getD 47 undef))).symm
        have p5 : a'.tmps.getD 48 undef = undef := (Option.some.inj (hall 5 _ 48 rfl rfl : some (undef) = some (a'.tmps.getD 48 undef))).symm
        have p6 : a'.tmps.getD 49 undef = undef := (Option.some.inj (hall 6 _ 49 rfl rfl : some (undef) = some (a'.tmps.getD 49 undef))).symm
        have p7 : a'.tmps.getD 50 undef = undef := (Option.some.inj (hall 7 _ 50 rfl rfl : some (undef) = some (a'.tmps.getD 50 undef))).symm
        have p8 : a'.tmps.getD 51 undef = undef := (Option.some.inj (hall 8 _ 51 rfl rfl : some (undef) = some (a'.tmps.getD 51 undef))).symm
        have p9 : a'.tmps.getD 52 undef = undef := (Option.some.inj (hall 9 _ 52 rfl rfl : some (undef) = some (a'.tmps.getD 52 undef))).symm
        have p10 : a'.tmps.getD 53 undef = undef := (Option.some.inj (hall 10 _ 53 rfl rfl : some (undef) = some (a'.tmps.getD 53 undef))).symm
        have p11 : a'.tmps.getD 54 undef = undef := (Option.some.inj (hall 11 _ 54 rfl rfl : some (undef) = some (a'.tmps.getD 54 undef))).symm
        have p12 : a'.tmps.getD 55 undef = undef := (Option.some.inj (hall 12 _ 55 rfl rfl : some (undef) = some (a'.tmps.getD 55 undef))).symm
        have p13 : a'.tmps.getD 56 undef = undef := (Option.some.inj (hall 13 _ 56 rfl rfl : some (undef) = some (a'.tmps.getD 56 undef))).symm
        have p14 : a'.tmps.getD 57 undef = undef := (Option.some.inj (hall 14 _ 57 rfl rfl : some (undef) = some (a'.tmps.getD 57 undef))).symm
        have p15 : a'.tmps.getD 58 undef = undef := (Option.some.inj (hall 15 _ 58 rfl rfl : some (undef) = some (a'.tmps.getD 58 undef))).symm
        have p16 : a'.tmps.getD 59 undef = undef := (Option.some.inj (hall 16 _ 59 rfl rfl : some (undef) = some (a'.tmps.getD 59 undef))).symm
        have p17 : a'.tmps.getD 60 undef = undef := (Option.some.inj (hall 17 _ 60 rfl rfl : some (undef) = some (a'.tmps.getD 60 undef))).symm
        have p18 : a'.tmps.getD 61 undef = .bool false := (Option.some.inj (hall 18 _ 61 rfl rfl : some (.bool false) = some (a'.tmps.getD 61 undef))).symm
        have ea := after_region [(43, _), (44, _), (45, _), (46, _), (47, _), (48, _), (49, _), (50, _), (51, _), (52, _), (53, _), (54, _), (55, _), (56, _), (57, _), (58, _), (59, _), (60, _), (61, _)] ha hdf hrest (by kernel_rfl) (by simp only [List.forall_mem_cons]; exact ⟨p0, p1, p2, p3, p4, p5, p6, p7, p8, p9, p10, p11, p12, p13, p14, p15, p16, p17, p18, fun _ h => by cases h⟩)
        subst ea
        simp only [List.foldl_cons, List.foldl_nil, List.setIfInBounds_toArray, List.set_cons_zero, List.set_cons_succ]
        clear p0 p1 p2 p3 p4 p5 p6 p7 p8 p9 p10 p11 p12 p13 p14 p15 p16 p17 p18 hall hrest ha hdf
        go_wp2_with fail
        go_meet
        exact ⟨rfl, hI⟩
        --END
    case rest =>
      obtain ⟨rfl, hbc⟩ := hcut
      have kQ := blk_then kQ hbc
      have kA := blk_then kA hbc
      have kR := blk_then kR hbc
      have kB := blk_then kB hbc
      have rdl := rdl.below hbc
      have rdr := rdr.below hbc
      have rdb := rdb.below hbc
      have rdA := rdA.below hbc
      have rdB := rdB.below hbc
      have hM := hM.then hbc
      have belV := below_then belV hbc
      clear hbc
      go_upto_region 11 with fail
      have hcR := fun W (hI : Below wc.heap.size wc W) => cells3 (blk_then kR hI)
      have hcB := fun W (hI : Below wc.heap.size wc W) => cells2 (blk_then kB hI)
      by_cases hc0 : G = 0
      · subst hc0
        have e0 : rspFault t lr lb.length = 0 := Hpg.out.symm
        have hq := Hpp.out
        rw [packP_ok e0] at hq
        have hLB : (rspS t lr).data.toList ++ lb = LB := (Prod.mk.inj hq).2
        have hbk := response_back e0
        rw [hLB] at hbk
        have hlen : LB.length ≤ 10000 := by
          by_cases hx : 10000 < LB.length
          · have e2 := rspR_many (t := LB) hx
            rw [e2] at hbk
            exact absurd (Prod.mk.inj hbk).1 (by decide)
          · omega
        have g1 := fun W hr hM => impl_ReadResponse aB LB.length cB LB rfl W hr (by omega) hM
        simp only [hbk] at g1
        have g2 := fun a c ab cb W hr hr' hrb hrb' => impl_SameResponses t a lr.length c lr rfl ab lb.length cb lb rfl t (some ⟨gr, 0, none⟩) lr.length capr lr rfl (some ⟨gb, 0, none⟩) lb.length capb lb rfl W hr hr' hrb hrb' (by omega) (by omega)
        have g3 := fun a c ab cb W hr hr' hrb hrb' => spec_SameResponses t a lr.length c lr rfl ab lb.length cb lb rfl t (some ⟨gr, 0, none⟩) lr.length capr lr rfl (some ⟨gb, 0, none⟩) lb.length capb lb rfl W hr hr' hrb hrb' (by omega) (by omega)
        have hs : sameRsp t lr lb t lr lb = true := by simp [sameRsp]
        simp only [hs] at g2 g3
        have G1 := Lib.hid g1
        have G2 := Lib.hid g2
        have G3 := Lib.hid g3
        clear g1 g2 g3 hbk hq hLB e0 hs
        --LEAF rsp
        refine wp_region_relG (fun W => Below wc.heap.size wc W) (fun _ w w' => Below w.heap.size w w') (FF [.pointer (some ⟨bB, 0, none⟩), .int .i64 (0), .bool false, .bool false, .pointer (some ⟨bB, 1, none⟩), .slice (aB) (LB.length) (cB), undef, .int .i64 (0), .bool true, .bool true, .pointer (some ⟨bB, 1, none⟩), .slice (aB) (LB.length) (cB), undef, undef, .agg #[.int .i64 (t), .slice (some ⟨gr, 0, none⟩) (lr.length) (capr), .slice (some ⟨gb, 0, none⟩) (lb.length) (capb)], .bool true, .bool true, .bool true, .pointer (some ⟨bB, 1, none⟩), .slice (aB) (LB.length) (cB), undef, undef, .agg #[.int .i64 (t), .slice (some ⟨gr, 0, none⟩) (lr.length) (capr), .slice (some ⟨gb, 0, none⟩) (lb.length) (capb)], .bool true, .bool true, .bool true, .bool true] [(6, SpT (0) (t) (lr.length) (hV lr) (lb.length) (bV lb)), (12, SpT (0) (t) (lr.length) (hV lr) (lb.length) (bV lb)), (13, SpT1 (t) (lr.length) (hV lr) (lb.length) (bV lb)), (20, SpT (0) (t) (lr.length) (hV lr) (lb.length) (bV lb)), (21, SpT1 (t) (lr.length) (hV lr) (lb.length) (bV lb))]) (fun _ => true) (by kernel_rfl) (by kernel_rfl) (guard_FF (by kernel_rfl) (by kernel_rfl)) ?_ (Below.refl _ _).drew (fun _ _ _ h1 h2 => below_then h1 h2) (fun _ _ _ _ _ _ _ h2 h3 => FF.keep (by simp only [List.forall_mem_cons]; exact ⟨SpT.keep, SpT.keep, SpT1.keep, SpT.keep, SpT1.keep, fun _ h => by cases h⟩) _ _ _ _ h2 h3) ?_ ?_ ?_
        · intro i w h; cases h
        · intro i o v w hi hd hF
          exact absurd hd (by have := unB_spec (k := 999) (by kernel_rfl) hi hd; have := (Array.getElem?_eq_some_iff.1 hi).1; simp at this; omega)
        · repeat' (refine And.intro ?_ ?_)
          · intro _ ρ W hI hbase hdep
            have hc : ∀ v, ρ (.const v) = v := fun v => hbase _ (fun _ _ _ _ _ e => by cases e)
            have b6 : ρ (.tmp 6) = .pointer (some ⟨bB, 0, none⟩) := hbase (.tmp 6) (base_tmp (by kernel_rfl))
            simp only [execOp, hc, b6]
            go_simp
            exact ⟨Below.refl _ _, rfl⟩
          · intro _ ρ W hI hbase hdep
            have hc : ∀ v, ρ (.const v) = v := fun v => hbase _ (fun _ _ _ _ _ e => by cases e)
            have p0 : ρ (.tmp 62) = .pointer (some ⟨bB, 0, none⟩) := (Option.some.inj (hdep ⟨0, .data⟩ (by simp) rfl _ 62 rfl rfl : some (.pointer (some ⟨bB, 0, none⟩)) = some (ρ (.tmp 62)))).symm
            obtain ⟨m0, m1⟩ := hcB W hI
            simp only [execOp, hc, p0]
            go_simp
            exact ⟨Below.refl _ _, rfl⟩
          · intro _ ρ W hI hbase hdep
            have hc : ∀ v, ρ (.const v) = v := fun v => hbase _ (fun _ _ _ _ _ e => by cases e)
            have p1 : ρ (.tmp 63) = .int .i64 (0) := (Option.some.inj (hdep ⟨1, .data⟩ (by simp) rfl _ 63 rfl rfl : some (.int .i64 (0)) = some (ρ (.tmp 63)))).symm
            simp only [execOp, hc, p1]
            go_simp
            exact ⟨Below.refl _ _, rfl⟩
          · intro _ ρ W hI hbase hdep
            have hc : ∀ v, ρ (.const v) = v := fun v => hbase _ (fun _ _ _ _ _ e => by cases e)
            have p2 : ρ (.tmp 64) = .bool false := (Option.some.inj (hdep ⟨2, .data⟩ (by simp) rfl _ 64 rfl rfl : some (.bool false) = some (ρ (.tmp 64)))).symm
            simp only [execOp, hc, p2]
            go_simp
            exact ⟨Below.refl _ _, rfl⟩
          · intro _ ρ W hI hbase hdep
            have hc : ∀ v, ρ (.const v) = v := fun v => hbase _ (fun _ _ _ _ _ e => by cases e)
            have b6 : ρ (.tmp 6) = .pointer (some ⟨bB, 0, none⟩) := hbase (.tmp 6) (base_tmp (by kernel_rfl))
            simp only [execOp, hc, b6]
            go_simp
            exact ⟨Below.refl _ _, rfl⟩
          · intro _ ρ W hI hbase hdep
            have hc : ∀ v, ρ (.const v) = v := fun v => hbase _ (fun _ _ _ _ _ e => by cases e)
            have p4 : ρ (.tmp 66) = .pointer (some ⟨bB, 1, none⟩) := (Option.some.inj (hdep ⟨4, .data⟩ (by simp) rfl _ 66 rfl rfl : some (.pointer (some ⟨bB, 1, none⟩)) = some (ρ (.tmp 66)))).symm
            obtain ⟨m0, m1⟩ := hcB W hI
            simp only [execOp, hc, p4]
            go_simp
            exact ⟨Below.refl _ _, rfl⟩
          · intro _ ρ W hI hbase hdep
            have hc : ∀ v, ρ (.const v) = v := fun v => hbase _ (fun _ _ _ _ _ e => by cases e)
            have hfn : ∀ f, ρ (.func f) = .func (.func f) #[] #[] := fun v => hbase _ (fun _ _ _ _ _ e => by cases e)
            have p5 : ρ (.tmp 67) = .slice (aB) (LB.length) (cB) := (Option.some.inj (hdep ⟨5, .data⟩ (by simp) rfl _ 67 rfl rfl : some (.slice (aB) (LB.length) (cB)) = some (ρ (.tmp 67)))).symm
            simp only [execOp, hc, hfn, p5]
            go_simp
            exact ⟨rfl, (G1.out W (rdB.below hI) (hM.then hI)).mono fun e w' ⟨a, n, c, ab, nb, cb, mid, h1, ⟨h2, h3⟩, _, h4, h5, h6⟩ => by subst h2; subst h3; exact ⟨_, h1, h6, a, c, ab, cb, rfl, h4.rd, h5.rd⟩⟩
          · intro _ ρ W hI hbase hdep
            have hc : ∀ v, ρ (.const v) = v := fun v => hbase _ (fun _ _ _ _ _ e => by cases e)
            obtain ⟨a6, c6, ab6, cb6, p6, hsp6⟩ : ∃ a6 c6 ab6 cb6, ρ (.tmp 68) = .agg #[.int .i64 (0), .int .i64 (t), .slice (a6) (lr.length) (c6), .slice (ab6) (lb.length) (cb6)] ∧ Rd W a6 (hV lr) ∧ Rd W ab6 (bV lb) := hdep ⟨6, .data⟩ (by simp) rfl _ 68 rfl rfl
            simp only [execOp, hc, p6]
            exact good_val (show (Instr.field 34 (.agg #[.int .i64 (0), .int .i64 (t), .slice (a6) (lr.length) (c6), .slice (ab6) (lb.length) (cb6)]) 0).run Tryz.prog W = .ok (.int .i64 (0)) W by kernel_rfl) ⟨Below.refl _ _, rfl⟩
          · intro _ ρ W hI hbase hdep
            have hc : ∀ v, ρ (.const v) = v := fun v => hbase _ (fun _ _ _ _ _ e => by cases e)
            have p7 : ρ (.tmp 69) = .int .i64 (0) := (Option.some.inj (hdep ⟨7, .data⟩ (by simp) rfl _ 69 rfl rfl : some (.int .i64 (0)) = some (ρ (.tmp 69)))).symm
            simp only [execOp, hc, p7]
            go_simp
            exact ⟨Below.refl _ _, rfl⟩
          · intro _ ρ W hI hbase hdep
            have hc : ∀ v, ρ (.const v) = v := fun v => hbase _ (fun _ _ _ _ _ e => by cases e)
            have p8 : ρ (.tmp 70) = .bool true := (Option.some.inj (hdep ⟨8, .data⟩ (by simp) rfl _ 70 rfl rfl : some (.bool true) = some (ρ (.tmp 70)))).symm
            simp only [execOp, hc, p8]
            go_simp
            exact ⟨Below.refl _ _, rfl⟩
          · intro _ ρ W hI hbase hdep
            have hc : ∀ v, ρ (.const v) = v := fun v => hbase _ (fun _ _ _ _ _ e => by cases e)
            have b6 : ρ (.tmp 6) = .pointer (some ⟨bB, 0, none⟩) := hbase (.tmp 6) (base_tmp (by kernel_rfl))
            simp only [execOp, hc, b6]
            go_simp
            exact ⟨Below.refl _ _, rfl⟩
          · intro _ ρ W hI hbase hdep
            have hc : ∀ v, ρ (.const v) = v := fun v => hbase _ (fun _ _ _ _ _ e => by cases e)
            have p10 : ρ (.tmp 72) = .pointer (some ⟨bB, 1, none⟩) := (Option.some.inj (hdep ⟨10, .data⟩ (by simp) rfl _ 72 rfl rfl : some (.pointer (some ⟨bB, 1, none⟩)) = some (ρ (.tmp 72)))).symm
            obtain ⟨m0, m1⟩ := hcB W hI
            simp only [execOp, hc, p10]
            go_simp
            exact ⟨Below.refl _ _, rfl⟩
          · intro _ ρ W hI hbase hdep
            have hc : ∀ v, ρ (.const v) = v := fun v => hbase _ (fun _ _ _ _ _ e => by cases e)
            have hfn : ∀ f, ρ (.func f) = .func (.func f) #[] #[] := fun v => hbase _ (fun _ _ _ _ _ e => by cases e)
            have p11 : ρ (.tmp 73) = .slice (aB) (LB.length) (cB) := (Option.some.inj (hdep ⟨11, .data⟩ (by simp) rfl _ 73 rfl rfl : some (.slice (aB) (LB.length) (cB)) = some (ρ (.tmp 73)))).symm
            simp only [execOp, hc, hfn, p11]
            go_simp
            exact ⟨rfl, (G1.out W (rdB.below hI) (hM.then hI)).mono fun e w' ⟨a, n, c, ab, nb, cb, mid, h1, ⟨h2, h3⟩, _, h4, h5, h6⟩ => by subst h2; subst h3; exact ⟨_, h1, h6, a, c, ab, cb, rfl, h4.rd, h5.rd⟩⟩
          · intro _ ρ W hI hbase hdep
            have hc : ∀ v, ρ (.const v) = v := fun v => hbase _ (fun _ _ _ _ _ e => by cases e)
            obtain ⟨a12, c12, ab12, cb12, p12, hsp12⟩ : ∃ a12 c12 ab12 cb12, ρ (.tmp 74) = .agg #[.int .i64 (0), .int .i64 (t), .slice (a12) (lr.length) (c12), .slice (ab12) (lb.length) (cb12)] ∧ Rd W a12 (hV lr) ∧ Rd W ab12 (bV lb) := hdep ⟨12, .data⟩ (by simp) rfl _ 74 rfl rfl
            simp only [execOp, hc, p12]
            exact good_val (show (Instr.field 34 (.agg #[.int .i64 (0), .int .i64 (t), .slice (a12) (lr.length) (c12), .slice (ab12) (lb.length) (cb12)]) 1).run Tryz.prog W = .ok (.agg #[.int .i64 (t), .slice (a12) (lr.length) (c12), .slice (ab12) (lb.length) (cb12)]) W by kernel_rfl) ⟨Below.refl _ _, a12, c12, ab12, cb12, rfl, hsp12⟩
          · intro _ ρ W hI hbase hdep
            have hc : ∀ v, ρ (.const v) = v := fun v => hbase _ (fun _ _ _ _ _ e => by cases e)
            have b5 : ρ (.tmp 5) = .pointer (some ⟨bR, 0, none⟩) := hbase (.tmp 5) (base_tmp (by kernel_rfl))
            obtain ⟨m0, m1, m2⟩ := hcR W hI
            simp only [execOp, hc, b5]
            go_simp
            exact ⟨Below.refl _ _, rfl⟩
          · intro _ ρ W hI hbase hdep
            have hc : ∀ v, ρ (.const v) = v := fun v => hbase _ (fun _ _ _ _ _ e => by cases e)
            have hfn : ∀ f, ρ (.func f) = .func (.func f) #[] #[] := fun v => hbase _ (fun _ _ _ _ _ e => by cases e)
            obtain ⟨a13, c13, ab13, cb13, p13, hsp13⟩ : ∃ a13 c13 ab13 cb13, ρ (.tmp 75) = .agg #[.int .i64 (t), .slice (a13) (lr.length) (c13), .slice (ab13) (lb.length) (cb13)] ∧ Rd W a13 (hV lr) ∧ Rd W ab13 (bV lb) := hdep ⟨13, .data⟩ (by simp) rfl _ 75 rfl rfl
            have p14 : ρ (.tmp 76) = .agg #[.int .i64 (t), .slice (some ⟨gr, 0, none⟩) (lr.length) (capr), .slice (some ⟨gb, 0, none⟩) (lb.length) (capb)] := (Option.some.inj (hdep ⟨14, .data⟩ (by simp) rfl _ 76 rfl rfl : some (.agg #[.int .i64 (t), .slice (some ⟨gr, 0, none⟩) (lr.length) (capr), .slice (some ⟨gb, 0, none⟩) (lb.length) (capb)]) = some (ρ (.tmp 76)))).symm
            simp only [execOp, hc, hfn, p13, p14]
            go_simp
            exact ⟨rfl, (G2.out a13 c13 ab13 cb13 W hsp13.1 (rdr.below hI) hsp13.2 (rdb.below hI)).mono fun e w' h => ⟨_, h.1, h.2, rfl⟩⟩
          · intro _ ρ W hI hbase hdep
            have hc : ∀ v, ρ (.const v) = v := fun v => hbase _ (fun _ _ _ _ _ e => by cases e)
            have p9 : ρ (.tmp 71) = .bool true := (Option.some.inj (hdep ⟨9, .data⟩ (by simp) rfl _ 71 rfl rfl : some (.bool true) = some (ρ (.tmp 71)))).symm
            have p15 : ρ (.tmp 77) = .bool true := (Option.some.inj (hdep ⟨15, .data⟩ (by simp) rfl _ 77 rfl rfl : some (.bool true) = some (ρ (.tmp 77)))).symm
            simp only [execOp, hc, p9, p15]
            go_simp
            exact ⟨Below.refl _ _, rfl⟩
          · intro _ ρ W hI hbase hdep
            have hc : ∀ v, ρ (.const v) = v := fun v => hbase _ (fun _ _ _ _ _ e => by cases e)
            have p16 : ρ (.tmp 78) = .bool true := (Option.some.inj (hdep ⟨16, .data⟩ (by simp) rfl _ 78 rfl rfl : some (.bool true) = some (ρ (.tmp 78)))).symm
            simp only [execOp, hc, p16]
            go_simp
            exact ⟨Below.refl _ _, rfl⟩
          · intro _ ρ W hI hbase hdep
            have hc : ∀ v, ρ (.const v) = v := fun v => hbase _ (fun _ _ _ _ _ e => by cases e)
            have b6 : ρ (.tmp 6) = .pointer (some ⟨bB, 0, none⟩) := hbase (.tmp 6) (base_tmp (by kernel_rfl))
            simp only [execOp, hc, b6]
            go_simp
            exact ⟨Below.refl _ _, rfl⟩
          · intro _ ρ W hI hbase hdep
            have hc : ∀ v, ρ (.const v) = v := fun v => hbase _ (fun _ _ _ _ _ e => by cases e)
            have p18 : ρ (.tmp 80) = .pointer (some ⟨bB, 1, none⟩) := (Option.some.inj (hdep ⟨18, .data⟩ (by simp) rfl _ 80 rfl rfl : some (.pointer (some ⟨bB, 1, none⟩)) = some (ρ (.tmp 80)))).symm
            obtain ⟨m0, m1⟩ := hcB W hI
            simp only [execOp, hc, p18]
            go_simp
            exact ⟨Below.refl _ _, rfl⟩
          · intro _ ρ W hI hbase hdep
            have hc : ∀ v, ρ (.const v) = v := fun v => hbase _ (fun _ _ _ _ _ e => by cases e)
            have hfn : ∀ f, ρ (.func f) = .func (.func f) #[] #[] := fun v => hbase _ (fun _ _ _ _ _ e => by cases e)
            have p19 : ρ (.tmp 81) = .slice (aB) (LB.length) (cB) := (Option.some.inj (hdep ⟨19, .data⟩ (by simp) rfl _ 81 rfl rfl : some (.slice (aB) (LB.length) (cB)) = some (ρ (.tmp 81)))).symm
            simp only [execOp, hc, hfn, p19]
            go_simp
            exact ⟨rfl, (G1.out W (rdB.below hI) (hM.then hI)).mono fun e w' ⟨a, n, c, ab, nb, cb, mid, h1, ⟨h2, h3⟩, _, h4, h5, h6⟩ => by subst h2; subst h3; exact ⟨_, h1, h6, a, c, ab, cb, rfl, h4.rd, h5.rd⟩⟩
          · intro _ ρ W hI hbase hdep
            have hc : ∀ v, ρ (.const v) = v := fun v => hbase _ (fun _ _ _ _ _ e => by cases e)
            obtain ⟨a20, c20, ab20, cb20, p20, hsp20⟩ : ∃ a20 c20 ab20 cb20, ρ (.tmp 82) = .agg #[.int .i64 (0), .int .i64 (t), .slice (a20) (lr.length) (c20), .slice (ab20) (lb.length) (cb20)] ∧ Rd W a20 (hV lr) ∧ Rd W ab20 (bV lb) := hdep ⟨20, .data⟩ (by simp) rfl _ 82 rfl rfl
            simp only [execOp, hc, p20]
            exact good_val (show (Instr.field 34 (.agg #[.int .i64 (0), .int .i64 (t), .slice (a20) (lr.length) (c20), .slice (ab20) (lb.length) (cb20)]) 1).run Tryz.prog W = .ok (.agg #[.int .i64 (t), .slice (a20) (lr.length) (c20), .slice (ab20) (lb.length) (cb20)]) W by kernel_rfl) ⟨Below.refl _ _, a20, c20, ab20, cb20, rfl, hsp20⟩
          · intro _ ρ W hI hbase hdep
            have hc : ∀ v, ρ (.const v) = v := fun v => hbase _ (fun _ _ _ _ _ e => by cases e)
            have b5 : ρ (.tmp 5) = .pointer (some ⟨bR, 0, none⟩) := hbase (.tmp 5) (base_tmp (by kernel_rfl))
            obtain ⟨m0, m1, m2⟩ := hcR W hI
            simp only [execOp, hc, b5]
            go_simp
            exact ⟨Below.refl _ _, rfl⟩
          · intro _ ρ W hI hbase hdep
            have hc : ∀ v, ρ (.const v) = v := fun v => hbase _ (fun _ _ _ _ _ e => by cases e)
            have hfn : ∀ f, ρ (.func f) = .func (.func f) #[] #[] := fun v => hbase _ (fun _ _ _ _ _ e => by cases e)
            obtain ⟨a21, c21, ab21, cb21, p21, hsp21⟩ : ∃ a21 c21 ab21 cb21, ρ (.tmp 83) = .agg #[.int .i64 (t), .slice (a21) (lr.length) (c21), .slice (ab21) (lb.length) (cb21)] ∧ Rd W a21 (hV lr) ∧ Rd W ab21 (bV lb) := hdep ⟨21, .data⟩ (by simp) rfl _ 83 rfl rfl
            have p22 : ρ (.tmp 84) = .agg #[.int .i64 (t), .slice (some ⟨gr, 0, none⟩) (lr.length) (capr), .slice (some ⟨gb, 0, none⟩) (lb.length) (capb)] := (Option.some.inj (hdep ⟨22, .data⟩ (by simp) rfl _ 84 rfl rfl : some (.agg #[.int .i64 (t), .slice (some ⟨gr, 0, none⟩) (lr.length) (capr), .slice (some ⟨gb, 0, none⟩) (lb.length) (capb)]) = some (ρ (.tmp 84)))).symm
            simp only [execOp, hc, hfn, p21, p22]
            go_simp
            exact ⟨rfl, (G3.out a21 c21 ab21 cb21 W hsp21.1 (rdr.below hI) hsp21.2 (rdb.below hI)).mono fun e w' h => ⟨_, h.1, h.2, rfl⟩⟩
          · intro _ ρ W hI hbase hdep
            have hc : ∀ v, ρ (.const v) = v := fun v => hbase _ (fun _ _ _ _ _ e => by cases e)
            have p17 : ρ (.tmp 79) = .bool true := (Option.some.inj (hdep ⟨17, .data⟩ (by simp) rfl _ 79 rfl rfl : some (.bool true) = some (ρ (.tmp 79)))).symm
            have p23 : ρ (.tmp 85) = .bool true := (Option.some.inj (hdep ⟨23, .data⟩ (by simp) rfl _ 85 rfl rfl : some (.bool true) = some (ρ (.tmp 85)))).symm
            simp only [execOp, hc, p17, p23]
            go_simp
            exact ⟨Below.refl _ _, rfl⟩
          · intro _ ρ W hI hbase hdep
            have hc : ∀ v, ρ (.const v) = v := fun v => hbase _ (fun _ _ _ _ _ e => by cases e)
            have p3 : ρ (.tmp 65) = .bool false := (Option.some.inj (hdep ⟨3, .data⟩ (by simp) rfl _ 65 rfl rfl : some (.bool false) = some (ρ (.tmp 65)))).symm
            have p24 : ρ (.tmp 86) = .bool true := (Option.some.inj (hdep ⟨24, .data⟩ (by simp) rfl _ 86 rfl rfl : some (.bool true) = some (ρ (.tmp 86)))).symm
            simp only [execOp, hc, p3, p24]
            go_simp
            exact ⟨Below.refl _ _, rfl⟩
          · intro _ ρ W hI hbase hdep
            have hc : ∀ v, ρ (.const v) = v := fun v => hbase _ (fun _ _ _ _ _ e => by cases e)
            have p25 : ρ (.tmp 87) = .bool true := (Option.some.inj (hdep ⟨25, .data⟩ (by simp) rfl _ 87 rfl rfl : some (.bool true) = some (ρ (.tmp 87)))).symm
            simp only [execOp, hc, p25]
            go_simp
            exact ⟨Below.refl _ _, rfl⟩
          · trivial
        intro a' W hI ha hdf hall _ hrest
        have p0 : a'.tmps.getD 62 undef = .pointer (some ⟨bB, 0, none⟩) := (Option.some.inj (hall 0 _ 62 rfl rfl : some (.pointer (some ⟨bB, 0, none⟩)) = some (a'.tmps.getD 62 undef))).symm
        have p1 : a'.tmps.getD 63 undef = .int .i64 (0) := (Option.some.inj (hall 1 _ 63 rfl rfl : some (.int .i64 (0)) = some (a'.tmps.getD 63 undef))).symm
        have p2 : a'.tmps.getD 64 undef = .bool false := (Option.some.inj (hall 2 _ 64 rfl rfl : some (.bool false) = some (a'.tmps.getD 64 undef))).symm
        have p3 : a'.tmps.getD 65 undef = .bool false := (Option.some.inj (hall 3 _ 65 rfl rfl : some (.bool false) = some (a'.tmps.getD 65 undef))).symm
        have p4 : a'.tmps.getD 66 undef = .pointer (some ⟨bB, 1, none⟩) := (Option.some.inj (hall 4 _ 66 rfl rfl : some (.pointer (some ⟨bB, 1, none⟩)) = some (a'.tmps.getD 66 undef))).symm
        have p5 : a'.tmps.getD 67 undef = .slice (aB) (LB.length) (cB) := (Option.some.inj (hall 5 _ 67 rfl rfl : some (.slice (aB) (LB.length) (cB)) = some (a'.tmps.getD 67 undef))).symm
        obtain ⟨a6, c6, ab6, cb6, p6, hsp6⟩ : ∃ a6 c6 ab6 cb6, a'.tmps.getD 68 undef = .agg #[.int .i64 (0), .int .i64 (t), .slice (a6) (lr.length) (c6), .slice (ab6) (lb.length) (cb6)] ∧ Rd W a6 (hV lr) ∧ Rd W ab6 (bV lb) := hall 6 _ 68 rfl rfl
        have p7 : a'.tmps.getD 69 undef = .int .i64 (0) := (Option.some.inj (hall 7 _ 69 rfl rfl : some (.int .i64 (0)) = some (a'.tmps.getD 69 undef))).symm
        have p8 : a'.tmps.getD 70 undef = .bool true := (Option.some.inj (hall 8 _ 70 rfl rfl : some (.bool true) = some (a'.tmps.getD 70 undef))).symm
        have p9 : a'.tmps.getD 71 undef = .bool true := (Option.some.inj (hall 9 _ 71 rfl rfl : some (.bool true) = some (a'.tmps.getD 71 undef))).symm
        have p10 : a'.tmps.getD 72 undef = .pointer (some ⟨bB, 1, none⟩) := (Option.some.inj (hall 10 _ 72 rfl rfl : some (.pointer (some ⟨bB, 1, none⟩)) = some (a'.tmps.getD 72 undef))).symm
        have p11 : a'.tmps.getD 73 undef = .slice (aB) (LB.length) (cB) := (Option.some.inj (hall 11 _ 73 rfl rfl : some (.slice (aB) (LB.length) (cB)) = some (a'.tmps.getD 73 undef))).symm
        obtain ⟨a12, c12, ab12, cb12, p12, hsp12⟩ : ∃ a12 c12 ab12 cb12, a'.tmps.getD 74 undef = .agg #[.int .i64 (0), .int .i64 (t), .slice (a12) (lr.length) (c12), .slice (ab12) (lb.length) (cb12)] ∧ Rd W a12 (hV lr) ∧ Rd W ab12 (bV lb) := hall 12 _ 74 rfl rfl
        obtain ⟨a13, c13, ab13, cb13, p13, hsp13⟩ : ∃ a13 c13 ab13 cb13, a'.tmps.getD 75 undef = .agg #[.int .i64 (t), .slice (a13) (lr.length) (c13), .slice (ab13) (lb.length) (cb13)] ∧ Rd W a13 (hV lr) ∧ Rd W ab13 (bV lb) := hall 13 _ 75 rfl rfl
        have p14 : a'.tmps.getD 76 undef = .agg #[.int .i64 (t), .slice (some ⟨gr, 0, none⟩) (lr.length) (capr), .slice (some ⟨gb, 0, none⟩) (lb.length) (capb)] := (Option.some.inj (hall 14 _ 76 rfl rfl : some (.agg #[.int .i64 (t), .slice (some ⟨gr, 0, none⟩) (lr.length) (capr), .slice (some ⟨gb, 0, none⟩) (lb.length) (capb)]) = some (a'.tmps.getD 76 undef))).symm
        have p15 : a'.tmps.getD 77 undef = .bool true := (Option.some.inj (hall 15 _ 77 rfl rfl : some (.bool true) = some (a'.tmps.getD 77 undef))).symm
        have p16 : a'.tmps.getD 78 undef = .bool true := (Option.some.inj (hall 16 _ 78 rfl rfl : some (.bool true) = some (a'.tmps.getD 78 undef))).symm
        have p17 : a'.tmps.getD 79 undef = .bool true := (Option.some.inj (hall 17 _ 79 rfl rfl : some (.bool true) = some (a'.tmps.getD 79 undef))).symm
        have p18 : a'.tmps.getD 80 undef = .pointer (some ⟨bB, 1, none⟩) := (Option.some.inj (hall 18 _ 80 rfl rfl : some (.pointer (some ⟨bB, 1, none⟩)) = some (a'.tmps.getD 80 undef))).symm
        have p19 : a'.tmps.getD 81 undef = .slice (aB) (LB.length) (cB) := (Option.some.inj (hall 19 _ 81 rfl rfl : some (.slice (aB) (LB.length) (cB)) = some (a'.tmps.getD 81 undef))).symm
        obtain ⟨a20, c20, ab20, cb20, p20, hsp20⟩ : ∃ a20 c20 ab20 cb20, a'.tmps.getD 82 undef = .agg #[.int .i64 (0), .int .i64 (t), .slice (a20) (lr.length) (c20), .slice (ab20) (lb.length) (cb20)] ∧ Rd W a20 (hV lr) ∧ Rd W ab20 (bV lb) := hall 20 _ 82 rfl rfl
        obtain ⟨a21, c21, ab21, cb21, p21, hsp21⟩ : ∃ a21 c21 ab21 cb21, a'.tmps.getD 83 undef = .agg #[.int .i64 (t), .slice (a21) (lr.length) (c21), .slice (ab21) (lb.length) (cb21)] ∧ Rd W a21 (hV lr) ∧ Rd W ab21 (bV lb) := hall 21 _ 83 rfl rfl
        have p22 : a'.tmps.getD 84 undef = .agg #[.int .i64 (t), .slice (some ⟨gr, 0, none⟩) (lr.length) (capr), .slice (some ⟨gb, 0, none⟩) (lb.length) (capb)] := (Option.some.inj (hall 22 _ 84 rfl rfl : some (.agg #[.int .i64 (t), .slice (some ⟨gr, 0, none⟩) (lr.length) (capr), .slice (some ⟨gb, 0, none⟩) (lb.length) (capb)]) = some (a'.tmps.getD 84 undef))).symm
        have p23 : a'.tmps.getD 85 undef = .bool true := (Option.some.inj (hall 23 _ 85 rfl rfl : some (.bool true) = some (a'.tmps.getD 85 undef))).symm
        have p24 : a'.tmps.getD 86 undef = .bool true := (Option.some.inj (hall 24 _ 86 rfl rfl : some (.bool true) = some (a'.tmps.getD 86 undef))).symm
        have p25 : a'.tmps.getD 87 undef = .bool true := (Option.some.inj (hall 25 _ 87 rfl rfl : some (.bool true) = some (a'.tmps.getD 87 undef))).symm
        have p26 : a'.tmps.getD 2 undef = .bool true := (Option.some.inj (hall 26 _ 2 rfl rfl : some (.bool true) = some (a'.tmps.getD 2 undef))).symm
        have ea := after_region [(62, _), (63, _), (64, _), (65, _), (66, _), (67, _), (68, _), (69, _), (70, _), (71, _), (72, _), (73, _), (74, _), (75, _), (76, _), (77, _), (78, _), (79, _), (80, _), (81, _), (82, _), (83, _), (84, _), (85, _), (86, _), (87, _), (2, _)] ha hdf hrest (by kernel_rfl) (by simp only [List.forall_mem_cons]; exact ⟨p0, p1, p2, p3, p4, p5, p6, p7, p8, p9, p10, p11, p12, p13, p14, p15, p16, p17, p18, p19, p20, p21, p22, p23, p24, p25, p26, fun _ h => by cases h⟩)
        subst ea
        simp only [List.foldl_cons, List.foldl_nil, List.setIfInBounds_toArray, List.set_cons_zero, List.set_cons_succ]
        clear p0 p1 p2 p3 p4 p5 p6 p7 p8 p9 p10 p11 p12 p13 p14 p15 p16 p17 p18 p19 p20 p21 p22 p23 p24 p25 p26 hall hrest ha hdf
        go_wp2_with fail
        exact bodyPost_ret (results_tmp Tryz.results4 _ _ _) rfl ⟨rfl, below_then belV hI⟩
        --END
      · have hcb : (G != 0) = true := by rw [bne_iff_ne]; exact hc0
        --LEAF norsp
        refine wp_region_relG (fun W => Below wc.heap.size wc W) (fun _ w w' => Below w.heap.size w w') (FF [.pointer (some ⟨bB, 0, none⟩), .int .i64 (G), .bool true, .bool true, undef, undef, undef, undef, undef, undef, undef, undef, undef, undef, undef, undef, undef, undef, undef, undef, undef, undef, undef, undef, undef, .bool true, .bool true] []) (fun i => !(decide (i = 4) || decide (i = 5) || decide (i = 6) || decide (i = 7) || decide (i = 8) || decide (i = 9) || decide (i = 10) || decide (i = 11) || decide (i = 12) || decide (i = 13) || decide (i = 14) || decide (i = 15) || decide (i = 16) || decide (i = 17) || decide (i = 18) || decide (i = 19) || decide (i = 20) || decide (i = 21) || decide (i = 22) || decide (i = 23) || decide (i = 24))) (by kernel_rfl) (by kernel_rfl) (guard_FF (by kernel_rfl) (by kernel_rfl)) ?_ (Below.refl _ _).drew (fun _ _ _ h1 h2 => below_then h1 h2) (fun _ _ _ _ _ _ _ h2 h3 => FF.keep (fun _ h => by cases h) _ _ _ _ h2 h3) ?_ ?_ ?_
        · intro i w h _
          simp only [Bool.not_eq_false', Bool.or_eq_true, decide_eq_true_eq] at h
          rcases (show i = 4 ∨ i = 5 ∨ i = 6 ∨ i = 7 ∨ i = 8 ∨ i = 9 ∨ i = 10 ∨ i = 11 ∨ i = 12 ∨ i = 13 ∨ i = 14 ∨ i = 15 ∨ i = 16 ∨ i = 17 ∨ i = 18 ∨ i = 19 ∨ i = 20 ∨ i = 21 ∨ i = 22 ∨ i = 23 ∨ i = 24 by omega) with rfl | rfl | rfl | rfl | rfl | rfl | rfl | rfl | rfl | rfl | rfl | rfl | rfl | rfl | rfl | rfl | rfl | rfl | rfl | rfl | rfl <;> rfl
        · intro i o v w hi hd hF
          exact absurd hd (by have := unB_spec (k := 999) (by kernel_rfl) hi hd; have := (Array.getElem?_eq_some_iff.1 hi).1; simp at this; omega)
        · repeat' (refine And.intro ?_ ?_)
          · intro _ ρ W hI hbase hdep
            have hc : ∀ v, ρ (.const v) = v := fun v => hbase _ (fun _ _ _ _ _ e => by cases e)
            have b6 : ρ (.tmp 6) = .pointer (some ⟨bB, 0, none⟩) := hbase (.tmp 6) (base_tmp (by kernel_rfl))
            simp only [execOp, hc, b6]
            go_simp
            exact ⟨Below.refl _ _, rfl⟩
          · intro _ ρ W hI hbase hdep
            have hc : ∀ v, ρ (.const v) = v := fun v => hbase _ (fun _ _ _ _ _ e => by cases e)
            have p0 : ρ (.tmp 62) = .pointer (some ⟨bB, 0, none⟩) := (Option.some.inj (hdep ⟨0, .data⟩ (by simp) rfl _ 62 rfl rfl : some (.pointer (some ⟨bB, 0, none⟩)) = some (ρ (.tmp 62)))).symm
            obtain ⟨m0, m1⟩ := hcB W hI
            simp only [execOp, hc, p0]
            go_simp
            exact ⟨Below.refl _ _, rfl⟩
          · intro _ ρ W hI hbase hdep
            have hc : ∀ v, ρ (.const v) = v := fun v => hbase _ (fun _ _ _ _ _ e => by cases e)
            have p1 : ρ (.tmp 63) = .int .i64 (G) := (Option.some.inj (hdep ⟨1, .data⟩ (by simp) rfl _ 63 rfl rfl : some (.int .i64 (G)) = some (ρ (.tmp 63)))).symm
            simp only [execOp, hc, p1]
            go_simp
            exact ⟨Below.refl _ _, rfl⟩
          · intro _ ρ W hI hbase hdep
            have hc : ∀ v, ρ (.const v) = v := fun v => hbase _ (fun _ _ _ _ _ e => by cases e)
            have p2 : ρ (.tmp 64) = .bool true := (Option.some.inj (hdep ⟨2, .data⟩ (by simp) rfl _ 64 rfl rfl : some (.bool true) = some (ρ (.tmp 64)))).symm
            simp only [execOp, hc, p2]
            go_simp
            exact ⟨Below.refl _ _, rfl⟩
          · intro h; exact absurd h (by decide)
          · intro h; exact absurd h (by decide)
          · intro h; exact absurd h (by decide)
          · intro h; exact absurd h (by decide)
          · intro h; exact absurd h (by decide)
          · intro h; exact absurd h (by decide)
          · intro h; exact absurd h (by decide)
          · intro h; exact absurd h (by decide)
          · intro h; exact absurd h (by decide)
          · intro h; exact absurd h (by decide)
          · intro h; exact absurd h (by decide)
          · intro h; exact absurd h (by decide)
          · intro h; exact absurd h (by decide)
          · intro h; exact absurd h (by decide)
          · intro h; exact absurd h (by decide)
          · intro h; exact absurd h (by decide)
          · intro h; exact absurd h (by decide)
          · intro h; exact absurd h (by decide)
          · intro h; exact absurd h (by decide)
          · intro h; exact absurd h (by decide)
          · intro h; exact absurd h (by decide)
          · intro _ ρ W hI hbase hdep
            have hc : ∀ v, ρ (.const v) = v := fun v => hbase _ (fun _ _ _ _ _ e => by cases e)
            have p3 : ρ (.tmp 65) = .bool true := (Option.some.inj (hdep ⟨3, .data⟩ (by simp) rfl _ 65 rfl rfl : some (.bool true) = some (ρ (.tmp 65)))).symm
            have p24 : ρ (.tmp 86) = undef := (Option.some.inj (hdep ⟨24, .data⟩ (by simp) rfl _ 86 rfl rfl : some (undef) = some (ρ (.tmp 86)))).symm
            simp only [execOp, hc, p3, p24]
            go_simp
            exact ⟨Below.refl _ _, rfl⟩
          · intro _ ρ W hI hbase hdep
            have hc : ∀ v, ρ (.const v) = v := fun v => hbase _ (fun _ _ _ _ _ e => by cases e)
            have p25 : ρ (.tmp 87) = .bool true := (Option.some.inj (hdep ⟨25, .data⟩ (by simp) rfl _ 87 rfl rfl : some (.bool true) = some (ρ (.tmp 87)))).symm
            simp only [execOp, hc, p25]
            go_simp
            exact ⟨Below.refl _ _, rfl⟩
          · trivial
        intro a' W hI ha hdf hall _ hrest
        have p0 : a'.tmps.getD 62 undef = .pointer (some ⟨bB, 0, none⟩) := (Option.some.inj (hall 0 _ 62 rfl rfl : some (.pointer (some ⟨bB, 0, none⟩)) = some (a'.tmps.getD 62 undef))).symm
        have p1 : a'.tmps.getD 63 undef = .int .i64 (G) := (Option.some.inj (hall 1 _ 63 rfl rfl : some (.int .i64 (G)) = some (a'.tmps.getD 63 undef))).symm
        have p2 : a'.tmps.getD 64 undef = .bool true := (Option.some.inj (hall 2 _ 64 rfl rfl : some (.bool true) = some (a'.tmps.getD 64 undef))).symm
        have p3 : a'.tmps.getD 65 undef = .bool true := (Option.some.inj (hall 3 _ 65 rfl rfl : some (.bool true) = some (a'.tmps.getD 65 undef))).symm
        have p4 : a'.tmps.getD 66 undef = undef := (Option.some.inj (hall 4 _ 66 rfl rfl : some (undef) = some (a'.tmps.getD 66 undef))).symm
        have p5 : a'.tmps.getD 67 undef = undef := (Option.some.inj (hall 5 _ 67 rfl rfl : some (undef) = some (a'.tmps.getD 67 undef))).symm
        have p6 : a'.tmps.getD 68 undef = undef := (Option.some.inj (hall 6 _ 68 rfl rfl : some (undef) = some (a'.tmps.getD 68 undef))).symm
        have p7 : a'.tmps.getD 69 undef = undef := (Option.some.inj (hall 7 _ 69 rfl rfl : some (undef) = some (a'.tmps.getD 69 undef))).symm
        have p8 : a'.tmps.getD 70 undef = undef := (Option.some.inj (hall 8 _ 70 rfl rfl : some (undef) = some (a'.tmps.getD 70 undef))).symm
        have p9 : a'.tmps.getD 71 undef = undef := (Option.some.inj (hall 9 _ 71 rfl rfl : some (undef) = some (a'.tmps.getD 71 undef))).symm
        have p10 : a'.tmps.getD 72 undef = undef := (Option.some.inj (hall 10 _ 72 rfl rfl : some (undef) = some (a'.tmps.getD 72 undef))).symm
        have p11 : a'.tmps.getD 73 undef = undef := (Option.some.inj (hall 11 _ 73 rfl rfl : some (undef) = some (a'.tmps.getD 73 undef))).symm
        have p12 : a'.tmps.getD 74 undef = undef := (Option.some.inj (hall 12 _ 74 rfl rfl : some (undef) = some (a'.tmps.getD 74 undef))).symm
        have p13 : a'.tmps.getD 75 undef = undef := (Option.some.inj (hall 13 _ 75 rfl rfl : some (undef) = some (a'.tmps.getD 75 undef))).symm
        have p14 : a'.tmps.getD 76 undef = undef := (Option.some.inj (hall 14 _ 76 rfl rfl : some (undef) = some (a'.tmps.getD 76 undef))).symm
        have p15 : a'.tmps.getD 77 undef = undef := (Option.some.inj (hall 15 _ 77 rfl rfl : some (undef) = some (a'.tmps.getD 77 undef))).symm
        have p16 : a'.tmps.getD 78 undef = undef := (Option.some.inj (hall 16 _ 78 rfl rfl : some (undef) = some (a'.tmps.getD 78 undef))).symm
        have p17 : a'.tmps.getD 79 undef = undef := (Option.some.inj (hall 17 _ 79 rfl rfl : some (undef) = some (a'.tmps.getD 79 undef))).symm
        have p18 : a'.tmps.getD 80 undef = undef := (Option.some.inj (hall 18 _ 80 rfl rfl : some (undef) = some (a'.tmps.getD 80 undef))).symm
        have p19 : a'.tmps.getD 81 undef = undef := (Option.some.inj (hall 19 _ 81 rfl rfl : some (undef) = some (a'.tmps.getD 81 undef))).symm
        have p20 : a'.tmps.getD 82 undef = undef := (Option.some.inj (hall 20 _ 82 rfl rfl : some (undef) = some (a'.tmps.getD 82 undef))).symm
        have p21 : a'.tmps.getD 83 undef = undef := (Option.some.inj (hall 21 _ 83 rfl rfl : some (undef) = some (a'.tmps.getD 83 undef))).symm
        have p22 : a'.tmps.getD 84 undef = undef := (Option.some.inj (hall 22 _ 84 rfl rfl : some (undef) = some (a'.tmps.getD 84 undef))).symm
        have p23 : a'.tmps.getD 85 undef = undef := (Option.some.inj (hall 23 _ 85 rfl rfl : some (undef) = some (a'.tmps.getD 85 undef))).symm
        have p24 : a'.tmps.getD 86 undef = undef := (Option.some.inj (hall 24 _ 86 rfl rfl : some (undef) = some (a'.tmps.getD 86 undef))).symm
        have p25 : a'.tmps.getD 87 undef = .bool true := (Option.some.inj (hall 25 _ 87 rfl rfl : some (.bool true) = some (a'.tmps.getD 87 undef))).symm
        have p26 : a'.tmps.getD 2 undef = .bool true := (Option.some.inj (hall 26 _ 2 rfl rfl : some (.bool true) = some (a'.tmps.getD 2 undef))).symm
        have ea := after_region [(62, _), (63, _), (64, _), (65, _), (66, _), (67, _), (68, _), (69, _), (70, _), (71, _), (72, _), (73, _), (74, _), (75, _), (76, _), (77, _), (78, _), (79, _), (80, _), (81, _), (82, _), (83, _), (84, _), (85, _), (86, _), (87, _), (2, _)] ha hdf hrest (by kernel_rfl) (by simp only [List.forall_mem_cons]; exact ⟨p0, p1, p2, p3, p4, p5, p6, p7, p8, p9, p10, p11, p12, p13, p14, p15, p16, p17, p18, p19, p20, p21, p22, p23, p24, p25, p26, fun _ h => by cases h⟩)
        subst ea
        simp only [List.foldl_cons, List.foldl_nil, List.setIfInBounds_toArray, List.set_cons_zero, List.set_cons_succ]
        clear p0 p1 p2 p3 p4 p5 p6 p7 p8 p9 p10 p11 p12 p13 p14 p15 p16 p17 p18 p19 p20 p21 p22 p23 p24 p25 p26 hall hrest ha hdf
        go_wp2_with fail
        exact bodyPost_ret (results_tmp Tryz.results4 _ _ _) rfl ⟨rfl, below_then belV hI⟩
        --END
  · go_enter Tryz.func4, Tryz.ntmps4
    go_wp2_with (go_at_call 5; ((with_reducible refine (lwBig _ _ _ _).mono ?_); rintro e w' ⟨rfl, rfl⟩))
    all_goals (go_ret; exact ⟨by first | rfl | (simp [*]; done) | (simp [*]; omega), by first | (with_reducible rfl) | exact (by first | (with_reducible exact Below.refl _ _) | ((repeat' (first | (with_reducible exact Below.refl _ _) | (with_reducible assumption) | (with_reducible refine below_alloc ?_ _) | (with_reducible refine Below.drew ?_) | (with_reducible refine below_drewN ?_ _) | (with_reducible refine Below.setCell ?_ ?_ _) | refine below_then ?_ (by with_reducible assumption))) <;> (first | omega | (simp; done) | (simp; omega))))⟩)
end Go.Proofs.YtbiodbggaeglpaaGreatDoor
