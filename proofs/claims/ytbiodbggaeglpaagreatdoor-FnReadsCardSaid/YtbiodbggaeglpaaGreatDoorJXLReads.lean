/- Joined: LReads. -/
import Derived.Test.YtbiodbggaeglpaaGreatDoorJXDrawV
import Derived.Test.YtbiodbggaeglpaaGreatDoorJXReadsP
import Derived.Test.YtbiodbggaeglpaaGreatDoorJB13
import Derived.Test.YtbiodbggaeglpaaGreatDoorJB17
import Derived.Test.YtbiodbggaeglpaaGreatDoorJB22
import Derived.Test.YtbiodbggaeglpaaGreatDoorJB19
import Derived.Test.YtbiodbggaeglpaaGreatDoorJXRspS
import Derived.Test.YtbiodbggaeglpaaGreatDoorJB7
import Derived.Test.YtbiodbggaeglpaaGreatDoorJB1
import Derived.Test.YtbiodbggaeglpaaGreatDoorJB0
import Derived.Deep.DeepCutAuto
/- The law on bytes that are read: its walk. Printed by gen/reads.py. -/
namespace Go.Proofs.YtbiodbggaeglpaaGreatDoor
open Go.RowKit
set_option linter.unusedSimpArgs false
set_option linter.unusedVariables false

set_option maxRecDepth 100000 in
set_option maxHeartbeats 20000000 in
theorem FnReads_walk (a : Option Addr) (n c : Nat) (bs : List UInt8) (hl : bs.length = n) (w : World) (hr : Rd w a (bs.map byteV)) (hn : n ≤ 9223372036854775807) (ht : Tab w) (hm : MaxL w) : Calls Tryz.prog 3 #[.slice a n c] w fun e w' => e = .returned (.bool true) ∧ Below w.heap.size w w' := by
  by_cases h : n ≤ 1048576
  · have HM := Lib.hid hm
    have HT := Lib.hid ht
    clear hm ht
    go_enter Tryz.func3, Tryz.ntmps3
    go_upto_region 7 with (first
      | (go_at_call 5; ((with_reducible refine (lwBig _ _ _ _).mono ?_); rintro e w' ⟨rfl, rfl⟩))
      | (go_at_call 6; ((with_reducible refine (spec_DrawReadRequest a n c bs hl h _ (by first | (with_reducible assumption) | exact RowAt.rd (by repeat' (first | (with_reducible assumption) | (with_reducible refine RowAt.alloc ?_ _) | (with_reducible refine RowAt.drew ?_) | (with_reducible refine RowAt.other ?_ _ _ (by first | omega | (simp; done) | (simp; omega))) | refine RowAt.then ?_ (by with_reducible assumption))) | exact Rd.below (by with_reducible assumption) (by first | (with_reducible exact Below.refl _ _) | ((repeat' (first | (with_reducible exact Below.refl _ _) | (with_reducible assumption) | (with_reducible refine below_alloc ?_ _) | (with_reducible refine Below.drew ?_) | (with_reducible refine below_drewN ?_ _) | (with_reducible refine Below.setCell ?_ ?_ _) | refine below_then ?_ (by with_reducible assumption))) <;> (first | omega | (simp; done) | (simp; omega)))))).mono ?_); rintro e w1 ⟨aD, LD, cD, rfl, rdD, ⟨hcD, hzD⟩, hb⟩; obtain ⟨hc, hf⟩ := bcell hb; have hz := hb.size; (try simp only [World.size_alloc, World.size_setCell, World.size_drew] at hz); obtain ⟨hlt, hle, hn1, hn2, hn3, hn4⟩ := bsize hb; (try simp only [World.size_alloc, World.size_setCell, World.size_drew] at hlt hle hn1 hn2 hn3 hn4); (try have hr0 : w.heap.size < w1.heap.size := by omega); (try have hr1 : w.heap.size + 1 < w1.heap.size := by omega); (try have hs0 : wS.heap.size < w1.heap.size := by omega); (try have hs1 : wG.heap.size < w1.heap.size := by omega)))
      | (go_at_call 7; ((with_reducible refine (impl_ReadRequest aD LD.length cD LD rfl _ (by first | (with_reducible assumption) | exact RowAt.rd (by repeat' (first | (with_reducible assumption) | (with_reducible refine RowAt.alloc ?_ _) | (with_reducible refine RowAt.drew ?_) | (with_reducible refine RowAt.other ?_ _ _ (by first | omega | (simp; done) | (simp; omega))) | refine RowAt.then ?_ (by with_reducible assumption))) | exact Rd.below (by with_reducible assumption) (by first | (with_reducible exact Below.refl _ _) | ((repeat' (first | (with_reducible exact Below.refl _ _) | (with_reducible assumption) | (with_reducible refine below_alloc ?_ _) | (with_reducible refine Below.drew ?_) | (with_reducible refine below_drewN ?_ _) | (with_reducible refine Below.setCell ?_ ?_ _) | refine below_then ?_ (by with_reducible assumption))) <;> (first | omega | (simp; done) | (simp; omega))))) (by omega) (HM.out.then (by exact (by first | (with_reducible exact Below.refl _ _) | ((repeat' (first | (with_reducible exact Below.refl _ _) | (with_reducible assumption) | (with_reducible refine below_alloc ?_ _) | (with_reducible refine Below.drew ?_) | (with_reducible refine below_drewN ?_ _) | (with_reducible refine Below.setCell ?_ ?_ _) | refine below_then ?_ (by with_reducible assumption))) <;> (first | omega | (simp; done) | (simp; omega))))))).mono ?_); rintro e w2 ⟨aQ, nQ, cQ, rfl, ⟨hlQ, hsQ⟩, hb⟩; obtain ⟨hc, hf⟩ := bcell hb; have hz := hb.size; (try simp only [World.size_alloc, World.size_setCell, World.size_drew] at hz); obtain ⟨hlt, hle, hn1, hn2, hn3, hn4⟩ := bsize hb; (try simp only [World.size_alloc, World.size_setCell, World.size_drew] at hlt hle hn1 hn2 hn3 hn4); (try have hr0 : w.heap.size < w2.heap.size := by omega); (try have hr1 : w.heap.size + 1 < w2.heap.size := by omega); (try have hs0 : wS.heap.size < w2.heap.size := by omega); (try have hs1 : wG.heap.size < w2.heap.size := by omega)))
      | (go_at_call 8; ((with_reducible refine (spec_DrawReadResponse a n c bs hl h _ (by first | (with_reducible assumption) | exact RowAt.rd (by repeat' (first | (with_reducible assumption) | (with_reducible refine RowAt.alloc ?_ _) | (with_reducible refine RowAt.drew ?_) | (with_reducible refine RowAt.other ?_ _ _ (by first | omega | (simp; done) | (simp; omega))) | refine RowAt.then ?_ (by with_reducible assumption))) | exact Rd.below (by with_reducible assumption) (by first | (with_reducible exact Below.refl _ _) | ((repeat' (first | (with_reducible exact Below.refl _ _) | (with_reducible assumption) | (with_reducible refine below_alloc ?_ _) | (with_reducible refine Below.drew ?_) | (with_reducible refine below_drewN ?_ _) | (with_reducible refine Below.setCell ?_ ?_ _) | refine below_then ?_ (by with_reducible assumption))) <;> (first | omega | (simp; done) | (simp; omega)))))).mono ?_); rintro e w3 ⟨aO, LO, cO, rfl, rdO, ⟨hcO, hzO⟩, hb⟩; obtain ⟨hc, hf⟩ := bcell hb; have hz := hb.size; (try simp only [World.size_alloc, World.size_setCell, World.size_drew] at hz); obtain ⟨hlt, hle, hn1, hn2, hn3, hn4⟩ := bsize hb; (try simp only [World.size_alloc, World.size_setCell, World.size_drew] at hlt hle hn1 hn2 hn3 hn4); (try have hr0 : w.heap.size < w3.heap.size := by omega); (try have hr1 : w.heap.size + 1 < w3.heap.size := by omega); (try have hs0 : wS.heap.size < w3.heap.size := by omega); (try have hs1 : wG.heap.size < w3.heap.size := by omega)))
      | (go_at_call 9; ((with_reducible refine (impl_ReadResponse aO LO.length cO LO rfl _ (by first | (with_reducible assumption) | exact RowAt.rd (by repeat' (first | (with_reducible assumption) | (with_reducible refine RowAt.alloc ?_ _) | (with_reducible refine RowAt.drew ?_) | (with_reducible refine RowAt.other ?_ _ _ (by first | omega | (simp; done) | (simp; omega))) | refine RowAt.then ?_ (by with_reducible assumption))) | exact Rd.below (by with_reducible assumption) (by first | (with_reducible exact Below.refl _ _) | ((repeat' (first | (with_reducible exact Below.refl _ _) | (with_reducible assumption) | (with_reducible refine below_alloc ?_ _) | (with_reducible refine Below.drew ?_) | (with_reducible refine below_drewN ?_ _) | (with_reducible refine Below.setCell ?_ ?_ _) | refine below_then ?_ (by with_reducible assumption))) <;> (first | omega | (simp; done) | (simp; omega))))) (by omega) (HM.out.then (by exact (by first | (with_reducible exact Below.refl _ _) | ((repeat' (first | (with_reducible exact Below.refl _ _) | (with_reducible assumption) | (with_reducible refine below_alloc ?_ _) | (with_reducible refine Below.drew ?_) | (with_reducible refine below_drewN ?_ _) | (with_reducible refine Below.setCell ?_ ?_ _) | refine below_then ?_ (by with_reducible assumption))) <;> (first | omega | (simp; done) | (simp; omega))))))).mono ?_); rintro e w4 ⟨aR, nR, cR, abR, nbR, cbR, midR, rfl, ⟨hlR, hlbR⟩, ⟨hmR, hmR2⟩, hsR, hsbR, hb⟩; obtain ⟨hc, hf⟩ := bcell hb; have hz := hb.size; (try simp only [World.size_alloc, World.size_setCell, World.size_drew] at hz); obtain ⟨hlt, hle, hn1, hn2, hn3, hn4⟩ := bsize hb; (try simp only [World.size_alloc, World.size_setCell, World.size_drew] at hlt hle hn1 hn2 hn3 hn4); (try have hr0 : w.heap.size < w4.heap.size := by omega); (try have hr1 : w.heap.size + 1 < w4.heap.size := by omega); (try have hs0 : wS.heap.size < w4.heap.size := by omega); (try have hs1 : wG.heap.size < w4.heap.size := by omega))))
    all_goals (try (go_ret; exact ⟨by first | rfl | (simp [*]; done) | (simp [*]; omega), by first | (with_reducible rfl) | exact (by first | (with_reducible exact Below.refl _ _) | ((repeat' (first | (with_reducible exact Below.refl _ _) | (with_reducible assumption) | (with_reducible refine below_alloc ?_ _) | (with_reducible refine Below.drew ?_) | (with_reducible refine below_drewN ?_ _) | (with_reducible refine Below.setCell ?_ ?_ _) | refine below_then ?_ (by with_reducible assumption))) <;> (first | omega | (simp; done) | (simp; omega))))⟩))
    have kQ : (w4.alloc (.cells #[.int .i64 (rspR LO).1, .int .i64 (rspR LO).2.1, .slice aR nR cR, .slice abR nbR cbR] 34)).heap[w2.heap.size]? = some (.cells #[.int .i64 (reqR LD).1, .string (reqR LD).2.1, .string (reqR LD).2.2.1, .string (reqR LD).2.2.2.1, .slice aQ nQ cQ] 29 (0, 0)) := (by repeat' (first | (with_reducible assumption) | (with_reducible exact blk_new _ _) | (with_reducible apply blk_set) | (with_reducible refine blk_new' _ _ _ (by first | omega | (simp only [World.size_alloc]; first | done | omega))) | (with_reducible refine blk_other ?_ _ _ _ (by omega)) | (with_reducible refine blk_drew ?_) | (with_reducible refine blk_alloc ?_ _) | refine blk_then ?_ (by with_reducible assumption)))
    have kR : (w4.alloc (.cells #[.int .i64 (rspR LO).1, .int .i64 (rspR LO).2.1, .slice aR nR cR, .slice abR nbR cbR] 34)).heap[w4.heap.size]? = some (.cells #[.int .i64 (rspR LO).1, .int .i64 (rspR LO).2.1, .slice aR nR cR, .slice abR nbR cbR] 34 (0, 0)) := blk_new _ _
    have belV : Below w.heap.size w (w4.alloc (.cells #[.int .i64 (rspR LO).1, .int .i64 (rspR LO).2.1, .slice aR nR cR, .slice abR nbR cbR] 34)) := by exact (by first | (with_reducible exact Below.refl _ _) | ((repeat' (first | (with_reducible exact Below.refl _ _) | (with_reducible assumption) | (with_reducible refine below_alloc ?_ _) | (with_reducible refine Below.drew ?_) | (with_reducible refine below_drewN ?_ _) | (with_reducible refine Below.setCell ?_ ?_ _) | refine below_then ?_ (by with_reducible assumption))) <;> (first | omega | (simp; done) | (simp; omega))))
    have rdl : Rd (w4.alloc (.cells #[.int .i64 (rspR LO).1, .int .i64 (rspR LO).2.1, .slice aR nR cR, .slice abR nbR cbR] 34)) aQ (hV (reqR LD).2.2.2.2) := hsQ.rd.below (by exact (by first | (with_reducible exact Below.refl _ _) | ((repeat' (first | (with_reducible exact Below.refl _ _) | (with_reducible assumption) | (with_reducible refine below_alloc ?_ _) | (with_reducible refine Below.drew ?_) | (with_reducible refine below_drewN ?_ _) | (with_reducible refine Below.setCell ?_ ?_ _) | refine below_then ?_ (by with_reducible assumption))) <;> (first | omega | (simp; done) | (simp; omega)))))
    have rdr : Rd (w4.alloc (.cells #[.int .i64 (rspR LO).1, .int .i64 (rspR LO).2.1, .slice aR nR cR, .slice abR nbR cbR] 34)) aR (hV (rspR LO).2.2.1) := hsR.rd.below (by exact (by first | (with_reducible exact Below.refl _ _) | ((repeat' (first | (with_reducible exact Below.refl _ _) | (with_reducible assumption) | (with_reducible refine below_alloc ?_ _) | (with_reducible refine Below.drew ?_) | (with_reducible refine below_drewN ?_ _) | (with_reducible refine Below.setCell ?_ ?_ _) | refine below_then ?_ (by with_reducible assumption))) <;> (first | omega | (simp; done) | (simp; omega)))))
    have rdb : Rd (w4.alloc (.cells #[.int .i64 (rspR LO).1, .int .i64 (rspR LO).2.1, .slice aR nR cR, .slice abR nbR cbR] 34)) abR (bV (rspR LO).2.2.2) := hsbR.rd.below (by exact (by first | (with_reducible exact Below.refl _ _) | ((repeat' (first | (with_reducible exact Below.refl _ _) | (with_reducible assumption) | (with_reducible refine below_alloc ?_ _) | (with_reducible refine Below.drew ?_) | (with_reducible refine below_drewN ?_ _) | (with_reducible refine Below.setCell ?_ ?_ _) | refine below_then ?_ (by with_reducible assumption))) <;> (first | omega | (simp; done) | (simp; omega)))))
    have rdD : Rd (w4.alloc (.cells #[.int .i64 (rspR LO).1, .int .i64 (rspR LO).2.1, .slice aR nR cR, .slice abR nbR cbR] 34)) aD (bV LD) := rdD.below (by exact (by first | (with_reducible exact Below.refl _ _) | ((repeat' (first | (with_reducible exact Below.refl _ _) | (with_reducible assumption) | (with_reducible refine below_alloc ?_ _) | (with_reducible refine Below.drew ?_) | (with_reducible refine below_drewN ?_ _) | (with_reducible refine Below.setCell ?_ ?_ _) | refine below_then ?_ (by with_reducible assumption))) <;> (first | omega | (simp; done) | (simp; omega)))))
    have rdO : Rd (w4.alloc (.cells #[.int .i64 (rspR LO).1, .int .i64 (rspR LO).2.1, .slice aR nR cR, .slice abR nbR cbR] 34)) aO (bV LO) := rdO.below (by exact (by first | (with_reducible exact Below.refl _ _) | ((repeat' (first | (with_reducible exact Below.refl _ _) | (with_reducible assumption) | (with_reducible refine below_alloc ?_ _) | (with_reducible refine Below.drew ?_) | (with_reducible refine below_drewN ?_ _) | (with_reducible refine Below.setCell ?_ ?_ _) | refine below_then ?_ (by with_reducible assumption))) <;> (first | omega | (simp; done) | (simp; omega)))))
    have hM := HM.out.then belV
    have hT := HT.out.then belV
    have c1 := fun W hr => spec_ReadRequest aD LD.length cD LD rfl W hr (by omega)
    have c2 := fun W hr => spec_ReadResponse aO LO.length cO LO rfl W hr (by omega) hcO
    generalize (w4.alloc (.cells #[.int .i64 (rspR LO).1, .int .i64 (rspR LO).2.1, .slice aR nR cR, .slice abR nbR cbR] 34)) = V at *
    subst hlQ hlR hlbR
    generalize w2.heap.size = bQ at *
    generalize w4.heap.size = bR at *
    clear HM HT hr hsQ hsR hsbR hb hc hf hz hmR hmR2
    rcases hpq : reqR LD with ⟨F, m, q, p, l⟩
    rcases hpp : rspR LO with ⟨G, t, lr, lb⟩
    simp only [hpq] at kQ rdl c1
    simp only [hpp] at kR rdr rdb c2
    have C1 := Lib.hid c1
    have C2 := Lib.hid c2
    have Hpq := Lib.hid hpq
    have Hpp := Lib.hid hpp
    clear c1 c2 hpq hpp
    have hcQ := fun W (hI : Below V.heap.size V W) => cells5 (blk_then kQ hI)
    have hcR := fun W (hI : Below V.heap.size V W) => cells4 (blk_then kR hI)
    refine wp_region_relG (fun W => Below V.heap.size V W) (fun _ w w' => Below w.heap.size w w') (FF [.pointer (some ⟨bQ, 0, none⟩), .int .i64 (F), .slice (aD) (LD.length) (cD), undef, .int .i64 (F), .bool false, .bool false, .pointer (some ⟨bR, 0, none⟩), .int .i64 (G), .slice (aO) (LO.length) (cO), undef, .int .i64 (G), .bool false, .bool false] [(3, SpQ (F) (m) (q) (p) (l.length) (hV l)), (10, SpT (G) (t) (lr.length) (hV lr) (lb.length) (bV lb))]) (fun _ => true) (by kernel_rfl) (by kernel_rfl) (guard_FF (by kernel_rfl) (by kernel_rfl)) ?_ (Below.refl _ _).drew (fun _ _ _ h1 h2 => below_then h1 h2) (fun _ _ _ _ _ _ _ h2 h3 => FF.keep (by simp only [List.forall_mem_cons]; exact ⟨SpQ.keep, SpT.keep, fun _ h => by cases h⟩) _ _ _ _ h2 h3) ?_ ?_ ?_
    · intro i w h; cases h
    · intro i o v w hi hd hF
      exact absurd hd (by have := unB_spec (k := 999) (by kernel_rfl) hi hd; have := (Array.getElem?_eq_some_iff.1 hi).1; simp at this; omega)
    · repeat' (refine And.intro ?_ ?_)
      · intro _ ρ W hI hbase hdep
        have hc : ∀ v, ρ (.const v) = v := fun v => hbase _ (fun _ _ _ _ _ e => by cases e)
        have b4 : ρ (.tmp 4) = .pointer (some ⟨bQ, 0, none⟩) := hbase (.tmp 4) (base_tmp (by kernel_rfl))
        simp only [execOp, hc, b4]
        go_simp
        exact ⟨Below.refl _ _, rfl⟩
      · intro _ ρ W hI hbase hdep
        have hc : ∀ v, ρ (.const v) = v := fun v => hbase _ (fun _ _ _ _ _ e => by cases e)
        have p0 : ρ (.tmp 17) = .pointer (some ⟨bQ, 0, none⟩) := (Option.some.inj (hdep ⟨0, .data⟩ (by simp) rfl _ 17 rfl rfl : some (.pointer (some ⟨bQ, 0, none⟩)) = some (ρ (.tmp 17)))).symm
        obtain ⟨m0, m1, m2, m3, m4⟩ := hcQ W hI
        simp only [execOp, hc, p0]
        go_simp
        exact ⟨Below.refl _ _, rfl⟩
      · intro _ ρ W hI hbase hdep
        have hc : ∀ v, ρ (.const v) = v := fun v => hbase _ (fun _ _ _ _ _ e => by cases e)
        have b3 : ρ (.tmp 3) = .slice (aD) (LD.length) (cD) := hbase (.tmp 3) (base_tmp (by kernel_rfl))
        simp only [execOp, hc, b3]
        go_simp
        exact ⟨Below.refl _ _, rfl⟩
      · intro _ ρ W hI hbase hdep
        have hc : ∀ v, ρ (.const v) = v := fun v => hbase _ (fun _ _ _ _ _ e => by cases e)
        have hfn : ∀ f, ρ (.func f) = .func (.func f) #[] #[] := fun v => hbase _ (fun _ _ _ _ _ e => by cases e)
        have p2 : ρ (.tmp 19) = .slice (aD) (LD.length) (cD) := (Option.some.inj (hdep ⟨2, .data⟩ (by simp) rfl _ 19 rfl rfl : some (.slice (aD) (LD.length) (cD)) = some (ρ (.tmp 19)))).symm
        simp only [execOp, hc, hfn, p2]
        go_simp
        exact ⟨rfl, (C1.out W (rdD.below hI)).mono fun e w' ⟨a, n, c, h1, ⟨h2, h3⟩, h4⟩ => by subst h2; exact ⟨_, h1, h4, a, c, rfl, h3.rd⟩⟩
      · intro _ ρ W hI hbase hdep
        have hc : ∀ v, ρ (.const v) = v := fun v => hbase _ (fun _ _ _ _ _ e => by cases e)
        obtain ⟨a3, c3, p3, hsp3⟩ : ∃ a3 c3, ρ (.tmp 20) = .agg #[.int .i64 (F), .string (m), .string (q), .string (p), .slice (a3) (l.length) (c3)] ∧ Rd W a3 (hV l) := hdep ⟨3, .data⟩ (by simp) rfl _ 20 rfl rfl
        simp only [execOp, hc, p3]
        exact good_val (show (Instr.field 29 (.agg #[.int .i64 (F), .string (m), .string (q), .string (p), .slice (a3) (l.length) (c3)]) 0).run Tryz.prog W = .ok (.int .i64 (F)) W by kernel_rfl) ⟨Below.refl _ _, rfl⟩
      · intro _ ρ W hI hbase hdep
        have hc : ∀ v, ρ (.const v) = v := fun v => hbase _ (fun _ _ _ _ _ e => by cases e)
        have p1 : ρ (.tmp 18) = .int .i64 (F) := (Option.some.inj (hdep ⟨1, .data⟩ (by simp) rfl _ 18 rfl rfl : some (.int .i64 (F)) = some (ρ (.tmp 18)))).symm
        have p4 : ρ (.tmp 21) = .int .i64 (F) := (Option.some.inj (hdep ⟨4, .data⟩ (by simp) rfl _ 21 rfl rfl : some (.int .i64 (F)) = some (ρ (.tmp 21)))).symm
        simp only [execOp, hc, p1, p4]
        go_simp
        exact ⟨Below.refl _ _, rfl⟩
      · intro _ ρ W hI hbase hdep
        have hc : ∀ v, ρ (.const v) = v := fun v => hbase _ (fun _ _ _ _ _ e => by cases e)
        have p5 : ρ (.tmp 22) = .bool false := (Option.some.inj (hdep ⟨5, .data⟩ (by simp) rfl _ 22 rfl rfl : some (.bool false) = some (ρ (.tmp 22)))).symm
        simp only [execOp, hc, p5]
        go_simp
        exact ⟨Below.refl _ _, rfl⟩
      · intro _ ρ W hI hbase hdep
        have hc : ∀ v, ρ (.const v) = v := fun v => hbase _ (fun _ _ _ _ _ e => by cases e)
        have b6 : ρ (.tmp 6) = .pointer (some ⟨bR, 0, none⟩) := hbase (.tmp 6) (base_tmp (by kernel_rfl))
        simp only [execOp, hc, b6]
        go_simp
        exact ⟨Below.refl _ _, rfl⟩
      · intro _ ρ W hI hbase hdep
        have hc : ∀ v, ρ (.const v) = v := fun v => hbase _ (fun _ _ _ _ _ e => by cases e)
        have p7 : ρ (.tmp 24) = .pointer (some ⟨bR, 0, none⟩) := (Option.some.inj (hdep ⟨7, .data⟩ (by simp) rfl _ 24 rfl rfl : some (.pointer (some ⟨bR, 0, none⟩)) = some (ρ (.tmp 24)))).symm
        obtain ⟨m0, m1, m2, m3⟩ := hcR W hI
        simp only [execOp, hc, p7]
        go_simp
        exact ⟨Below.refl _ _, rfl⟩
      · intro _ ρ W hI hbase hdep
        have hc : ∀ v, ρ (.const v) = v := fun v => hbase _ (fun _ _ _ _ _ e => by cases e)
        have b5 : ρ (.tmp 5) = .slice (aO) (LO.length) (cO) := hbase (.tmp 5) (base_tmp (by kernel_rfl))
        simp only [execOp, hc, b5]
        go_simp
        exact ⟨Below.refl _ _, rfl⟩
      · intro _ ρ W hI hbase hdep
        have hc : ∀ v, ρ (.const v) = v := fun v => hbase _ (fun _ _ _ _ _ e => by cases e)
        have hfn : ∀ f, ρ (.func f) = .func (.func f) #[] #[] := fun v => hbase _ (fun _ _ _ _ _ e => by cases e)
        have p9 : ρ (.tmp 26) = .slice (aO) (LO.length) (cO) := (Option.some.inj (hdep ⟨9, .data⟩ (by simp) rfl _ 26 rfl rfl : some (.slice (aO) (LO.length) (cO)) = some (ρ (.tmp 26)))).symm
        simp only [execOp, hc, hfn, p9]
        go_simp
        exact ⟨rfl, (C2.out W (rdO.below hI)).mono fun e w' ⟨a, n, c, ab, nb, cb, mid, h1, ⟨h2, h3⟩, _, h4, h5, h6⟩ => by subst h2; subst h3; exact ⟨_, h1, h6, a, c, ab, cb, rfl, h4.rd, h5.rd⟩⟩
      · intro _ ρ W hI hbase hdep
        have hc : ∀ v, ρ (.const v) = v := fun v => hbase _ (fun _ _ _ _ _ e => by cases e)
        obtain ⟨a10, c10, ab10, cb10, p10, hsp10⟩ : ∃ a10 c10 ab10 cb10, ρ (.tmp 27) = .agg #[.int .i64 (G), .int .i64 (t), .slice (a10) (lr.length) (c10), .slice (ab10) (lb.length) (cb10)] ∧ Rd W a10 (hV lr) ∧ Rd W ab10 (bV lb) := hdep ⟨10, .data⟩ (by simp) rfl _ 27 rfl rfl
        simp only [execOp, hc, p10]
        exact good_val (show (Instr.field 34 (.agg #[.int .i64 (G), .int .i64 (t), .slice (a10) (lr.length) (c10), .slice (ab10) (lb.length) (cb10)]) 0).run Tryz.prog W = .ok (.int .i64 (G)) W by kernel_rfl) ⟨Below.refl _ _, rfl⟩
      · intro _ ρ W hI hbase hdep
        have hc : ∀ v, ρ (.const v) = v := fun v => hbase _ (fun _ _ _ _ _ e => by cases e)
        have p8 : ρ (.tmp 25) = .int .i64 (G) := (Option.some.inj (hdep ⟨8, .data⟩ (by simp) rfl _ 25 rfl rfl : some (.int .i64 (G)) = some (ρ (.tmp 25)))).symm
        have p11 : ρ (.tmp 28) = .int .i64 (G) := (Option.some.inj (hdep ⟨11, .data⟩ (by simp) rfl _ 28 rfl rfl : some (.int .i64 (G)) = some (ρ (.tmp 28)))).symm
        simp only [execOp, hc, p8, p11]
        go_simp
        exact ⟨Below.refl _ _, rfl⟩
      · intro _ ρ W hI hbase hdep
        have hc : ∀ v, ρ (.const v) = v := fun v => hbase _ (fun _ _ _ _ _ e => by cases e)
        have p6 : ρ (.tmp 23) = .bool false := (Option.some.inj (hdep ⟨6, .data⟩ (by simp) rfl _ 23 rfl rfl : some (.bool false) = some (ρ (.tmp 23)))).symm
        have p12 : ρ (.tmp 29) = .bool false := (Option.some.inj (hdep ⟨12, .data⟩ (by simp) rfl _ 29 rfl rfl : some (.bool false) = some (ρ (.tmp 29)))).symm
        simp only [execOp, hc, p6, p12]
        go_simp
        exact ⟨Below.refl _ _, rfl⟩
      · trivial
    intro a' W hI ha hdf hall _ hrest
    have p0 : a'.tmps.getD 17 undef = .pointer (some ⟨bQ, 0, none⟩) := (Option.some.inj (hall 0 _ 17 rfl rfl : some (.pointer (some ⟨bQ, 0, none⟩)) = some (a'.tmps.getD 17 undef))).symm
    have p1 : a'.tmps.getD 18 undef = .int .i64 (F) := (Option.some.inj (hall 1 _ 18 rfl rfl : some (.int .i64 (F)) = some (a'.tmps.getD 18 undef))).symm
    have p2 : a'.tmps.getD 19 undef = .slice (aD) (LD.length) (cD) := (Option.some.inj (hall 2 _ 19 rfl rfl : some (.slice (aD) (LD.length) (cD)) = some (a'.tmps.getD 19 undef))).symm
    obtain ⟨a3, c3, p3, hsp3⟩ : ∃ a3 c3, a'.tmps.getD 20 undef = .agg #[.int .i64 (F), .string (m), .string (q), .string (p), .slice (a3) (l.length) (c3)] ∧ Rd W a3 (hV l) := hall 3 _ 20 rfl rfl
    have p4 : a'.tmps.getD 21 undef = .int .i64 (F) := (Option.some.inj (hall 4 _ 21 rfl rfl : some (.int .i64 (F)) = some (a'.tmps.getD 21 undef))).symm
    have p5 : a'.tmps.getD 22 undef = .bool false := (Option.some.inj (hall 5 _ 22 rfl rfl : some (.bool false) = some (a'.tmps.getD 22 undef))).symm
    have p6 : a'.tmps.getD 23 undef = .bool false := (Option.some.inj (hall 6 _ 23 rfl rfl : some (.bool false) = some (a'.tmps.getD 23 undef))).symm
    have p7 : a'.tmps.getD 24 undef = .pointer (some ⟨bR, 0, none⟩) := (Option.some.inj (hall 7 _ 24 rfl rfl : some (.pointer (some ⟨bR, 0, none⟩)) = some (a'.tmps.getD 24 undef))).symm
    have p8 : a'.tmps.getD 25 undef = .int .i64 (G) := (Option.some.inj (hall 8 _ 25 rfl rfl : some (.int .i64 (G)) = some (a'.tmps.getD 25 undef))).symm
    have p9 : a'.tmps.getD 26 undef = .slice (aO) (LO.length) (cO) := (Option.some.inj (hall 9 _ 26 rfl rfl : some (.slice (aO) (LO.length) (cO)) = some (a'.tmps.getD 26 undef))).symm
    obtain ⟨a10, c10, ab10, cb10, p10, hsp10⟩ : ∃ a10 c10 ab10 cb10, a'.tmps.getD 27 undef = .agg #[.int .i64 (G), .int .i64 (t), .slice (a10) (lr.length) (c10), .slice (ab10) (lb.length) (cb10)] ∧ Rd W a10 (hV lr) ∧ Rd W ab10 (bV lb) := hall 10 _ 27 rfl rfl
    have p11 : a'.tmps.getD 28 undef = .int .i64 (G) := (Option.some.inj (hall 11 _ 28 rfl rfl : some (.int .i64 (G)) = some (a'.tmps.getD 28 undef))).symm
    have p12 : a'.tmps.getD 29 undef = .bool false := (Option.some.inj (hall 12 _ 29 rfl rfl : some (.bool false) = some (a'.tmps.getD 29 undef))).symm
    have p13 : a'.tmps.getD 30 undef = .bool false := (Option.some.inj (hall 13 _ 30 rfl rfl : some (.bool false) = some (a'.tmps.getD 30 undef))).symm
    have ea := after_region [(17, _), (18, _), (19, _), (20, _), (21, _), (22, _), (23, _), (24, _), (25, _), (26, _), (27, _), (28, _), (29, _), (30, _)] ha hdf hrest (by kernel_rfl) (by simp only [List.forall_mem_cons]; exact ⟨p0, p1, p2, p3, p4, p5, p6, p7, p8, p9, p10, p11, p12, p13, fun _ h => by cases h⟩)
    subst ea
    simp only [List.foldl_cons, List.foldl_nil, List.setIfInBounds_toArray, List.set_cons_zero, List.set_cons_succ]
    clear p0 p1 p2 p3 p4 p5 p6 p7 p8 p9 p10 p11 p12 p13 hall hrest ha hdf
    have hzb : Below V.heap.size V W := hI
    have kQ := blk_then kQ hzb
    have kR := blk_then kR hzb
    have rdl := rdl.below hzb
    have rdr := rdr.below hzb
    have rdb := rdb.below hzb
    have hM := hM.then hzb
    have hT := hT.then hzb
    have belV := below_then belV hzb
    clear hI hzb hcQ hcR C1 C2 rdD rdO
    generalize W = z at *
    clear hb hc hf hz hlt hle hn1 hn2 hn3 hn4
    go_upto_region 9 with fail
    go_cut [45] (fun s45 wx => s45 = .bool false ∧ Below z.heap.size z wx)
    case first =>
      have hcQ := fun W (hI : Below z.heap.size z W) => cells5 (blk_then kQ hI)
      by_cases hc0 : F = 0
      · subst hc0
        have e0 : rqFault m q p l = 0 := reqR_ok Hpq.out
        obtain ⟨h20, hs2, hm1, hq1, hp1⟩ := rq_small e0
        have hbk := request_back e0
        have d0 := fun W hr => impl_PackRequest m q p (by omega) (by omega) (by omega) aQ l.length cQ l rfl W hr (by omega) (fun h hh => by have := hs2 h hh; omega)
        simp only [packQ_ok e0] at d0
        generalize (reqS m q p l).data.toList = LA at *
        have hlen : LA.length ≤ 8000 := by
          by_cases hx : 8000 < LA.length
          · have e2 := reqR_many (t := LA) hx
            rw [e2] at hbk
            exact absurd (Prod.mk.inj hbk).1 (by decide)
          · omega
        have d1 := fun a c W hr hM => impl_ReadRequest a LA.length c LA rfl W hr (by omega) hM
        simp only [hbk] at d1
        have d2 := fun a c W hr hr' => impl_SameRequests m q p a l.length c l rfl m q p aQ l.length cQ l rfl W hr hr' (by omega) (by omega)
        have hs : sameReq m q p l m q p l = true := by simp [sameReq]
        simp only [hs] at d2
        have D0 := Lib.hid d0
        have D1 := Lib.hid d1
        have D2 := Lib.hid d2
        clear d0 d1 d2 hbk e0 hs
        --LEAF again
        refine wp_region_relG (fun W => Below z.heap.size z W) (fun _ w w' => Below w.heap.size w w') (FF [.pointer (some ⟨bQ, 0, none⟩), .int .i64 (0), .bool true, .bool true, .pointer (some ⟨bQ, 1, none⟩), .agg #[.string (m), .string (q), .string (p), .slice (aQ) (l.length) (cQ)], undef, undef, undef, undef, .pointer (some ⟨bQ, 1, none⟩), .agg #[.string (m), .string (q), .string (p), .slice (aQ) (l.length) (cQ)], .bool true, .bool false, .bool false] [(6, SpR (0) (LA.length) (bV LA)), (7, SpV (LA.length) (bV LA)), (8, SpQ (0) (m) (q) (p) (l.length) (hV l)), (9, SpQ1 (m) (q) (p) (l.length) (hV l))]) (fun _ => true) (by kernel_rfl) (by kernel_rfl) (guard_FF (by kernel_rfl) (by kernel_rfl)) ?_ (Below.refl _ _).drew (fun _ _ _ h1 h2 => below_then h1 h2) (fun _ _ _ _ _ _ _ h2 h3 => FF.keep (by simp only [List.forall_mem_cons]; exact ⟨SpR.keep, SpV.keep, SpQ.keep, SpQ1.keep, fun _ h => by cases h⟩) _ _ _ _ h2 h3) ?_ ?_ ?_
        · intro i w h; cases h
        · intro i o v w hi hd hF
          exact absurd hd (by have := unB_spec (k := 999) (by kernel_rfl) hi hd; have := (Array.getElem?_eq_some_iff.1 hi).1; simp at this; omega)
        · repeat' (refine And.intro ?_ ?_)
          · intro _ ρ W hI hbase hdep
            have hc : ∀ v, ρ (.const v) = v := fun v => hbase _ (fun _ _ _ _ _ e => by cases e)
            have b4 : ρ (.tmp 4) = .pointer (some ⟨bQ, 0, none⟩) := hbase (.tmp 4) (base_tmp (by kernel_rfl))
            simp only [execOp, hc, b4]
            go_simp
            exact ⟨Below.refl _ _, rfl⟩
          · intro _ ρ W hI hbase hdep
            have hc : ∀ v, ρ (.const v) = v := fun v => hbase _ (fun _ _ _ _ _ e => by cases e)
            have p0 : ρ (.tmp 31) = .pointer (some ⟨bQ, 0, none⟩) := (Option.some.inj (hdep ⟨0, .data⟩ (by simp) rfl _ 31 rfl rfl : some (.pointer (some ⟨bQ, 0, none⟩)) = some (ρ (.tmp 31)))).symm
            obtain ⟨m0, m1, m2, m3, m4⟩ := hcQ W hI
            simp only [execOp, hc, p0]
            go_simp
            exact ⟨Below.refl _ _, rfl⟩
          · intro _ ρ W hI hbase hdep
            have hc : ∀ v, ρ (.const v) = v := fun v => hbase _ (fun _ _ _ _ _ e => by cases e)
            have p1 : ρ (.tmp 32) = .int .i64 (0) := (Option.some.inj (hdep ⟨1, .data⟩ (by simp) rfl _ 32 rfl rfl : some (.int .i64 (0)) = some (ρ (.tmp 32)))).symm
            simp only [execOp, hc, p1]
            go_simp
            exact ⟨Below.refl _ _, rfl⟩
          · intro _ ρ W hI hbase hdep
            have hc : ∀ v, ρ (.const v) = v := fun v => hbase _ (fun _ _ _ _ _ e => by cases e)
            have p2 : ρ (.tmp 33) = .bool true := (Option.some.inj (hdep ⟨2, .data⟩ (by simp) rfl _ 33 rfl rfl : some (.bool true) = some (ρ (.tmp 33)))).symm
            simp only [execOp, hc, p2]
            go_simp
            exact ⟨Below.refl _ _, rfl⟩
          · intro _ ρ W hI hbase hdep
            have hc : ∀ v, ρ (.const v) = v := fun v => hbase _ (fun _ _ _ _ _ e => by cases e)
            have b4 : ρ (.tmp 4) = .pointer (some ⟨bQ, 0, none⟩) := hbase (.tmp 4) (base_tmp (by kernel_rfl))
            simp only [execOp, hc, b4]
            go_simp
            exact ⟨Below.refl _ _, rfl⟩
          · intro _ ρ W hI hbase hdep
            have hc : ∀ v, ρ (.const v) = v := fun v => hbase _ (fun _ _ _ _ _ e => by cases e)
            have p4 : ρ (.tmp 35) = .pointer (some ⟨bQ, 1, none⟩) := (Option.some.inj (hdep ⟨4, .data⟩ (by simp) rfl _ 35 rfl rfl : some (.pointer (some ⟨bQ, 1, none⟩)) = some (ρ (.tmp 35)))).symm
            obtain ⟨m0, m1, m2, m3, m4⟩ := hcQ W hI
            simp only [execOp, hc, p4]
            go_simp
            exact ⟨Below.refl _ _, rfl⟩
          · intro _ ρ W hI hbase hdep
            have hc : ∀ v, ρ (.const v) = v := fun v => hbase _ (fun _ _ _ _ _ e => by cases e)
            have hfn : ∀ f, ρ (.func f) = .func (.func f) #[] #[] := fun v => hbase _ (fun _ _ _ _ _ e => by cases e)
            have p5 : ρ (.tmp 36) = .agg #[.string (m), .string (q), .string (p), .slice (aQ) (l.length) (cQ)] := (Option.some.inj (hdep ⟨5, .data⟩ (by simp) rfl _ 36 rfl rfl : some (.agg #[.string (m), .string (q), .string (p), .slice (aQ) (l.length) (cQ)]) = some (ρ (.tmp 36)))).symm
            simp only [execOp, hc, hfn, p5]
            go_simp
            exact ⟨rfl, (D0.out W (rdl.below hI)).mono fun e w' ⟨a, n, c, h1, ⟨h2, h3⟩, h4⟩ => by subst h2; exact ⟨_, h1, h4, a, c, rfl, h3.rd⟩⟩
          · intro _ ρ W hI hbase hdep
            have hc : ∀ v, ρ (.const v) = v := fun v => hbase _ (fun _ _ _ _ _ e => by cases e)
            obtain ⟨a6, c6, p6, hsp6⟩ : ∃ a6 c6, ρ (.tmp 37) = .agg #[.int .i64 (0), .slice (a6) (LA.length) (c6)] ∧ Rd W a6 (bV LA) := hdep ⟨6, .data⟩ (by simp) rfl _ 37 rfl rfl
            simp only [execOp, hc, p6]
            exact good_val (show (Instr.field 38 (.agg #[.int .i64 (0), .slice (a6) (LA.length) (c6)]) 1).run Tryz.prog W = .ok (.slice (a6) (LA.length) (c6)) W by kernel_rfl) ⟨Below.refl _ _, a6, c6, rfl, hsp6⟩
          · intro _ ρ W hI hbase hdep
            have hc : ∀ v, ρ (.const v) = v := fun v => hbase _ (fun _ _ _ _ _ e => by cases e)
            have hfn : ∀ f, ρ (.func f) = .func (.func f) #[] #[] := fun v => hbase _ (fun _ _ _ _ _ e => by cases e)
            obtain ⟨a7, c7, p7, hsp7⟩ : ∃ a7 c7, ρ (.tmp 38) = .slice (a7) (LA.length) (c7) ∧ Rd W a7 (bV LA) := hdep ⟨7, .data⟩ (by simp) rfl _ 38 rfl rfl
            simp only [execOp, hc, hfn, p7]
            go_simp
            exact ⟨rfl, (D1.out a7 c7 W hsp7 (hM.then hI)).mono fun e w' ⟨a, n, c, h1, ⟨h2, h3⟩, h4⟩ => by subst h2; exact ⟨_, h1, h4, a, c, rfl, h3.rd⟩⟩
          · intro _ ρ W hI hbase hdep
            have hc : ∀ v, ρ (.const v) = v := fun v => hbase _ (fun _ _ _ _ _ e => by cases e)
            obtain ⟨a8, c8, p8, hsp8⟩ : ∃ a8 c8, ρ (.tmp 39) = .agg #[.int .i64 (0), .string (m), .string (q), .string (p), .slice (a8) (l.length) (c8)] ∧ Rd W a8 (hV l) := hdep ⟨8, .data⟩ (by simp) rfl _ 39 rfl rfl
            simp only [execOp, hc, p8]
            exact good_val (show (Instr.field 29 (.agg #[.int .i64 (0), .string (m), .string (q), .string (p), .slice (a8) (l.length) (c8)]) 1).run Tryz.prog W = .ok (.agg #[.string (m), .string (q), .string (p), .slice (a8) (l.length) (c8)]) W by kernel_rfl) ⟨Below.refl _ _, a8, c8, rfl, hsp8⟩
          · intro _ ρ W hI hbase hdep
            have hc : ∀ v, ρ (.const v) = v := fun v => hbase _ (fun _ _ _ _ _ e => by cases e)
            have b4 : ρ (.tmp 4) = .pointer (some ⟨bQ, 0, none⟩) := hbase (.tmp 4) (base_tmp (by kernel_rfl))
            simp only [execOp, hc, b4]
            go_simp
            exact ⟨Below.refl _ _, rfl⟩
          · intro _ ρ W hI hbase hdep
            have hc : ∀ v, ρ (.const v) = v := fun v => hbase _ (fun _ _ _ _ _ e => by cases e)
            have p10 : ρ (.tmp 41) = .pointer (some ⟨bQ, 1, none⟩) := (Option.some.inj (hdep ⟨10, .data⟩ (by simp) rfl _ 41 rfl rfl : some (.pointer (some ⟨bQ, 1, none⟩)) = some (ρ (.tmp 41)))).symm
            obtain ⟨m0, m1, m2, m3, m4⟩ := hcQ W hI
            simp only [execOp, hc, p10]
            go_simp
            exact ⟨Below.refl _ _, rfl⟩
          · intro _ ρ W hI hbase hdep
            have hc : ∀ v, ρ (.const v) = v := fun v => hbase _ (fun _ _ _ _ _ e => by cases e)
            have hfn : ∀ f, ρ (.func f) = .func (.func f) #[] #[] := fun v => hbase _ (fun _ _ _ _ _ e => by cases e)
            obtain ⟨a9, c9, p9, hsp9⟩ : ∃ a9 c9, ρ (.tmp 40) = .agg #[.string (m), .string (q), .string (p), .slice (a9) (l.length) (c9)] ∧ Rd W a9 (hV l) := hdep ⟨9, .data⟩ (by simp) rfl _ 40 rfl rfl
            have p11 : ρ (.tmp 42) = .agg #[.string (m), .string (q), .string (p), .slice (aQ) (l.length) (cQ)] := (Option.some.inj (hdep ⟨11, .data⟩ (by simp) rfl _ 42 rfl rfl : some (.agg #[.string (m), .string (q), .string (p), .slice (aQ) (l.length) (cQ)]) = some (ρ (.tmp 42)))).symm
            simp only [execOp, hc, hfn, p9, p11]
            go_simp
            exact ⟨rfl, (D2.out a9 c9 W hsp9 (rdl.below hI)).mono fun e w' h => ⟨_, h.1, h.2, rfl⟩⟩
          · intro _ ρ W hI hbase hdep
            have hc : ∀ v, ρ (.const v) = v := fun v => hbase _ (fun _ _ _ _ _ e => by cases e)
            have p12 : ρ (.tmp 43) = .bool true := (Option.some.inj (hdep ⟨12, .data⟩ (by simp) rfl _ 43 rfl rfl : some (.bool true) = some (ρ (.tmp 43)))).symm
            simp only [execOp, hc, p12]
            go_simp
            exact ⟨Below.refl _ _, rfl⟩
          · intro _ ρ W hI hbase hdep
            have hc : ∀ v, ρ (.const v) = v := fun v => hbase _ (fun _ _ _ _ _ e => by cases e)
            have p3 : ρ (.tmp 34) = .bool true := (Option.some.inj (hdep ⟨3, .data⟩ (by simp) rfl _ 34 rfl rfl : some (.bool true) = some (ρ (.tmp 34)))).symm
            have p13 : ρ (.tmp 44) = .bool false := (Option.some.inj (hdep ⟨13, .data⟩ (by simp) rfl _ 44 rfl rfl : some (.bool false) = some (ρ (.tmp 44)))).symm
            simp only [execOp, hc, p3, p13]
            go_simp
            exact ⟨Below.refl _ _, rfl⟩
          · trivial
        intro a' W hI ha hdf hall _ hrest
        have p0 : a'.tmps.getD 31 undef = .pointer (some ⟨bQ, 0, none⟩) := (Option.some.inj (hall 0 _ 31 rfl rfl : some (.pointer (some ⟨bQ, 0, none⟩)) = some (a'.tmps.getD 31 undef))).symm
        have p1 : a'.tmps.getD 32 undef = .int .i64 (0) := (Option.some.inj (hall 1 _ 32 rfl rfl : some (.int .i64 (0)) = some (a'.tmps.getD 32 undef))).symm
        have p2 : a'.tmps.getD 33 undef = .bool true := (Option.some.inj (hall 2 _ 33 rfl rfl : some (.bool true) = some (a'.tmps.getD 33 undef))).symm
        have p3 : a'.tmps.getD 34 undef = .bool true := (Option.some.inj (hall 3 _ 34 rfl rfl : some (.bool true) = some (a'.tmps.getD 34 undef))).symm
        have p4 : a'.tmps.getD 35 undef = .pointer (some ⟨bQ, 1, none⟩) := (Option.some.inj (hall 4 _ 35 rfl rfl : some (.pointer (some ⟨bQ, 1, none⟩)) = some (a'.tmps.getD 35 undef))).symm
        have p5 : a'.tmps.getD 36 undef = .agg #[.string (m), .string (q), .string (p), .slice (aQ) (l.length) (cQ)] := (Option.some.inj (hall 5 _ 36 rfl rfl : some (.agg #[.string (m), .string (q), .string (p), .slice (aQ) (l.length) (cQ)]) = some (a'.tmps.getD 36 undef))).symm
        obtain ⟨a6, c6, p6, hsp6⟩ : ∃ a6 c6, a'.tmps.getD 37 undef = .agg #[.int .i64 (0), .slice (a6) (LA.length) (c6)] ∧ Rd W a6 (bV LA) := hall 6 _ 37 rfl rfl
        obtain ⟨a7, c7, p7, hsp7⟩ : ∃ a7 c7, a'.tmps.getD 38 undef = .slice (a7) (LA.length) (c7) ∧ Rd W a7 (bV LA) := hall 7 _ 38 rfl rfl
        obtain ⟨a8, c8, p8, hsp8⟩ : ∃ a8 c8, a'.tmps.getD 39 undef = .agg #[.int .i64 (0), .string (m), .string (q), .string (p), .slice (a8) (l.length) (c8)] ∧ Rd W a8 (hV l) := hall 8 _ 39 rfl rfl
        obtain ⟨a9, c9, p9, hsp9⟩ : ∃ a9 c9, a'.tmps.getD 40 undef = .agg #[.string (m), .string (q), .string (p), .slice (a9) (l.length) (c9)] ∧ Rd W a9 (hV l) := hall 9 _ 40 rfl rfl
        have p10 : a'.tmps.getD 41 undef = .pointer (some ⟨bQ, 1, none⟩) := (Option.some.inj (hall 10 _ 41 rfl rfl : some (.pointer (some ⟨bQ, 1, none⟩)) = some (a'.tmps.getD 41 undef))).symm
        have p11 : a'.tmps.getD 42 undef = .agg #[.string (m), .string (q), .string (p), .slice (aQ) (l.length) (cQ)] := (Option.some.inj (hall 11 _ 42 rfl rfl : some (.agg #[.string (m), .string (q), .string (p), .slice (aQ) (l.length) (cQ)]) = some (a'.tmps.getD 42 undef))).symm
        have p12 : a'.tmps.getD 43 undef = .bool true := (Option.some.inj (hall 12 _ 43 rfl rfl : some (.bool true) = some (a'.tmps.getD 43 undef))).symm
        have p13 : a'.tmps.getD 44 undef = .bool false := (Option.some.inj (hall 13 _ 44 rfl rfl : some (.bool false) = some (a'.tmps.getD 44 undef))).symm
        have p14 : a'.tmps.getD 45 undef = .bool false := (Option.some.inj (hall 14 _ 45 rfl rfl : some (.bool false) = some (a'.tmps.getD 45 undef))).symm
        have ea := after_region [(31, _), (32, _), (33, _), (34, _), (35, _), (36, _), (37, _), (38, _), (39, _), (40, _), (41, _), (42, _), (43, _), (44, _), (45, _)] ha hdf hrest (by kernel_rfl) (by simp only [List.forall_mem_cons]; exact ⟨p0, p1, p2, p3, p4, p5, p6, p7, p8, p9, p10, p11, p12, p13, p14, fun _ h => by cases h⟩)
        subst ea
        simp only [List.foldl_cons, List.foldl_nil, List.setIfInBounds_toArray, List.set_cons_zero, List.set_cons_succ]
        clear p0 p1 p2 p3 p4 p5 p6 p7 p8 p9 p10 p11 p12 p13 p14 hall hrest ha hdf
        go_wp2_with fail
        go_meet
        exact ⟨rfl, hI⟩
        --END
      · have hcb : (F == 0) = false := by rw [beq_eq_false_iff_ne]; exact hc0
        --LEAF notagain
        refine wp_region_relG (fun W => Below z.heap.size z W) (fun _ w w' => Below w.heap.size w w') (FF [.pointer (some ⟨bQ, 0, none⟩), .int .i64 (F), .bool false, .bool false, undef, undef, undef, undef, undef, undef, undef, undef, undef, undef, .bool false] []) (fun i => !(decide (i = 4) || decide (i = 5) || decide (i = 6) || decide (i = 7) || decide (i = 8) || decide (i = 9) || decide (i = 10) || decide (i = 11) || decide (i = 12) || decide (i = 13))) (by kernel_rfl) (by kernel_rfl) (guard_FF (by kernel_rfl) (by kernel_rfl)) ?_ (Below.refl _ _).drew (fun _ _ _ h1 h2 => below_then h1 h2) (fun _ _ _ _ _ _ _ h2 h3 => FF.keep (fun _ h => by cases h) _ _ _ _ h2 h3) ?_ ?_ ?_
        · intro i w h _
          simp only [Bool.not_eq_false', Bool.or_eq_true, decide_eq_true_eq] at h
          rcases (show i = 4 ∨ i = 5 ∨ i = 6 ∨ i = 7 ∨ i = 8 ∨ i = 9 ∨ i = 10 ∨ i = 11 ∨ i = 12 ∨ i = 13 by omega) with rfl | rfl | rfl | rfl | rfl | rfl | rfl | rfl | rfl | rfl <;> rfl
        · intro i o v w hi hd hF
          exact absurd hd (by have := unB_spec (k := 999) (by kernel_rfl) hi hd; have := (Array.getElem?_eq_some_iff.1 hi).1; simp at this; omega)
        · repeat' (refine And.intro ?_ ?_)
          · intro _ ρ W hI hbase hdep
            have hc : ∀ v, ρ (.const v) = v := fun v => hbase _ (fun _ _ _ _ _ e => by cases e)
            have b4 : ρ (.tmp 4) = .pointer (some ⟨bQ, 0, none⟩) := hbase (.tmp 4) (base_tmp (by kernel_rfl))
            simp only [execOp, hc, b4]
            go_simp
            exact ⟨Below.refl _ _, rfl⟩
          · intro _ ρ W hI hbase hdep
            have hc : ∀ v, ρ (.const v) = v := fun v => hbase _ (fun _ _ _ _ _ e => by cases e)
            have p0 : ρ (.tmp 31) = .pointer (some ⟨bQ, 0, none⟩) := (Option.some.inj (hdep ⟨0, .data⟩ (by simp) rfl _ 31 rfl rfl : some (.pointer (some ⟨bQ, 0, none⟩)) = some (ρ (.tmp 31)))).symm
            obtain ⟨m0, m1, m2, m3, m4⟩ := hcQ W hI
            simp only [execOp, hc, p0]
            go_simp
            exact ⟨Below.refl _ _, rfl⟩
          · intro _ ρ W hI hbase hdep
            have hc : ∀ v, ρ (.const v) = v := fun v => hbase _ (fun _ _ _ _ _ e => by cases e)
            have p1 : ρ (.tmp 32) = .int .i64 (F) := (Option.some.inj (hdep ⟨1, .data⟩ (by simp) rfl _ 32 rfl rfl : some (.int .i64 (F)) = some (ρ (.tmp 32)))).symm
            simp only [execOp, hc, p1]
            go_simp
            exact ⟨Below.refl _ _, rfl⟩
          · intro _ ρ W hI hbase hdep
            have hc : ∀ v, ρ (.const v) = v := fun v => hbase _ (fun _ _ _ _ _ e => by cases e)
            have p2 : ρ (.tmp 33) = .bool false := (Option.some.inj (hdep ⟨2, .data⟩ (by simp) rfl _ 33 rfl rfl : some (.bool false) = some (ρ (.tmp 33)))).symm
            simp only [execOp, hc, p2]
            go_simp
            exact ⟨Below.refl _ _, rfl⟩
          · intro h; exact absurd h (by decide)
          · intro h; exact absurd h (by decide)
          · intro h; exact absurd h (by decide)
          · intro h; exact absurd h (by decide)
          · intro h; exact absurd h (by decide)
          · intro h; exact absurd h (by decide)
          · intro h; exact absurd h (by decide)
          · intro h; exact absurd h (by decide)
          · intro h; exact absurd h (by decide)
          · intro h; exact absurd h (by decide)
          · intro _ ρ W hI hbase hdep
            have hc : ∀ v, ρ (.const v) = v := fun v => hbase _ (fun _ _ _ _ _ e => by cases e)
            have p3 : ρ (.tmp 34) = .bool false := (Option.some.inj (hdep ⟨3, .data⟩ (by simp) rfl _ 34 rfl rfl : some (.bool false) = some (ρ (.tmp 34)))).symm
            have p13 : ρ (.tmp 44) = undef := (Option.some.inj (hdep ⟨13, .data⟩ (by simp) rfl _ 44 rfl rfl : some (undef) = some (ρ (.tmp 44)))).symm
            simp only [execOp, hc, p3, p13]
            go_simp
            exact ⟨Below.refl _ _, rfl⟩
          · trivial
        intro a' W hI ha hdf hall _ hrest
        have p0 : a'.tmps.getD 31 undef = .pointer (some ⟨bQ, 0, none⟩) := (Option.some.inj (hall 0 _ 31 rfl rfl : some (.pointer (some ⟨bQ, 0, none⟩)) = some (a'.tmps.getD 31 undef))).symm
        have p1 : a'.tmps.getD 32 undef = .int .i64 (F) := (Option.some.inj (hall 1 _ 32 rfl rfl : some (.int .i64 (F)) = some (a'.tmps.getD 32 undef))).symm
        have p2 : a'.tmps.getD 33 undef = .bool false := (Option.some.inj (hall 2 _ 33 rfl rfl : some (.bool false) = some (a'.tmps.getD 33 undef))).symm
        have p3 : a'.tmps.getD 34 undef = .bool false := (Option.some.inj (hall 3 _ 34 rfl rfl : some (.bool false) = some (a'.tmps.getD 34 undef))).symm
        have p4 : a'.tmps.getD 35 undef = undef := (Option.some.inj (hall 4 _ 35 rfl rfl : some (undef) = some (a'.tmps.getD 35 undef))).symm
        have p5 : a'.tmps.getD 36 undef = undef := (Option.some.inj (hall 5 _ 36 rfl rfl : some (undef) = some (a'.tmps.getD 36 undef))).symm
        have p6 : a'.tmps.getD 37 undef = undef := (Option.some.inj (hall 6 _ 37 rfl rfl : some (undef) = some (a'.tmps.getD 37 undef))).symm
        have p7 : a'.tmps.getD 38 undef = undef := (Option.some.inj (hall 7 _ 38 rfl rfl : some (undef) = some (a'.tmps.getD 38 undef))).symm
        have p8 : a'.tmps.getD 39 undef = undef := (Option.some.inj (hall 8 _ 39 rfl rfl : some (undef) = some (a'.tmps.getD 39 undef))).symm
        have p9 : a'.tmps.getD 40 undef = undef := (Option.some.inj (hall 9 _ 40 rfl rfl : some (undef) = some (a'.tmps.getD 40 undef))).symm
        have p10 : a'.tmps.getD 41 undef = undef := (Option.some.inj (hall 10 _ 41 rfl rfl : some (undef) = some (a'.tmps.getD 41 undef))).symm
        have p11 : a'.tmps.getD 42 undef = undef := (Option.some.inj (hall 11 _ 42 rfl rfl : some (undef) = some (a'.tmps.getD 42 undef))).symm
        have p12 : a'.tmps.getD 43 undef = undef := (Option.some.inj (hall 12 _ 43 rfl rfl : some (undef) = some (a'.tmps.getD 43 undef))).symm
        have p13 : a'.tmps.getD 44 undef = undef := (Option.some.inj (hall 13 _ 44 rfl rfl : some (undef) = some (a'.tmps.getD 44 undef))).symm
        have p14 : a'.tmps.getD 45 undef = .bool false := (Option.some.inj (hall 14 _ 45 rfl rfl : some (.bool false) = some (a'.tmps.getD 45 undef))).symm
        have ea := after_region [(31, _), (32, _), (33, _), (34, _), (35, _), (36, _), (37, _), (38, _), (39, _), (40, _), (41, _), (42, _), (43, _), (44, _), (45, _)] ha hdf hrest (by kernel_rfl) (by simp only [List.forall_mem_cons]; exact ⟨p0, p1, p2, p3, p4, p5, p6, p7, p8, p9, p10, p11, p12, p13, p14, fun _ h => by cases h⟩)
        subst ea
        simp only [List.foldl_cons, List.foldl_nil, List.setIfInBounds_toArray, List.set_cons_zero, List.set_cons_succ]
        clear p0 p1 p2 p3 p4 p5 p6 p7 p8 p9 p10 p11 p12 p13 p14 hall hrest ha hdf
        go_wp2_with fail
        go_meet
        exact ⟨rfl, hI⟩
        --END
    case rest =>
      obtain ⟨rfl, hbc⟩ := hcut
      have kQ := blk_then kQ hbc
      have kR := blk_then kR hbc
      have rdl := rdl.below hbc
      have rdr := rdr.below hbc
      have rdb := rdb.below hbc
      have hM := hM.then hbc
      have hT := hT.then hbc
      have belV := below_then belV hbc
      clear hbc
      go_upto_region 11 with fail
      have hcR := fun W (hI : Below wc.heap.size wc W) => cells4 (blk_then kR hI)
      by_cases hc0 : G = 0
      · subst hc0
        have e0 : rspFault t lr lb.length = 0 := rspR_ok Hpp.out
        obtain ⟨h20, hs2, ht0, ht1, hnb⟩ := rsp_small e0
        have hs9 : ∀ h ∈ lr, h.1.size ≤ 9223372036854775807 ∧ h.2.size ≤ 9223372036854775807 := fun h hh => by have := hs2 h hh; omega
        have hbk := response_back e0
        have g0 := fun W hr hrb hT => impl_PackResponse t aR lr.length cR lr rfl abR lb.length cbR lb rfl W hr (by omega) (by omega) hs9 hrb hT
        simp only [packP_ok e0] at g0
        generalize (rspS t lr).data.toList ++ lb = LB at *
        have hlen : LB.length ≤ 10000 := by
          by_cases hx : 10000 < LB.length
          · have e2 := rspR_many (t := LB) hx
            rw [e2] at hbk
            exact absurd (Prod.mk.inj hbk).1 (by decide)
          · omega
        have g1 := fun a c W hr hM => impl_ReadResponse a LB.length c LB rfl W hr (by omega) hM
        simp only [hbk] at g1
        have g2 := fun a c ab cb W hr hr' hrb hrb' => impl_SameResponses t a lr.length c lr rfl ab lb.length cb lb rfl t aR lr.length cR lr rfl abR lb.length cbR lb rfl W hr hr' hrb hrb' (by omega) (by omega)
        have g3 := fun W hr => impl_ResponseFault t aR lr.length cR lr rfl abR lb.length cbR W hr (by omega) (by omega) hs9
        have hs : sameRsp t lr lb t lr lb = true := by simp [sameRsp]
        simp only [hs] at g2
        simp only [e0] at g3
        have G0 := Lib.hid g0
        have G1 := Lib.hid g1
        have G2 := Lib.hid g2
        have G3 := Lib.hid g3
        clear g0 g1 g2 g3 hbk e0 hs hs9 hs2
        --LEAF rsp
        refine wp_region_relG (fun W => Below wc.heap.size wc W) (fun _ w w' => Below w.heap.size w w') (FF [.pointer (some ⟨bR, 0, none⟩), .int .i64 (0), .bool false, .bool false, .pointer (some ⟨bR, 1, none⟩), .agg #[.int .i64 (t), .slice (aR) (lr.length) (cR), .slice (abR) (lb.length) (cbR)], undef, undef, undef, undef, .pointer (some ⟨bR, 1, none⟩), .agg #[.int .i64 (t), .slice (aR) (lr.length) (cR), .slice (abR) (lb.length) (cbR)], .bool true, .bool true, .pointer (some ⟨bR, 1, none⟩), .agg #[.int .i64 (t), .slice (aR) (lr.length) (cR), .slice (abR) (lb.length) (cbR)], .int .i64 (0), .bool true, .bool true, .bool true, .bool true] [(6, SpR (0) (LB.length) (bV LB)), (7, SpV (LB.length) (bV LB)), (8, SpT (0) (t) (lr.length) (hV lr) (lb.length) (bV lb)), (9, SpT1 (t) (lr.length) (hV lr) (lb.length) (bV lb))]) (fun _ => true) (by kernel_rfl) (by kernel_rfl) (guard_FF (by kernel_rfl) (by kernel_rfl)) ?_ (Below.refl _ _).drew (fun _ _ _ h1 h2 => below_then h1 h2) (fun _ _ _ _ _ _ _ h2 h3 => FF.keep (by simp only [List.forall_mem_cons]; exact ⟨SpR.keep, SpV.keep, SpT.keep, SpT1.keep, fun _ h => by cases h⟩) _ _ _ _ h2 h3) ?_ ?_ ?_
        · intro i w h; cases h
        · intro i o v w hi hd hF
          exact absurd hd (by have := unB_spec (k := 999) (by kernel_rfl) hi hd; have := (Array.getElem?_eq_some_iff.1 hi).1; simp at this; omega)
        · repeat' (refine And.intro ?_ ?_)
          · intro _ ρ W hI hbase hdep
            have hc : ∀ v, ρ (.const v) = v := fun v => hbase _ (fun _ _ _ _ _ e => by cases e)
            have b6 : ρ (.tmp 6) = .pointer (some ⟨bR, 0, none⟩) := hbase (.tmp 6) (base_tmp (by kernel_rfl))
            simp only [execOp, hc, b6]
            go_simp
            exact ⟨Below.refl _ _, rfl⟩
          · intro _ ρ W hI hbase hdep
            have hc : ∀ v, ρ (.const v) = v := fun v => hbase _ (fun _ _ _ _ _ e => by cases e)
            have p0 : ρ (.tmp 46) = .pointer (some ⟨bR, 0, none⟩) := (Option.some.inj (hdep ⟨0, .data⟩ (by simp) rfl _ 46 rfl rfl : some (.pointer (some ⟨bR, 0, none⟩)) = some (ρ (.tmp 46)))).symm
            obtain ⟨m0, m1, m2, m3⟩ := hcR W hI
            simp only [execOp, hc, p0]
            go_simp
            exact ⟨Below.refl _ _, rfl⟩
          · intro _ ρ W hI hbase hdep
            have hc : ∀ v, ρ (.const v) = v := fun v => hbase _ (fun _ _ _ _ _ e => by cases e)
            have p1 : ρ (.tmp 47) = .int .i64 (0) := (Option.some.inj (hdep ⟨1, .data⟩ (by simp) rfl _ 47 rfl rfl : some (.int .i64 (0)) = some (ρ (.tmp 47)))).symm
            simp only [execOp, hc, p1]
            go_simp
            exact ⟨Below.refl _ _, rfl⟩
          · intro _ ρ W hI hbase hdep
            have hc : ∀ v, ρ (.const v) = v := fun v => hbase _ (fun _ _ _ _ _ e => by cases e)
            have p2 : ρ (.tmp 48) = .bool false := (Option.some.inj (hdep ⟨2, .data⟩ (by simp) rfl _ 48 rfl rfl : some (.bool false) = some (ρ (.tmp 48)))).symm
            simp only [execOp, hc, p2]
            go_simp
            exact ⟨Below.refl _ _, rfl⟩
          · intro _ ρ W hI hbase hdep
            have hc : ∀ v, ρ (.const v) = v := fun v => hbase _ (fun _ _ _ _ _ e => by cases e)
            have b6 : ρ (.tmp 6) = .pointer (some ⟨bR, 0, none⟩) := hbase (.tmp 6) (base_tmp (by kernel_rfl))
            simp only [execOp, hc, b6]
            go_simp
            exact ⟨Below.refl _ _, rfl⟩
          · intro _ ρ W hI hbase hdep
            have hc : ∀ v, ρ (.const v) = v := fun v => hbase _ (fun _ _ _ _ _ e => by cases e)
            have p4 : ρ (.tmp 50) = .pointer (some ⟨bR, 1, none⟩) := (Option.some.inj (hdep ⟨4, .data⟩ (by simp) rfl _ 50 rfl rfl : some (.pointer (some ⟨bR, 1, none⟩)) = some (ρ (.tmp 50)))).symm
            obtain ⟨m0, m1, m2, m3⟩ := hcR W hI
            simp only [execOp, hc, p4]
            go_simp
            exact ⟨Below.refl _ _, rfl⟩
          · intro _ ρ W hI hbase hdep
            have hc : ∀ v, ρ (.const v) = v := fun v => hbase _ (fun _ _ _ _ _ e => by cases e)
            have hfn : ∀ f, ρ (.func f) = .func (.func f) #[] #[] := fun v => hbase _ (fun _ _ _ _ _ e => by cases e)
            have p5 : ρ (.tmp 51) = .agg #[.int .i64 (t), .slice (aR) (lr.length) (cR), .slice (abR) (lb.length) (cbR)] := (Option.some.inj (hdep ⟨5, .data⟩ (by simp) rfl _ 51 rfl rfl : some (.agg #[.int .i64 (t), .slice (aR) (lr.length) (cR), .slice (abR) (lb.length) (cbR)]) = some (ρ (.tmp 51)))).symm
            simp only [execOp, hc, hfn, p5]
            go_simp
            exact ⟨rfl, (G0.out W (rdr.below hI) (rdb.below hI) (hT.then hI)).mono fun e w' ⟨a, n, c, h1, ⟨h2, h3⟩, h4⟩ => by subst h2; exact ⟨_, h1, h4, a, c, rfl, h3.rd⟩⟩
          · intro _ ρ W hI hbase hdep
            have hc : ∀ v, ρ (.const v) = v := fun v => hbase _ (fun _ _ _ _ _ e => by cases e)
            obtain ⟨a6, c6, p6, hsp6⟩ : ∃ a6 c6, ρ (.tmp 52) = .agg #[.int .i64 (0), .slice (a6) (LB.length) (c6)] ∧ Rd W a6 (bV LB) := hdep ⟨6, .data⟩ (by simp) rfl _ 52 rfl rfl
            simp only [execOp, hc, p6]
            exact good_val (show (Instr.field 38 (.agg #[.int .i64 (0), .slice (a6) (LB.length) (c6)]) 1).run Tryz.prog W = .ok (.slice (a6) (LB.length) (c6)) W by kernel_rfl) ⟨Below.refl _ _, a6, c6, rfl, hsp6⟩
          · intro _ ρ W hI hbase hdep
            have hc : ∀ v, ρ (.const v) = v := fun v => hbase _ (fun _ _ _ _ _ e => by cases e)
            have hfn : ∀ f, ρ (.func f) = .func (.func f) #[] #[] := fun v => hbase _ (fun _ _ _ _ _ e => by cases e)
            obtain ⟨a7, c7, p7, hsp7⟩ : ∃ a7 c7, ρ (.tmp 53) = .slice (a7) (LB.length) (c7) ∧ Rd W a7 (bV LB) := hdep ⟨7, .data⟩ (by simp) rfl _ 53 rfl rfl
            simp only [execOp, hc, hfn, p7]
            go_simp
            exact ⟨rfl, (G1.out a7 c7 W hsp7 (hM.then hI)).mono fun e w' ⟨a, n, c, ab, nb, cb, mid, h1, ⟨h2, h3⟩, _, h4, h5, h6⟩ => by subst h2; subst h3; exact ⟨_, h1, h6, a, c, ab, cb, rfl, h4.rd, h5.rd⟩⟩
          · intro _ ρ W hI hbase hdep
            have hc : ∀ v, ρ (.const v) = v := fun v => hbase _ (fun _ _ _ _ _ e => by cases e)
            obtain ⟨a8, c8, ab8, cb8, p8, hsp8⟩ : ∃ a8 c8 ab8 cb8, ρ (.tmp 54) = .agg #[.int .i64 (0), .int .i64 (t), .slice (a8) (lr.length) (c8), .slice (ab8) (lb.length) (cb8)] ∧ Rd W a8 (hV lr) ∧ Rd W ab8 (bV lb) := hdep ⟨8, .data⟩ (by simp) rfl _ 54 rfl rfl
            simp only [execOp, hc, p8]
            exact good_val (show (Instr.field 34 (.agg #[.int .i64 (0), .int .i64 (t), .slice (a8) (lr.length) (c8), .slice (ab8) (lb.length) (cb8)]) 1).run Tryz.prog W = .ok (.agg #[.int .i64 (t), .slice (a8) (lr.length) (c8), .slice (ab8) (lb.length) (cb8)]) W by kernel_rfl) ⟨Below.refl _ _, a8, c8, ab8, cb8, rfl, hsp8⟩
          · intro _ ρ W hI hbase hdep
            have hc : ∀ v, ρ (.const v) = v := fun v => hbase _ (fun _ _ _ _ _ e => by cases e)
            have b6 : ρ (.tmp 6) = .pointer (some ⟨bR, 0, none⟩) := hbase (.tmp 6) (base_tmp (by kernel_rfl))
            simp only [execOp, hc, b6]
            go_simp
            exact ⟨Below.refl _ _, rfl⟩
          · intro _ ρ W hI hbase hdep
            have hc : ∀ v, ρ (.const v) = v := fun v => hbase _ (fun _ _ _ _ _ e => by cases e)
            have p10 : ρ (.tmp 56) = .pointer (some ⟨bR, 1, none⟩) := (Option.some.inj (hdep ⟨10, .data⟩ (by simp) rfl _ 56 rfl rfl : some (.pointer (some ⟨bR, 1, none⟩)) = some (ρ (.tmp 56)))).symm
            obtain ⟨m0, m1, m2, m3⟩ := hcR W hI
            simp only [execOp, hc, p10]
            go_simp
            exact ⟨Below.refl _ _, rfl⟩
          · intro _ ρ W hI hbase hdep
            have hc : ∀ v, ρ (.const v) = v := fun v => hbase _ (fun _ _ _ _ _ e => by cases e)
            have hfn : ∀ f, ρ (.func f) = .func (.func f) #[] #[] := fun v => hbase _ (fun _ _ _ _ _ e => by cases e)
            obtain ⟨a9, c9, ab9, cb9, p9, hsp9⟩ : ∃ a9 c9 ab9 cb9, ρ (.tmp 55) = .agg #[.int .i64 (t), .slice (a9) (lr.length) (c9), .slice (ab9) (lb.length) (cb9)] ∧ Rd W a9 (hV lr) ∧ Rd W ab9 (bV lb) := hdep ⟨9, .data⟩ (by simp) rfl _ 55 rfl rfl
            have p11 : ρ (.tmp 57) = .agg #[.int .i64 (t), .slice (aR) (lr.length) (cR), .slice (abR) (lb.length) (cbR)] := (Option.some.inj (hdep ⟨11, .data⟩ (by simp) rfl _ 57 rfl rfl : some (.agg #[.int .i64 (t), .slice (aR) (lr.length) (cR), .slice (abR) (lb.length) (cbR)]) = some (ρ (.tmp 57)))).symm
            simp only [execOp, hc, hfn, p9, p11]
            go_simp
            exact ⟨rfl, (G2.out a9 c9 ab9 cb9 W hsp9.1 (rdr.below hI) hsp9.2 (rdb.below hI)).mono fun e w' h => ⟨_, h.1, h.2, rfl⟩⟩
          · intro _ ρ W hI hbase hdep
            have hc : ∀ v, ρ (.const v) = v := fun v => hbase _ (fun _ _ _ _ _ e => by cases e)
            have p12 : ρ (.tmp 58) = .bool true := (Option.some.inj (hdep ⟨12, .data⟩ (by simp) rfl _ 58 rfl rfl : some (.bool true) = some (ρ (.tmp 58)))).symm
            simp only [execOp, hc, p12]
            go_simp
            exact ⟨Below.refl _ _, rfl⟩
          · intro _ ρ W hI hbase hdep
            have hc : ∀ v, ρ (.const v) = v := fun v => hbase _ (fun _ _ _ _ _ e => by cases e)
            have b6 : ρ (.tmp 6) = .pointer (some ⟨bR, 0, none⟩) := hbase (.tmp 6) (base_tmp (by kernel_rfl))
            simp only [execOp, hc, b6]
            go_simp
            exact ⟨Below.refl _ _, rfl⟩
          · intro _ ρ W hI hbase hdep
            have hc : ∀ v, ρ (.const v) = v := fun v => hbase _ (fun _ _ _ _ _ e => by cases e)
            have p14 : ρ (.tmp 60) = .pointer (some ⟨bR, 1, none⟩) := (Option.some.inj (hdep ⟨14, .data⟩ (by simp) rfl _ 60 rfl rfl : some (.pointer (some ⟨bR, 1, none⟩)) = some (ρ (.tmp 60)))).symm
            obtain ⟨m0, m1, m2, m3⟩ := hcR W hI
            simp only [execOp, hc, p14]
            go_simp
            exact ⟨Below.refl _ _, rfl⟩
          · intro _ ρ W hI hbase hdep
            have hc : ∀ v, ρ (.const v) = v := fun v => hbase _ (fun _ _ _ _ _ e => by cases e)
            have hfn : ∀ f, ρ (.func f) = .func (.func f) #[] #[] := fun v => hbase _ (fun _ _ _ _ _ e => by cases e)
            have p15 : ρ (.tmp 61) = .agg #[.int .i64 (t), .slice (aR) (lr.length) (cR), .slice (abR) (lb.length) (cbR)] := (Option.some.inj (hdep ⟨15, .data⟩ (by simp) rfl _ 61 rfl rfl : some (.agg #[.int .i64 (t), .slice (aR) (lr.length) (cR), .slice (abR) (lb.length) (cbR)]) = some (ρ (.tmp 61)))).symm
            simp only [execOp, hc, hfn, p15]
            go_simp
            exact ⟨rfl, (G3.out W (rdr.below hI)).mono fun e w' h => ⟨_, h.1, h.2, rfl⟩⟩
          · intro _ ρ W hI hbase hdep
            have hc : ∀ v, ρ (.const v) = v := fun v => hbase _ (fun _ _ _ _ _ e => by cases e)
            have p16 : ρ (.tmp 62) = .int .i64 (0) := (Option.some.inj (hdep ⟨16, .data⟩ (by simp) rfl _ 62 rfl rfl : some (.int .i64 (0)) = some (ρ (.tmp 62)))).symm
            simp only [execOp, hc, p16]
            go_simp
            exact ⟨Below.refl _ _, rfl⟩
          · intro _ ρ W hI hbase hdep
            have hc : ∀ v, ρ (.const v) = v := fun v => hbase _ (fun _ _ _ _ _ e => by cases e)
            have p13 : ρ (.tmp 59) = .bool true := (Option.some.inj (hdep ⟨13, .data⟩ (by simp) rfl _ 59 rfl rfl : some (.bool true) = some (ρ (.tmp 59)))).symm
            have p17 : ρ (.tmp 63) = .bool true := (Option.some.inj (hdep ⟨17, .data⟩ (by simp) rfl _ 63 rfl rfl : some (.bool true) = some (ρ (.tmp 63)))).symm
            simp only [execOp, hc, p13, p17]
            go_simp
            exact ⟨Below.refl _ _, rfl⟩
          · intro _ ρ W hI hbase hdep
            have hc : ∀ v, ρ (.const v) = v := fun v => hbase _ (fun _ _ _ _ _ e => by cases e)
            have p3 : ρ (.tmp 49) = .bool false := (Option.some.inj (hdep ⟨3, .data⟩ (by simp) rfl _ 49 rfl rfl : some (.bool false) = some (ρ (.tmp 49)))).symm
            have p18 : ρ (.tmp 64) = .bool true := (Option.some.inj (hdep ⟨18, .data⟩ (by simp) rfl _ 64 rfl rfl : some (.bool true) = some (ρ (.tmp 64)))).symm
            simp only [execOp, hc, p3, p18]
            go_simp
            exact ⟨Below.refl _ _, rfl⟩
          · intro _ ρ W hI hbase hdep
            have hc : ∀ v, ρ (.const v) = v := fun v => hbase _ (fun _ _ _ _ _ e => by cases e)
            have p19 : ρ (.tmp 65) = .bool true := (Option.some.inj (hdep ⟨19, .data⟩ (by simp) rfl _ 65 rfl rfl : some (.bool true) = some (ρ (.tmp 65)))).symm
            simp only [execOp, hc, p19]
            go_simp
            exact ⟨Below.refl _ _, rfl⟩
          · trivial
        intro a' W hI ha hdf hall _ hrest
        have p0 : a'.tmps.getD 46 undef = .pointer (some ⟨bR, 0, none⟩) := (Option.some.inj (hall 0 _ 46 rfl rfl : some (.pointer (some ⟨bR, 0, none⟩)) = some (a'.tmps.getD 46 undef))).symm
        have p1 : a'.tmps.getD 47 undef = .int .i64 (0) := (Option.some.inj (hall 1 _ 47 rfl rfl : some (.int .i64 (0)) = some (a'.tmps.getD 47 undef))).symm
        have p2 : a'.tmps.getD 48 undef = .bool false := (Option.some.inj (hall 2 _ 48 rfl rfl : some (.bool false) = some (a'.tmps.getD 48 undef))).symm
        have p3 : a'.tmps.getD 49 undef = .bool false := (Option.some.inj (hall 3 _ 49 rfl rfl : some (.bool false) = some (a'.tmps.getD 49 undef))).symm
        have p4 : a'.tmps.getD 50 undef = .pointer (some ⟨bR, 1, none⟩) := (Option.some.inj (hall 4 _ 50 rfl rfl : some (.pointer (some ⟨bR, 1, none⟩)) = some (a'.tmps.getD 50 undef))).symm
        have p5 : a'.tmps.getD 51 undef = .agg #[.int .i64 (t), .slice (aR) (lr.length) (cR), .slice (abR) (lb.length) (cbR)] := (Option.some.inj (hall 5 _ 51 rfl rfl : some (.agg #[.int .i64 (t), .slice (aR) (lr.length) (cR), .slice (abR) (lb.length) (cbR)]) = some (a'.tmps.getD 51 undef))).symm
        obtain ⟨a6, c6, p6, hsp6⟩ : ∃ a6 c6, a'.tmps.getD 52 undef = .agg #[.int .i64 (0), .slice (a6) (LB.length) (c6)] ∧ Rd W a6 (bV LB) := hall 6 _ 52 rfl rfl
        obtain ⟨a7, c7, p7, hsp7⟩ : ∃ a7 c7, a'.tmps.getD 53 undef = .slice (a7) (LB.length) (c7) ∧ Rd W a7 (bV LB) := hall 7 _ 53 rfl rfl
        obtain ⟨a8, c8, ab8, cb8, p8, hsp8⟩ : ∃ a8 c8 ab8 cb8, a'.tmps.getD 54 undef = .agg #[.int .i64 (0), .int .i64 (t), .slice (a8) (lr.length) (c8), .slice (ab8) (lb.length) (cb8)] ∧ Rd W a8 (hV lr) ∧ Rd W ab8 (bV lb) := hall 8 _ 54 rfl rfl
        obtain ⟨a9, c9, ab9, cb9, p9, hsp9⟩ : ∃ a9 c9 ab9 cb9, a'.tmps.getD 55 undef = .agg #[.int .i64 (t), .slice (a9) (lr.length) (c9), .slice (ab9) (lb.length) (cb9)] ∧ Rd W a9 (hV lr) ∧ Rd W ab9 (bV lb) := hall 9 _ 55 rfl rfl
        have p10 : a'.tmps.getD 56 undef = .pointer (some ⟨bR, 1, none⟩) := (Option.some.inj (hall 10 _ 56 rfl rfl : some (.pointer (some ⟨bR, 1, none⟩)) = some (a'.tmps.getD 56 undef))).symm
        have p11 : a'.tmps.getD 57 undef = .agg #[.int .i64 (t), .slice (aR) (lr.length) (cR), .slice (abR) (lb.length) (cbR)] := (Option.some.inj (hall 11 _ 57 rfl rfl : some (.agg #[.int .i64 (t), .slice (aR) (lr.length) (cR), .slice (abR) (lb.length) (cbR)]) = some (a'.tmps.getD 57 undef))).symm
        have p12 : a'.tmps.getD 58 undef = .bool true := (Option.some.inj (hall 12 _ 58 rfl rfl : some (.bool true) = some (a'.tmps.getD 58 undef))).symm
        have p13 : a'.tmps.getD 59 undef = .bool true := (Option.some.inj (hall 13 _ 59 rfl rfl : some (.bool true) = some (a'.tmps.getD 59 undef))).symm
        have p14 : a'.tmps.getD 60 undef = .pointer (some ⟨bR, 1, none⟩) := (Option.some.inj (hall 14 _ 60 rfl rfl : some (.pointer (some ⟨bR, 1, none⟩)) = some (a'.tmps.getD 60 undef))).symm
        have p15 : a'.tmps.getD 61 undef = .agg #[.int .i64 (t), .slice (aR) (lr.length) (cR), .slice (abR) (lb.length) (cbR)] := (Option.some.inj (hall 15 _ 61 rfl rfl : some (.agg #[.int .i64 (t), .slice (aR) (lr.length) (cR), .slice (abR) (lb.length) (cbR)]) = some (a'.tmps.getD 61 undef))).symm
        have p16 : a'.tmps.getD 62 undef = .int .i64 (0) := (Option.some.inj (hall 16 _ 62 rfl rfl : some (.int .i64 (0)) = some (a'.tmps.getD 62 undef))).symm
        have p17 : a'.tmps.getD 63 undef = .bool true := (Option.some.inj (hall 17 _ 63 rfl rfl : some (.bool true) = some (a'.tmps.getD 63 undef))).symm
        have p18 : a'.tmps.getD 64 undef = .bool true := (Option.some.inj (hall 18 _ 64 rfl rfl : some (.bool true) = some (a'.tmps.getD 64 undef))).symm
        have p19 : a'.tmps.getD 65 undef = .bool true := (Option.some.inj (hall 19 _ 65 rfl rfl : some (.bool true) = some (a'.tmps.getD 65 undef))).symm
        have p20 : a'.tmps.getD 2 undef = .bool true := (Option.some.inj (hall 20 _ 2 rfl rfl : some (.bool true) = some (a'.tmps.getD 2 undef))).symm
        have ea := after_region [(46, _), (47, _), (48, _), (49, _), (50, _), (51, _), (52, _), (53, _), (54, _), (55, _), (56, _), (57, _), (58, _), (59, _), (60, _), (61, _), (62, _), (63, _), (64, _), (65, _), (2, _)] ha hdf hrest (by kernel_rfl) (by simp only [List.forall_mem_cons]; exact ⟨p0, p1, p2, p3, p4, p5, p6, p7, p8, p9, p10, p11, p12, p13, p14, p15, p16, p17, p18, p19, p20, fun _ h => by cases h⟩)
        subst ea
        simp only [List.foldl_cons, List.foldl_nil, List.setIfInBounds_toArray, List.set_cons_zero, List.set_cons_succ]
        clear p0 p1 p2 p3 p4 p5 p6 p7 p8 p9 p10 p11 p12 p13 p14 p15 p16 p17 p18 p19 p20 hall hrest ha hdf
        go_wp2_with fail
        exact bodyPost_ret (results_tmp Tryz.results3 _ _ _) rfl ⟨rfl, below_then belV hI⟩
        --END
      · have hcb : (G != 0) = true := by rw [bne_iff_ne]; exact hc0
        --LEAF norsp
        refine wp_region_relG (fun W => Below wc.heap.size wc W) (fun _ w w' => Below w.heap.size w w') (FF [.pointer (some ⟨bR, 0, none⟩), .int .i64 (G), .bool true, .bool true, undef, undef, undef, undef, undef, undef, undef, undef, undef, undef, undef, undef, undef, undef, undef, .bool true, .bool true] []) (fun i => !(decide (i = 4) || decide (i = 5) || decide (i = 6) || decide (i = 7) || decide (i = 8) || decide (i = 9) || decide (i = 10) || decide (i = 11) || decide (i = 12) || decide (i = 13) || decide (i = 14) || decide (i = 15) || decide (i = 16) || decide (i = 17) || decide (i = 18))) (by kernel_rfl) (by kernel_rfl) (guard_FF (by kernel_rfl) (by kernel_rfl)) ?_ (Below.refl _ _).drew (fun _ _ _ h1 h2 => below_then h1 h2) (fun _ _ _ _ _ _ _ h2 h3 => FF.keep (fun _ h => by cases h) _ _ _ _ h2 h3) ?_ ?_ ?_
        · intro i w h _
          simp only [Bool.not_eq_false', Bool.or_eq_true, decide_eq_true_eq] at h
          rcases (show i = 4 ∨ i = 5 ∨ i = 6 ∨ i = 7 ∨ i = 8 ∨ i = 9 ∨ i = 10 ∨ i = 11 ∨ i = 12 ∨ i = 13 ∨ i = 14 ∨ i = 15 ∨ i = 16 ∨ i = 17 ∨ i = 18 by omega) with rfl | rfl | rfl | rfl | rfl | rfl | rfl | rfl | rfl | rfl | rfl | rfl | rfl | rfl | rfl <;> rfl
        · intro i o v w hi hd hF
          exact absurd hd (by have := unB_spec (k := 999) (by kernel_rfl) hi hd; have := (Array.getElem?_eq_some_iff.1 hi).1; simp at this; omega)
        · repeat' (refine And.intro ?_ ?_)
          · intro _ ρ W hI hbase hdep
            have hc : ∀ v, ρ (.const v) = v := fun v => hbase _ (fun _ _ _ _ _ e => by cases e)
            have b6 : ρ (.tmp 6) = .pointer (some ⟨bR, 0, none⟩) := hbase (.tmp 6) (base_tmp (by kernel_rfl))
            simp only [execOp, hc, b6]
            go_simp
            exact ⟨Below.refl _ _, rfl⟩
          · intro _ ρ W hI hbase hdep
            have hc : ∀ v, ρ (.const v) = v := fun v => hbase _ (fun _ _ _ _ _ e => by cases e)
            have p0 : ρ (.tmp 46) = .pointer (some ⟨bR, 0, none⟩) := (Option.some.inj (hdep ⟨0, .data⟩ (by simp) rfl _ 46 rfl rfl : some (.pointer (some ⟨bR, 0, none⟩)) = some (ρ (.tmp 46)))).symm
            obtain ⟨m0, m1, m2, m3⟩ := hcR W hI
            simp only [execOp, hc, p0]
            go_simp
            exact ⟨Below.refl _ _, rfl⟩
          · intro _ ρ W hI hbase hdep
            have hc : ∀ v, ρ (.const v) = v := fun v => hbase _ (fun _ _ _ _ _ e => by cases e)
            have p1 : ρ (.tmp 47) = .int .i64 (G) := (Option.some.inj (hdep ⟨1, .data⟩ (by simp) rfl _ 47 rfl rfl : some (.int .i64 (G)) = some (ρ (.tmp 47)))).symm
            simp only [execOp, hc, p1]
            go_simp
            exact ⟨Below.refl _ _, rfl⟩
          · intro _ ρ W hI hbase hdep
            have hc : ∀ v, ρ (.const v) = v := fun v => hbase _ (fun _ _ _ _ _ e => by cases e)
            have p2 : ρ (.tmp 48) = .bool true := (Option.some.inj (hdep ⟨2, .data⟩ (by simp) rfl _ 48 rfl rfl : some (.bool true) = some (ρ (.tmp 48)))).symm
            simp only [execOp, hc, p2]
            go_simp
            exact ⟨Below.refl _ _, rfl⟩
          · intro h; exact absurd h (by decide)
          · intro h; exact absurd h (by decide)
          · intro h; exact absurd h (by decide)
          · intro h; exact absurd h (by decide)
          · intro h; exact absurd h (by decide)
          · intro h; exact absurd h (by decide)
          · intro h; exact absurd h (by decide)
          · intro h; exact absurd h (by decide)
          · intro h; exact absurd h (by decide)
          · intro h; exact absurd h (by decide)
          · intro h; exact absurd h (by decide)
          · intro h; exact absurd h (by decide)
          · intro h; exact absurd h (by decide)
          · intro h; exact absurd h (by decide)
          · intro h; exact absurd h (by decide)
          · intro _ ρ W hI hbase hdep
            have hc : ∀ v, ρ (.const v) = v := fun v => hbase _ (fun _ _ _ _ _ e => by cases e)
            have p3 : ρ (.tmp 49) = .bool true := (Option.some.inj (hdep ⟨3, .data⟩ (by simp) rfl _ 49 rfl rfl : some (.bool true) = some (ρ (.tmp 49)))).symm
            have p18 : ρ (.tmp 64) = undef := (Option.some.inj (hdep ⟨18, .data⟩ (by simp) rfl _ 64 rfl rfl : some (undef) = some (ρ (.tmp 64)))).symm
            simp only [execOp, hc, p3, p18]
            go_simp
            exact ⟨Below.refl _ _, rfl⟩
          · intro _ ρ W hI hbase hdep
            have hc : ∀ v, ρ (.const v) = v := fun v => hbase _ (fun _ _ _ _ _ e => by cases e)
            have p19 : ρ (.tmp 65) = .bool true := (Option.some.inj (hdep ⟨19, .data⟩ (by simp) rfl _ 65 rfl rfl : some (.bool true) = some (ρ (.tmp 65)))).symm
            simp only [execOp, hc, p19]
            go_simp
            exact ⟨Below.refl _ _, rfl⟩
          · trivial
        intro a' W hI ha hdf hall _ hrest
        have p0 : a'.tmps.getD 46 undef = .pointer (some ⟨bR, 0, none⟩) := (Option.some.inj (hall 0 _ 46 rfl rfl : some (.pointer (some ⟨bR, 0, none⟩)) = some (a'.tmps.getD 46 undef))).symm
        have p1 : a'.tmps.getD 47 undef = .int .i64 (G) := (Option.some.inj (hall 1 _ 47 rfl rfl : some (.int .i64 (G)) = some (a'.tmps.getD 47 undef))).symm
        have p2 : a'.tmps.getD 48 undef = .bool true := (Option.some.inj (hall 2 _ 48 rfl rfl : some (.bool true) = some (a'.tmps.getD 48 undef))).symm
        have p3 : a'.tmps.getD 49 undef = .bool true := (Option.some.inj (hall 3 _ 49 rfl rfl : some (.bool true) = some (a'.tmps.getD 49 undef))).symm
        have p4 : a'.tmps.getD 50 undef = undef := (Option.some.inj (hall 4 _ 50 rfl rfl : some (undef) = some (a'.tmps.getD 50 undef))).symm
        have p5 : a'.tmps.getD 51 undef = undef := (Option.some.inj (hall 5 _ 51 rfl rfl : some (undef) = some (a'.tmps.getD 51 undef))).symm
        have p6 : a'.tmps.getD 52 undef = undef := (Option.some.inj (hall 6 _ 52 rfl rfl : some (undef) = some (a'.tmps.getD 52 undef))).symm
        have p7 : a'.tmps.getD 53 undef = undef := (Option.some.inj (hall 7 _ 53 rfl rfl : some (undef) = some (a'.tmps.getD 53 undef))).symm
        have p8 : a'.tmps.getD 54 undef = undef := (Option.some.inj (hall 8 _ 54 rfl rfl : some (undef) = some (a'.tmps.getD 54 undef))).symm
        have p9 : a'.tmps.getD 55 undef = undef := (Option.some.inj (hall 9 _ 55 rfl rfl : some (undef) = some (a'.tmps.getD 55 undef))).symm
        have p10 : a'.tmps.getD 56 undef = undef := (Option.some.inj (hall 10 _ 56 rfl rfl : some (undef) = some (a'.tmps.getD 56 undef))).symm
        have p11 : a'.tmps.getD 57 undef = undef := (Option.some.inj (hall 11 _ 57 rfl rfl : some (undef) = some (a'.tmps.getD 57 undef))).symm
        have p12 : a'.tmps.getD 58 undef = undef := (Option.some.inj (hall 12 _ 58 rfl rfl : some (undef) = some (a'.tmps.getD 58 undef))).symm
        have p13 : a'.tmps.getD 59 undef = undef := (Option.some.inj (hall 13 _ 59 rfl rfl : some (undef) = some (a'.tmps.getD 59 undef))).symm
        have p14 : a'.tmps.getD 60 undef = undef := (Option.some.inj (hall 14 _ 60 rfl rfl : some (undef) = some (a'.tmps.getD 60 undef))).symm
        have p15 : a'.tmps.getD 61 undef = undef := (Option.some.inj (hall 15 _ 61 rfl rfl : some (undef) = some (a'.tmps.getD 61 undef))).symm
        have p16 : a'.tmps.getD 62 undef = undef := (Option.some.inj (hall 16 _ 62 rfl rfl : some (undef) = some (a'.tmps.getD 62 undef))).symm
        have p17 : a'.tmps.getD 63 undef = undef := (Option.some.inj (hall 17 _ 63 rfl rfl : some (undef) = some (a'.tmps.getD 63 undef))).symm
        have p18 : a'.tmps.getD 64 undef = undef := (Option.some.inj (hall 18 _ 64 rfl rfl : some (undef) = some (a'.tmps.getD 64 undef))).symm
        have p19 : a'.tmps.getD 65 undef = .bool true := (Option.some.inj (hall 19 _ 65 rfl rfl : some (.bool true) = some (a'.tmps.getD 65 undef))).symm
        have p20 : a'.tmps.getD 2 undef = .bool true := (Option.some.inj (hall 20 _ 2 rfl rfl : some (.bool true) = some (a'.tmps.getD 2 undef))).symm
        have ea := after_region [(46, _), (47, _), (48, _), (49, _), (50, _), (51, _), (52, _), (53, _), (54, _), (55, _), (56, _), (57, _), (58, _), (59, _), (60, _), (61, _), (62, _), (63, _), (64, _), (65, _), (2, _)] ha hdf hrest (by kernel_rfl) (by simp only [List.forall_mem_cons]; exact ⟨p0, p1, p2, p3, p4, p5, p6, p7, p8, p9, p10, p11, p12, p13, p14, p15, p16, p17, p18, p19, p20, fun _ h => by cases h⟩)
        subst ea
        simp only [List.foldl_cons, List.foldl_nil, List.setIfInBounds_toArray, List.set_cons_zero, List.set_cons_succ]
        clear p0 p1 p2 p3 p4 p5 p6 p7 p8 p9 p10 p11 p12 p13 p14 p15 p16 p17 p18 p19 p20 hall hrest ha hdf
        go_wp2_with fail
        exact bodyPost_ret (results_tmp Tryz.results3 _ _ _) rfl ⟨rfl, below_then belV hI⟩
        --END
  · go_enter Tryz.func3, Tryz.ntmps3
    go_wp2_with (go_at_call 5; ((with_reducible refine (lwBig _ _ _ _).mono ?_); rintro e w' ⟨rfl, rfl⟩))
    all_goals (go_ret; exact ⟨by first | rfl | (simp [*]; done) | (simp [*]; omega), by first | (with_reducible rfl) | exact (by first | (with_reducible exact Below.refl _ _) | ((repeat' (first | (with_reducible exact Below.refl _ _) | (with_reducible assumption) | (with_reducible refine below_alloc ?_ _) | (with_reducible refine Below.drew ?_) | (with_reducible refine below_drewN ?_ _) | (with_reducible refine Below.setCell ?_ ?_ _) | refine below_then ?_ (by with_reducible assumption))) <;> (first | omega | (simp; done) | (simp; omega))))⟩)
end Go.Proofs.YtbiodbggaeglpaaGreatDoor
