/- Joined: LItems. -/
import Derived.Test.YthiogijicknoiaaDoorJRowItems16
import Derived.Test.YthiogijicknoiaaDoorJRowItems12
import Derived.Test.YthiogijicknoiaaDoorJRowItems11
import Derived.Test.YthiogijicknoiaaDoorJRowItems0
import Derived.Deep.DeepCutAuto
/- The law on items: its walk. Printed by gen/items.py. -/
namespace Go.Proofs.YthiogijicknoiaaDoor
open Go.RowKit
set_option linter.unusedSimpArgs false
set_option linter.unusedVariables false

set_option maxRecDepth 100000 in
set_option maxHeartbeats 20000000 in
theorem FnItems_walk (a : Option Addr) (n c : Nat) (bs : List UInt8) (hl : bs.length = n) (w : World) (hr : Rd w a (bs.map byteV)) (hn : n ≤ 9223372036854775807) (hm : MaxL w) : Calls Tryd.prog 4 #[.slice a n c] w fun e w' => e = .returned (.bool true) ∧ Below w.heap.size w w' := by
  by_cases h : n ≤ 1048576
  · have HM := Lib.hid hm
    clear hm
    go_enter Tryd.func4, Tryd.ntmps4
    go_upto_region 9 with (first
      | (go_at_call 13; ((with_reducible refine (lwBig _ _ _ _).mono ?_); rintro e w' ⟨rfl, rfl⟩))
      | (go_at_call 14; ((with_reducible refine (spec_DrawItemsText a n c bs hl h _ (by first | (with_reducible assumption) | exact RowAt.rd (by repeat' (first | (with_reducible assumption) | (with_reducible refine RowAt.alloc ?_ _) | (with_reducible refine RowAt.drew ?_) | (with_reducible refine RowAt.other ?_ _ _ (by first | omega | (simp; done) | (simp; omega))) | refine RowAt.then ?_ (by with_reducible assumption))) | exact Rd.below (by with_reducible assumption) (by first | (with_reducible exact Below.refl _ _) | ((repeat' (first | (with_reducible exact Below.refl _ _) | (with_reducible assumption) | (with_reducible refine below_alloc ?_ _) | (with_reducible refine Below.drew ?_) | (with_reducible refine below_drewN ?_ _) | (with_reducible refine Below.setCell ?_ ?_ _) | refine below_then ?_ (by with_reducible assumption))) <;> (first | omega | (simp; done) | (simp; omega)))))).mono ?_); rintro e w1 ⟨gl, capl, l, rfl, rowl, ⟨hl23, hsm⟩, hb⟩; obtain ⟨hc, hf⟩ := bcell hb; have hz := hb.size; (try simp only [World.size_alloc, World.size_setCell, World.size_drew] at hz); obtain ⟨hlt, hle, hn1, hn2, hn3, hn4⟩ := bsize hb; (try simp only [World.size_alloc, World.size_setCell, World.size_drew] at hlt hle hn1 hn2 hn3 hn4); (try have hr0 : w.heap.size < w1.heap.size := by omega); (try have hr1 : w.heap.size + 1 < w1.heap.size := by omega); (try have hs0 : wS.heap.size < w1.heap.size := by omega); (try have hs1 : wG.heap.size < w1.heap.size := by omega)))
      | (go_at_call 15; ((with_reducible refine (impl_ItemsText _ _ _ l rfl _ (by first | (with_reducible assumption) | exact RowAt.rd (by repeat' (first | (with_reducible assumption) | (with_reducible refine RowAt.alloc ?_ _) | (with_reducible refine RowAt.drew ?_) | (with_reducible refine RowAt.other ?_ _ _ (by first | omega | (simp; done) | (simp; omega))) | refine RowAt.then ?_ (by with_reducible assumption))) | exact Rd.below (by with_reducible assumption) (by first | (with_reducible exact Below.refl _ _) | ((repeat' (first | (with_reducible exact Below.refl _ _) | (with_reducible assumption) | (with_reducible refine below_alloc ?_ _) | (with_reducible refine Below.drew ?_) | (with_reducible refine below_drewN ?_ _) | (with_reducible refine Below.setCell ?_ ?_ _) | refine below_then ?_ (by with_reducible assumption))) <;> (first | omega | (simp; done) | (simp; omega))))) (by omega) (hsm.big (by omega))).mono ?_); rintro e w2 ⟨rfl, hb⟩; obtain ⟨hc, hf⟩ := bcell hb; have hz := hb.size; (try simp only [World.size_alloc, World.size_setCell, World.size_drew] at hz); obtain ⟨hlt, hle, hn1, hn2, hn3, hn4⟩ := bsize hb; (try simp only [World.size_alloc, World.size_setCell, World.size_drew] at hlt hle hn1 hn2 hn3 hn4); (try have hr0 : w.heap.size < w2.heap.size := by omega); (try have hr1 : w.heap.size + 1 < w2.heap.size := by omega); (try have hs0 : wS.heap.size < w2.heap.size := by omega); (try have hs1 : wG.heap.size < w2.heap.size := by omega)))
      | (go_at_call 16; ((with_reducible refine (spec_DrawParseItems a n c bs hl h _ (by first | (with_reducible assumption) | exact RowAt.rd (by repeat' (first | (with_reducible assumption) | (with_reducible refine RowAt.alloc ?_ _) | (with_reducible refine RowAt.drew ?_) | (with_reducible refine RowAt.other ?_ _ _ (by first | omega | (simp; done) | (simp; omega))) | refine RowAt.then ?_ (by with_reducible assumption))) | exact Rd.below (by with_reducible assumption) (by first | (with_reducible exact Below.refl _ _) | ((repeat' (first | (with_reducible exact Below.refl _ _) | (with_reducible assumption) | (with_reducible refine below_alloc ?_ _) | (with_reducible refine Below.drew ?_) | (with_reducible refine below_drewN ?_ _) | (with_reducible refine Below.setCell ?_ ?_ _) | refine below_then ?_ (by with_reducible assumption))) <;> (first | omega | (simp; done) | (simp; omega)))))).mono ?_); rintro e w3 ⟨u, rfl, hu, hb⟩; obtain ⟨hc, hf⟩ := bcell hb; have hz := hb.size; (try simp only [World.size_alloc, World.size_setCell, World.size_drew] at hz); obtain ⟨hlt, hle, hn1, hn2, hn3, hn4⟩ := bsize hb; (try simp only [World.size_alloc, World.size_setCell, World.size_drew] at hlt hle hn1 hn2 hn3 hn4); (try have hr0 : w.heap.size < w3.heap.size := by omega); (try have hr1 : w.heap.size + 1 < w3.heap.size := by omega); (try have hs0 : wS.heap.size < w3.heap.size := by omega); (try have hs1 : wG.heap.size < w3.heap.size := by omega)))
      | (go_at_call 17; ((with_reducible refine (impl_ParseItems u (by omega) _ (HM.out.then (by exact (by first | (with_reducible exact Below.refl _ _) | ((repeat' (first | (with_reducible exact Below.refl _ _) | (with_reducible assumption) | (with_reducible refine below_alloc ?_ _) | (with_reducible refine Below.drew ?_) | (with_reducible refine below_drewN ?_ _) | (with_reducible refine Below.setCell ?_ ?_ _) | refine below_then ?_ (by with_reducible assumption))) <;> (first | omega | (simp; done) | (simp; omega))))))).mono ?_); rintro e w4 ⟨aP, nP, cP, rfl, ⟨hlP, hsP⟩, hb⟩; obtain ⟨hc, hf⟩ := bcell hb; have hz := hb.size; (try simp only [World.size_alloc, World.size_setCell, World.size_drew] at hz); obtain ⟨hlt, hle, hn1, hn2, hn3, hn4⟩ := bsize hb; (try simp only [World.size_alloc, World.size_setCell, World.size_drew] at hlt hle hn1 hn2 hn3 hn4); (try have hr0 : w.heap.size < w4.heap.size := by omega); (try have hr1 : w.heap.size + 1 < w4.heap.size := by omega); (try have hs0 : wS.heap.size < w4.heap.size := by omega); (try have hs1 : wG.heap.size < w4.heap.size := by omega)))
      | (go_at_call 18; ((with_reducible refine (spec_DrawFindItem a n c bs hl h _ (by first | (with_reducible assumption) | exact RowAt.rd (by repeat' (first | (with_reducible assumption) | (with_reducible refine RowAt.alloc ?_ _) | (with_reducible refine RowAt.drew ?_) | (with_reducible refine RowAt.other ?_ _ _ (by first | omega | (simp; done) | (simp; omega))) | refine RowAt.then ?_ (by with_reducible assumption))) | exact Rd.below (by with_reducible assumption) (by first | (with_reducible exact Below.refl _ _) | ((repeat' (first | (with_reducible exact Below.refl _ _) | (with_reducible assumption) | (with_reducible refine below_alloc ?_ _) | (with_reducible refine Below.drew ?_) | (with_reducible refine below_drewN ?_ _) | (with_reducible refine Below.setCell ?_ ?_ _) | refine below_then ?_ (by with_reducible assumption))) <;> (first | omega | (simp; done) | (simp; omega)))))).mono ?_); rintro e w5 ⟨gs, caps, ls, nm, rfl, rows, ⟨hls, hsms, hnm⟩, hb⟩; obtain ⟨hc, hf⟩ := bcell hb; have hz := hb.size; (try simp only [World.size_alloc, World.size_setCell, World.size_drew] at hz); obtain ⟨hlt, hle, hn1, hn2, hn3, hn4⟩ := bsize hb; (try simp only [World.size_alloc, World.size_setCell, World.size_drew] at hlt hle hn1 hn2 hn3 hn4); (try have hr0 : w.heap.size < w5.heap.size := by omega); (try have hr1 : w.heap.size + 1 < w5.heap.size := by omega); (try have hs0 : wS.heap.size < w5.heap.size := by omega); (try have hs1 : wG.heap.size < w5.heap.size := by omega)))
      | (go_at_call 19; ((with_reducible refine (impl_FindItem nm (by omega) _ _ _ ls rfl _ (by first | (with_reducible assumption) | exact RowAt.rd (by repeat' (first | (with_reducible assumption) | (with_reducible refine RowAt.alloc ?_ _) | (with_reducible refine RowAt.drew ?_) | (with_reducible refine RowAt.other ?_ _ _ (by first | omega | (simp; done) | (simp; omega))) | refine RowAt.then ?_ (by with_reducible assumption))) | exact Rd.below (by with_reducible assumption) (by first | (with_reducible exact Below.refl _ _) | ((repeat' (first | (with_reducible exact Below.refl _ _) | (with_reducible assumption) | (with_reducible refine below_alloc ?_ _) | (with_reducible refine Below.drew ?_) | (with_reducible refine below_drewN ?_ _) | (with_reducible refine Below.setCell ?_ ?_ _) | refine below_then ?_ (by with_reducible assumption))) <;> (first | omega | (simp; done) | (simp; omega))))) (by omega) (hsms.big (by omega))).mono ?_); rintro e w6 ⟨rfl, hb⟩; obtain ⟨hc, hf⟩ := bcell hb; have hz := hb.size; (try simp only [World.size_alloc, World.size_setCell, World.size_drew] at hz); obtain ⟨hlt, hle, hn1, hn2, hn3, hn4⟩ := bsize hb; (try simp only [World.size_alloc, World.size_setCell, World.size_drew] at hlt hle hn1 hn2 hn3 hn4); (try have hr0 : w.heap.size < w6.heap.size := by omega); (try have hr1 : w.heap.size + 1 < w6.heap.size := by omega); (try have hs0 : wS.heap.size < w6.heap.size := by omega); (try have hs1 : wG.heap.size < w6.heap.size := by omega))))
    all_goals (try (go_ret; exact ⟨by first | rfl | (simp [*]; done) | (simp [*]; omega), by first | (with_reducible rfl) | exact (by first | (with_reducible exact Below.refl _ _) | ((repeat' (first | (with_reducible exact Below.refl _ _) | (with_reducible assumption) | (with_reducible refine below_alloc ?_ _) | (with_reducible refine Below.drew ?_) | (with_reducible refine below_drewN ?_ _) | (with_reducible refine Below.setCell ?_ ?_ _) | refine below_then ?_ (by with_reducible assumption))) <;> (first | omega | (simp; done) | (simp; omega))))⟩))
    have kT : (w6.alloc (.cells #[.int .i64 (findR ls nm).1, .int .i64 (findR ls nm).2] 47)).heap[w2.heap.size]? = some (.cells #[.int .i64 (itemsR l).1, .string (itemsR l).2] 38 (0, 0)) := (by repeat' (first | (with_reducible assumption) | (with_reducible exact blk_new _ _) | (with_reducible apply blk_set) | (with_reducible refine blk_new' _ _ _ (by first | omega | (simp only [World.size_alloc]; first | done | omega))) | (with_reducible refine blk_other ?_ _ _ _ (by omega)) | (with_reducible refine blk_drew ?_) | (with_reducible refine blk_alloc ?_ _) | refine blk_then ?_ (by with_reducible assumption)))
    have kP : (w6.alloc (.cells #[.int .i64 (findR ls nm).1, .int .i64 (findR ls nm).2] 47)).heap[w4.heap.size]? = some (.cells #[.int .i64 (parseR u).1, .slice aP nP cP] 42 (0, 0)) := (by repeat' (first | (with_reducible assumption) | (with_reducible exact blk_new _ _) | (with_reducible apply blk_set) | (with_reducible refine blk_new' _ _ _ (by first | omega | (simp only [World.size_alloc]; first | done | omega))) | (with_reducible refine blk_other ?_ _ _ _ (by omega)) | (with_reducible refine blk_drew ?_) | (with_reducible refine blk_alloc ?_ _) | refine blk_then ?_ (by with_reducible assumption)))
    have kF : (w6.alloc (.cells #[.int .i64 (findR ls nm).1, .int .i64 (findR ls nm).2] 47)).heap[w6.heap.size]? = some (.cells #[.int .i64 (findR ls nm).1, .int .i64 (findR ls nm).2] 47 (0, 0)) := blk_new _ _
    have belV : Below w.heap.size w (w6.alloc (.cells #[.int .i64 (findR ls nm).1, .int .i64 (findR ls nm).2] 47)) := by exact (by first | (with_reducible exact Below.refl _ _) | ((repeat' (first | (with_reducible exact Below.refl _ _) | (with_reducible assumption) | (with_reducible refine below_alloc ?_ _) | (with_reducible refine Below.drew ?_) | (with_reducible refine below_drewN ?_ _) | (with_reducible refine Below.setCell ?_ ?_ _) | refine below_then ?_ (by with_reducible assumption))) <;> (first | omega | (simp; done) | (simp; omega))))
    have rdl : Rd (w6.alloc (.cells #[.int .i64 (findR ls nm).1, .int .i64 (findR ls nm).2] 47)) (some ⟨gl, 0, none⟩) (iV l) := RowAt.rd (by exact (by repeat' (first | (with_reducible assumption) | (with_reducible refine RowAt.alloc ?_ _) | (with_reducible refine RowAt.drew ?_) | (with_reducible refine RowAt.other ?_ _ _ (by first | omega | (simp; done) | (simp; omega))) | refine RowAt.then ?_ (by with_reducible assumption))))
    have rds : Rd (w6.alloc (.cells #[.int .i64 (findR ls nm).1, .int .i64 (findR ls nm).2] 47)) (some ⟨gs, 0, none⟩) (iV ls) := RowAt.rd (by exact (by repeat' (first | (with_reducible assumption) | (with_reducible refine RowAt.alloc ?_ _) | (with_reducible refine RowAt.drew ?_) | (with_reducible refine RowAt.other ?_ _ _ (by first | omega | (simp; done) | (simp; omega))) | refine RowAt.then ?_ (by with_reducible assumption))))
    have rdP : Rd (w6.alloc (.cells #[.int .i64 (findR ls nm).1, .int .i64 (findR ls nm).2] 47)) aP (iV (parseR u).2) := hsP.rd.below (by exact (by first | (with_reducible exact Below.refl _ _) | ((repeat' (first | (with_reducible exact Below.refl _ _) | (with_reducible assumption) | (with_reducible refine below_alloc ?_ _) | (with_reducible refine Below.drew ?_) | (with_reducible refine below_drewN ?_ _) | (with_reducible refine Below.setCell ?_ ?_ _) | refine below_then ?_ (by with_reducible assumption))) <;> (first | omega | (simp; done) | (simp; omega)))))
    have hM := HM.out.then belV
    have c1 := fun W hr => spec_ItemsText (some ⟨gl, 0, none⟩) l.length capl l rfl W hr (by omega) (hsm.big (by omega))
    have c2 := fun W => spec_ParseItems u (by omega) W
    have c3 := fun W hr => spec_FindItem nm (by omega) (some ⟨gs, 0, none⟩) ls.length caps ls rfl W hr (by omega) (hsms.big (by omega))
    have hps := parseR_small u
    have hp20 := parseR_20 u
    have hback := fun (h : (itemsR l).1 = 0) => items_back h
    have htz := itemsR_size l
    subst hlP
    generalize (w6.alloc (.cells #[.int .i64 (findR ls nm).1, .int .i64 (findR ls nm).2] 47)) = V at *
    generalize w2.heap.size = bT at *
    generalize w4.heap.size = bP at *
    generalize w6.heap.size = bF at *
    clear HM hr hsP hb hc hf hz
    rcases hit : itemsR l with ⟨ct, T⟩
    rcases hpr : parseR u with ⟨cp, LP⟩
    rcases hfr : findR ls nm with ⟨f0, f1⟩
    rw [hit] at kT hback htz
    rw [hpr] at kP rdP hps hp20
    rw [hfr] at kF
    simp only [hit] at c1
    simp only [hpr] at c2
    simp only [hfr] at c3
    simp only at kT kP kF rdP hps hp20 hback htz
    have C1 := Lib.hid c1
    have C2 := Lib.hid c2
    have C3 := Lib.hid c3
    have Hps := Lib.hid hps
    have Hback := Lib.hid hback
    have hcT := fun W (hI : Below V.heap.size V W) => cells2 (blk_then kT hI)
    have hcP := fun W (hI : Below V.heap.size V W) => cells2 (blk_then kP hI)
    have hcF := fun W (hI : Below V.heap.size V W) => cells2 (blk_then kF hI)
    clear hit hpr hfr c1 c2 c3 hps hback
    refine wp_region_relG (fun W => Below V.heap.size V W) (fun _ w w' => Below w.heap.size w w') (FF [.pointer (some ⟨bT, 0, none⟩), .int .i64 (ct), .slice (some ⟨gl, 0, none⟩) (l.length) (capl), .agg #[.int .i64 (ct), .string (T)], .int .i64 (ct), .bool false, .bool false, .pointer (some ⟨bP, 0, none⟩), .int .i64 (cp), .string (u), undef, .int .i64 (cp), .bool false, .bool false, .bool false, .agg #[.int .i64 (f0), .int .i64 (f1)], .slice (some ⟨gs, 0, none⟩) (ls.length) (caps), .string (nm), .agg #[.int .i64 (f0), .int .i64 (f1)], .bool false, .bool false] [(10, SpR (cp) (LP.length) (iV LP))]) (fun _ => true) (by kernel_rfl) (by kernel_rfl) (guard_FF (by kernel_rfl) (by kernel_rfl)) ?_ (Below.refl _ _).drew (fun _ _ _ h1 h2 => below_then h1 h2) (fun _ _ _ _ _ _ _ h2 h3 => FF.keep (by simp only [List.forall_mem_cons]; exact ⟨SpR.keep, fun _ h => by cases h⟩) _ _ _ _ h2 h3) ?_ ?_ ?_
    · intro i w h; cases h
    · intro i o v w hi hd hF
      exact absurd hd (by have := unB_spec (k := 999) (by kernel_rfl) hi hd; have := (Array.getElem?_eq_some_iff.1 hi).1; simp at this; omega)
    · repeat' (refine And.intro ?_ ?_)
      · intro _ ρ W hI hbase hdep
        have hc : ∀ v, ρ (.const v) = v := fun v => hbase _ (fun _ _ _ _ _ e => by cases e)
        have b4 : ρ (.tmp 4) = .pointer (some ⟨bT, 0, none⟩) := hbase (.tmp 4) (base_tmp (by kernel_rfl))
        simp only [execOp, hc, b4]
        go_simp
        exact ⟨Below.refl _ _, rfl⟩
      · intro _ ρ W hI hbase hdep
        have hc : ∀ v, ρ (.const v) = v := fun v => hbase _ (fun _ _ _ _ _ e => by cases e)
        have p0 : ρ (.tmp 30) = .pointer (some ⟨bT, 0, none⟩) := (Option.some.inj (hdep ⟨0, .data⟩ (by simp) rfl _ 30 rfl rfl : some (.pointer (some ⟨bT, 0, none⟩)) = some (ρ (.tmp 30)))).symm
        obtain ⟨m0, m1⟩ := hcT W hI
        simp only [execOp, hc, p0]
        go_simp
        exact ⟨Below.refl _ _, rfl⟩
      · intro _ ρ W hI hbase hdep
        have hc : ∀ v, ρ (.const v) = v := fun v => hbase _ (fun _ _ _ _ _ e => by cases e)
        have b3 : ρ (.tmp 3) = .slice (some ⟨gl, 0, none⟩) (l.length) (capl) := hbase (.tmp 3) (base_tmp (by kernel_rfl))
        simp only [execOp, hc, b3]
        go_simp
        exact ⟨Below.refl _ _, rfl⟩
      · intro _ ρ W hI hbase hdep
        have hc : ∀ v, ρ (.const v) = v := fun v => hbase _ (fun _ _ _ _ _ e => by cases e)
        have hfn : ∀ f, ρ (.func f) = .func (.func f) #[] #[] := fun v => hbase _ (fun _ _ _ _ _ e => by cases e)
        have p2 : ρ (.tmp 32) = .slice (some ⟨gl, 0, none⟩) (l.length) (capl) := (Option.some.inj (hdep ⟨2, .data⟩ (by simp) rfl _ 32 rfl rfl : some (.slice (some ⟨gl, 0, none⟩) (l.length) (capl)) = some (ρ (.tmp 32)))).symm
        simp only [execOp, hc, hfn, p2]
        go_simp
        exact ⟨rfl, (C1.out W (rdl.below hI)).mono fun e w' h => ⟨_, h.1, h.2, rfl⟩⟩
      · intro _ ρ W hI hbase hdep
        have hc : ∀ v, ρ (.const v) = v := fun v => hbase _ (fun _ _ _ _ _ e => by cases e)
        have p3 : ρ (.tmp 33) = .agg #[.int .i64 (ct), .string (T)] := (Option.some.inj (hdep ⟨3, .data⟩ (by simp) rfl _ 33 rfl rfl : some (.agg #[.int .i64 (ct), .string (T)]) = some (ρ (.tmp 33)))).symm
        simp only [execOp, hc, p3]
        exact good_val (show (Instr.field 38 (.agg #[.int .i64 (ct), .string (T)]) 0).run Tryd.prog W = .ok (.int .i64 (ct)) W by kernel_rfl) ⟨Below.refl _ _, rfl⟩
      · intro _ ρ W hI hbase hdep
        have hc : ∀ v, ρ (.const v) = v := fun v => hbase _ (fun _ _ _ _ _ e => by cases e)
        have p1 : ρ (.tmp 31) = .int .i64 (ct) := (Option.some.inj (hdep ⟨1, .data⟩ (by simp) rfl _ 31 rfl rfl : some (.int .i64 (ct)) = some (ρ (.tmp 31)))).symm
        have p4 : ρ (.tmp 34) = .int .i64 (ct) := (Option.some.inj (hdep ⟨4, .data⟩ (by simp) rfl _ 34 rfl rfl : some (.int .i64 (ct)) = some (ρ (.tmp 34)))).symm
        simp only [execOp, hc, p1, p4]
        go_simp
        exact ⟨Below.refl _ _, rfl⟩
      · intro _ ρ W hI hbase hdep
        have hc : ∀ v, ρ (.const v) = v := fun v => hbase _ (fun _ _ _ _ _ e => by cases e)
        have p5 : ρ (.tmp 35) = .bool false := (Option.some.inj (hdep ⟨5, .data⟩ (by simp) rfl _ 35 rfl rfl : some (.bool false) = some (ρ (.tmp 35)))).symm
        simp only [execOp, hc, p5]
        go_simp
        exact ⟨Below.refl _ _, rfl⟩
      · intro _ ρ W hI hbase hdep
        have hc : ∀ v, ρ (.const v) = v := fun v => hbase _ (fun _ _ _ _ _ e => by cases e)
        have b6 : ρ (.tmp 6) = .pointer (some ⟨bP, 0, none⟩) := hbase (.tmp 6) (base_tmp (by kernel_rfl))
        simp only [execOp, hc, b6]
        go_simp
        exact ⟨Below.refl _ _, rfl⟩
      · intro _ ρ W hI hbase hdep
        have hc : ∀ v, ρ (.const v) = v := fun v => hbase _ (fun _ _ _ _ _ e => by cases e)
        have p7 : ρ (.tmp 37) = .pointer (some ⟨bP, 0, none⟩) := (Option.some.inj (hdep ⟨7, .data⟩ (by simp) rfl _ 37 rfl rfl : some (.pointer (some ⟨bP, 0, none⟩)) = some (ρ (.tmp 37)))).symm
        obtain ⟨m0, m1⟩ := hcP W hI
        simp only [execOp, hc, p7]
        go_simp
        exact ⟨Below.refl _ _, rfl⟩
      · intro _ ρ W hI hbase hdep
        have hc : ∀ v, ρ (.const v) = v := fun v => hbase _ (fun _ _ _ _ _ e => by cases e)
        have b5 : ρ (.tmp 5) = .string (u) := hbase (.tmp 5) (base_tmp (by kernel_rfl))
        simp only [execOp, hc, b5]
        go_simp
        exact ⟨Below.refl _ _, rfl⟩
      · intro _ ρ W hI hbase hdep
        have hc : ∀ v, ρ (.const v) = v := fun v => hbase _ (fun _ _ _ _ _ e => by cases e)
        have hfn : ∀ f, ρ (.func f) = .func (.func f) #[] #[] := fun v => hbase _ (fun _ _ _ _ _ e => by cases e)
        have p9 : ρ (.tmp 39) = .string (u) := (Option.some.inj (hdep ⟨9, .data⟩ (by simp) rfl _ 39 rfl rfl : some (.string (u)) = some (ρ (.tmp 39)))).symm
        simp only [execOp, hc, hfn, p9]
        go_simp
        exact ⟨rfl, (C2.out W).mono fun e w' ⟨a, n, c, h1, ⟨h2, h3⟩, h4⟩ => by subst h2; exact ⟨_, h1, h4, a, c, rfl, h3.rd⟩⟩
      · intro _ ρ W hI hbase hdep
        have hc : ∀ v, ρ (.const v) = v := fun v => hbase _ (fun _ _ _ _ _ e => by cases e)
        obtain ⟨a10, c10, p10, hsp10⟩ : ∃ a10 c10, ρ (.tmp 40) = .agg #[.int .i64 (cp), .slice (a10) (LP.length) (c10)] ∧ Rd W a10 (iV LP) := hdep ⟨10, .data⟩ (by simp) rfl _ 40 rfl rfl
        simp only [execOp, hc, p10]
        exact good_val (show (Instr.field 42 (.agg #[.int .i64 (cp), .slice (a10) (LP.length) (c10)]) 0).run Tryd.prog W = .ok (.int .i64 (cp)) W by kernel_rfl) ⟨Below.refl _ _, rfl⟩
      · intro _ ρ W hI hbase hdep
        have hc : ∀ v, ρ (.const v) = v := fun v => hbase _ (fun _ _ _ _ _ e => by cases e)
        have p8 : ρ (.tmp 38) = .int .i64 (cp) := (Option.some.inj (hdep ⟨8, .data⟩ (by simp) rfl _ 38 rfl rfl : some (.int .i64 (cp)) = some (ρ (.tmp 38)))).symm
        have p11 : ρ (.tmp 41) = .int .i64 (cp) := (Option.some.inj (hdep ⟨11, .data⟩ (by simp) rfl _ 41 rfl rfl : some (.int .i64 (cp)) = some (ρ (.tmp 41)))).symm
        simp only [execOp, hc, p8, p11]
        go_simp
        exact ⟨Below.refl _ _, rfl⟩
      · intro _ ρ W hI hbase hdep
        have hc : ∀ v, ρ (.const v) = v := fun v => hbase _ (fun _ _ _ _ _ e => by cases e)
        have p6 : ρ (.tmp 36) = .bool false := (Option.some.inj (hdep ⟨6, .data⟩ (by simp) rfl _ 36 rfl rfl : some (.bool false) = some (ρ (.tmp 36)))).symm
        have p12 : ρ (.tmp 42) = .bool false := (Option.some.inj (hdep ⟨12, .data⟩ (by simp) rfl _ 42 rfl rfl : some (.bool false) = some (ρ (.tmp 42)))).symm
        simp only [execOp, hc, p6, p12]
        go_simp
        exact ⟨Below.refl _ _, rfl⟩
      · intro _ ρ W hI hbase hdep
        have hc : ∀ v, ρ (.const v) = v := fun v => hbase _ (fun _ _ _ _ _ e => by cases e)
        have p13 : ρ (.tmp 43) = .bool false := (Option.some.inj (hdep ⟨13, .data⟩ (by simp) rfl _ 43 rfl rfl : some (.bool false) = some (ρ (.tmp 43)))).symm
        simp only [execOp, hc, p13]
        go_simp
        exact ⟨Below.refl _ _, rfl⟩
      · intro _ ρ W hI hbase hdep
        have hc : ∀ v, ρ (.const v) = v := fun v => hbase _ (fun _ _ _ _ _ e => by cases e)
        have b9 : ρ (.tmp 9) = .pointer (some ⟨bF, 0, none⟩) := hbase (.tmp 9) (base_tmp (by kernel_rfl))
        obtain ⟨m0, m1⟩ := hcF W hI
        simp only [execOp, hc, b9]
        go_simp
        exact ⟨Below.refl _ _, rfl⟩
      · intro _ ρ W hI hbase hdep
        have hc : ∀ v, ρ (.const v) = v := fun v => hbase _ (fun _ _ _ _ _ e => by cases e)
        have b7 : ρ (.tmp 7) = .slice (some ⟨gs, 0, none⟩) (ls.length) (caps) := hbase (.tmp 7) (base_tmp (by kernel_rfl))
        simp only [execOp, hc, b7]
        go_simp
        exact ⟨Below.refl _ _, rfl⟩
      · intro _ ρ W hI hbase hdep
        have hc : ∀ v, ρ (.const v) = v := fun v => hbase _ (fun _ _ _ _ _ e => by cases e)
        have b8 : ρ (.tmp 8) = .string (nm) := hbase (.tmp 8) (base_tmp (by kernel_rfl))
        simp only [execOp, hc, b8]
        go_simp
        exact ⟨Below.refl _ _, rfl⟩
      · intro _ ρ W hI hbase hdep
        have hc : ∀ v, ρ (.const v) = v := fun v => hbase _ (fun _ _ _ _ _ e => by cases e)
        have hfn : ∀ f, ρ (.func f) = .func (.func f) #[] #[] := fun v => hbase _ (fun _ _ _ _ _ e => by cases e)
        have p16 : ρ (.tmp 46) = .slice (some ⟨gs, 0, none⟩) (ls.length) (caps) := (Option.some.inj (hdep ⟨16, .data⟩ (by simp) rfl _ 46 rfl rfl : some (.slice (some ⟨gs, 0, none⟩) (ls.length) (caps)) = some (ρ (.tmp 46)))).symm
        have p17 : ρ (.tmp 47) = .string (nm) := (Option.some.inj (hdep ⟨17, .data⟩ (by simp) rfl _ 47 rfl rfl : some (.string (nm)) = some (ρ (.tmp 47)))).symm
        simp only [execOp, hc, hfn, p16, p17]
        go_simp
        exact ⟨rfl, (C3.out W (rds.below hI)).mono fun e w' h => ⟨_, h.1, h.2, rfl⟩⟩
      · intro _ ρ W hI hbase hdep
        have hc : ∀ v, ρ (.const v) = v := fun v => hbase _ (fun _ _ _ _ _ e => by cases e)
        have p15 : ρ (.tmp 45) = .agg #[.int .i64 (f0), .int .i64 (f1)] := (Option.some.inj (hdep ⟨15, .data⟩ (by simp) rfl _ 45 rfl rfl : some (.agg #[.int .i64 (f0), .int .i64 (f1)]) = some (ρ (.tmp 45)))).symm
        have p18 : ρ (.tmp 48) = .agg #[.int .i64 (f0), .int .i64 (f1)] := (Option.some.inj (hdep ⟨18, .data⟩ (by simp) rfl _ 48 rfl rfl : some (.agg #[.int .i64 (f0), .int .i64 (f1)]) = some (ρ (.tmp 48)))).symm
        simp only [execOp, hc, p15, p18]
        go_simp
        exact ⟨Below.refl _ _, rfl⟩
      · intro _ ρ W hI hbase hdep
        have hc : ∀ v, ρ (.const v) = v := fun v => hbase _ (fun _ _ _ _ _ e => by cases e)
        have p14 : ρ (.tmp 44) = .bool false := (Option.some.inj (hdep ⟨14, .data⟩ (by simp) rfl _ 44 rfl rfl : some (.bool false) = some (ρ (.tmp 44)))).symm
        have p19 : ρ (.tmp 49) = .bool false := (Option.some.inj (hdep ⟨19, .data⟩ (by simp) rfl _ 49 rfl rfl : some (.bool false) = some (ρ (.tmp 49)))).symm
        simp only [execOp, hc, p14, p19]
        go_simp
        exact ⟨Below.refl _ _, rfl⟩
      · trivial
    intro a' W hI ha hdf hall _ hrest
    have p0 : a'.tmps.getD 30 undef = .pointer (some ⟨bT, 0, none⟩) := (Option.some.inj (hall 0 _ 30 rfl rfl : some (.pointer (some ⟨bT, 0, none⟩)) = some (a'.tmps.getD 30 undef))).symm
    have p1 : a'.tmps.getD 31 undef = .int .i64 (ct) := (Option.some.inj (hall 1 _ 31 rfl rfl : some (.int .i64 (ct)) = some (a'.tmps.getD 31 undef))).symm
    have p2 : a'.tmps.getD 32 undef = .slice (some ⟨gl, 0, none⟩) (l.length) (capl) := (Option.some.inj (hall 2 _ 32 rfl rfl : some (.slice (some ⟨gl, 0, none⟩) (l.length) (capl)) = some (a'.tmps.getD 32 undef))).symm
    have p3 : a'.tmps.getD 33 undef = .agg #[.int .i64 (ct), .string (T)] := (Option.some.inj (hall 3 _ 33 rfl rfl : some (.agg #[.int .i64 (ct), .string (T)]) = some (a'.tmps.getD 33 undef))).symm
    have p4 : a'.tmps.getD 34 undef = .int .i64 (ct) := (Option.some.inj (hall 4 _ 34 rfl rfl : some (.int .i64 (ct)) = some (a'.tmps.getD 34 undef))).symm
    have p5 : a'.tmps.getD 35 undef = .bool false := (Option.some.inj (hall 5 _ 35 rfl rfl : some (.bool false) = some (a'.tmps.getD 35 undef))).symm
    have p6 : a'.tmps.getD 36 undef = .bool false := (Option.some.inj (hall 6 _ 36 rfl rfl : some (.bool false) = some (a'.tmps.getD 36 undef))).symm
    have p7 : a'.tmps.getD 37 undef = .pointer (some ⟨bP, 0, none⟩) := (Option.some.inj (hall 7 _ 37 rfl rfl : some (.pointer (some ⟨bP, 0, none⟩)) = some (a'.tmps.getD 37 undef))).symm
    have p8 : a'.tmps.getD 38 undef = .int .i64 (cp) := (Option.some.inj (hall 8 _ 38 rfl rfl : some (.int .i64 (cp)) = some (a'.tmps.getD 38 undef))).symm
    have p9 : a'.tmps.getD 39 undef = .string (u) := (Option.some.inj (hall 9 _ 39 rfl rfl : some (.string (u)) = some (a'.tmps.getD 39 undef))).symm
    obtain ⟨a10, c10, p10, hsp10⟩ : ∃ a10 c10, a'.tmps.getD 40 undef = .agg #[.int .i64 (cp), .slice (a10) (LP.length) (c10)] ∧ Rd W a10 (iV LP) := hall 10 _ 40 rfl rfl
    have p11 : a'.tmps.getD 41 undef = .int .i64 (cp) := (Option.some.inj (hall 11 _ 41 rfl rfl : some (.int .i64 (cp)) = some (a'.tmps.getD 41 undef))).symm
    have p12 : a'.tmps.getD 42 undef = .bool false := (Option.some.inj (hall 12 _ 42 rfl rfl : some (.bool false) = some (a'.tmps.getD 42 undef))).symm
    have p13 : a'.tmps.getD 43 undef = .bool false := (Option.some.inj (hall 13 _ 43 rfl rfl : some (.bool false) = some (a'.tmps.getD 43 undef))).symm
    have p14 : a'.tmps.getD 44 undef = .bool false := (Option.some.inj (hall 14 _ 44 rfl rfl : some (.bool false) = some (a'.tmps.getD 44 undef))).symm
    have p15 : a'.tmps.getD 45 undef = .agg #[.int .i64 (f0), .int .i64 (f1)] := (Option.some.inj (hall 15 _ 45 rfl rfl : some (.agg #[.int .i64 (f0), .int .i64 (f1)]) = some (a'.tmps.getD 45 undef))).symm
    have p16 : a'.tmps.getD 46 undef = .slice (some ⟨gs, 0, none⟩) (ls.length) (caps) := (Option.some.inj (hall 16 _ 46 rfl rfl : some (.slice (some ⟨gs, 0, none⟩) (ls.length) (caps)) = some (a'.tmps.getD 46 undef))).symm
    have p17 : a'.tmps.getD 47 undef = .string (nm) := (Option.some.inj (hall 17 _ 47 rfl rfl : some (.string (nm)) = some (a'.tmps.getD 47 undef))).symm
    have p18 : a'.tmps.getD 48 undef = .agg #[.int .i64 (f0), .int .i64 (f1)] := (Option.some.inj (hall 18 _ 48 rfl rfl : some (.agg #[.int .i64 (f0), .int .i64 (f1)]) = some (a'.tmps.getD 48 undef))).symm
    have p19 : a'.tmps.getD 49 undef = .bool false := (Option.some.inj (hall 19 _ 49 rfl rfl : some (.bool false) = some (a'.tmps.getD 49 undef))).symm
    have p20 : a'.tmps.getD 50 undef = .bool false := (Option.some.inj (hall 20 _ 50 rfl rfl : some (.bool false) = some (a'.tmps.getD 50 undef))).symm
    have ea := after_region [(30, _), (31, _), (32, _), (33, _), (34, _), (35, _), (36, _), (37, _), (38, _), (39, _), (40, _), (41, _), (42, _), (43, _), (44, _), (45, _), (46, _), (47, _), (48, _), (49, _), (50, _)] ha hdf hrest (by kernel_rfl) (by simp only [List.forall_mem_cons]; exact ⟨p0, p1, p2, p3, p4, p5, p6, p7, p8, p9, p10, p11, p12, p13, p14, p15, p16, p17, p18, p19, p20, fun _ h => by cases h⟩)
    subst ea
    simp only [List.foldl_cons, List.foldl_nil, List.setIfInBounds_toArray, List.set_cons_zero, List.set_cons_succ]
    clear p0 p1 p2 p3 p4 p5 p6 p7 p8 p9 p10 p11 p12 p13 p14 p15 p16 p17 p18 p19 p20 hall hrest ha hdf
    have hzb : Below V.heap.size V W := hI
    have kT := blk_then kT hzb
    have kP := blk_then kP hzb
    have rdl := rdl.below hzb
    have rdP := rdP.below hzb
    have hM := hM.then hzb
    have belV := below_then belV hzb
    clear hI hzb hcT hcP hcF rds kF hsp10 C1 C2 C3
    clear hsm hsms
    generalize W = z at *
    obtain ⟨t0, t1⟩ := cells2 kT
    obtain ⟨u0, u1⟩ := cells2 kP
    have lT : bT < z.heap.size := (Array.getElem?_eq_some_iff.1 kT).1
    have lP : bP < z.heap.size := (Array.getElem?_eq_some_iff.1 kP).1
    have KT := Lib.hid kT
    have KP := Lib.hid kP
    have zzz := belV.size
    clear hb hc hf hz hlt hle hn1 hn2 hn3 hn4 hr0 hr1
    by_cases hcp : cp = 0
    · subst hcp
      have hsm2 : ∀ h ∈ LP, h.1.size ≤ 9223372036854775807 ∧ h.2.2.size ≤ 9223372036854775807 := fun h hh => by have := Hps.out h hh; omega
      have ci := fun W hr => impl_ItemsText aP LP.length cP LP rfl W hr (by omega) hsm2
      have c6 := fun W hr => spec_ItemsText aP LP.length cP LP rfl W hr (by omega) hsm2
      have hbk := fun (h : (itemsR LP).1 = 0) => items_back h
      have htz2 := itemsR_size LP
      have c4 := fun a c W hr hr' => impl_SameItems a aP LP.length LP.length c cP LP LP rfl rfl W hr hr' (by omega) (by omega)
      simp only [decide_true] at c4
      rcases hit : itemsR LP with ⟨ca, TA⟩
      simp only [hit] at ci c6
      rw [hit] at hbk htz2
      simp only at hbk htz2
      have c5 := fun W hm => impl_ParseItems TA (by omega) W hm
      have CI := Lib.hid ci
      have C6 := Lib.hid c6
      have C4 := Lib.hid c4
      have Hbk := Lib.hid hbk
      clear ci c6 hsm2 hit c4 hbk
      go_upto_region 13 with (go_at_call 15; ((with_reducible refine (CI.out _ rdP).mono ?_); rintro e wA ⟨rfl, hb⟩))
      have belA : Below z.heap.size z (wA.alloc (.cells #[.int .i64 ca, .string TA] 38)) := by exact (by first | (with_reducible exact Below.refl _ _) | ((repeat' (first | (with_reducible exact Below.refl _ _) | (with_reducible assumption) | (with_reducible refine below_alloc ?_ _) | (with_reducible refine Below.drew ?_) | (with_reducible refine below_drewN ?_ _) | (with_reducible refine Below.setCell ?_ ?_ _) | refine below_then ?_ (by with_reducible assumption))) <;> (first | omega | (simp; done) | (simp; omega))))
      have kA : (wA.alloc (.cells #[.int .i64 ca, .string TA] 38)).heap[wA.heap.size]? = some (.cells #[.int .i64 ca, .string TA] 38 (0, 0)) := blk_new _ _
      have kT2 := blk_then KT.out belA
      have kP2 := blk_then KP.out belA
      have rdl2 := rdl.below belA
      have rdP2 := rdP.below belA
      have hM2 := hM.then belA
      have bel2 := below_then belV belA
      clear kT kP rdl rdP hM belV KT KP t0 t1 u0 u1 lT lP belA hb
      generalize (wA.alloc (.cells #[.int .i64 ca, .string TA] 38)) = z2 at *
      generalize wA.heap.size = bA at *
      have hcA := fun W (hI : Below z2.heap.size z2 W) => cells2 (blk_then kA hI)
      have hcP := fun W (hI : Below z2.heap.size z2 W) => cells2 (blk_then kP2 hI)
      have rdP := rdP2
      have hM := hM2
      by_cases hca : ca = 0
      · subst hca
        have hb2 := Hbk.out rfl
        simp only [hb2] at c5
        have C5 := Lib.hid c5
        clear c5 hb2
        --LEAF again
        refine wp_region_relG (fun W => Below z2.heap.size z2 W) (fun _ w w' => Below w.heap.size w w') (FF [.pointer (some ⟨bA, 0, none⟩), .int .i64 (0), .bool true, .bool true, .pointer (some ⟨bA, 1, none⟩), .string (TA), undef, undef, .pointer (some ⟨bP, 1, none⟩), .slice (aP) (LP.length) (cP), .bool true, .bool false, .bool false, .bool false, .pointer (some ⟨bA, 0, none⟩), .int .i64 (0), .pointer (some ⟨bP, 1, none⟩), .slice (aP) (LP.length) (cP), .agg #[.int .i64 (0), .string (TA)], .int .i64 (0), .bool false, .bool false] [(6, SpR (0) (LP.length) (iV LP)), (7, SpV (LP.length) (iV LP))]) (fun _ => true) (by kernel_rfl) (by kernel_rfl) (guard_FF (by kernel_rfl) (by kernel_rfl)) ?_ (Below.refl _ _).drew (fun _ _ _ h1 h2 => below_then h1 h2) (fun _ _ _ _ _ _ _ h2 h3 => FF.keep (by simp only [List.forall_mem_cons]; exact ⟨SpR.keep, SpV.keep, fun _ h => by cases h⟩) _ _ _ _ h2 h3) ?_ ?_ ?_
        · intro i w h; cases h
        · intro i o v w hi hd hF
          exact absurd hd (by have := unB_spec (k := 999) (by kernel_rfl) hi hd; have := (Array.getElem?_eq_some_iff.1 hi).1; simp at this; omega)
        · repeat' (refine And.intro ?_ ?_)
          · intro _ ρ W hI hbase hdep
            have hc : ∀ v, ρ (.const v) = v := fun v => hbase _ (fun _ _ _ _ _ e => by cases e)
            have b10 : ρ (.tmp 10) = .pointer (some ⟨bA, 0, none⟩) := hbase (.tmp 10) (base_tmp (by kernel_rfl))
            simp only [execOp, hc, b10]
            go_simp
            exact ⟨Below.refl _ _, rfl⟩
          · intro _ ρ W hI hbase hdep
            have hc : ∀ v, ρ (.const v) = v := fun v => hbase _ (fun _ _ _ _ _ e => by cases e)
            have p0 : ρ (.tmp 57) = .pointer (some ⟨bA, 0, none⟩) := (Option.some.inj (hdep ⟨0, .data⟩ (by simp) rfl _ 57 rfl rfl : some (.pointer (some ⟨bA, 0, none⟩)) = some (ρ (.tmp 57)))).symm
            obtain ⟨m0, m1⟩ := hcA W hI
            simp only [execOp, hc, p0]
            go_simp
            exact ⟨Below.refl _ _, rfl⟩
          · intro _ ρ W hI hbase hdep
            have hc : ∀ v, ρ (.const v) = v := fun v => hbase _ (fun _ _ _ _ _ e => by cases e)
            have p1 : ρ (.tmp 58) = .int .i64 (0) := (Option.some.inj (hdep ⟨1, .data⟩ (by simp) rfl _ 58 rfl rfl : some (.int .i64 (0)) = some (ρ (.tmp 58)))).symm
            simp only [execOp, hc, p1]
            go_simp
            exact ⟨Below.refl _ _, rfl⟩
          · intro _ ρ W hI hbase hdep
            have hc : ∀ v, ρ (.const v) = v := fun v => hbase _ (fun _ _ _ _ _ e => by cases e)
            have p2 : ρ (.tmp 59) = .bool true := (Option.some.inj (hdep ⟨2, .data⟩ (by simp) rfl _ 59 rfl rfl : some (.bool true) = some (ρ (.tmp 59)))).symm
            simp only [execOp, hc, p2]
            go_simp
            exact ⟨Below.refl _ _, rfl⟩
          · intro _ ρ W hI hbase hdep
            have hc : ∀ v, ρ (.const v) = v := fun v => hbase _ (fun _ _ _ _ _ e => by cases e)
            have b10 : ρ (.tmp 10) = .pointer (some ⟨bA, 0, none⟩) := hbase (.tmp 10) (base_tmp (by kernel_rfl))
            simp only [execOp, hc, b10]
            go_simp
            exact ⟨Below.refl _ _, rfl⟩
          · intro _ ρ W hI hbase hdep
            have hc : ∀ v, ρ (.const v) = v := fun v => hbase _ (fun _ _ _ _ _ e => by cases e)
            have p4 : ρ (.tmp 61) = .pointer (some ⟨bA, 1, none⟩) := (Option.some.inj (hdep ⟨4, .data⟩ (by simp) rfl _ 61 rfl rfl : some (.pointer (some ⟨bA, 1, none⟩)) = some (ρ (.tmp 61)))).symm
            obtain ⟨m0, m1⟩ := hcA W hI
            simp only [execOp, hc, p4]
            go_simp
            exact ⟨Below.refl _ _, rfl⟩
          · intro _ ρ W hI hbase hdep
            have hc : ∀ v, ρ (.const v) = v := fun v => hbase _ (fun _ _ _ _ _ e => by cases e)
            have hfn : ∀ f, ρ (.func f) = .func (.func f) #[] #[] := fun v => hbase _ (fun _ _ _ _ _ e => by cases e)
            have p5 : ρ (.tmp 62) = .string (TA) := (Option.some.inj (hdep ⟨5, .data⟩ (by simp) rfl _ 62 rfl rfl : some (.string (TA)) = some (ρ (.tmp 62)))).symm
            simp only [execOp, hc, hfn, p5]
            go_simp
            exact ⟨rfl, (C5.out W (hM.then hI)).mono fun e w' ⟨a, n, c, h1, ⟨h2, h3⟩, h4⟩ => by subst h2; exact ⟨_, h1, h4, a, c, rfl, h3.rd⟩⟩
          · intro _ ρ W hI hbase hdep
            have hc : ∀ v, ρ (.const v) = v := fun v => hbase _ (fun _ _ _ _ _ e => by cases e)
            obtain ⟨a6, c6, p6, hsp6⟩ : ∃ a6 c6, ρ (.tmp 63) = .agg #[.int .i64 (0), .slice (a6) (LP.length) (c6)] ∧ Rd W a6 (iV LP) := hdep ⟨6, .data⟩ (by simp) rfl _ 63 rfl rfl
            simp only [execOp, hc, p6]
            exact good_val (show (Instr.field 42 (.agg #[.int .i64 (0), .slice (a6) (LP.length) (c6)]) 1).run Tryd.prog W = .ok (.slice (a6) (LP.length) (c6)) W by kernel_rfl) ⟨Below.refl _ _, a6, c6, rfl, hsp6⟩
          · intro _ ρ W hI hbase hdep
            have hc : ∀ v, ρ (.const v) = v := fun v => hbase _ (fun _ _ _ _ _ e => by cases e)
            have b6 : ρ (.tmp 6) = .pointer (some ⟨bP, 0, none⟩) := hbase (.tmp 6) (base_tmp (by kernel_rfl))
            simp only [execOp, hc, b6]
            go_simp
            exact ⟨Below.refl _ _, rfl⟩
          · intro _ ρ W hI hbase hdep
            have hc : ∀ v, ρ (.const v) = v := fun v => hbase _ (fun _ _ _ _ _ e => by cases e)
            have p8 : ρ (.tmp 65) = .pointer (some ⟨bP, 1, none⟩) := (Option.some.inj (hdep ⟨8, .data⟩ (by simp) rfl _ 65 rfl rfl : some (.pointer (some ⟨bP, 1, none⟩)) = some (ρ (.tmp 65)))).symm
            obtain ⟨m0, m1⟩ := hcP W hI
            simp only [execOp, hc, p8]
            go_simp
            exact ⟨Below.refl _ _, rfl⟩
          · intro _ ρ W hI hbase hdep
            have hc : ∀ v, ρ (.const v) = v := fun v => hbase _ (fun _ _ _ _ _ e => by cases e)
            have hfn : ∀ f, ρ (.func f) = .func (.func f) #[] #[] := fun v => hbase _ (fun _ _ _ _ _ e => by cases e)
            obtain ⟨a7, c7, p7, hsp7⟩ : ∃ a7 c7, ρ (.tmp 64) = .slice (a7) (LP.length) (c7) ∧ Rd W a7 (iV LP) := hdep ⟨7, .data⟩ (by simp) rfl _ 64 rfl rfl
            have p9 : ρ (.tmp 66) = .slice (aP) (LP.length) (cP) := (Option.some.inj (hdep ⟨9, .data⟩ (by simp) rfl _ 66 rfl rfl : some (.slice (aP) (LP.length) (cP)) = some (ρ (.tmp 66)))).symm
            simp only [execOp, hc, hfn, p7, p9]
            go_simp
            exact ⟨rfl, (C4.out a7 c7 W hsp7 (rdP.below hI)).mono fun e w' h => ⟨_, h.1, h.2, rfl⟩⟩
          · intro _ ρ W hI hbase hdep
            have hc : ∀ v, ρ (.const v) = v := fun v => hbase _ (fun _ _ _ _ _ e => by cases e)
            have p10 : ρ (.tmp 67) = .bool true := (Option.some.inj (hdep ⟨10, .data⟩ (by simp) rfl _ 67 rfl rfl : some (.bool true) = some (ρ (.tmp 67)))).symm
            simp only [execOp, hc, p10]
            go_simp
            exact ⟨Below.refl _ _, rfl⟩
          · intro _ ρ W hI hbase hdep
            have hc : ∀ v, ρ (.const v) = v := fun v => hbase _ (fun _ _ _ _ _ e => by cases e)
            have p3 : ρ (.tmp 60) = .bool true := (Option.some.inj (hdep ⟨3, .data⟩ (by simp) rfl _ 60 rfl rfl : some (.bool true) = some (ρ (.tmp 60)))).symm
            have p11 : ρ (.tmp 68) = .bool false := (Option.some.inj (hdep ⟨11, .data⟩ (by simp) rfl _ 68 rfl rfl : some (.bool false) = some (ρ (.tmp 68)))).symm
            simp only [execOp, hc, p3, p11]
            go_simp
            exact ⟨Below.refl _ _, rfl⟩
          · intro _ ρ W hI hbase hdep
            have hc : ∀ v, ρ (.const v) = v := fun v => hbase _ (fun _ _ _ _ _ e => by cases e)
            have p12 : ρ (.tmp 69) = .bool false := (Option.some.inj (hdep ⟨12, .data⟩ (by simp) rfl _ 69 rfl rfl : some (.bool false) = some (ρ (.tmp 69)))).symm
            simp only [execOp, hc, p12]
            go_simp
            exact ⟨Below.refl _ _, rfl⟩
          · intro _ ρ W hI hbase hdep
            have hc : ∀ v, ρ (.const v) = v := fun v => hbase _ (fun _ _ _ _ _ e => by cases e)
            have b10 : ρ (.tmp 10) = .pointer (some ⟨bA, 0, none⟩) := hbase (.tmp 10) (base_tmp (by kernel_rfl))
            simp only [execOp, hc, b10]
            go_simp
            exact ⟨Below.refl _ _, rfl⟩
          · intro _ ρ W hI hbase hdep
            have hc : ∀ v, ρ (.const v) = v := fun v => hbase _ (fun _ _ _ _ _ e => by cases e)
            have p14 : ρ (.tmp 71) = .pointer (some ⟨bA, 0, none⟩) := (Option.some.inj (hdep ⟨14, .data⟩ (by simp) rfl _ 71 rfl rfl : some (.pointer (some ⟨bA, 0, none⟩)) = some (ρ (.tmp 71)))).symm
            obtain ⟨m0, m1⟩ := hcA W hI
            simp only [execOp, hc, p14]
            go_simp
            exact ⟨Below.refl _ _, rfl⟩
          · intro _ ρ W hI hbase hdep
            have hc : ∀ v, ρ (.const v) = v := fun v => hbase _ (fun _ _ _ _ _ e => by cases e)
            have b6 : ρ (.tmp 6) = .pointer (some ⟨bP, 0, none⟩) := hbase (.tmp 6) (base_tmp (by kernel_rfl))
            simp only [execOp, hc, b6]
            go_simp
            exact ⟨Below.refl _ _, rfl⟩
          · intro _ ρ W hI hbase hdep
            have hc : ∀ v, ρ (.const v) = v := fun v => hbase _ (fun _ _ _ _ _ e => by cases e)
            have p16 : ρ (.tmp 73) = .pointer (some ⟨bP, 1, none⟩) := (Option.some.inj (hdep ⟨16, .data⟩ (by simp) rfl _ 73 rfl rfl : some (.pointer (some ⟨bP, 1, none⟩)) = some (ρ (.tmp 73)))).symm
            obtain ⟨m0, m1⟩ := hcP W hI
            simp only [execOp, hc, p16]
            go_simp
            exact ⟨Below.refl _ _, rfl⟩
          · intro _ ρ W hI hbase hdep
            have hc : ∀ v, ρ (.const v) = v := fun v => hbase _ (fun _ _ _ _ _ e => by cases e)
            have hfn : ∀ f, ρ (.func f) = .func (.func f) #[] #[] := fun v => hbase _ (fun _ _ _ _ _ e => by cases e)
            have p17 : ρ (.tmp 74) = .slice (aP) (LP.length) (cP) := (Option.some.inj (hdep ⟨17, .data⟩ (by simp) rfl _ 74 rfl rfl : some (.slice (aP) (LP.length) (cP)) = some (ρ (.tmp 74)))).symm
            simp only [execOp, hc, hfn, p17]
            go_simp
            exact ⟨rfl, (C6.out W (rdP.below hI)).mono fun e w' h => ⟨_, h.1, h.2, rfl⟩⟩
          · intro _ ρ W hI hbase hdep
            have hc : ∀ v, ρ (.const v) = v := fun v => hbase _ (fun _ _ _ _ _ e => by cases e)
            have p18 : ρ (.tmp 75) = .agg #[.int .i64 (0), .string (TA)] := (Option.some.inj (hdep ⟨18, .data⟩ (by simp) rfl _ 75 rfl rfl : some (.agg #[.int .i64 (0), .string (TA)]) = some (ρ (.tmp 75)))).symm
            simp only [execOp, hc, p18]
            exact good_val (show (Instr.field 38 (.agg #[.int .i64 (0), .string (TA)]) 0).run Tryd.prog W = .ok (.int .i64 (0)) W by kernel_rfl) ⟨Below.refl _ _, rfl⟩
          · intro _ ρ W hI hbase hdep
            have hc : ∀ v, ρ (.const v) = v := fun v => hbase _ (fun _ _ _ _ _ e => by cases e)
            have p15 : ρ (.tmp 72) = .int .i64 (0) := (Option.some.inj (hdep ⟨15, .data⟩ (by simp) rfl _ 72 rfl rfl : some (.int .i64 (0)) = some (ρ (.tmp 72)))).symm
            have p19 : ρ (.tmp 76) = .int .i64 (0) := (Option.some.inj (hdep ⟨19, .data⟩ (by simp) rfl _ 76 rfl rfl : some (.int .i64 (0)) = some (ρ (.tmp 76)))).symm
            simp only [execOp, hc, p15, p19]
            go_simp
            exact ⟨Below.refl _ _, rfl⟩
          · intro _ ρ W hI hbase hdep
            have hc : ∀ v, ρ (.const v) = v := fun v => hbase _ (fun _ _ _ _ _ e => by cases e)
            have p13 : ρ (.tmp 70) = .bool false := (Option.some.inj (hdep ⟨13, .data⟩ (by simp) rfl _ 70 rfl rfl : some (.bool false) = some (ρ (.tmp 70)))).symm
            have p20 : ρ (.tmp 77) = .bool false := (Option.some.inj (hdep ⟨20, .data⟩ (by simp) rfl _ 77 rfl rfl : some (.bool false) = some (ρ (.tmp 77)))).symm
            simp only [execOp, hc, p13, p20]
            go_simp
            exact ⟨Below.refl _ _, rfl⟩
          · trivial
        intro a' W hI ha hdf hall _ hrest
        have p0 : a'.tmps.getD 57 undef = .pointer (some ⟨bA, 0, none⟩) := (Option.some.inj (hall 0 _ 57 rfl rfl : some (.pointer (some ⟨bA, 0, none⟩)) = some (a'.tmps.getD 57 undef))).symm
        have p1 : a'.tmps.getD 58 undef = .int .i64 (0) := (Option.some.inj (hall 1 _ 58 rfl rfl : some (.int .i64 (0)) = some (a'.tmps.getD 58 undef))).symm
        have p2 : a'.tmps.getD 59 undef = .bool true := (Option.some.inj (hall 2 _ 59 rfl rfl : some (.bool true) = some (a'.tmps.getD 59 undef))).symm
        have p3 : a'.tmps.getD 60 undef = .bool true := (Option.some.inj (hall 3 _ 60 rfl rfl : some (.bool true) = some (a'.tmps.getD 60 undef))).symm
        have p4 : a'.tmps.getD 61 undef = .pointer (some ⟨bA, 1, none⟩) := (Option.some.inj (hall 4 _ 61 rfl rfl : some (.pointer (some ⟨bA, 1, none⟩)) = some (a'.tmps.getD 61 undef))).symm
        have p5 : a'.tmps.getD 62 undef = .string (TA) := (Option.some.inj (hall 5 _ 62 rfl rfl : some (.string (TA)) = some (a'.tmps.getD 62 undef))).symm
        obtain ⟨a6, c6, p6, hsp6⟩ : ∃ a6 c6, a'.tmps.getD 63 undef = .agg #[.int .i64 (0), .slice (a6) (LP.length) (c6)] ∧ Rd W a6 (iV LP) := hall 6 _ 63 rfl rfl
        obtain ⟨a7, c7, p7, hsp7⟩ : ∃ a7 c7, a'.tmps.getD 64 undef = .slice (a7) (LP.length) (c7) ∧ Rd W a7 (iV LP) := hall 7 _ 64 rfl rfl
        have p8 : a'.tmps.getD 65 undef = .pointer (some ⟨bP, 1, none⟩) := (Option.some.inj (hall 8 _ 65 rfl rfl : some (.pointer (some ⟨bP, 1, none⟩)) = some (a'.tmps.getD 65 undef))).symm
        have p9 : a'.tmps.getD 66 undef = .slice (aP) (LP.length) (cP) := (Option.some.inj (hall 9 _ 66 rfl rfl : some (.slice (aP) (LP.length) (cP)) = some (a'.tmps.getD 66 undef))).symm
        have p10 : a'.tmps.getD 67 undef = .bool true := (Option.some.inj (hall 10 _ 67 rfl rfl : some (.bool true) = some (a'.tmps.getD 67 undef))).symm
        have p11 : a'.tmps.getD 68 undef = .bool false := (Option.some.inj (hall 11 _ 68 rfl rfl : some (.bool false) = some (a'.tmps.getD 68 undef))).symm
        have p12 : a'.tmps.getD 69 undef = .bool false := (Option.some.inj (hall 12 _ 69 rfl rfl : some (.bool false) = some (a'.tmps.getD 69 undef))).symm
        have p13 : a'.tmps.getD 70 undef = .bool false := (Option.some.inj (hall 13 _ 70 rfl rfl : some (.bool false) = some (a'.tmps.getD 70 undef))).symm
        have p14 : a'.tmps.getD 71 undef = .pointer (some ⟨bA, 0, none⟩) := (Option.some.inj (hall 14 _ 71 rfl rfl : some (.pointer (some ⟨bA, 0, none⟩)) = some (a'.tmps.getD 71 undef))).symm
        have p15 : a'.tmps.getD 72 undef = .int .i64 (0) := (Option.some.inj (hall 15 _ 72 rfl rfl : some (.int .i64 (0)) = some (a'.tmps.getD 72 undef))).symm
        have p16 : a'.tmps.getD 73 undef = .pointer (some ⟨bP, 1, none⟩) := (Option.some.inj (hall 16 _ 73 rfl rfl : some (.pointer (some ⟨bP, 1, none⟩)) = some (a'.tmps.getD 73 undef))).symm
        have p17 : a'.tmps.getD 74 undef = .slice (aP) (LP.length) (cP) := (Option.some.inj (hall 17 _ 74 rfl rfl : some (.slice (aP) (LP.length) (cP)) = some (a'.tmps.getD 74 undef))).symm
        have p18 : a'.tmps.getD 75 undef = .agg #[.int .i64 (0), .string (TA)] := (Option.some.inj (hall 18 _ 75 rfl rfl : some (.agg #[.int .i64 (0), .string (TA)]) = some (a'.tmps.getD 75 undef))).symm
        have p19 : a'.tmps.getD 76 undef = .int .i64 (0) := (Option.some.inj (hall 19 _ 76 rfl rfl : some (.int .i64 (0)) = some (a'.tmps.getD 76 undef))).symm
        have p20 : a'.tmps.getD 77 undef = .bool false := (Option.some.inj (hall 20 _ 77 rfl rfl : some (.bool false) = some (a'.tmps.getD 77 undef))).symm
        have p21 : a'.tmps.getD 78 undef = .bool false := (Option.some.inj (hall 21 _ 78 rfl rfl : some (.bool false) = some (a'.tmps.getD 78 undef))).symm
        have ea := after_region [(57, _), (58, _), (59, _), (60, _), (61, _), (62, _), (63, _), (64, _), (65, _), (66, _), (67, _), (68, _), (69, _), (70, _), (71, _), (72, _), (73, _), (74, _), (75, _), (76, _), (77, _), (78, _)] ha hdf hrest (by kernel_rfl) (by simp only [List.forall_mem_cons]; exact ⟨p0, p1, p2, p3, p4, p5, p6, p7, p8, p9, p10, p11, p12, p13, p14, p15, p16, p17, p18, p19, p20, p21, fun _ h => by cases h⟩)
        subst ea
        simp only [List.foldl_cons, List.foldl_nil, List.setIfInBounds_toArray, List.set_cons_zero, List.set_cons_succ]
        clear p0 p1 p2 p3 p4 p5 p6 p7 p8 p9 p10 p11 p12 p13 p14 p15 p16 p17 p18 p19 p20 p21 hall hrest ha hdf
        have kT3 := blk_then kT2 hI
        have rdl3 := rdl2.below hI
        have hM3 := hM2.then hI
        have bel3 := below_then bel2 hI
        clear kT2 kP2 rdl2 rdP2 rdP hM hM2 bel2 hcA hcP kA hI
        obtain ⟨t0, t1⟩ := cells2 kT3
        have lT3 : bT < (W).heap.size := (Array.getElem?_eq_some_iff.1 kT3).1
        have KT3 := Lib.hid kT3
        clear kT3
        by_cases hct : ct = 0
        · subst hct
          have hbk := Hback.out rfl
          have c7 := fun W hm => impl_ParseItems T (by omega) W hm
          simp only [hbk] at c7
          have c8 := fun a c W hr hr' => impl_SameItems a (some ⟨gl, 0, none⟩) l.length l.length c capl l l rfl rfl W hr hr' (by omega) (by omega)
          have c9 := fun a c W hr hr' => spec_SameItems a (some ⟨gl, 0, none⟩) l.length l.length c capl l l rfl rfl W hr hr' (by omega) (by omega)
          simp only [decide_true] at c8 c9
          have C7 := Lib.hid c7
          have C8 := Lib.hid c8
          have C9 := Lib.hid c9
          clear c7 c8 c9 hbk
          go_wp2_with (first
            | (go_at_call 17; ((with_reducible refine (C7.out _ hM3).mono ?_); rintro e wB ⟨aB, nB, cB, rfl, ⟨hlB, hsB⟩, hb⟩; subst hlB; have rdB := hsB.rd; obtain ⟨hc, hf⟩ := bcell hb; have hz := hb.size; (try simp only [World.size_alloc, World.size_setCell, World.size_drew] at hz); obtain ⟨hlt, hle, hn1, hn2, hn3, hn4⟩ := bsize hb; (try simp only [World.size_alloc, World.size_setCell, World.size_drew] at hlt hle hn1 hn2 hn3 hn4); (try have hr0 : w.heap.size < wB.heap.size := by omega); (try have hr1 : w.heap.size + 1 < wB.heap.size := by omega); (try have hs0 : wS.heap.size < wB.heap.size := by omega); (try have hs1 : wG.heap.size < wB.heap.size := by omega)))
            | (go_at_call 23; ((with_reducible refine (C8.out _ _ _ (rdB.below (by exact (by first | (with_reducible exact Below.refl _ _) | ((repeat' (first | (with_reducible exact Below.refl _ _) | (with_reducible assumption) | (with_reducible refine below_alloc ?_ _) | (with_reducible refine Below.drew ?_) | (with_reducible refine below_drewN ?_ _) | (with_reducible refine Below.setCell ?_ ?_ _) | refine below_then ?_ (by with_reducible assumption))) <;> (first | omega | (simp; done) | (simp; omega)))))) (rdl3.below (by exact (by first | (with_reducible exact Below.refl _ _) | ((repeat' (first | (with_reducible exact Below.refl _ _) | (with_reducible assumption) | (with_reducible refine below_alloc ?_ _) | (with_reducible refine Below.drew ?_) | (with_reducible refine below_drewN ?_ _) | (with_reducible refine Below.setCell ?_ ?_ _) | refine below_then ?_ (by with_reducible assumption))) <;> (first | omega | (simp; done) | (simp; omega))))))).mono ?_); rintro e wC ⟨rfl, hb⟩; obtain ⟨hc, hf⟩ := bcell hb; have hz := hb.size; (try simp only [World.size_alloc, World.size_setCell, World.size_drew] at hz); obtain ⟨hlt, hle, hn1, hn2, hn3, hn4⟩ := bsize hb; (try simp only [World.size_alloc, World.size_setCell, World.size_drew] at hlt hle hn1 hn2 hn3 hn4); (try have hr0 : w.heap.size < wC.heap.size := by omega); (try have hr1 : w.heap.size + 1 < wC.heap.size := by omega); (try have hs0 : wS.heap.size < wC.heap.size := by omega); (try have hs1 : wG.heap.size < wC.heap.size := by omega); have lB : wB.heap.size < wC.heap.size := (by omega)))
            | (go_at_call 24; ((with_reducible refine (C9.out _ _ _ (rdB.below (by exact (by first | (with_reducible exact Below.refl _ _) | ((repeat' (first | (with_reducible exact Below.refl _ _) | (with_reducible assumption) | (with_reducible refine below_alloc ?_ _) | (with_reducible refine Below.drew ?_) | (with_reducible refine below_drewN ?_ _) | (with_reducible refine Below.setCell ?_ ?_ _) | refine below_then ?_ (by with_reducible assumption))) <;> (first | omega | (simp; done) | (simp; omega)))))) (rdl3.below (by exact (by first | (with_reducible exact Below.refl _ _) | ((repeat' (first | (with_reducible exact Below.refl _ _) | (with_reducible assumption) | (with_reducible refine below_alloc ?_ _) | (with_reducible refine Below.drew ?_) | (with_reducible refine below_drewN ?_ _) | (with_reducible refine Below.setCell ?_ ?_ _) | refine below_then ?_ (by with_reducible assumption))) <;> (first | omega | (simp; done) | (simp; omega))))))).mono ?_); rintro e wD ⟨rfl, hb⟩)))
          all_goals exact bodyPost_ret (results_tmp Tryd.results4 _ _ _) rfl ⟨rfl, by exact (by first | (with_reducible exact Below.refl _ _) | ((repeat' (first | (with_reducible exact Below.refl _ _) | (with_reducible assumption) | (with_reducible refine below_alloc ?_ _) | (with_reducible refine Below.drew ?_) | (with_reducible refine below_drewN ?_ _) | (with_reducible refine Below.setCell ?_ ?_ _) | refine below_then ?_ (by with_reducible assumption))) <;> (first | omega | (simp; done) | (simp; omega))))⟩
        · have hctb : (ct != 0) = true := by rw [bne_iff_ne]; exact hct
          go_wp2
          exact bodyPost_ret (results_tmp Tryd.results4 _ _ _) rfl ⟨rfl, by exact (by first | (with_reducible exact Below.refl _ _) | ((repeat' (first | (with_reducible exact Below.refl _ _) | (with_reducible assumption) | (with_reducible refine below_alloc ?_ _) | (with_reducible refine Below.drew ?_) | (with_reducible refine below_drewN ?_ _) | (with_reducible refine Below.setCell ?_ ?_ _) | refine below_then ?_ (by with_reducible assumption))) <;> (first | omega | (simp; done) | (simp; omega))))⟩
        --END
      · have hcab : (ca == 0) = false := by rw [beq_eq_false_iff_ne]; exact hca
        clear c5
        --LEAF notagain
        refine wp_region_relG (fun W => Below z2.heap.size z2 W) (fun _ w w' => Below w.heap.size w w') (FF [.pointer (some ⟨bA, 0, none⟩), .int .i64 (ca), .bool false, .bool false, undef, undef, undef, undef, undef, undef, undef, undef, .bool false, .bool false, .pointer (some ⟨bA, 0, none⟩), .int .i64 (ca), .pointer (some ⟨bP, 1, none⟩), .slice (aP) (LP.length) (cP), .agg #[.int .i64 (ca), .string (TA)], .int .i64 (ca), .bool false, .bool false] []) (fun i => !(decide (i = 4) || decide (i = 5) || decide (i = 6) || decide (i = 7) || decide (i = 8) || decide (i = 9) || decide (i = 10) || decide (i = 11))) (by kernel_rfl) (by kernel_rfl) (guard_FF (by kernel_rfl) (by kernel_rfl)) ?_ (Below.refl _ _).drew (fun _ _ _ h1 h2 => below_then h1 h2) (fun _ _ _ _ _ _ _ h2 h3 => FF.keep (fun _ h => by cases h) _ _ _ _ h2 h3) ?_ ?_ ?_
        · intro i w h _
          simp only [Bool.not_eq_false', Bool.or_eq_true, decide_eq_true_eq] at h
          rcases (show i = 4 ∨ i = 5 ∨ i = 6 ∨ i = 7 ∨ i = 8 ∨ i = 9 ∨ i = 10 ∨ i = 11 by omega) with rfl | rfl | rfl | rfl | rfl | rfl | rfl | rfl <;> rfl
        · intro i o v w hi hd hF
          exact absurd hd (by have := unB_spec (k := 999) (by kernel_rfl) hi hd; have := (Array.getElem?_eq_some_iff.1 hi).1; simp at this; omega)
        · repeat' (refine And.intro ?_ ?_)
          · intro _ ρ W hI hbase hdep
            have hc : ∀ v, ρ (.const v) = v := fun v => hbase _ (fun _ _ _ _ _ e => by cases e)
            have b10 : ρ (.tmp 10) = .pointer (some ⟨bA, 0, none⟩) := hbase (.tmp 10) (base_tmp (by kernel_rfl))
            simp only [execOp, hc, b10]
            go_simp
            exact ⟨Below.refl _ _, rfl⟩
          · intro _ ρ W hI hbase hdep
            have hc : ∀ v, ρ (.const v) = v := fun v => hbase _ (fun _ _ _ _ _ e => by cases e)
            have p0 : ρ (.tmp 57) = .pointer (some ⟨bA, 0, none⟩) := (Option.some.inj (hdep ⟨0, .data⟩ (by simp) rfl _ 57 rfl rfl : some (.pointer (some ⟨bA, 0, none⟩)) = some (ρ (.tmp 57)))).symm
            obtain ⟨m0, m1⟩ := hcA W hI
            simp only [execOp, hc, p0]
            go_simp
            exact ⟨Below.refl _ _, rfl⟩
          · intro _ ρ W hI hbase hdep
            have hc : ∀ v, ρ (.const v) = v := fun v => hbase _ (fun _ _ _ _ _ e => by cases e)
            have p1 : ρ (.tmp 58) = .int .i64 (ca) := (Option.some.inj (hdep ⟨1, .data⟩ (by simp) rfl _ 58 rfl rfl : some (.int .i64 (ca)) = some (ρ (.tmp 58)))).symm
            simp only [execOp, hc, p1]
            go_simp
            exact ⟨Below.refl _ _, rfl⟩
          · intro _ ρ W hI hbase hdep
            have hc : ∀ v, ρ (.const v) = v := fun v => hbase _ (fun _ _ _ _ _ e => by cases e)
            have p2 : ρ (.tmp 59) = .bool false := (Option.some.inj (hdep ⟨2, .data⟩ (by simp) rfl _ 59 rfl rfl : some (.bool false) = some (ρ (.tmp 59)))).symm
            simp only [execOp, hc, p2]
            go_simp
            exact ⟨Below.refl _ _, rfl⟩
          · intro h; exact absurd h (by decide)
          · intro h; exact absurd h (by decide)
          · intro h; exact absurd h (by decide)
          · intro h; exact absurd h (by decide)
          · intro h; exact absurd h (by decide)
          · intro h; exact absurd h (by decide)
          · intro h; exact absurd h (by decide)
          · intro h; exact absurd h (by decide)
          · intro _ ρ W hI hbase hdep
            have hc : ∀ v, ρ (.const v) = v := fun v => hbase _ (fun _ _ _ _ _ e => by cases e)
            have p3 : ρ (.tmp 60) = .bool false := (Option.some.inj (hdep ⟨3, .data⟩ (by simp) rfl _ 60 rfl rfl : some (.bool false) = some (ρ (.tmp 60)))).symm
            have p11 : ρ (.tmp 68) = undef := (Option.some.inj (hdep ⟨11, .data⟩ (by simp) rfl _ 68 rfl rfl : some (undef) = some (ρ (.tmp 68)))).symm
            simp only [execOp, hc, p3, p11]
            go_simp
            exact ⟨Below.refl _ _, rfl⟩
          · intro _ ρ W hI hbase hdep
            have hc : ∀ v, ρ (.const v) = v := fun v => hbase _ (fun _ _ _ _ _ e => by cases e)
            have p12 : ρ (.tmp 69) = .bool false := (Option.some.inj (hdep ⟨12, .data⟩ (by simp) rfl _ 69 rfl rfl : some (.bool false) = some (ρ (.tmp 69)))).symm
            simp only [execOp, hc, p12]
            go_simp
            exact ⟨Below.refl _ _, rfl⟩
          · intro _ ρ W hI hbase hdep
            have hc : ∀ v, ρ (.const v) = v := fun v => hbase _ (fun _ _ _ _ _ e => by cases e)
            have b10 : ρ (.tmp 10) = .pointer (some ⟨bA, 0, none⟩) := hbase (.tmp 10) (base_tmp (by kernel_rfl))
            simp only [execOp, hc, b10]
            go_simp
            exact ⟨Below.refl _ _, rfl⟩
          · intro _ ρ W hI hbase hdep
            have hc : ∀ v, ρ (.const v) = v := fun v => hbase _ (fun _ _ _ _ _ e => by cases e)
            have p14 : ρ (.tmp 71) = .pointer (some ⟨bA, 0, none⟩) := (Option.some.inj (hdep ⟨14, .data⟩ (by simp) rfl _ 71 rfl rfl : some (.pointer (some ⟨bA, 0, none⟩)) = some (ρ (.tmp 71)))).symm
            obtain ⟨m0, m1⟩ := hcA W hI
            simp only [execOp, hc, p14]
            go_simp
            exact ⟨Below.refl _ _, rfl⟩
          · intro _ ρ W hI hbase hdep
            have hc : ∀ v, ρ (.const v) = v := fun v => hbase _ (fun _ _ _ _ _ e => by cases e)
            have b6 : ρ (.tmp 6) = .pointer (some ⟨bP, 0, none⟩) := hbase (.tmp 6) (base_tmp (by kernel_rfl))
            simp only [execOp, hc, b6]
            go_simp
            exact ⟨Below.refl _ _, rfl⟩
          · intro _ ρ W hI hbase hdep
            have hc : ∀ v, ρ (.const v) = v := fun v => hbase _ (fun _ _ _ _ _ e => by cases e)
            have p16 : ρ (.tmp 73) = .pointer (some ⟨bP, 1, none⟩) := (Option.some.inj (hdep ⟨16, .data⟩ (by simp) rfl _ 73 rfl rfl : some (.pointer (some ⟨bP, 1, none⟩)) = some (ρ (.tmp 73)))).symm
            obtain ⟨m0, m1⟩ := hcP W hI
            simp only [execOp, hc, p16]
            go_simp
            exact ⟨Below.refl _ _, rfl⟩
          · intro _ ρ W hI hbase hdep
            have hc : ∀ v, ρ (.const v) = v := fun v => hbase _ (fun _ _ _ _ _ e => by cases e)
            have hfn : ∀ f, ρ (.func f) = .func (.func f) #[] #[] := fun v => hbase _ (fun _ _ _ _ _ e => by cases e)
            have p17 : ρ (.tmp 74) = .slice (aP) (LP.length) (cP) := (Option.some.inj (hdep ⟨17, .data⟩ (by simp) rfl _ 74 rfl rfl : some (.slice (aP) (LP.length) (cP)) = some (ρ (.tmp 74)))).symm
            simp only [execOp, hc, hfn, p17]
            go_simp
            exact ⟨rfl, (C6.out W (rdP.below hI)).mono fun e w' h => ⟨_, h.1, h.2, rfl⟩⟩
          · intro _ ρ W hI hbase hdep
            have hc : ∀ v, ρ (.const v) = v := fun v => hbase _ (fun _ _ _ _ _ e => by cases e)
            have p18 : ρ (.tmp 75) = .agg #[.int .i64 (ca), .string (TA)] := (Option.some.inj (hdep ⟨18, .data⟩ (by simp) rfl _ 75 rfl rfl : some (.agg #[.int .i64 (ca), .string (TA)]) = some (ρ (.tmp 75)))).symm
            simp only [execOp, hc, p18]
            exact good_val (show (Instr.field 38 (.agg #[.int .i64 (ca), .string (TA)]) 0).run Tryd.prog W = .ok (.int .i64 (ca)) W by kernel_rfl) ⟨Below.refl _ _, rfl⟩
          · intro _ ρ W hI hbase hdep
            have hc : ∀ v, ρ (.const v) = v := fun v => hbase _ (fun _ _ _ _ _ e => by cases e)
            have p15 : ρ (.tmp 72) = .int .i64 (ca) := (Option.some.inj (hdep ⟨15, .data⟩ (by simp) rfl _ 72 rfl rfl : some (.int .i64 (ca)) = some (ρ (.tmp 72)))).symm
            have p19 : ρ (.tmp 76) = .int .i64 (ca) := (Option.some.inj (hdep ⟨19, .data⟩ (by simp) rfl _ 76 rfl rfl : some (.int .i64 (ca)) = some (ρ (.tmp 76)))).symm
            simp only [execOp, hc, p15, p19]
            go_simp
            exact ⟨Below.refl _ _, rfl⟩
          · intro _ ρ W hI hbase hdep
            have hc : ∀ v, ρ (.const v) = v := fun v => hbase _ (fun _ _ _ _ _ e => by cases e)
            have p13 : ρ (.tmp 70) = .bool false := (Option.some.inj (hdep ⟨13, .data⟩ (by simp) rfl _ 70 rfl rfl : some (.bool false) = some (ρ (.tmp 70)))).symm
            have p20 : ρ (.tmp 77) = .bool false := (Option.some.inj (hdep ⟨20, .data⟩ (by simp) rfl _ 77 rfl rfl : some (.bool false) = some (ρ (.tmp 77)))).symm
            simp only [execOp, hc, p13, p20]
            go_simp
            exact ⟨Below.refl _ _, rfl⟩
          · trivial
        intro a' W hI ha hdf hall _ hrest
        have p0 : a'.tmps.getD 57 undef = .pointer (some ⟨bA, 0, none⟩) := (Option.some.inj (hall 0 _ 57 rfl rfl : some (.pointer (some ⟨bA, 0, none⟩)) = some (a'.tmps.getD 57 undef))).symm
        have p1 : a'.tmps.getD 58 undef = .int .i64 (ca) := (Option.some.inj (hall 1 _ 58 rfl rfl : some (.int .i64 (ca)) = some (a'.tmps.getD 58 undef))).symm
        have p2 : a'.tmps.getD 59 undef = .bool false := (Option.some.inj (hall 2 _ 59 rfl rfl : some (.bool false) = some (a'.tmps.getD 59 undef))).symm
        have p3 : a'.tmps.getD 60 undef = .bool false := (Option.some.inj (hall 3 _ 60 rfl rfl : some (.bool false) = some (a'.tmps.getD 60 undef))).symm
        have p4 : a'.tmps.getD 61 undef = undef := (Option.some.inj (hall 4 _ 61 rfl rfl : some (undef) = some (a'.tmps.getD 61 undef))).symm
        have p5 : a'.tmps.getD 62 undef = undef := (Option.some.inj (hall 5 _ 62 rfl rfl : some (undef) = some (a'.tmps.getD 62 undef))).symm
        have p6 : a'.tmps.getD 63 undef = undef := (Option.some.inj (hall 6 _ 63 rfl rfl : some (undef) = some (a'.tmps.getD 63 undef))).symm
        have p7 : a'.tmps.getD 64 undef = undef := (Option.some.inj (hall 7 _ 64 rfl rfl : some (undef) = some (a'.tmps.getD 64 undef))).symm
        have p8 : a'.tmps.getD 65 undef = undef := (Option.some.inj (hall 8 _ 65 rfl rfl : some (undef) = some (a'.tmps.getD 65 undef))).symm
        have p9 : a'.tmps.getD 66 undef = undef := (Option.some.inj (hall 9 _ 66 rfl rfl : some (undef) = some (a'.tmps.getD 66 undef))).symm
        have p10 : a'.tmps.getD 67 undef = undef := (Option.some.inj (hall 10 _ 67 rfl rfl : some (undef) = some (a'.tmps.getD 67 undef))).symm
        have p11 : a'.tmps.getD 68 undef = undef := (Option.some.inj (hall 11 _ 68 rfl rfl : some (undef) = some (a'.tmps.getD 68 undef))).symm
        have p12 : a'.tmps.getD 69 undef = .bool false := (Option.some.inj (hall 12 _ 69 rfl rfl : some (.bool false) = some (a'.tmps.getD 69 undef))).symm
        have p13 : a'.tmps.getD 70 undef = .bool false := (Option.some.inj (hall 13 _ 70 rfl rfl : some (.bool false) = some (a'.tmps.getD 70 undef))).symm
        have p14 : a'.tmps.getD 71 undef = .pointer (some ⟨bA, 0, none⟩) := (Option.some.inj (hall 14 _ 71 rfl rfl : some (.pointer (some ⟨bA, 0, none⟩)) = some (a'.tmps.getD 71 undef))).symm
        have p15 : a'.tmps.getD 72 undef = .int .i64 (ca) := (Option.some.inj (hall 15 _ 72 rfl rfl : some (.int .i64 (ca)) = some (a'.tmps.getD 72 undef))).symm
        have p16 : a'.tmps.getD 73 undef = .pointer (some ⟨bP, 1, none⟩) := (Option.some.inj (hall 16 _ 73 rfl rfl : some (.pointer (some ⟨bP, 1, none⟩)) = some (a'.tmps.getD 73 undef))).symm
        have p17 : a'.tmps.getD 74 undef = .slice (aP) (LP.length) (cP) := (Option.some.inj (hall 17 _ 74 rfl rfl : some (.slice (aP) (LP.length) (cP)) = some (a'.tmps.getD 74 undef))).symm
        have p18 : a'.tmps.getD 75 undef = .agg #[.int .i64 (ca), .string (TA)] := (Option.some.inj (hall 18 _ 75 rfl rfl : some (.agg #[.int .i64 (ca), .string (TA)]) = some (a'.tmps.getD 75 undef))).symm
        have p19 : a'.tmps.getD 76 undef = .int .i64 (ca) := (Option.some.inj (hall 19 _ 76 rfl rfl : some (.int .i64 (ca)) = some (a'.tmps.getD 76 undef))).symm
        have p20 : a'.tmps.getD 77 undef = .bool false := (Option.some.inj (hall 20 _ 77 rfl rfl : some (.bool false) = some (a'.tmps.getD 77 undef))).symm
        have p21 : a'.tmps.getD 78 undef = .bool false := (Option.some.inj (hall 21 _ 78 rfl rfl : some (.bool false) = some (a'.tmps.getD 78 undef))).symm
        have ea := after_region [(57, _), (58, _), (59, _), (60, _), (61, _), (62, _), (63, _), (64, _), (65, _), (66, _), (67, _), (68, _), (69, _), (70, _), (71, _), (72, _), (73, _), (74, _), (75, _), (76, _), (77, _), (78, _)] ha hdf hrest (by kernel_rfl) (by simp only [List.forall_mem_cons]; exact ⟨p0, p1, p2, p3, p4, p5, p6, p7, p8, p9, p10, p11, p12, p13, p14, p15, p16, p17, p18, p19, p20, p21, fun _ h => by cases h⟩)
        subst ea
        simp only [List.foldl_cons, List.foldl_nil, List.setIfInBounds_toArray, List.set_cons_zero, List.set_cons_succ]
        clear p0 p1 p2 p3 p4 p5 p6 p7 p8 p9 p10 p11 p12 p13 p14 p15 p16 p17 p18 p19 p20 p21 hall hrest ha hdf
        have kT3 := blk_then kT2 hI
        have rdl3 := rdl2.below hI
        have hM3 := hM2.then hI
        have bel3 := below_then bel2 hI
        clear kT2 kP2 rdl2 rdP2 rdP hM hM2 bel2 hcA hcP kA hI
        obtain ⟨t0, t1⟩ := cells2 kT3
        have lT3 : bT < (W).heap.size := (Array.getElem?_eq_some_iff.1 kT3).1
        have KT3 := Lib.hid kT3
        clear kT3
        by_cases hct : ct = 0
        · subst hct
          have hbk := Hback.out rfl
          have c7 := fun W hm => impl_ParseItems T (by omega) W hm
          simp only [hbk] at c7
          have c8 := fun a c W hr hr' => impl_SameItems a (some ⟨gl, 0, none⟩) l.length l.length c capl l l rfl rfl W hr hr' (by omega) (by omega)
          have c9 := fun a c W hr hr' => spec_SameItems a (some ⟨gl, 0, none⟩) l.length l.length c capl l l rfl rfl W hr hr' (by omega) (by omega)
          simp only [decide_true] at c8 c9
          have C7 := Lib.hid c7
          have C8 := Lib.hid c8
          have C9 := Lib.hid c9
          clear c7 c8 c9 hbk
          go_wp2_with (first
            | (go_at_call 17; ((with_reducible refine (C7.out _ hM3).mono ?_); rintro e wB ⟨aB, nB, cB, rfl, ⟨hlB, hsB⟩, hb⟩; subst hlB; have rdB := hsB.rd; obtain ⟨hc, hf⟩ := bcell hb; have hz := hb.size; (try simp only [World.size_alloc, World.size_setCell, World.size_drew] at hz); obtain ⟨hlt, hle, hn1, hn2, hn3, hn4⟩ := bsize hb; (try simp only [World.size_alloc, World.size_setCell, World.size_drew] at hlt hle hn1 hn2 hn3 hn4); (try have hr0 : w.heap.size < wB.heap.size := by omega); (try have hr1 : w.heap.size + 1 < wB.heap.size := by omega); (try have hs0 : wS.heap.size < wB.heap.size := by omega); (try have hs1 : wG.heap.size < wB.heap.size := by omega)))
            | (go_at_call 23; ((with_reducible refine (C8.out _ _ _ (rdB.below (by exact (by first | (with_reducible exact Below.refl _ _) | ((repeat' (first | (with_reducible exact Below.refl _ _) | (with_reducible assumption) | (with_reducible refine below_alloc ?_ _) | (with_reducible refine Below.drew ?_) | (with_reducible refine below_drewN ?_ _) | (with_reducible refine Below.setCell ?_ ?_ _) | refine below_then ?_ (by with_reducible assumption))) <;> (first | omega | (simp; done) | (simp; omega)))))) (rdl3.below (by exact (by first | (with_reducible exact Below.refl _ _) | ((repeat' (first | (with_reducible exact Below.refl _ _) | (with_reducible assumption) | (with_reducible refine below_alloc ?_ _) | (with_reducible refine Below.drew ?_) | (with_reducible refine below_drewN ?_ _) | (with_reducible refine Below.setCell ?_ ?_ _) | refine below_then ?_ (by with_reducible assumption))) <;> (first | omega | (simp; done) | (simp; omega))))))).mono ?_); rintro e wC ⟨rfl, hb⟩; obtain ⟨hc, hf⟩ := bcell hb; have hz := hb.size; (try simp only [World.size_alloc, World.size_setCell, World.size_drew] at hz); obtain ⟨hlt, hle, hn1, hn2, hn3, hn4⟩ := bsize hb; (try simp only [World.size_alloc, World.size_setCell, World.size_drew] at hlt hle hn1 hn2 hn3 hn4); (try have hr0 : w.heap.size < wC.heap.size := by omega); (try have hr1 : w.heap.size + 1 < wC.heap.size := by omega); (try have hs0 : wS.heap.size < wC.heap.size := by omega); (try have hs1 : wG.heap.size < wC.heap.size := by omega); have lB : wB.heap.size < wC.heap.size := (by omega)))
            | (go_at_call 24; ((with_reducible refine (C9.out _ _ _ (rdB.below (by exact (by first | (with_reducible exact Below.refl _ _) | ((repeat' (first | (with_reducible exact Below.refl _ _) | (with_reducible assumption) | (with_reducible refine below_alloc ?_ _) | (with_reducible refine Below.drew ?_) | (with_reducible refine below_drewN ?_ _) | (with_reducible refine Below.setCell ?_ ?_ _) | refine below_then ?_ (by with_reducible assumption))) <;> (first | omega | (simp; done) | (simp; omega)))))) (rdl3.below (by exact (by first | (with_reducible exact Below.refl _ _) | ((repeat' (first | (with_reducible exact Below.refl _ _) | (with_reducible assumption) | (with_reducible refine below_alloc ?_ _) | (with_reducible refine Below.drew ?_) | (with_reducible refine below_drewN ?_ _) | (with_reducible refine Below.setCell ?_ ?_ _) | refine below_then ?_ (by with_reducible assumption))) <;> (first | omega | (simp; done) | (simp; omega))))))).mono ?_); rintro e wD ⟨rfl, hb⟩)))
          all_goals exact bodyPost_ret (results_tmp Tryd.results4 _ _ _) rfl ⟨rfl, by exact (by first | (with_reducible exact Below.refl _ _) | ((repeat' (first | (with_reducible exact Below.refl _ _) | (with_reducible assumption) | (with_reducible refine below_alloc ?_ _) | (with_reducible refine Below.drew ?_) | (with_reducible refine below_drewN ?_ _) | (with_reducible refine Below.setCell ?_ ?_ _) | refine below_then ?_ (by with_reducible assumption))) <;> (first | omega | (simp; done) | (simp; omega))))⟩
        · have hctb : (ct != 0) = true := by rw [bne_iff_ne]; exact hct
          go_wp2
          exact bodyPost_ret (results_tmp Tryd.results4 _ _ _) rfl ⟨rfl, by exact (by first | (with_reducible exact Below.refl _ _) | ((repeat' (first | (with_reducible exact Below.refl _ _) | (with_reducible assumption) | (with_reducible refine below_alloc ?_ _) | (with_reducible refine Below.drew ?_) | (with_reducible refine below_drewN ?_ _) | (with_reducible refine Below.setCell ?_ ?_ _) | refine below_then ?_ (by with_reducible assumption))) <;> (first | omega | (simp; done) | (simp; omega))))⟩
        --END
    · have hcpb : (cp == 0) = false := by rw [beq_eq_false_iff_ne]; exact hcp
      have kT3 := kT
      have rdl3 := rdl
      have hM3 := hM
      have bel3 := belV
      clear kT rdl hM belV KP kP rdP
      --LEAF bad
      go_upto_region 15 with fail
      clear t0 t1 u0 u1
      obtain ⟨t0, t1⟩ := cells2 kT3
      have lT3 : bT < (z).heap.size := (Array.getElem?_eq_some_iff.1 kT3).1
      have KT3 := Lib.hid kT3
      clear kT3
      by_cases hct : ct = 0
      · subst hct
        have hbk := Hback.out rfl
        have c7 := fun W hm => impl_ParseItems T (by omega) W hm
        simp only [hbk] at c7
        have c8 := fun a c W hr hr' => impl_SameItems a (some ⟨gl, 0, none⟩) l.length l.length c capl l l rfl rfl W hr hr' (by omega) (by omega)
        have c9 := fun a c W hr hr' => spec_SameItems a (some ⟨gl, 0, none⟩) l.length l.length c capl l l rfl rfl W hr hr' (by omega) (by omega)
        simp only [decide_true] at c8 c9
        have C7 := Lib.hid c7
        have C8 := Lib.hid c8
        have C9 := Lib.hid c9
        clear c7 c8 c9 hbk
        go_wp2_with (first
          | (go_at_call 17; ((with_reducible refine (C7.out _ hM3).mono ?_); rintro e wB ⟨aB, nB, cB, rfl, ⟨hlB, hsB⟩, hb⟩; subst hlB; have rdB := hsB.rd; obtain ⟨hc, hf⟩ := bcell hb; have hz := hb.size; (try simp only [World.size_alloc, World.size_setCell, World.size_drew] at hz); obtain ⟨hlt, hle, hn1, hn2, hn3, hn4⟩ := bsize hb; (try simp only [World.size_alloc, World.size_setCell, World.size_drew] at hlt hle hn1 hn2 hn3 hn4); (try have hr0 : w.heap.size < wB.heap.size := by omega); (try have hr1 : w.heap.size + 1 < wB.heap.size := by omega); (try have hs0 : wS.heap.size < wB.heap.size := by omega); (try have hs1 : wG.heap.size < wB.heap.size := by omega)))
          | (go_at_call 23; ((with_reducible refine (C8.out _ _ _ (rdB.below (by exact (by first | (with_reducible exact Below.refl _ _) | ((repeat' (first | (with_reducible exact Below.refl _ _) | (with_reducible assumption) | (with_reducible refine below_alloc ?_ _) | (with_reducible refine Below.drew ?_) | (with_reducible refine below_drewN ?_ _) | (with_reducible refine Below.setCell ?_ ?_ _) | refine below_then ?_ (by with_reducible assumption))) <;> (first | omega | (simp; done) | (simp; omega)))))) (rdl3.below (by exact (by first | (with_reducible exact Below.refl _ _) | ((repeat' (first | (with_reducible exact Below.refl _ _) | (with_reducible assumption) | (with_reducible refine below_alloc ?_ _) | (with_reducible refine Below.drew ?_) | (with_reducible refine below_drewN ?_ _) | (with_reducible refine Below.setCell ?_ ?_ _) | refine below_then ?_ (by with_reducible assumption))) <;> (first | omega | (simp; done) | (simp; omega))))))).mono ?_); rintro e wC ⟨rfl, hb⟩; obtain ⟨hc, hf⟩ := bcell hb; have hz := hb.size; (try simp only [World.size_alloc, World.size_setCell, World.size_drew] at hz); obtain ⟨hlt, hle, hn1, hn2, hn3, hn4⟩ := bsize hb; (try simp only [World.size_alloc, World.size_setCell, World.size_drew] at hlt hle hn1 hn2 hn3 hn4); (try have hr0 : w.heap.size < wC.heap.size := by omega); (try have hr1 : w.heap.size + 1 < wC.heap.size := by omega); (try have hs0 : wS.heap.size < wC.heap.size := by omega); (try have hs1 : wG.heap.size < wC.heap.size := by omega); have lB : wB.heap.size < wC.heap.size := (by omega)))
          | (go_at_call 24; ((with_reducible refine (C9.out _ _ _ (rdB.below (by exact (by first | (with_reducible exact Below.refl _ _) | ((repeat' (first | (with_reducible exact Below.refl _ _) | (with_reducible assumption) | (with_reducible refine below_alloc ?_ _) | (with_reducible refine Below.drew ?_) | (with_reducible refine below_drewN ?_ _) | (with_reducible refine Below.setCell ?_ ?_ _) | refine below_then ?_ (by with_reducible assumption))) <;> (first | omega | (simp; done) | (simp; omega)))))) (rdl3.below (by exact (by first | (with_reducible exact Below.refl _ _) | ((repeat' (first | (with_reducible exact Below.refl _ _) | (with_reducible assumption) | (with_reducible refine below_alloc ?_ _) | (with_reducible refine Below.drew ?_) | (with_reducible refine below_drewN ?_ _) | (with_reducible refine Below.setCell ?_ ?_ _) | refine below_then ?_ (by with_reducible assumption))) <;> (first | omega | (simp; done) | (simp; omega))))))).mono ?_); rintro e wD ⟨rfl, hb⟩)))
        all_goals exact bodyPost_ret (results_tmp Tryd.results4 _ _ _) rfl ⟨rfl, by exact (by first | (with_reducible exact Below.refl _ _) | ((repeat' (first | (with_reducible exact Below.refl _ _) | (with_reducible assumption) | (with_reducible refine below_alloc ?_ _) | (with_reducible refine Below.drew ?_) | (with_reducible refine below_drewN ?_ _) | (with_reducible refine Below.setCell ?_ ?_ _) | refine below_then ?_ (by with_reducible assumption))) <;> (first | omega | (simp; done) | (simp; omega))))⟩
      · have hctb : (ct != 0) = true := by rw [bne_iff_ne]; exact hct
        go_wp2
        exact bodyPost_ret (results_tmp Tryd.results4 _ _ _) rfl ⟨rfl, by exact (by first | (with_reducible exact Below.refl _ _) | ((repeat' (first | (with_reducible exact Below.refl _ _) | (with_reducible assumption) | (with_reducible refine below_alloc ?_ _) | (with_reducible refine Below.drew ?_) | (with_reducible refine below_drewN ?_ _) | (with_reducible refine Below.setCell ?_ ?_ _) | refine below_then ?_ (by with_reducible assumption))) <;> (first | omega | (simp; done) | (simp; omega))))⟩
      --END
  · go_enter Tryd.func4, Tryd.ntmps4
    go_wp2_with (go_at_call 13; ((with_reducible refine (lwBig _ _ _ _).mono ?_); rintro e w' ⟨rfl, rfl⟩))
    all_goals (go_ret; exact ⟨by first | rfl | (simp [*]; done) | (simp [*]; omega), by first | (with_reducible rfl) | exact (by first | (with_reducible exact Below.refl _ _) | ((repeat' (first | (with_reducible exact Below.refl _ _) | (with_reducible assumption) | (with_reducible refine below_alloc ?_ _) | (with_reducible refine Below.drew ?_) | (with_reducible refine below_drewN ?_ _) | (with_reducible refine Below.setCell ?_ ?_ _) | refine below_then ?_ (by with_reducible assumption))) <;> (first | omega | (simp; done) | (simp; omega))))⟩)
end Go.Proofs.YthiogijicknoiaaDoor
