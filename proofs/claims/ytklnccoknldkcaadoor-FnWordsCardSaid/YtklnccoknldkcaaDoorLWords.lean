/- The law on words and letters: its walk. -/
import Derived.Test.YtklnccoknldkcaaDoorDrawW
import Derived.Test.YtklnccoknldkcaaDoorWordsP
import Derived.Test.YtklnccoknldkcaaDoorTrim
import Derived.Test.YtklnccoknldkcaaDoorBig
import Derived.Test.YtklnccoknldkcaaDoorQuietB
import Derived.Test.YtklnccoknldkcaaDoorRegG
import Derived.Deep.DeepCutAuto
import Derived.Deep.RegionHeld3
namespace Go.Proofs.YtklnccoknldkcaaDoor
open Go.RowKit
set_option linter.unusedSimpArgs false
set_option linter.unusedVariables false

theorem fieldT0 (x : Int) (y : ByteArray) (w : World) : (Instr.field 26 (.agg #[.int .i64 x, .string y]) 0).run Tryd.prog w = .ok (.int .i64 x) w := by kernel_rfl
theorem fieldT1 (x : Int) (y : ByteArray) (w : World) : (Instr.field 26 (.agg #[.int .i64 x, .string y]) 1).run Tryd.prog w = .ok (.string y) w := by kernel_rfl
theorem lowerR_yes' {t : ByteArray} (h : t.size ≤ 1000) : lowerR t = (0, lowS t) := by simp [lowerR, h]
theorem lowerR_no' {t : ByteArray} (h : ¬ t.size ≤ 1000) : lowerR t = (2, ByteArray.empty) := by simp [lowerR, h]
theorem low_again {t : ByteArray} (h : t.size ≤ 1000) : lowerR (lowS t) = (0, lowS t) := by rw [lowerR_yes' (by rw [lowS_size]; exact h), lowS_twice]
theorem trim_again {t : ByteArray} (h : t.size ≤ 1000) : trimR (trimT t) = (0, trimT t) := by rw [trimR_yes (by have := trimT_size t; omega), trimT_twice]
theorem codes_same (t : ByteArray) : ((trimR t).1 != (lowerR t).1) = false := by
  by_cases h : t.size ≤ 1000
  · rw [trimR_yes h, lowerR_yes' h]; rfl
  · rw [trimR_no h, lowerR_no' h]; rfl
def wVals (t u : ByteArray) (bl bt : Nat) : List Value := [.pointer (some ⟨bl, 1, none⟩), .string (lowS t), .int .i64 ((t.size : Int)), .string t, .int .i64 ((t.size : Int)), .bool true, .bool true, .pointer (some ⟨bl, 1, none⟩), .string (lowS t), .agg #[.int .i64 0, .string (lowS t)], .string (lowS t), .pointer (some ⟨bl, 1, none⟩), .string (lowS t), .bool true, .bool true, .bool true, .pointer (some ⟨bt, 1, none⟩), .string (trimT t), .agg #[.int .i64 0, .string (trimT t)], .string (trimT t), .pointer (some ⟨bt, 1, none⟩), .string (trimT t), .bool true, .bool true, .bool true, .string u, .bool true, .bool false, .bool false, .string u, .agg #[.int .i64 0, .string u], .string u, .string u, .bool true, .bool true, .string u, .int .i64 ((u.size : Int)), .bool true, .bool true, .bool true, .bool true, .bool true]
def nVals (t u : ByteArray) (bl bt : Nat) : List Value := [.pointer (some ⟨bl, 1, none⟩), .string (lowS t), .int .i64 ((t.size : Int)), .string t, .int .i64 ((t.size : Int)), .bool true, .bool true, .pointer (some ⟨bl, 1, none⟩), .string (lowS t), .agg #[.int .i64 0, .string (lowS t)], .string (lowS t), .pointer (some ⟨bl, 1, none⟩), .string (lowS t), .bool true, .bool true, .bool true, .pointer (some ⟨bt, 1, none⟩), .string (trimT t), .agg #[.int .i64 0, .string (trimT t)], .string (trimT t), .pointer (some ⟨bt, 1, none⟩), .string (trimT t), .bool true, .bool true, .bool true, .string u, .bool false, .bool true, .bool true, undef, undef, undef, undef, undef, undef, undef, undef, undef, undef, .bool true, .bool true, .bool true]
set_option maxHeartbeats 20000000 in
set_option maxRecDepth 100000 in
theorem FnWords_walk (a : Option Addr) (n c : Nat) (bs : List UInt8) (hl : bs.length = n) (w : World) (hr : Rd w a (bs.map byteV)) (hn : n ≤ 9223372036854775807) : Calls Tryd.prog 3 #[.slice a n c] w fun e w' => e = .returned (.bool true) ∧ Below w.heap.size w w' := by
  have hfd0 := fieldT0
  have hfd1 := fieldT1
  by_cases h : n ≤ 1048576
  · go_enter Tryd.func3, Tryd.ntmps3
    go_upto_region 7 with (first
      | (go_at_call 10; ((with_reducible refine (lwBig _ _ _ _).mono ?_); rintro e w' ⟨rfl, rfl⟩))
      | (go_at_call 11; ((with_reducible refine (spec_DrawLowerText a n c bs hl h _ (by first | (with_reducible assumption) | exact RowAt.rd (by repeat' (first | (with_reducible assumption) | (with_reducible refine RowAt.alloc ?_ _) | (with_reducible refine RowAt.drew ?_) | (with_reducible refine RowAt.other ?_ _ _ (by first | omega | (simp; done) | (simp; omega))) | refine RowAt.then ?_ (by with_reducible assumption))) | exact Rd.below (by with_reducible assumption) (by first | (with_reducible exact Below.refl _ _) | ((repeat' (first | (with_reducible exact Below.refl _ _) | (with_reducible assumption) | (with_reducible refine below_alloc ?_ _) | (with_reducible refine Below.drew ?_) | (with_reducible refine below_drewN ?_ _) | (with_reducible refine Below.setCell ?_ ?_ _) | refine below_then ?_ (by with_reducible assumption))) <;> (first | omega | (simp; done) | (simp; omega)))))).mono ?_); rintro e w1 ⟨t, rfl, ht, hb⟩; obtain ⟨hc, hf⟩ := bcell hb; have hz := hb.size; (try simp only [World.size_alloc, World.size_setCell, World.size_drew] at hz); obtain ⟨hlt, hle, hn1, hn2, hn3, hn4⟩ := bsize hb; (try simp only [World.size_alloc, World.size_setCell, World.size_drew] at hlt hle hn1 hn2 hn3 hn4); (try have hr0 : w.heap.size < w1.heap.size := by omega); (try have hr1 : w.heap.size + 1 < w1.heap.size := by omega); (try have hs0 : wS.heap.size < w1.heap.size := by omega); (try have hs1 : wG.heap.size < w1.heap.size := by omega)))
      | (go_at_call 12; ((with_reducible refine (impl_LowerText t _ (by omega)).mono ?_); rintro e w2 ⟨rfl, hb⟩; obtain ⟨hc, hf⟩ := bcell hb; have hz := hb.size; (try simp only [World.size_alloc, World.size_setCell, World.size_drew] at hz); obtain ⟨hlt, hle, hn1, hn2, hn3, hn4⟩ := bsize hb; (try simp only [World.size_alloc, World.size_setCell, World.size_drew] at hlt hle hn1 hn2 hn3 hn4); (try have hr0 : w.heap.size < w2.heap.size := by omega); (try have hr1 : w.heap.size + 1 < w2.heap.size := by omega); (try have hs0 : wS.heap.size < w2.heap.size := by omega); (try have hs1 : wG.heap.size < w2.heap.size := by omega)))
      | (go_at_call 13; ((with_reducible refine (impl_TrimText t _ (by omega)).mono ?_); rintro e w3 ⟨rfl, hb⟩; obtain ⟨hc, hf⟩ := bcell hb; have hz := hb.size; (try simp only [World.size_alloc, World.size_setCell, World.size_drew] at hz); obtain ⟨hlt, hle, hn1, hn2, hn3, hn4⟩ := bsize hb; (try simp only [World.size_alloc, World.size_setCell, World.size_drew] at hlt hle hn1 hn2 hn3 hn4); (try have hr0 : w.heap.size < w3.heap.size := by omega); (try have hr1 : w.heap.size + 1 < w3.heap.size := by omega); (try have hs0 : wS.heap.size < w3.heap.size := by omega); (try have hs1 : wG.heap.size < w3.heap.size := by omega)))
      | (go_at_call 14; ((with_reducible refine (spec_DrawIsWord a n c bs hl h _ (by first | (with_reducible assumption) | exact RowAt.rd (by repeat' (first | (with_reducible assumption) | (with_reducible refine RowAt.alloc ?_ _) | (with_reducible refine RowAt.drew ?_) | (with_reducible refine RowAt.other ?_ _ _ (by first | omega | (simp; done) | (simp; omega))) | refine RowAt.then ?_ (by with_reducible assumption))) | exact Rd.below (by with_reducible assumption) (by first | (with_reducible exact Below.refl _ _) | ((repeat' (first | (with_reducible exact Below.refl _ _) | (with_reducible assumption) | (with_reducible refine below_alloc ?_ _) | (with_reducible refine Below.drew ?_) | (with_reducible refine below_drewN ?_ _) | (with_reducible refine Below.setCell ?_ ?_ _) | refine below_then ?_ (by with_reducible assumption))) <;> (first | omega | (simp; done) | (simp; omega)))))).mono ?_); rintro e w4 ⟨u, rfl, hu, hb⟩; obtain ⟨hc, hf⟩ := bcell hb; have hz := hb.size; (try simp only [World.size_alloc, World.size_setCell, World.size_drew] at hz); obtain ⟨hlt, hle, hn1, hn2, hn3, hn4⟩ := bsize hb; (try simp only [World.size_alloc, World.size_setCell, World.size_drew] at hlt hle hn1 hn2 hn3 hn4); (try have hr0 : w.heap.size < w4.heap.size := by omega); (try have hr1 : w.heap.size + 1 < w4.heap.size := by omega); (try have hs0 : wS.heap.size < w4.heap.size := by omega); (try have hs1 : wG.heap.size < w4.heap.size := by omega))))
    all_goals (try (go_ret; exact ⟨by first | rfl | (simp [*]; done) | (simp [*]; omega), by first | (with_reducible rfl) | exact (by first | (with_reducible exact Below.refl _ _) | ((repeat' (first | (with_reducible exact Below.refl _ _) | (with_reducible assumption) | (with_reducible refine below_alloc ?_ _) | (with_reducible refine Below.drew ?_) | (with_reducible refine below_drewN ?_ _) | (with_reducible refine Below.setCell ?_ ?_ _) | refine below_then ?_ (by with_reducible assumption))) <;> (first | omega | (simp; done) | (simp; omega))))⟩))
    have hS : ∀ W, Below w4.heap.size w4 W → (W.cell? ⟨w2.heap.size, 0, none⟩ = some (.int .i64 (lowerR t).1) ∧ W.cell? ⟨w2.heap.size, 1, none⟩ = some (.string (lowerR t).2)) ∧ (W.cell? ⟨w3.heap.size, 0, none⟩ = some (.int .i64 (trimR t).1) ∧ W.cell? ⟨w3.heap.size, 1, none⟩ = some (.string (trimR t).2)) := fun W hb => by
      have b2 : W.heap[w2.heap.size]? = some (.cells #[.int .i64 (lowerR t).1, .string (lowerR t).2] 26) := (by repeat' (first | (with_reducible assumption) | (with_reducible exact blk_new _ _) | (with_reducible apply blk_set) | (with_reducible refine blk_alloc ?_ _) | (with_reducible refine blk_drew ?_) | refine blk_then ?_ (by with_reducible assumption)))
      have b4 : W.heap[w3.heap.size]? = some (.cells #[.int .i64 (trimR t).1, .string (trimR t).2] 26) := (by repeat' (first | (with_reducible assumption) | (with_reducible exact blk_new _ _) | (with_reducible apply blk_set) | (with_reducible refine blk_alloc ?_ _) | (with_reducible refine blk_drew ?_) | refine blk_then ?_ (by with_reducible assumption)))
      refine ⟨⟨?_, ?_⟩, ?_, ?_⟩ <;> simp [World.cell?, b2, b4]
    have hcs := codes_same t
    have bel4 : Below w.heap.size w w4 := (by first | (with_reducible exact Below.refl _ _) | ((repeat' (first | (with_reducible exact Below.refl _ _) | (with_reducible assumption) | (with_reducible refine below_alloc ?_ _) | (with_reducible refine Below.drew ?_) | (with_reducible refine below_drewN ?_ _) | (with_reducible refine Below.setCell ?_ ?_ _) | refine below_then ?_ (by with_reducible assumption))) <;> (first | omega | (simp; done) | (simp; omega))))
    generalize w4 = v0 at *
    have hG : ∀ p : Gb v0, (p.w.cell? ⟨w2.heap.size, 0, none⟩ = some (.int .i64 (lowerR t).1) ∧ p.w.cell? ⟨w2.heap.size, 1, none⟩ = some (.string (lowerR t).2)) ∧ (p.w.cell? ⟨w3.heap.size, 0, none⟩ = some (.int .i64 (trimR t).1) ∧ p.w.cell? ⟨w3.heap.size, 1, none⟩ = some (.string (trimR t).2)) := fun p => hS p.w p.h
    have g0 := fun p => (hG p).1.1
    have g1 := fun p => (hG p).1.2
    have g2 := fun p => (hG p).2.1
    have g3 := fun p => (hG p).2.2
    clear hG hS
    refine wp_region_below (by kernel_rfl) (by kernel_rfl) ?_
    repeat (quiet_step (first | (go_at_call 15; exact gb_call (spec_LowerText t _ (by omega))) | (go_at_call 16; exact gb_call (spec_TrimText t _ (by omega))) | (go_at_call 17; exact gb_pure (impl_IsWord u _ (by omega))) | (go_at_call 18; exact gb_pure (spec_IsWord u _ (by omega)))))
    refine wpQuiet_nil ?_
    intro _ hw'
    obtain ⟨pz, rfl⟩ := hw'
    have belz : Below w.heap.size w pz.w := bel4.trans (pz.h.mono bel4.size)
    have k0 := g0 pz
    have k1 := g1 pz
    have k2 := g2 pz
    have k3 := g3 pz
    generalize pz.w = z at *
    clear g0 g1 g2 g3 hcs
    by_cases hq : t.size ≤ 1000
    · rw [lowerR_yes' hq] at k0 k1
      rw [trimR_yes hq] at k2 k3
      have hz := lowS_size t
      have hcl := fun W => impl_LowerText (lowS t) W (by omega)
      rw [low_again hq] at hcl
      have hct := fun W => impl_TrimText (trimT t) W (by have := trimT_size t; omega)
      rw [trim_again hq] at hct
      have Hcl := Lib.hid hcl
      have Hct := Lib.hid hct
      have hiw := fun W => impl_IsWord u W (by omega)
      clear hcl hct
      go_upto_region 11 with fail
      have hc4 : ∀ W, Below z.heap.size z W → (W.cell? ⟨w2.heap.size, 0, none⟩ = some (.int .i64 0) ∧ W.cell? ⟨w2.heap.size, 1, none⟩ = some (.string (lowS t))) ∧ (W.cell? ⟨w3.heap.size, 0, none⟩ = some (.int .i64 0) ∧ W.cell? ⟨w3.heap.size, 1, none⟩ = some (.string (trimT t))) := fun W hb => by
        have l2 := World.block_lt_of_cell? z _ k0
        have l3 := World.block_lt_of_cell? z _ k2
        exact ⟨⟨(hb.cell (p := ⟨w2.heap.size, 0, none⟩) l2).trans k0, (hb.cell (p := ⟨w2.heap.size, 1, none⟩) l2).trans k1⟩, (hb.cell (p := ⟨w3.heap.size, 0, none⟩) l3).trans k2, (hb.cell (p := ⟨w3.heap.size, 1, none⟩) l3).trans k3⟩
      have hc4 : ∀ W, Below z.heap.size z W → W.cell? ⟨w2.heap.size, 0, none⟩ = some (.int .i64 0) ∧ W.cell? ⟨w2.heap.size, 1, none⟩ = some (.string (lowS t)) ∧ W.cell? ⟨w3.heap.size, 0, none⟩ = some (.int .i64 0) ∧ W.cell? ⟨w3.heap.size, 1, none⟩ = some (.string (trimT t)) := fun W hb => ⟨(hc4 W hb).1.1, (hc4 W hb).1.2, (hc4 W hb).2.1, (hc4 W hb).2.2⟩
      clear k0 k1 k2 k3
      generalize w2.heap.size = bl at *
      generalize w3.heap.size = bt at *
      by_cases hw : wordS u = true
      · have hcu := fun W => impl_TrimText u W (by omega)
        have hsz64 := word_size u hw
        have hszB : (u.size : Int) ≤ 64 := by omega
        rw [trimR_yes (by omega), word_trim u hw] at hcu
        rw [hw] at hiw
        have Hcu := Lib.hid hcu
        have Hiw := Lib.hid hiw
        clear hcu hiw hw
        refine wp_region_relG (fun W => Below z.heap.size z W) (fun _ w w' => Below w.heap.size w w') (fun k v _ => (wVals t u bl bt)[k]? = some v) (fun _ => true) (by kernel_rfl) (by kernel_rfl) (guard_vals (fun k v w h u hu => by rw [h] at hu; exact Option.some.inj hu) (by kernel_rfl)) ?_ (Below.refl _ _).drew (fun _ _ _ h1 h2 => below_then h1 h2) (fun _ _ _ _ _ _ _ _ h3 => h3) ?_ ?_ ?_
        · intro i w h; cases h
        · intro i o v w hi hd hF
          exact absurd hd (by have := unB_spec (k := 99) (by kernel_rfl) hi hd; have := (Array.getElem?_eq_some_iff.1 hi).1; simp at this; omega)
        · repeat' (refine And.intro ?_ ?_)
          · intro _ ρ W hI hbase hdep
            have hc : ∀ v, ρ (.const v) = v := fun v => hbase _ (fun _ _ _ _ _ e => by cases e)
            have hfn : ∀ f, ρ (.func f) = .func (.func f) #[] #[] := fun v => hbase _ (fun _ _ _ _ _ e => by cases e)
            have b4 : ρ (.tmp 4) = .pointer (some ⟨bl, 0, none⟩) := hbase (.tmp 4) (base_tmp (by kernel_rfl))
            simp only [execOp, hc, hfn, b4]
            go_simp
            exact ⟨Below.refl _ _, rfl⟩
          · intro _ ρ W hI hbase hdep
            have hc : ∀ v, ρ (.const v) = v := fun v => hbase _ (fun _ _ _ _ _ e => by cases e)
            have hfn : ∀ f, ρ (.func f) = .func (.func f) #[] #[] := fun v => hbase _ (fun _ _ _ _ _ e => by cases e)
            have p0 : ρ (.tmp 48) = .pointer (some ⟨bl, 1, none⟩) := (Option.some.inj (hdep ⟨0, .data⟩ (by simp) rfl _ 48 rfl rfl : some (.pointer (some ⟨bl, 1, none⟩)) = some (ρ (.tmp 48)))).symm
            obtain ⟨k0, k1, k2, k3⟩ := hc4 W hI
            simp only [execOp, hc, hfn, p0]
            go_simp
            exact ⟨Below.refl _ _, rfl⟩
          · intro _ ρ W hI hbase hdep
            have hc : ∀ v, ρ (.const v) = v := fun v => hbase _ (fun _ _ _ _ _ e => by cases e)
            have hfn : ∀ f, ρ (.func f) = .func (.func f) #[] #[] := fun v => hbase _ (fun _ _ _ _ _ e => by cases e)
            have p1 : ρ (.tmp 49) = .string (lowS t) := (Option.some.inj (hdep ⟨1, .data⟩ (by simp) rfl _ 49 rfl rfl : some (.string (lowS t)) = some (ρ (.tmp 49)))).symm
            simp only [execOp, hc, hfn, p1]
            go_simp
            exact ⟨Below.refl _ _, rfl⟩
          · intro _ ρ W hI hbase hdep
            have hc : ∀ v, ρ (.const v) = v := fun v => hbase _ (fun _ _ _ _ _ e => by cases e)
            have hfn : ∀ f, ρ (.func f) = .func (.func f) #[] #[] := fun v => hbase _ (fun _ _ _ _ _ e => by cases e)
            have b3 : ρ (.tmp 3) = .string t := hbase (.tmp 3) (base_tmp (by kernel_rfl))
            simp only [execOp, hc, hfn, b3]
            go_simp
            exact ⟨Below.refl _ _, rfl⟩
          · intro _ ρ W hI hbase hdep
            have hc : ∀ v, ρ (.const v) = v := fun v => hbase _ (fun _ _ _ _ _ e => by cases e)
            have hfn : ∀ f, ρ (.func f) = .func (.func f) #[] #[] := fun v => hbase _ (fun _ _ _ _ _ e => by cases e)
            have p3 : ρ (.tmp 51) = .string t := (Option.some.inj (hdep ⟨3, .data⟩ (by simp) rfl _ 51 rfl rfl : some (.string t) = some (ρ (.tmp 51)))).symm
            simp only [execOp, hc, hfn, p3]
            go_simp
            exact ⟨Below.refl _ _, rfl⟩
          · intro _ ρ W hI hbase hdep
            have hc : ∀ v, ρ (.const v) = v := fun v => hbase _ (fun _ _ _ _ _ e => by cases e)
            have hfn : ∀ f, ρ (.func f) = .func (.func f) #[] #[] := fun v => hbase _ (fun _ _ _ _ _ e => by cases e)
            have p2 : ρ (.tmp 50) = .int .i64 ((t.size : Int)) := (Option.some.inj (hdep ⟨2, .data⟩ (by simp) rfl _ 50 rfl rfl : some (.int .i64 ((t.size : Int))) = some (ρ (.tmp 50)))).symm
            have p4 : ρ (.tmp 52) = .int .i64 ((t.size : Int)) := (Option.some.inj (hdep ⟨4, .data⟩ (by simp) rfl _ 52 rfl rfl : some (.int .i64 ((t.size : Int))) = some (ρ (.tmp 52)))).symm
            simp only [execOp, hc, hfn, p2, p4]
            go_simp
            exact ⟨Below.refl _ _, rfl⟩
          · intro _ ρ W hI hbase hdep
            have hc : ∀ v, ρ (.const v) = v := fun v => hbase _ (fun _ _ _ _ _ e => by cases e)
            have hfn : ∀ f, ρ (.func f) = .func (.func f) #[] #[] := fun v => hbase _ (fun _ _ _ _ _ e => by cases e)
            have p5 : ρ (.tmp 53) = .bool true := (Option.some.inj (hdep ⟨5, .data⟩ (by simp) rfl _ 53 rfl rfl : some (.bool true) = some (ρ (.tmp 53)))).symm
            simp only [execOp, hc, hfn, p5]
            go_simp
            exact ⟨Below.refl _ _, rfl⟩
          · intro _ ρ W hI hbase hdep
            have hc : ∀ v, ρ (.const v) = v := fun v => hbase _ (fun _ _ _ _ _ e => by cases e)
            have hfn : ∀ f, ρ (.func f) = .func (.func f) #[] #[] := fun v => hbase _ (fun _ _ _ _ _ e => by cases e)
            have b4 : ρ (.tmp 4) = .pointer (some ⟨bl, 0, none⟩) := hbase (.tmp 4) (base_tmp (by kernel_rfl))
            simp only [execOp, hc, hfn, b4]
            go_simp
            exact ⟨Below.refl _ _, rfl⟩
          · intro _ ρ W hI hbase hdep
            have hc : ∀ v, ρ (.const v) = v := fun v => hbase _ (fun _ _ _ _ _ e => by cases e)
            have hfn : ∀ f, ρ (.func f) = .func (.func f) #[] #[] := fun v => hbase _ (fun _ _ _ _ _ e => by cases e)
            have p7 : ρ (.tmp 55) = .pointer (some ⟨bl, 1, none⟩) := (Option.some.inj (hdep ⟨7, .data⟩ (by simp) rfl _ 55 rfl rfl : some (.pointer (some ⟨bl, 1, none⟩)) = some (ρ (.tmp 55)))).symm
            obtain ⟨k0, k1, k2, k3⟩ := hc4 W hI
            simp only [execOp, hc, hfn, p7]
            go_simp
            exact ⟨Below.refl _ _, rfl⟩
          · intro _ ρ W hI hbase hdep
            have hc : ∀ v, ρ (.const v) = v := fun v => hbase _ (fun _ _ _ _ _ e => by cases e)
            have hfn : ∀ f, ρ (.func f) = .func (.func f) #[] #[] := fun v => hbase _ (fun _ _ _ _ _ e => by cases e)
            have p8 : ρ (.tmp 56) = .string (lowS t) := (Option.some.inj (hdep ⟨8, .data⟩ (by simp) rfl _ 56 rfl rfl : some (.string (lowS t)) = some (ρ (.tmp 56)))).symm
            simp only [execOp, hc, hfn, p8]
            go_simp
            exact ⟨rfl, (Hcl.out W).mono fun e w' h => ⟨_, h.1, h.2, rfl⟩⟩
          · intro _ ρ W hI hbase hdep
            have hc : ∀ v, ρ (.const v) = v := fun v => hbase _ (fun _ _ _ _ _ e => by cases e)
            have hfn : ∀ f, ρ (.func f) = .func (.func f) #[] #[] := fun v => hbase _ (fun _ _ _ _ _ e => by cases e)
            have p9 : ρ (.tmp 57) = .agg #[.int .i64 0, .string (lowS t)] := (Option.some.inj (hdep ⟨9, .data⟩ (by simp) rfl _ 57 rfl rfl : some (.agg #[.int .i64 0, .string (lowS t)]) = some (ρ (.tmp 57)))).symm
            simp only [execOp, hc, hfn, p9]
            go_simp
            exact ⟨Below.refl _ _, rfl⟩
          · intro _ ρ W hI hbase hdep
            have hc : ∀ v, ρ (.const v) = v := fun v => hbase _ (fun _ _ _ _ _ e => by cases e)
            have hfn : ∀ f, ρ (.func f) = .func (.func f) #[] #[] := fun v => hbase _ (fun _ _ _ _ _ e => by cases e)
            have b4 : ρ (.tmp 4) = .pointer (some ⟨bl, 0, none⟩) := hbase (.tmp 4) (base_tmp (by kernel_rfl))
            simp only [execOp, hc, hfn, b4]
            go_simp
            exact ⟨Below.refl _ _, rfl⟩
          · intro _ ρ W hI hbase hdep
            have hc : ∀ v, ρ (.const v) = v := fun v => hbase _ (fun _ _ _ _ _ e => by cases e)
            have hfn : ∀ f, ρ (.func f) = .func (.func f) #[] #[] := fun v => hbase _ (fun _ _ _ _ _ e => by cases e)
            have p11 : ρ (.tmp 59) = .pointer (some ⟨bl, 1, none⟩) := (Option.some.inj (hdep ⟨11, .data⟩ (by simp) rfl _ 59 rfl rfl : some (.pointer (some ⟨bl, 1, none⟩)) = some (ρ (.tmp 59)))).symm
            obtain ⟨k0, k1, k2, k3⟩ := hc4 W hI
            simp only [execOp, hc, hfn, p11]
            go_simp
            exact ⟨Below.refl _ _, rfl⟩
          · intro _ ρ W hI hbase hdep
            have hc : ∀ v, ρ (.const v) = v := fun v => hbase _ (fun _ _ _ _ _ e => by cases e)
            have hfn : ∀ f, ρ (.func f) = .func (.func f) #[] #[] := fun v => hbase _ (fun _ _ _ _ _ e => by cases e)
            have p10 : ρ (.tmp 58) = .string (lowS t) := (Option.some.inj (hdep ⟨10, .data⟩ (by simp) rfl _ 58 rfl rfl : some (.string (lowS t)) = some (ρ (.tmp 58)))).symm
            have p12 : ρ (.tmp 60) = .string (lowS t) := (Option.some.inj (hdep ⟨12, .data⟩ (by simp) rfl _ 60 rfl rfl : some (.string (lowS t)) = some (ρ (.tmp 60)))).symm
            simp only [execOp, hc, hfn, p10, p12]
            go_simp
            exact ⟨Below.refl _ _, rfl⟩
          · intro _ ρ W hI hbase hdep
            have hc : ∀ v, ρ (.const v) = v := fun v => hbase _ (fun _ _ _ _ _ e => by cases e)
            have hfn : ∀ f, ρ (.func f) = .func (.func f) #[] #[] := fun v => hbase _ (fun _ _ _ _ _ e => by cases e)
            have p6 : ρ (.tmp 54) = .bool true := (Option.some.inj (hdep ⟨6, .data⟩ (by simp) rfl _ 54 rfl rfl : some (.bool true) = some (ρ (.tmp 54)))).symm
            have p13 : ρ (.tmp 61) = .bool true := (Option.some.inj (hdep ⟨13, .data⟩ (by simp) rfl _ 61 rfl rfl : some (.bool true) = some (ρ (.tmp 61)))).symm
            simp only [execOp, hc, hfn, p6, p13]
            go_simp
            exact ⟨Below.refl _ _, rfl⟩
          · intro _ ρ W hI hbase hdep
            have hc : ∀ v, ρ (.const v) = v := fun v => hbase _ (fun _ _ _ _ _ e => by cases e)
            have hfn : ∀ f, ρ (.func f) = .func (.func f) #[] #[] := fun v => hbase _ (fun _ _ _ _ _ e => by cases e)
            have p14 : ρ (.tmp 62) = .bool true := (Option.some.inj (hdep ⟨14, .data⟩ (by simp) rfl _ 62 rfl rfl : some (.bool true) = some (ρ (.tmp 62)))).symm
            simp only [execOp, hc, hfn, p14]
            go_simp
            exact ⟨Below.refl _ _, rfl⟩
          · intro _ ρ W hI hbase hdep
            have hc : ∀ v, ρ (.const v) = v := fun v => hbase _ (fun _ _ _ _ _ e => by cases e)
            have hfn : ∀ f, ρ (.func f) = .func (.func f) #[] #[] := fun v => hbase _ (fun _ _ _ _ _ e => by cases e)
            have b5 : ρ (.tmp 5) = .pointer (some ⟨bt, 0, none⟩) := hbase (.tmp 5) (base_tmp (by kernel_rfl))
            simp only [execOp, hc, hfn, b5]
            go_simp
            exact ⟨Below.refl _ _, rfl⟩
          · intro _ ρ W hI hbase hdep
            have hc : ∀ v, ρ (.const v) = v := fun v => hbase _ (fun _ _ _ _ _ e => by cases e)
            have hfn : ∀ f, ρ (.func f) = .func (.func f) #[] #[] := fun v => hbase _ (fun _ _ _ _ _ e => by cases e)
            have p16 : ρ (.tmp 64) = .pointer (some ⟨bt, 1, none⟩) := (Option.some.inj (hdep ⟨16, .data⟩ (by simp) rfl _ 64 rfl rfl : some (.pointer (some ⟨bt, 1, none⟩)) = some (ρ (.tmp 64)))).symm
            obtain ⟨k0, k1, k2, k3⟩ := hc4 W hI
            simp only [execOp, hc, hfn, p16]
            go_simp
            exact ⟨Below.refl _ _, rfl⟩
          · intro _ ρ W hI hbase hdep
            have hc : ∀ v, ρ (.const v) = v := fun v => hbase _ (fun _ _ _ _ _ e => by cases e)
            have hfn : ∀ f, ρ (.func f) = .func (.func f) #[] #[] := fun v => hbase _ (fun _ _ _ _ _ e => by cases e)
            have p17 : ρ (.tmp 65) = .string (trimT t) := (Option.some.inj (hdep ⟨17, .data⟩ (by simp) rfl _ 65 rfl rfl : some (.string (trimT t)) = some (ρ (.tmp 65)))).symm
            simp only [execOp, hc, hfn, p17]
            go_simp
            exact ⟨rfl, (Hct.out W).mono fun e w' h => ⟨_, h.1, h.2, rfl⟩⟩
          · intro _ ρ W hI hbase hdep
            have hc : ∀ v, ρ (.const v) = v := fun v => hbase _ (fun _ _ _ _ _ e => by cases e)
            have hfn : ∀ f, ρ (.func f) = .func (.func f) #[] #[] := fun v => hbase _ (fun _ _ _ _ _ e => by cases e)
            have p18 : ρ (.tmp 66) = .agg #[.int .i64 0, .string (trimT t)] := (Option.some.inj (hdep ⟨18, .data⟩ (by simp) rfl _ 66 rfl rfl : some (.agg #[.int .i64 0, .string (trimT t)]) = some (ρ (.tmp 66)))).symm
            simp only [execOp, hc, hfn, p18]
            go_simp
            exact ⟨Below.refl _ _, rfl⟩
          · intro _ ρ W hI hbase hdep
            have hc : ∀ v, ρ (.const v) = v := fun v => hbase _ (fun _ _ _ _ _ e => by cases e)
            have hfn : ∀ f, ρ (.func f) = .func (.func f) #[] #[] := fun v => hbase _ (fun _ _ _ _ _ e => by cases e)
            have b5 : ρ (.tmp 5) = .pointer (some ⟨bt, 0, none⟩) := hbase (.tmp 5) (base_tmp (by kernel_rfl))
            simp only [execOp, hc, hfn, b5]
            go_simp
            exact ⟨Below.refl _ _, rfl⟩
          · intro _ ρ W hI hbase hdep
            have hc : ∀ v, ρ (.const v) = v := fun v => hbase _ (fun _ _ _ _ _ e => by cases e)
            have hfn : ∀ f, ρ (.func f) = .func (.func f) #[] #[] := fun v => hbase _ (fun _ _ _ _ _ e => by cases e)
            have p20 : ρ (.tmp 68) = .pointer (some ⟨bt, 1, none⟩) := (Option.some.inj (hdep ⟨20, .data⟩ (by simp) rfl _ 68 rfl rfl : some (.pointer (some ⟨bt, 1, none⟩)) = some (ρ (.tmp 68)))).symm
            obtain ⟨k0, k1, k2, k3⟩ := hc4 W hI
            simp only [execOp, hc, hfn, p20]
            go_simp
            exact ⟨Below.refl _ _, rfl⟩
          · intro _ ρ W hI hbase hdep
            have hc : ∀ v, ρ (.const v) = v := fun v => hbase _ (fun _ _ _ _ _ e => by cases e)
            have hfn : ∀ f, ρ (.func f) = .func (.func f) #[] #[] := fun v => hbase _ (fun _ _ _ _ _ e => by cases e)
            have p19 : ρ (.tmp 67) = .string (trimT t) := (Option.some.inj (hdep ⟨19, .data⟩ (by simp) rfl _ 67 rfl rfl : some (.string (trimT t)) = some (ρ (.tmp 67)))).symm
            have p21 : ρ (.tmp 69) = .string (trimT t) := (Option.some.inj (hdep ⟨21, .data⟩ (by simp) rfl _ 69 rfl rfl : some (.string (trimT t)) = some (ρ (.tmp 69)))).symm
            simp only [execOp, hc, hfn, p19, p21]
            go_simp
            exact ⟨Below.refl _ _, rfl⟩
          · intro _ ρ W hI hbase hdep
            have hc : ∀ v, ρ (.const v) = v := fun v => hbase _ (fun _ _ _ _ _ e => by cases e)
            have hfn : ∀ f, ρ (.func f) = .func (.func f) #[] #[] := fun v => hbase _ (fun _ _ _ _ _ e => by cases e)
            have p15 : ρ (.tmp 63) = .bool true := (Option.some.inj (hdep ⟨15, .data⟩ (by simp) rfl _ 63 rfl rfl : some (.bool true) = some (ρ (.tmp 63)))).symm
            have p22 : ρ (.tmp 70) = .bool true := (Option.some.inj (hdep ⟨22, .data⟩ (by simp) rfl _ 70 rfl rfl : some (.bool true) = some (ρ (.tmp 70)))).symm
            simp only [execOp, hc, hfn, p15, p22]
            go_simp
            exact ⟨Below.refl _ _, rfl⟩
          · intro _ ρ W hI hbase hdep
            have hc : ∀ v, ρ (.const v) = v := fun v => hbase _ (fun _ _ _ _ _ e => by cases e)
            have hfn : ∀ f, ρ (.func f) = .func (.func f) #[] #[] := fun v => hbase _ (fun _ _ _ _ _ e => by cases e)
            have p23 : ρ (.tmp 71) = .bool true := (Option.some.inj (hdep ⟨23, .data⟩ (by simp) rfl _ 71 rfl rfl : some (.bool true) = some (ρ (.tmp 71)))).symm
            simp only [execOp, hc, hfn, p23]
            go_simp
            exact ⟨Below.refl _ _, rfl⟩
          · intro _ ρ W hI hbase hdep
            have hc : ∀ v, ρ (.const v) = v := fun v => hbase _ (fun _ _ _ _ _ e => by cases e)
            have hfn : ∀ f, ρ (.func f) = .func (.func f) #[] #[] := fun v => hbase _ (fun _ _ _ _ _ e => by cases e)
            have b6 : ρ (.tmp 6) = .string u := hbase (.tmp 6) (base_tmp (by kernel_rfl))
            simp only [execOp, hc, hfn, b6]
            go_simp
            exact ⟨Below.refl _ _, rfl⟩
          · intro _ ρ W hI hbase hdep
            have hc : ∀ v, ρ (.const v) = v := fun v => hbase _ (fun _ _ _ _ _ e => by cases e)
            have hfn : ∀ f, ρ (.func f) = .func (.func f) #[] #[] := fun v => hbase _ (fun _ _ _ _ _ e => by cases e)
            have p25 : ρ (.tmp 73) = .string u := (Option.some.inj (hdep ⟨25, .data⟩ (by simp) rfl _ 73 rfl rfl : some (.string u) = some (ρ (.tmp 73)))).symm
            simp only [execOp, hc, hfn, p25]
            go_simp
            exact ⟨rfl, (Hiw.out W).mono fun e w' h => ⟨_, h.1, h.2 ▸ Below.refl _ _, rfl⟩⟩
          · intro _ ρ W hI hbase hdep
            have hc : ∀ v, ρ (.const v) = v := fun v => hbase _ (fun _ _ _ _ _ e => by cases e)
            have hfn : ∀ f, ρ (.func f) = .func (.func f) #[] #[] := fun v => hbase _ (fun _ _ _ _ _ e => by cases e)
            have p26 : ρ (.tmp 74) = .bool true := (Option.some.inj (hdep ⟨26, .data⟩ (by simp) rfl _ 74 rfl rfl : some (.bool true) = some (ρ (.tmp 74)))).symm
            simp only [execOp, hc, hfn, p26]
            go_simp
            exact ⟨Below.refl _ _, rfl⟩
          · intro _ ρ W hI hbase hdep
            have hc : ∀ v, ρ (.const v) = v := fun v => hbase _ (fun _ _ _ _ _ e => by cases e)
            have hfn : ∀ f, ρ (.func f) = .func (.func f) #[] #[] := fun v => hbase _ (fun _ _ _ _ _ e => by cases e)
            have p27 : ρ (.tmp 75) = .bool false := (Option.some.inj (hdep ⟨27, .data⟩ (by simp) rfl _ 75 rfl rfl : some (.bool false) = some (ρ (.tmp 75)))).symm
            simp only [execOp, hc, hfn, p27]
            go_simp
            exact ⟨Below.refl _ _, rfl⟩
          · intro _ ρ W hI hbase hdep
            have hc : ∀ v, ρ (.const v) = v := fun v => hbase _ (fun _ _ _ _ _ e => by cases e)
            have hfn : ∀ f, ρ (.func f) = .func (.func f) #[] #[] := fun v => hbase _ (fun _ _ _ _ _ e => by cases e)
            have b6 : ρ (.tmp 6) = .string u := hbase (.tmp 6) (base_tmp (by kernel_rfl))
            simp only [execOp, hc, hfn, b6]
            go_simp
            exact ⟨Below.refl _ _, rfl⟩
          · intro _ ρ W hI hbase hdep
            have hc : ∀ v, ρ (.const v) = v := fun v => hbase _ (fun _ _ _ _ _ e => by cases e)
            have hfn : ∀ f, ρ (.func f) = .func (.func f) #[] #[] := fun v => hbase _ (fun _ _ _ _ _ e => by cases e)
            have p29 : ρ (.tmp 77) = .string u := (Option.some.inj (hdep ⟨29, .data⟩ (by simp) rfl _ 77 rfl rfl : some (.string u) = some (ρ (.tmp 77)))).symm
            simp only [execOp, hc, hfn, p29]
            go_simp
            exact ⟨rfl, (Hcu.out W).mono fun e w' h => ⟨_, h.1, h.2, rfl⟩⟩
          · intro _ ρ W hI hbase hdep
            have hc : ∀ v, ρ (.const v) = v := fun v => hbase _ (fun _ _ _ _ _ e => by cases e)
            have hfn : ∀ f, ρ (.func f) = .func (.func f) #[] #[] := fun v => hbase _ (fun _ _ _ _ _ e => by cases e)
            have p30 : ρ (.tmp 78) = .agg #[.int .i64 0, .string u] := (Option.some.inj (hdep ⟨30, .data⟩ (by simp) rfl _ 78 rfl rfl : some (.agg #[.int .i64 0, .string u]) = some (ρ (.tmp 78)))).symm
            simp only [execOp, hc, hfn, p30]
            go_simp
            exact ⟨Below.refl _ _, rfl⟩
          · intro _ ρ W hI hbase hdep
            have hc : ∀ v, ρ (.const v) = v := fun v => hbase _ (fun _ _ _ _ _ e => by cases e)
            have hfn : ∀ f, ρ (.func f) = .func (.func f) #[] #[] := fun v => hbase _ (fun _ _ _ _ _ e => by cases e)
            have b6 : ρ (.tmp 6) = .string u := hbase (.tmp 6) (base_tmp (by kernel_rfl))
            simp only [execOp, hc, hfn, b6]
            go_simp
            exact ⟨Below.refl _ _, rfl⟩
          · intro _ ρ W hI hbase hdep
            have hc : ∀ v, ρ (.const v) = v := fun v => hbase _ (fun _ _ _ _ _ e => by cases e)
            have hfn : ∀ f, ρ (.func f) = .func (.func f) #[] #[] := fun v => hbase _ (fun _ _ _ _ _ e => by cases e)
            have p31 : ρ (.tmp 79) = .string u := (Option.some.inj (hdep ⟨31, .data⟩ (by simp) rfl _ 79 rfl rfl : some (.string u) = some (ρ (.tmp 79)))).symm
            have p32 : ρ (.tmp 80) = .string u := (Option.some.inj (hdep ⟨32, .data⟩ (by simp) rfl _ 80 rfl rfl : some (.string u) = some (ρ (.tmp 80)))).symm
            simp only [execOp, hc, hfn, p31, p32]
            go_simp
            exact ⟨Below.refl _ _, rfl⟩
          · intro _ ρ W hI hbase hdep
            have hc : ∀ v, ρ (.const v) = v := fun v => hbase _ (fun _ _ _ _ _ e => by cases e)
            have hfn : ∀ f, ρ (.func f) = .func (.func f) #[] #[] := fun v => hbase _ (fun _ _ _ _ _ e => by cases e)
            have p33 : ρ (.tmp 81) = .bool true := (Option.some.inj (hdep ⟨33, .data⟩ (by simp) rfl _ 81 rfl rfl : some (.bool true) = some (ρ (.tmp 81)))).symm
            simp only [execOp, hc, hfn, p33]
            go_simp
            exact ⟨Below.refl _ _, rfl⟩
          · intro _ ρ W hI hbase hdep
            have hc : ∀ v, ρ (.const v) = v := fun v => hbase _ (fun _ _ _ _ _ e => by cases e)
            have hfn : ∀ f, ρ (.func f) = .func (.func f) #[] #[] := fun v => hbase _ (fun _ _ _ _ _ e => by cases e)
            have b6 : ρ (.tmp 6) = .string u := hbase (.tmp 6) (base_tmp (by kernel_rfl))
            simp only [execOp, hc, hfn, b6]
            go_simp
            exact ⟨Below.refl _ _, rfl⟩
          · intro _ ρ W hI hbase hdep
            have hc : ∀ v, ρ (.const v) = v := fun v => hbase _ (fun _ _ _ _ _ e => by cases e)
            have hfn : ∀ f, ρ (.func f) = .func (.func f) #[] #[] := fun v => hbase _ (fun _ _ _ _ _ e => by cases e)
            have p35 : ρ (.tmp 83) = .string u := (Option.some.inj (hdep ⟨35, .data⟩ (by simp) rfl _ 83 rfl rfl : some (.string u) = some (ρ (.tmp 83)))).symm
            simp only [execOp, hc, hfn, p35]
            go_simp
            exact ⟨Below.refl _ _, rfl⟩
          · intro _ ρ W hI hbase hdep
            have hc : ∀ v, ρ (.const v) = v := fun v => hbase _ (fun _ _ _ _ _ e => by cases e)
            have hfn : ∀ f, ρ (.func f) = .func (.func f) #[] #[] := fun v => hbase _ (fun _ _ _ _ _ e => by cases e)
            have p36 : ρ (.tmp 84) = .int .i64 ((u.size : Int)) := (Option.some.inj (hdep ⟨36, .data⟩ (by simp) rfl _ 84 rfl rfl : some (.int .i64 ((u.size : Int))) = some (ρ (.tmp 84)))).symm
            simp only [execOp, hc, hfn, p36]
            go_simp
            exact ⟨Below.refl _ _, rfl⟩
          · intro _ ρ W hI hbase hdep
            have hc : ∀ v, ρ (.const v) = v := fun v => hbase _ (fun _ _ _ _ _ e => by cases e)
            have hfn : ∀ f, ρ (.func f) = .func (.func f) #[] #[] := fun v => hbase _ (fun _ _ _ _ _ e => by cases e)
            have p34 : ρ (.tmp 82) = .bool true := (Option.some.inj (hdep ⟨34, .data⟩ (by simp) rfl _ 82 rfl rfl : some (.bool true) = some (ρ (.tmp 82)))).symm
            have p37 : ρ (.tmp 85) = .bool true := (Option.some.inj (hdep ⟨37, .data⟩ (by simp) rfl _ 85 rfl rfl : some (.bool true) = some (ρ (.tmp 85)))).symm
            simp only [execOp, hc, hfn, p34, p37]
            go_simp
            exact ⟨Below.refl _ _, rfl⟩
          · intro _ ρ W hI hbase hdep
            have hc : ∀ v, ρ (.const v) = v := fun v => hbase _ (fun _ _ _ _ _ e => by cases e)
            have hfn : ∀ f, ρ (.func f) = .func (.func f) #[] #[] := fun v => hbase _ (fun _ _ _ _ _ e => by cases e)
            have p28 : ρ (.tmp 76) = .bool false := (Option.some.inj (hdep ⟨28, .data⟩ (by simp) rfl _ 76 rfl rfl : some (.bool false) = some (ρ (.tmp 76)))).symm
            have p38 : ρ (.tmp 86) = .bool true := (Option.some.inj (hdep ⟨38, .data⟩ (by simp) rfl _ 86 rfl rfl : some (.bool true) = some (ρ (.tmp 86)))).symm
            simp only [execOp, hc, hfn, p28, p38]
            go_simp
            exact ⟨Below.refl _ _, rfl⟩
          · intro _ ρ W hI hbase hdep
            have hc : ∀ v, ρ (.const v) = v := fun v => hbase _ (fun _ _ _ _ _ e => by cases e)
            have hfn : ∀ f, ρ (.func f) = .func (.func f) #[] #[] := fun v => hbase _ (fun _ _ _ _ _ e => by cases e)
            have p24 : ρ (.tmp 72) = .bool true := (Option.some.inj (hdep ⟨24, .data⟩ (by simp) rfl _ 72 rfl rfl : some (.bool true) = some (ρ (.tmp 72)))).symm
            have p39 : ρ (.tmp 87) = .bool true := (Option.some.inj (hdep ⟨39, .data⟩ (by simp) rfl _ 87 rfl rfl : some (.bool true) = some (ρ (.tmp 87)))).symm
            simp only [execOp, hc, hfn, p24, p39]
            go_simp
            exact ⟨Below.refl _ _, rfl⟩
          · intro _ ρ W hI hbase hdep
            have hc : ∀ v, ρ (.const v) = v := fun v => hbase _ (fun _ _ _ _ _ e => by cases e)
            have hfn : ∀ f, ρ (.func f) = .func (.func f) #[] #[] := fun v => hbase _ (fun _ _ _ _ _ e => by cases e)
            have p40 : ρ (.tmp 88) = .bool true := (Option.some.inj (hdep ⟨40, .data⟩ (by simp) rfl _ 88 rfl rfl : some (.bool true) = some (ρ (.tmp 88)))).symm
            simp only [execOp, hc, hfn, p40]
            go_simp
            exact ⟨Below.refl _ _, rfl⟩
          · trivial
        · intro a' w' hI ha hdf hall _ hrest
          have h41 := hall 41 _ 2 rfl rfl
          have e41 : a'.tmps.getD 2 undef = .bool true := (Option.some.inj (h41 : some (.bool true) = some (a'.tmps.getD 2 undef))).symm
          obtain ⟨tmps, defers⟩ := a'
          simp only at ha hdf e41
          subst hdf
          go_wp2
          exact bodyPost_ret (results_tmp Tryd.results3 _ _ _) rfl ⟨congrArg Ending.returned e41, belz.trans (hI.mono belz.size)⟩
      · simp only [Bool.not_eq_true] at hw
        rw [hw] at hiw
        have Hiw := Lib.hid hiw
        clear hiw hw
        refine wp_region_relG (fun W => Below z.heap.size z W) (fun _ w w' => Below w.heap.size w w') (fun k v _ => (nVals t u bl bt)[k]? = some v) (fun i => !(decide (29 ≤ i) && decide (i ≤ 38))) (by kernel_rfl) (by kernel_rfl) (guard_vals (fun k v w h u hu => by rw [h] at hu; exact Option.some.inj hu) (by kernel_rfl)) ?_ (Below.refl _ _).drew (fun _ _ _ h1 h2 => below_then h1 h2) (fun _ _ _ _ _ _ _ _ h3 => h3) ?_ ?_ ?_
        · intro i w h _; have h2 : 29 ≤ i ∧ i ≤ 38 := by simpa using h
          rcases (show i = 29 ∨ i = 30 ∨ i = 31 ∨ i = 32 ∨ i = 33 ∨ i = 34 ∨ i = 35 ∨ i = 36 ∨ i = 37 ∨ i = 38 by omega) with rfl | rfl | rfl | rfl | rfl | rfl | rfl | rfl | rfl | rfl <;> rfl
        · intro i o v w hi hd hF
          exact absurd hd (by have := unB_spec (k := 99) (by kernel_rfl) hi hd; have := (Array.getElem?_eq_some_iff.1 hi).1; simp at this; omega)
        · repeat' (refine And.intro ?_ ?_)
          · intro _ ρ W hI hbase hdep
            have hc : ∀ v, ρ (.const v) = v := fun v => hbase _ (fun _ _ _ _ _ e => by cases e)
            have hfn : ∀ f, ρ (.func f) = .func (.func f) #[] #[] := fun v => hbase _ (fun _ _ _ _ _ e => by cases e)
            have b4 : ρ (.tmp 4) = .pointer (some ⟨bl, 0, none⟩) := hbase (.tmp 4) (base_tmp (by kernel_rfl))
            simp only [execOp, hc, hfn, b4]
            go_simp
            exact ⟨Below.refl _ _, rfl⟩
          · intro _ ρ W hI hbase hdep
            have hc : ∀ v, ρ (.const v) = v := fun v => hbase _ (fun _ _ _ _ _ e => by cases e)
            have hfn : ∀ f, ρ (.func f) = .func (.func f) #[] #[] := fun v => hbase _ (fun _ _ _ _ _ e => by cases e)
            have p0 : ρ (.tmp 48) = .pointer (some ⟨bl, 1, none⟩) := (Option.some.inj (hdep ⟨0, .data⟩ (by simp) rfl _ 48 rfl rfl : some (.pointer (some ⟨bl, 1, none⟩)) = some (ρ (.tmp 48)))).symm
            obtain ⟨k0, k1, k2, k3⟩ := hc4 W hI
            simp only [execOp, hc, hfn, p0]
            go_simp
            exact ⟨Below.refl _ _, rfl⟩
          · intro _ ρ W hI hbase hdep
            have hc : ∀ v, ρ (.const v) = v := fun v => hbase _ (fun _ _ _ _ _ e => by cases e)
            have hfn : ∀ f, ρ (.func f) = .func (.func f) #[] #[] := fun v => hbase _ (fun _ _ _ _ _ e => by cases e)
            have p1 : ρ (.tmp 49) = .string (lowS t) := (Option.some.inj (hdep ⟨1, .data⟩ (by simp) rfl _ 49 rfl rfl : some (.string (lowS t)) = some (ρ (.tmp 49)))).symm
            simp only [execOp, hc, hfn, p1]
            go_simp
            exact ⟨Below.refl _ _, rfl⟩
          · intro _ ρ W hI hbase hdep
            have hc : ∀ v, ρ (.const v) = v := fun v => hbase _ (fun _ _ _ _ _ e => by cases e)
            have hfn : ∀ f, ρ (.func f) = .func (.func f) #[] #[] := fun v => hbase _ (fun _ _ _ _ _ e => by cases e)
            have b3 : ρ (.tmp 3) = .string t := hbase (.tmp 3) (base_tmp (by kernel_rfl))
            simp only [execOp, hc, hfn, b3]
            go_simp
            exact ⟨Below.refl _ _, rfl⟩
          · intro _ ρ W hI hbase hdep
            have hc : ∀ v, ρ (.const v) = v := fun v => hbase _ (fun _ _ _ _ _ e => by cases e)
            have hfn : ∀ f, ρ (.func f) = .func (.func f) #[] #[] := fun v => hbase _ (fun _ _ _ _ _ e => by cases e)
            have p3 : ρ (.tmp 51) = .string t := (Option.some.inj (hdep ⟨3, .data⟩ (by simp) rfl _ 51 rfl rfl : some (.string t) = some (ρ (.tmp 51)))).symm
            simp only [execOp, hc, hfn, p3]
            go_simp
            exact ⟨Below.refl _ _, rfl⟩
          · intro _ ρ W hI hbase hdep
            have hc : ∀ v, ρ (.const v) = v := fun v => hbase _ (fun _ _ _ _ _ e => by cases e)
            have hfn : ∀ f, ρ (.func f) = .func (.func f) #[] #[] := fun v => hbase _ (fun _ _ _ _ _ e => by cases e)
            have p2 : ρ (.tmp 50) = .int .i64 ((t.size : Int)) := (Option.some.inj (hdep ⟨2, .data⟩ (by simp) rfl _ 50 rfl rfl : some (.int .i64 ((t.size : Int))) = some (ρ (.tmp 50)))).symm
            have p4 : ρ (.tmp 52) = .int .i64 ((t.size : Int)) := (Option.some.inj (hdep ⟨4, .data⟩ (by simp) rfl _ 52 rfl rfl : some (.int .i64 ((t.size : Int))) = some (ρ (.tmp 52)))).symm
            simp only [execOp, hc, hfn, p2, p4]
            go_simp
            exact ⟨Below.refl _ _, rfl⟩
          · intro _ ρ W hI hbase hdep
            have hc : ∀ v, ρ (.const v) = v := fun v => hbase _ (fun _ _ _ _ _ e => by cases e)
            have hfn : ∀ f, ρ (.func f) = .func (.func f) #[] #[] := fun v => hbase _ (fun _ _ _ _ _ e => by cases e)
            have p5 : ρ (.tmp 53) = .bool true := (Option.some.inj (hdep ⟨5, .data⟩ (by simp) rfl _ 53 rfl rfl : some (.bool true) = some (ρ (.tmp 53)))).symm
            simp only [execOp, hc, hfn, p5]
            go_simp
            exact ⟨Below.refl _ _, rfl⟩
          · intro _ ρ W hI hbase hdep
            have hc : ∀ v, ρ (.const v) = v := fun v => hbase _ (fun _ _ _ _ _ e => by cases e)
            have hfn : ∀ f, ρ (.func f) = .func (.func f) #[] #[] := fun v => hbase _ (fun _ _ _ _ _ e => by cases e)
            have b4 : ρ (.tmp 4) = .pointer (some ⟨bl, 0, none⟩) := hbase (.tmp 4) (base_tmp (by kernel_rfl))
            simp only [execOp, hc, hfn, b4]
            go_simp
            exact ⟨Below.refl _ _, rfl⟩
          · intro _ ρ W hI hbase hdep
            have hc : ∀ v, ρ (.const v) = v := fun v => hbase _ (fun _ _ _ _ _ e => by cases e)
            have hfn : ∀ f, ρ (.func f) = .func (.func f) #[] #[] := fun v => hbase _ (fun _ _ _ _ _ e => by cases e)
            have p7 : ρ (.tmp 55) = .pointer (some ⟨bl, 1, none⟩) := (Option.some.inj (hdep ⟨7, .data⟩ (by simp) rfl _ 55 rfl rfl : some (.pointer (some ⟨bl, 1, none⟩)) = some (ρ (.tmp 55)))).symm
            obtain ⟨k0, k1, k2, k3⟩ := hc4 W hI
            simp only [execOp, hc, hfn, p7]
            go_simp
            exact ⟨Below.refl _ _, rfl⟩
          · intro _ ρ W hI hbase hdep
            have hc : ∀ v, ρ (.const v) = v := fun v => hbase _ (fun _ _ _ _ _ e => by cases e)
            have hfn : ∀ f, ρ (.func f) = .func (.func f) #[] #[] := fun v => hbase _ (fun _ _ _ _ _ e => by cases e)
            have p8 : ρ (.tmp 56) = .string (lowS t) := (Option.some.inj (hdep ⟨8, .data⟩ (by simp) rfl _ 56 rfl rfl : some (.string (lowS t)) = some (ρ (.tmp 56)))).symm
            simp only [execOp, hc, hfn, p8]
            go_simp
            exact ⟨rfl, (Hcl.out W).mono fun e w' h => ⟨_, h.1, h.2, rfl⟩⟩
          · intro _ ρ W hI hbase hdep
            have hc : ∀ v, ρ (.const v) = v := fun v => hbase _ (fun _ _ _ _ _ e => by cases e)
            have hfn : ∀ f, ρ (.func f) = .func (.func f) #[] #[] := fun v => hbase _ (fun _ _ _ _ _ e => by cases e)
            have p9 : ρ (.tmp 57) = .agg #[.int .i64 0, .string (lowS t)] := (Option.some.inj (hdep ⟨9, .data⟩ (by simp) rfl _ 57 rfl rfl : some (.agg #[.int .i64 0, .string (lowS t)]) = some (ρ (.tmp 57)))).symm
            simp only [execOp, hc, hfn, p9]
            go_simp
            exact ⟨Below.refl _ _, rfl⟩
          · intro _ ρ W hI hbase hdep
            have hc : ∀ v, ρ (.const v) = v := fun v => hbase _ (fun _ _ _ _ _ e => by cases e)
            have hfn : ∀ f, ρ (.func f) = .func (.func f) #[] #[] := fun v => hbase _ (fun _ _ _ _ _ e => by cases e)
            have b4 : ρ (.tmp 4) = .pointer (some ⟨bl, 0, none⟩) := hbase (.tmp 4) (base_tmp (by kernel_rfl))
            simp only [execOp, hc, hfn, b4]
            go_simp
            exact ⟨Below.refl _ _, rfl⟩
          · intro _ ρ W hI hbase hdep
            have hc : ∀ v, ρ (.const v) = v := fun v => hbase _ (fun _ _ _ _ _ e => by cases e)
            have hfn : ∀ f, ρ (.func f) = .func (.func f) #[] #[] := fun v => hbase _ (fun _ _ _ _ _ e => by cases e)
            have p11 : ρ (.tmp 59) = .pointer (some ⟨bl, 1, none⟩) := (Option.some.inj (hdep ⟨11, .data⟩ (by simp) rfl _ 59 rfl rfl : some (.pointer (some ⟨bl, 1, none⟩)) = some (ρ (.tmp 59)))).symm
            obtain ⟨k0, k1, k2, k3⟩ := hc4 W hI
            simp only [execOp, hc, hfn, p11]
            go_simp
            exact ⟨Below.refl _ _, rfl⟩
          · intro _ ρ W hI hbase hdep
            have hc : ∀ v, ρ (.const v) = v := fun v => hbase _ (fun _ _ _ _ _ e => by cases e)
            have hfn : ∀ f, ρ (.func f) = .func (.func f) #[] #[] := fun v => hbase _ (fun _ _ _ _ _ e => by cases e)
            have p10 : ρ (.tmp 58) = .string (lowS t) := (Option.some.inj (hdep ⟨10, .data⟩ (by simp) rfl _ 58 rfl rfl : some (.string (lowS t)) = some (ρ (.tmp 58)))).symm
            have p12 : ρ (.tmp 60) = .string (lowS t) := (Option.some.inj (hdep ⟨12, .data⟩ (by simp) rfl _ 60 rfl rfl : some (.string (lowS t)) = some (ρ (.tmp 60)))).symm
            simp only [execOp, hc, hfn, p10, p12]
            go_simp
            exact ⟨Below.refl _ _, rfl⟩
          · intro _ ρ W hI hbase hdep
            have hc : ∀ v, ρ (.const v) = v := fun v => hbase _ (fun _ _ _ _ _ e => by cases e)
            have hfn : ∀ f, ρ (.func f) = .func (.func f) #[] #[] := fun v => hbase _ (fun _ _ _ _ _ e => by cases e)
            have p6 : ρ (.tmp 54) = .bool true := (Option.some.inj (hdep ⟨6, .data⟩ (by simp) rfl _ 54 rfl rfl : some (.bool true) = some (ρ (.tmp 54)))).symm
            have p13 : ρ (.tmp 61) = .bool true := (Option.some.inj (hdep ⟨13, .data⟩ (by simp) rfl _ 61 rfl rfl : some (.bool true) = some (ρ (.tmp 61)))).symm
            simp only [execOp, hc, hfn, p6, p13]
            go_simp
            exact ⟨Below.refl _ _, rfl⟩
          · intro _ ρ W hI hbase hdep
            have hc : ∀ v, ρ (.const v) = v := fun v => hbase _ (fun _ _ _ _ _ e => by cases e)
            have hfn : ∀ f, ρ (.func f) = .func (.func f) #[] #[] := fun v => hbase _ (fun _ _ _ _ _ e => by cases e)
            have p14 : ρ (.tmp 62) = .bool true := (Option.some.inj (hdep ⟨14, .data⟩ (by simp) rfl _ 62 rfl rfl : some (.bool true) = some (ρ (.tmp 62)))).symm
            simp only [execOp, hc, hfn, p14]
            go_simp
            exact ⟨Below.refl _ _, rfl⟩
          · intro _ ρ W hI hbase hdep
            have hc : ∀ v, ρ (.const v) = v := fun v => hbase _ (fun _ _ _ _ _ e => by cases e)
            have hfn : ∀ f, ρ (.func f) = .func (.func f) #[] #[] := fun v => hbase _ (fun _ _ _ _ _ e => by cases e)
            have b5 : ρ (.tmp 5) = .pointer (some ⟨bt, 0, none⟩) := hbase (.tmp 5) (base_tmp (by kernel_rfl))
            simp only [execOp, hc, hfn, b5]
            go_simp
            exact ⟨Below.refl _ _, rfl⟩
          · intro _ ρ W hI hbase hdep
            have hc : ∀ v, ρ (.const v) = v := fun v => hbase _ (fun _ _ _ _ _ e => by cases e)
            have hfn : ∀ f, ρ (.func f) = .func (.func f) #[] #[] := fun v => hbase _ (fun _ _ _ _ _ e => by cases e)
            have p16 : ρ (.tmp 64) = .pointer (some ⟨bt, 1, none⟩) := (Option.some.inj (hdep ⟨16, .data⟩ (by simp) rfl _ 64 rfl rfl : some (.pointer (some ⟨bt, 1, none⟩)) = some (ρ (.tmp 64)))).symm
            obtain ⟨k0, k1, k2, k3⟩ := hc4 W hI
            simp only [execOp, hc, hfn, p16]
            go_simp
            exact ⟨Below.refl _ _, rfl⟩
          · intro _ ρ W hI hbase hdep
            have hc : ∀ v, ρ (.const v) = v := fun v => hbase _ (fun _ _ _ _ _ e => by cases e)
            have hfn : ∀ f, ρ (.func f) = .func (.func f) #[] #[] := fun v => hbase _ (fun _ _ _ _ _ e => by cases e)
            have p17 : ρ (.tmp 65) = .string (trimT t) := (Option.some.inj (hdep ⟨17, .data⟩ (by simp) rfl _ 65 rfl rfl : some (.string (trimT t)) = some (ρ (.tmp 65)))).symm
            simp only [execOp, hc, hfn, p17]
            go_simp
            exact ⟨rfl, (Hct.out W).mono fun e w' h => ⟨_, h.1, h.2, rfl⟩⟩
          · intro _ ρ W hI hbase hdep
            have hc : ∀ v, ρ (.const v) = v := fun v => hbase _ (fun _ _ _ _ _ e => by cases e)
            have hfn : ∀ f, ρ (.func f) = .func (.func f) #[] #[] := fun v => hbase _ (fun _ _ _ _ _ e => by cases e)
            have p18 : ρ (.tmp 66) = .agg #[.int .i64 0, .string (trimT t)] := (Option.some.inj (hdep ⟨18, .data⟩ (by simp) rfl _ 66 rfl rfl : some (.agg #[.int .i64 0, .string (trimT t)]) = some (ρ (.tmp 66)))).symm
            simp only [execOp, hc, hfn, p18]
            go_simp
            exact ⟨Below.refl _ _, rfl⟩
          · intro _ ρ W hI hbase hdep
            have hc : ∀ v, ρ (.const v) = v := fun v => hbase _ (fun _ _ _ _ _ e => by cases e)
            have hfn : ∀ f, ρ (.func f) = .func (.func f) #[] #[] := fun v => hbase _ (fun _ _ _ _ _ e => by cases e)
            have b5 : ρ (.tmp 5) = .pointer (some ⟨bt, 0, none⟩) := hbase (.tmp 5) (base_tmp (by kernel_rfl))
            simp only [execOp, hc, hfn, b5]
            go_simp
            exact ⟨Below.refl _ _, rfl⟩
          · intro _ ρ W hI hbase hdep
            have hc : ∀ v, ρ (.const v) = v := fun v => hbase _ (fun _ _ _ _ _ e => by cases e)
            have hfn : ∀ f, ρ (.func f) = .func (.func f) #[] #[] := fun v => hbase _ (fun _ _ _ _ _ e => by cases e)
            have p20 : ρ (.tmp 68) = .pointer (some ⟨bt, 1, none⟩) := (Option.some.inj (hdep ⟨20, .data⟩ (by simp) rfl _ 68 rfl rfl : some (.pointer (some ⟨bt, 1, none⟩)) = some (ρ (.tmp 68)))).symm
            obtain ⟨k0, k1, k2, k3⟩ := hc4 W hI
            simp only [execOp, hc, hfn, p20]
            go_simp
            exact ⟨Below.refl _ _, rfl⟩
          · intro _ ρ W hI hbase hdep
            have hc : ∀ v, ρ (.const v) = v := fun v => hbase _ (fun _ _ _ _ _ e => by cases e)
            have hfn : ∀ f, ρ (.func f) = .func (.func f) #[] #[] := fun v => hbase _ (fun _ _ _ _ _ e => by cases e)
            have p19 : ρ (.tmp 67) = .string (trimT t) := (Option.some.inj (hdep ⟨19, .data⟩ (by simp) rfl _ 67 rfl rfl : some (.string (trimT t)) = some (ρ (.tmp 67)))).symm
            have p21 : ρ (.tmp 69) = .string (trimT t) := (Option.some.inj (hdep ⟨21, .data⟩ (by simp) rfl _ 69 rfl rfl : some (.string (trimT t)) = some (ρ (.tmp 69)))).symm
            simp only [execOp, hc, hfn, p19, p21]
            go_simp
            exact ⟨Below.refl _ _, rfl⟩
          · intro _ ρ W hI hbase hdep
            have hc : ∀ v, ρ (.const v) = v := fun v => hbase _ (fun _ _ _ _ _ e => by cases e)
            have hfn : ∀ f, ρ (.func f) = .func (.func f) #[] #[] := fun v => hbase _ (fun _ _ _ _ _ e => by cases e)
            have p15 : ρ (.tmp 63) = .bool true := (Option.some.inj (hdep ⟨15, .data⟩ (by simp) rfl _ 63 rfl rfl : some (.bool true) = some (ρ (.tmp 63)))).symm
            have p22 : ρ (.tmp 70) = .bool true := (Option.some.inj (hdep ⟨22, .data⟩ (by simp) rfl _ 70 rfl rfl : some (.bool true) = some (ρ (.tmp 70)))).symm
            simp only [execOp, hc, hfn, p15, p22]
            go_simp
            exact ⟨Below.refl _ _, rfl⟩
          · intro _ ρ W hI hbase hdep
            have hc : ∀ v, ρ (.const v) = v := fun v => hbase _ (fun _ _ _ _ _ e => by cases e)
            have hfn : ∀ f, ρ (.func f) = .func (.func f) #[] #[] := fun v => hbase _ (fun _ _ _ _ _ e => by cases e)
            have p23 : ρ (.tmp 71) = .bool true := (Option.some.inj (hdep ⟨23, .data⟩ (by simp) rfl _ 71 rfl rfl : some (.bool true) = some (ρ (.tmp 71)))).symm
            simp only [execOp, hc, hfn, p23]
            go_simp
            exact ⟨Below.refl _ _, rfl⟩
          · intro _ ρ W hI hbase hdep
            have hc : ∀ v, ρ (.const v) = v := fun v => hbase _ (fun _ _ _ _ _ e => by cases e)
            have hfn : ∀ f, ρ (.func f) = .func (.func f) #[] #[] := fun v => hbase _ (fun _ _ _ _ _ e => by cases e)
            have b6 : ρ (.tmp 6) = .string u := hbase (.tmp 6) (base_tmp (by kernel_rfl))
            simp only [execOp, hc, hfn, b6]
            go_simp
            exact ⟨Below.refl _ _, rfl⟩
          · intro _ ρ W hI hbase hdep
            have hc : ∀ v, ρ (.const v) = v := fun v => hbase _ (fun _ _ _ _ _ e => by cases e)
            have hfn : ∀ f, ρ (.func f) = .func (.func f) #[] #[] := fun v => hbase _ (fun _ _ _ _ _ e => by cases e)
            have p25 : ρ (.tmp 73) = .string u := (Option.some.inj (hdep ⟨25, .data⟩ (by simp) rfl _ 73 rfl rfl : some (.string u) = some (ρ (.tmp 73)))).symm
            simp only [execOp, hc, hfn, p25]
            go_simp
            exact ⟨rfl, (Hiw.out W).mono fun e w' h => ⟨_, h.1, h.2 ▸ Below.refl _ _, rfl⟩⟩
          · intro _ ρ W hI hbase hdep
            have hc : ∀ v, ρ (.const v) = v := fun v => hbase _ (fun _ _ _ _ _ e => by cases e)
            have hfn : ∀ f, ρ (.func f) = .func (.func f) #[] #[] := fun v => hbase _ (fun _ _ _ _ _ e => by cases e)
            have p26 : ρ (.tmp 74) = .bool false := (Option.some.inj (hdep ⟨26, .data⟩ (by simp) rfl _ 74 rfl rfl : some (.bool false) = some (ρ (.tmp 74)))).symm
            simp only [execOp, hc, hfn, p26]
            go_simp
            exact ⟨Below.refl _ _, rfl⟩
          · intro _ ρ W hI hbase hdep
            have hc : ∀ v, ρ (.const v) = v := fun v => hbase _ (fun _ _ _ _ _ e => by cases e)
            have hfn : ∀ f, ρ (.func f) = .func (.func f) #[] #[] := fun v => hbase _ (fun _ _ _ _ _ e => by cases e)
            have p27 : ρ (.tmp 75) = .bool true := (Option.some.inj (hdep ⟨27, .data⟩ (by simp) rfl _ 75 rfl rfl : some (.bool true) = some (ρ (.tmp 75)))).symm
            simp only [execOp, hc, hfn, p27]
            go_simp
            exact ⟨Below.refl _ _, rfl⟩
          · intro h; exact absurd h (by decide)
          · intro h; exact absurd h (by decide)
          · intro h; exact absurd h (by decide)
          · intro h; exact absurd h (by decide)
          · intro h; exact absurd h (by decide)
          · intro h; exact absurd h (by decide)
          · intro h; exact absurd h (by decide)
          · intro h; exact absurd h (by decide)
          · intro h; exact absurd h (by decide)
          · intro h; exact absurd h (by decide)
          · intro _ ρ W hI hbase hdep
            have hc : ∀ v, ρ (.const v) = v := fun v => hbase _ (fun _ _ _ _ _ e => by cases e)
            have hfn : ∀ f, ρ (.func f) = .func (.func f) #[] #[] := fun v => hbase _ (fun _ _ _ _ _ e => by cases e)
            have p28 : ρ (.tmp 76) = .bool true := (Option.some.inj (hdep ⟨28, .data⟩ (by simp) rfl _ 76 rfl rfl : some (.bool true) = some (ρ (.tmp 76)))).symm
            have p38 : ρ (.tmp 86) = undef := (Option.some.inj (hdep ⟨38, .data⟩ (by simp) rfl _ 86 rfl rfl : some (undef) = some (ρ (.tmp 86)))).symm
            simp only [execOp, hc, hfn, p28, p38]
            go_simp
            exact ⟨Below.refl _ _, rfl⟩
          · intro _ ρ W hI hbase hdep
            have hc : ∀ v, ρ (.const v) = v := fun v => hbase _ (fun _ _ _ _ _ e => by cases e)
            have hfn : ∀ f, ρ (.func f) = .func (.func f) #[] #[] := fun v => hbase _ (fun _ _ _ _ _ e => by cases e)
            have p24 : ρ (.tmp 72) = .bool true := (Option.some.inj (hdep ⟨24, .data⟩ (by simp) rfl _ 72 rfl rfl : some (.bool true) = some (ρ (.tmp 72)))).symm
            have p39 : ρ (.tmp 87) = .bool true := (Option.some.inj (hdep ⟨39, .data⟩ (by simp) rfl _ 87 rfl rfl : some (.bool true) = some (ρ (.tmp 87)))).symm
            simp only [execOp, hc, hfn, p24, p39]
            go_simp
            exact ⟨Below.refl _ _, rfl⟩
          · intro _ ρ W hI hbase hdep
            have hc : ∀ v, ρ (.const v) = v := fun v => hbase _ (fun _ _ _ _ _ e => by cases e)
            have hfn : ∀ f, ρ (.func f) = .func (.func f) #[] #[] := fun v => hbase _ (fun _ _ _ _ _ e => by cases e)
            have p40 : ρ (.tmp 88) = .bool true := (Option.some.inj (hdep ⟨40, .data⟩ (by simp) rfl _ 88 rfl rfl : some (.bool true) = some (ρ (.tmp 88)))).symm
            simp only [execOp, hc, hfn, p40]
            go_simp
            exact ⟨Below.refl _ _, rfl⟩
          · trivial
        · intro a' w' hI ha hdf hall _ hrest
          have h41 := hall 41 _ 2 rfl rfl
          have e41 : a'.tmps.getD 2 undef = .bool true := (Option.some.inj (h41 : some (.bool true) = some (a'.tmps.getD 2 undef))).symm
          obtain ⟨tmps, defers⟩ := a'
          simp only at ha hdf e41
          subst hdf
          go_wp2
          exact bodyPost_ret (results_tmp Tryd.results3 _ _ _) rfl ⟨congrArg Ending.returned e41, belz.trans (hI.mono belz.size)⟩
    · have e1 : ((lowerR t).1 != 0) = true := by rw [lowerR_no' hq]; rfl
      go_wp2
      go_ret
      exact ⟨rfl, belz⟩
  · go_enter Tryd.func3, Tryd.ntmps3
    go_wp2_with (go_at_call 10; ((with_reducible refine (lwBig _ _ _ _).mono ?_); rintro e w' ⟨rfl, rfl⟩))
    all_goals (go_ret; exact ⟨by first | rfl | (simp [*]; done) | (simp [*]; omega), by first | (with_reducible rfl) | exact (by first | (with_reducible exact Below.refl _ _) | ((repeat' (first | (with_reducible exact Below.refl _ _) | (with_reducible assumption) | (with_reducible refine below_alloc ?_ _) | (with_reducible refine Below.drew ?_) | (with_reducible refine below_drewN ?_ _) | (with_reducible refine Below.setCell ?_ ?_ _) | refine below_then ?_ (by with_reducible assumption))) <;> (first | omega | (simp; done) | (simp; omega))))⟩)
end Go.Proofs.YtklnccoknldkcaaDoor
