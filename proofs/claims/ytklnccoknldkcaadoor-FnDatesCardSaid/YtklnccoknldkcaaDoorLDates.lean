/- The law on dates: its walk. -/
import Derived.Test.YtklnccoknldkcaaDoorDrawP
import Derived.Test.YtklnccoknldkcaaDoorDayI
import Derived.Test.YtklnccoknldkcaaDoorBig
import Derived.Test.YtklnccoknldkcaaDoorQuietB
import Derived.Deep.DeepCutAuto
namespace Go.Proofs.YtklnccoknldkcaaDoor
open Go.RowKit
set_option linter.unusedSimpArgs false
set_option linter.unusedVariables false

theorem secs_code (y m d h i s : Int) : (secsR y m d h i s).1 = dateFault y m d h i s := by
  unfold secsR
  split
  · rename_i q; exact q.symm
  · rfl
theorem cells7 {w : World} {g : Nat} {x y z u v s r : Value} {t : TypeId} {f : Nat × Nat} (h : w.heap[g]? = some (.cells #[x, y, z, u, v, s, r] t f)) : w.cell? ⟨g, 0, none⟩ = some x ∧ w.cell? ⟨g, 1, none⟩ = some y ∧ w.cell? ⟨g, 2, none⟩ = some z ∧ w.cell? ⟨g, 3, none⟩ = some u ∧ w.cell? ⟨g, 4, none⟩ = some v ∧ w.cell? ⟨g, 5, none⟩ = some s ∧ w.cell? ⟨g, 6, none⟩ = some r := by simp [World.cell?, h]
theorem fieldI0 (x y : Int) (w : World) : (Instr.field 42 (.agg #[.int .i64 x, .int .i64 y]) 0).run Tryd.prog w = .ok (.int .i64 x) w := by kernel_rfl
theorem fieldI1 (x y : Int) (w : World) : (Instr.field 42 (.agg #[.int .i64 x, .int .i64 y]) 1).run Tryd.prog w = .ok (.int .i64 y) w := by kernel_rfl
theorem fieldD0 (r0 r1 r2 r3 r4 r5 r6 : Int) (w : World) : (Instr.field 51 (.agg #[.int .i64 r0, .int .i64 r1, .int .i64 r2, .int .i64 r3, .int .i64 r4, .int .i64 r5, .int .i64 r6]) 0).run Tryd.prog w = .ok (.int .i64 r0) w := by kernel_rfl
theorem parseD_ok {t : ByteArray} (h : (parseD t).1 = 0) : inB (parseD t).2 0 253402300799 = true ∧ fmtS (parseD t).2 = t := by
  by_cases hx : ∃ n : Int, inB n 0 253402300799 = true ∧ fmtS n = t
  · obtain ⟨n, h1, h2⟩ := hx
    rw [parseD_good h1 h2]; exact ⟨h1, h2⟩
  · rw [parseD_bad (fun n h1 h2 => hx ⟨n, h1, h2⟩)] at h
    cases h
theorem week_next {r : Int} (h : inB r 0 253402300799 = true) (h2 : ¬ 253402300799 < r + 86400) : (weekR (r + 86400)).2 = ((weekR r).2 + 1) % 7 ∧ 0 ≤ (weekR r).2 ∧ (weekR r).2 ≤ 6 := by
  obtain ⟨a1, a2⟩ := inB_iff.1 h
  have h3 : inB (r + 86400) 0 253402300799 = true := inB_iff.2 ⟨by omega, by omega⟩
  have e1 : weekR r = (0, weekI r) := if_pos h
  have e2 : weekR (r + 86400) = (0, weekI (r + 86400)) := if_pos h3
  rw [e1, e2]
  unfold weekI
  omega
set_option maxHeartbeats 20000000 in
set_option maxRecDepth 100000 in
theorem FnDates_walk (a : Option Addr) (n c : Nat) (bs : List UInt8) (hl : bs.length = n) (w : World) (hr : Rd w a (bs.map byteV)) (hn : n ≤ 9223372036854775807) (ht : Tab w) (he : ErrC w) : Calls Tryd.prog 6 #[.slice a n c] w fun e w' => e = .returned (.bool true) ∧ Below w.heap.size w w' := by
  by_cases h : n ≤ 1048576
  · have HT := Lib.hid ht
    have HE := Lib.hid he
    clear ht he
    go_enter Tryd.func6, Tryd.ntmps6
    go_upto_region 9 with (first
      | (go_at_call 10; ((with_reducible refine (lwBig _ _ _ _).mono ?_); rintro e w' ⟨rfl, rfl⟩))
      | (go_at_call 31; ((with_reducible refine (spec_DrawSecondsOf a n c bs hl h _ (by first | (with_reducible assumption) | exact RowAt.rd (by repeat' (first | (with_reducible assumption) | (with_reducible refine RowAt.alloc ?_ _) | (with_reducible refine RowAt.drew ?_) | (with_reducible refine RowAt.other ?_ _ _ (by first | omega | (simp; done) | (simp; omega))) | refine RowAt.then ?_ (by with_reducible assumption))) | exact Rd.below (by with_reducible assumption) (by first | (with_reducible exact Below.refl _ _) | ((repeat' (first | (with_reducible exact Below.refl _ _) | (with_reducible assumption) | (with_reducible refine below_alloc ?_ _) | (with_reducible refine Below.drew ?_) | (with_reducible refine below_drewN ?_ _) | (with_reducible refine Below.setCell ?_ ?_ _) | refine below_then ?_ (by with_reducible assumption))) <;> (first | omega | (simp; done) | (simp; omega)))))).mono ?_); rintro e w1 ⟨y, m, d, hh, mi, s, rfl, hb⟩; obtain ⟨hc, hf⟩ := bcell hb; have hz := hb.size; (try simp only [World.size_alloc, World.size_setCell, World.size_drew] at hz); obtain ⟨hlt, hle, hn1, hn2, hn3, hn4⟩ := bsize hb; (try simp only [World.size_alloc, World.size_setCell, World.size_drew] at hlt hle hn1 hn2 hn3 hn4); (try have hr0 : w.heap.size < w1.heap.size := by omega); (try have hr1 : w.heap.size + 1 < w1.heap.size := by omega); (try have hs0 : wS.heap.size < w1.heap.size := by omega); (try have hs1 : wG.heap.size < w1.heap.size := by omega)))
      | (go_at_call 32; ((with_reducible refine (impl_SecondsOf y m d hh mi s _).mono ?_); rintro e w2 ⟨rfl, hb⟩; obtain ⟨hc, hf⟩ := bcell hb; have hz := hb.size; (try simp only [World.size_alloc, World.size_setCell, World.size_drew] at hz); obtain ⟨hlt, hle, hn1, hn2, hn3, hn4⟩ := bsize hb; (try simp only [World.size_alloc, World.size_setCell, World.size_drew] at hlt hle hn1 hn2 hn3 hn4); (try have hr0 : w.heap.size < w2.heap.size := by omega); (try have hr1 : w.heap.size + 1 < w2.heap.size := by omega); (try have hs0 : wS.heap.size < w2.heap.size := by omega); (try have hs1 : wG.heap.size < w2.heap.size := by omega)))
      | (go_at_call 33; ((with_reducible refine (spec_DrawDateAt a n c bs hl h _ (by first | (with_reducible assumption) | exact RowAt.rd (by repeat' (first | (with_reducible assumption) | (with_reducible refine RowAt.alloc ?_ _) | (with_reducible refine RowAt.drew ?_) | (with_reducible refine RowAt.other ?_ _ _ (by first | omega | (simp; done) | (simp; omega))) | refine RowAt.then ?_ (by with_reducible assumption))) | exact Rd.below (by with_reducible assumption) (by first | (with_reducible exact Below.refl _ _) | ((repeat' (first | (with_reducible exact Below.refl _ _) | (with_reducible assumption) | (with_reducible refine below_alloc ?_ _) | (with_reducible refine Below.drew ?_) | (with_reducible refine below_drewN ?_ _) | (with_reducible refine Below.setCell ?_ ?_ _) | refine below_then ?_ (by with_reducible assumption))) <;> (first | omega | (simp; done) | (simp; omega)))))).mono ?_); rintro e w3 ⟨r, rfl, hb⟩; obtain ⟨hc, hf⟩ := bcell hb; have hz := hb.size; (try simp only [World.size_alloc, World.size_setCell, World.size_drew] at hz); obtain ⟨hlt, hle, hn1, hn2, hn3, hn4⟩ := bsize hb; (try simp only [World.size_alloc, World.size_setCell, World.size_drew] at hlt hle hn1 hn2 hn3 hn4); (try have hr0 : w.heap.size < w3.heap.size := by omega); (try have hr1 : w.heap.size + 1 < w3.heap.size := by omega); (try have hs0 : wS.heap.size < w3.heap.size := by omega); (try have hs1 : wG.heap.size < w3.heap.size := by omega)))
      | (go_at_call 34; ((with_reducible refine (impl_DateAt r _).mono ?_); rintro e w4 ⟨rfl, hb⟩; obtain ⟨hc, hf⟩ := bcell hb; have hz := hb.size; (try simp only [World.size_alloc, World.size_setCell, World.size_drew] at hz); obtain ⟨hlt, hle, hn1, hn2, hn3, hn4⟩ := bsize hb; (try simp only [World.size_alloc, World.size_setCell, World.size_drew] at hlt hle hn1 hn2 hn3 hn4); (try have hr0 : w.heap.size < w4.heap.size := by omega); (try have hr1 : w.heap.size + 1 < w4.heap.size := by omega); (try have hs0 : wS.heap.size < w4.heap.size := by omega); (try have hs1 : wG.heap.size < w4.heap.size := by omega)))
      | (go_at_call 35; ((with_reducible refine (spec_DrawParseDate a n c bs hl h _ (by first | (with_reducible assumption) | exact RowAt.rd (by repeat' (first | (with_reducible assumption) | (with_reducible refine RowAt.alloc ?_ _) | (with_reducible refine RowAt.drew ?_) | (with_reducible refine RowAt.other ?_ _ _ (by first | omega | (simp; done) | (simp; omega))) | refine RowAt.then ?_ (by with_reducible assumption))) | exact Rd.below (by with_reducible assumption) (by first | (with_reducible exact Below.refl _ _) | ((repeat' (first | (with_reducible exact Below.refl _ _) | (with_reducible assumption) | (with_reducible refine below_alloc ?_ _) | (with_reducible refine Below.drew ?_) | (with_reducible refine below_drewN ?_ _) | (with_reducible refine Below.setCell ?_ ?_ _) | refine below_then ?_ (by with_reducible assumption))) <;> (first | omega | (simp; done) | (simp; omega)))))).mono ?_); rintro e w5 ⟨t, rfl, hts, hb⟩; obtain ⟨hc, hf⟩ := bcell hb; have hz := hb.size; (try simp only [World.size_alloc, World.size_setCell, World.size_drew] at hz); obtain ⟨hlt, hle, hn1, hn2, hn3, hn4⟩ := bsize hb; (try simp only [World.size_alloc, World.size_setCell, World.size_drew] at hlt hle hn1 hn2 hn3 hn4); (try have hr0 : w.heap.size < w5.heap.size := by omega); (try have hr1 : w.heap.size + 1 < w5.heap.size := by omega); (try have hs0 : wS.heap.size < w5.heap.size := by omega); (try have hs1 : wG.heap.size < w5.heap.size := by omega)))
      | (go_at_call 29; ((with_reducible refine (impl_ParseDate t (by omega) _ (HT.out.then (by exact (by first | (with_reducible exact Below.refl _ _) | ((repeat' (first | (with_reducible exact Below.refl _ _) | (with_reducible assumption) | (with_reducible refine below_alloc ?_ _) | (with_reducible refine Below.drew ?_) | (with_reducible refine below_drewN ?_ _) | (with_reducible refine Below.setCell ?_ ?_ _) | refine below_then ?_ (by with_reducible assumption))) <;> (first | omega | (simp; done) | (simp; omega)))))) (HE.out.then (by exact (by first | (with_reducible exact Below.refl _ _) | ((repeat' (first | (with_reducible exact Below.refl _ _) | (with_reducible assumption) | (with_reducible refine below_alloc ?_ _) | (with_reducible refine Below.drew ?_) | (with_reducible refine below_drewN ?_ _) | (with_reducible refine Below.setCell ?_ ?_ _) | refine below_then ?_ (by with_reducible assumption))) <;> (first | omega | (simp; done) | (simp; omega))))))).mono ?_); rintro e w6 ⟨rfl, hb⟩; obtain ⟨hc, hf⟩ := bcell hb; have hz := hb.size; (try simp only [World.size_alloc, World.size_setCell, World.size_drew] at hz); obtain ⟨hlt, hle, hn1, hn2, hn3, hn4⟩ := bsize hb; (try simp only [World.size_alloc, World.size_setCell, World.size_drew] at hlt hle hn1 hn2 hn3 hn4); (try have hr0 : w.heap.size < w6.heap.size := by omega); (try have hr1 : w.heap.size + 1 < w6.heap.size := by omega); (try have hs0 : wS.heap.size < w6.heap.size := by omega); (try have hs1 : wG.heap.size < w6.heap.size := by omega))))
    all_goals (try (go_ret; exact ⟨by first | rfl | (simp [*]; done) | (simp [*]; omega), by first | (with_reducible rfl) | exact (by first | (with_reducible exact Below.refl _ _) | ((repeat' (first | (with_reducible exact Below.refl _ _) | (with_reducible assumption) | (with_reducible refine below_alloc ?_ _) | (with_reducible refine Below.drew ?_) | (with_reducible refine below_drewN ?_ _) | (with_reducible refine Below.setCell ?_ ?_ _) | refine below_then ?_ (by with_reducible assumption))) <;> (first | omega | (simp; done) | (simp; omega))))⟩))
    have kD : (w6.alloc (.cells #[.int .i64 (parseD t).1, .int .i64 (parseD t).2] 42)).heap[w1.heap.size]? = some (.cells #[.int .i64 y, .int .i64 m, .int .i64 d, .int .i64 hh, .int .i64 mi, .int .i64 s] 46 (0, 0)) := (by repeat' (first | (with_reducible assumption) | (with_reducible exact blk_new _ _) | (with_reducible apply blk_set) | (with_reducible refine blk_new' _ _ _ (by first | omega | (simp only [World.size_alloc]; first | done | omega))) | (with_reducible refine blk_other ?_ _ _ _ (by omega)) | (with_reducible refine blk_drew ?_) | (with_reducible refine blk_alloc ?_ _) | refine blk_then ?_ (by with_reducible assumption)))
    have kS : (w6.alloc (.cells #[.int .i64 (parseD t).1, .int .i64 (parseD t).2] 42)).heap[w2.heap.size]? = some (.cells #[.int .i64 (secsR y m d hh mi s).1, .int .i64 (secsR y m d hh mi s).2] 42 (0, 0)) := (by repeat' (first | (with_reducible assumption) | (with_reducible exact blk_new _ _) | (with_reducible apply blk_set) | (with_reducible refine blk_new' _ _ _ (by first | omega | (simp only [World.size_alloc]; first | done | omega))) | (with_reducible refine blk_other ?_ _ _ _ (by omega)) | (with_reducible refine blk_drew ?_) | (with_reducible refine blk_alloc ?_ _) | refine blk_then ?_ (by with_reducible assumption)))
    have kA : (w6.alloc (.cells #[.int .i64 (parseD t).1, .int .i64 (parseD t).2] 42)).heap[w4.heap.size]? = some (.cells #[.int .i64 (dateR r).1, .int .i64 (dateR r).2.1, .int .i64 (dateR r).2.2.1, .int .i64 (dateR r).2.2.2.1, .int .i64 (dateR r).2.2.2.2.1, .int .i64 (dateR r).2.2.2.2.2.1, .int .i64 (dateR r).2.2.2.2.2.2] 51 (0, 0)) := (by repeat' (first | (with_reducible assumption) | (with_reducible exact blk_new _ _) | (with_reducible apply blk_set) | (with_reducible refine blk_new' _ _ _ (by first | omega | (simp only [World.size_alloc]; first | done | omega))) | (with_reducible refine blk_other ?_ _ _ _ (by omega)) | (with_reducible refine blk_drew ?_) | (with_reducible refine blk_alloc ?_ _) | refine blk_then ?_ (by with_reducible assumption)))
    have kP : (w6.alloc (.cells #[.int .i64 (parseD t).1, .int .i64 (parseD t).2] 42)).heap[w6.heap.size]? = some (.cells #[.int .i64 (parseD t).1, .int .i64 (parseD t).2] 42 (0, 0)) := blk_new _ _
    have belV : Below w.heap.size w (w6.alloc (.cells #[.int .i64 (parseD t).1, .int .i64 (parseD t).2] 42)) := by exact (by first | (with_reducible exact Below.refl _ _) | ((repeat' (first | (with_reducible exact Below.refl _ _) | (with_reducible assumption) | (with_reducible refine below_alloc ?_ _) | (with_reducible refine Below.drew ?_) | (with_reducible refine below_drewN ?_ _) | (with_reducible refine Below.setCell ?_ ?_ _) | refine below_then ?_ (by with_reducible assumption))) <;> (first | omega | (simp; done) | (simp; omega))))
    have hTV := HT.out.then belV
    have hEV := HE.out.then belV
    rw [secs_code] at kS
    have c1 := fun W => impl_DateFault y m d hh mi s W
    have c2 := fun W => spec_DateFault y m d hh mi s W
    have c3 := fun W => spec_DateAt r W
    have c4 := fun W => spec_ParseDate t (by omega) W
    have hsc := secs_code y m d hh mi s
    generalize (w6.alloc (.cells #[.int .i64 (parseD t).1, .int .i64 (parseD t).2] 42)) = V at *
    generalize w1.heap.size = bD at *
    generalize w2.heap.size = bS at *
    generalize w4.heap.size = bA at *
    generalize w6.heap.size = bP at *
    clear HT HE hr
    have hSR := Lib.hid (show secsR y m d hh mi s = (dateFault y m d hh mi s, (secsR y m d hh mi s).2) by rw [← hsc])
    obtain ⟨F, eF⟩ : ∃ F, dateFault y m d hh mi s = F := ⟨_, rfl⟩
    obtain ⟨vs, evs⟩ : ∃ x, (secsR y m d hh mi s).2 = x := ⟨_, rfl⟩
    rcases hdr : dateR r with ⟨r0, r1, r2, r3, r4, r5, r6⟩
    rcases hpd : parseD t with ⟨p0, p1⟩
    rw [eF, evs] at kS
    rw [hdr] at kA
    rw [hpd] at kP
    simp only at kA kP
    have hSR2 := hSR.out
    rw [eF, evs] at hSR2
    simp only [eF] at c1 c2
    simp only [hdr] at c3
    simp only [hpd] at c4
    have HF := Lib.hid eF
    have HSR := Lib.hid hSR2
    have HDR := Lib.hid hdr
    have HPD := Lib.hid hpd
    have C1 := Lib.hid c1
    have C2 := Lib.hid c2
    have C3 := Lib.hid c3
    have C4 := Lib.hid c4
    have HTV := Lib.hid hTV
    have HEV := Lib.hid hEV
    have HBV := Lib.hid belV
    clear hSR hSR2 hsc eF evs hdr hpd c1 c2 c3 c4 hTV hEV belV
    have x0 := fun p : Gb V => (cells6 (blk_then kD p.h)).1
    have x1 := fun p : Gb V => (cells6 (blk_then kD p.h)).2.1
    have x2 := fun p : Gb V => (cells6 (blk_then kD p.h)).2.2.1
    have x3 := fun p : Gb V => (cells6 (blk_then kD p.h)).2.2.2.1
    have x4 := fun p : Gb V => (cells6 (blk_then kD p.h)).2.2.2.2.1
    have x5 := fun p : Gb V => (cells6 (blk_then kD p.h)).2.2.2.2.2
    have s0 := fun p : Gb V => (cells2 (blk_then kS p.h)).1
    have u0 := fun p : Gb V => (cells7 (blk_then kA p.h)).1
    have q0 := fun p : Gb V => (cells2 (blk_then kP p.h)).1
    have q1 := fun p : Gb V => (cells2 (blk_then kP p.h)).2
    have hf0 := fieldD0
    have KD := Lib.hid kD
    have KS := Lib.hid kS
    have KA := Lib.hid kA
    have KP := Lib.hid kP
    clear kD kS kA kP
    refine wp_region_below (by kernel_rfl) (by kernel_rfl) ?_
    repeat (quiet_step (first | (go_at_call 36; exact gb_call (C1.out _)) | (go_at_call 37; exact gb_call (C2.out _)) | (go_at_call 38; exact gb_call (C3.out _)) | (go_at_call 28; exact gb_call (C4.out _))))
    refine wpQuiet_nil ?_
    intro _ hw'
    obtain ⟨pz, rfl⟩ := hw'
    have hbz : Below V.heap.size V pz.w := pz.h
    clear x0 x1 x2 x3 x4 x5 s0 u0 q0 q1 C1 C2 C3 C4
    generalize pz.w = z at *
    have KD := Lib.hid (blk_then KD.out hbz)
    have KS := Lib.hid (blk_then KS.out hbz)
    have KA := Lib.hid (blk_then KA.out hbz)
    have KP := Lib.hid (blk_then KP.out hbz)
    have HTV := Lib.hid (HTV.out.then hbz)
    have HEV := Lib.hid (HEV.out.then hbz)
    have HBV := Lib.hid (below_then HBV.out hbz)
    clear hbz
    go_upto_region 11 with fail
    go_cut [73] (fun s73 wx => s73 = .bool false ∧ Below z.heap.size z wx)
    case first =>
      --LEAF mid
      have x0 := fun p : Gb z => (cells6 (blk_then KD.out p.h)).1
      have x1 := fun p : Gb z => (cells6 (blk_then KD.out p.h)).2.1
      have x2 := fun p : Gb z => (cells6 (blk_then KD.out p.h)).2.2.1
      have x3 := fun p : Gb z => (cells6 (blk_then KD.out p.h)).2.2.2.1
      have x4 := fun p : Gb z => (cells6 (blk_then KD.out p.h)).2.2.2.2.1
      have x5 := fun p : Gb z => (cells6 (blk_then KD.out p.h)).2.2.2.2.2
      have s0 := fun p : Gb z => (cells2 (blk_then KS.out p.h)).1
      have s1 := fun p : Gb z => (cells2 (blk_then KS.out p.h)).2
      have q0 := fun p : Gb z => (cells2 (blk_then KP.out p.h)).1
      have q1 := fun p : Gb z => (cells2 (blk_then KP.out p.h)).2
      have hf1 := fieldP1
      have hst : (t.toList != t.toList) = false := by simp
      have c5 : p0 = 0 → ∀ W, Tab W → Calls Tryd.prog 39 #[.int .i64 p1] W fun e w' => e = .returned (.agg #[.int .i64 0, .string t]) ∧ Below W.heap.size W w' := fun hp W hT => by
        have hok := parseD_ok (t := t) (by rw [HPD.out]; exact hp)
        rw [HPD.out] at hok
        have hc := impl_FormatDate p1 W hT
        rw [fmtR_yes hok.1, hok.2] at hc
        exact hc
      have c6 : F = 0 → ∀ W, Calls Tryd.prog 34 #[.int .i64 vs] W fun e w' => e = .returned (.agg #[.int .i64 0, .int .i64 y, .int .i64 m, .int .i64 d, .int .i64 hh, .int .i64 mi, .int .i64 s]) ∧ Below W.heap.size W w' := fun hF W => by
        have hf : dateFault y m d hh mi s = 0 := HF.out.trans hF
        have hv : vs = secsI y m d hh mi s := by
          have := HSR.out
          rw [secsR, if_pos hf] at this
          exact (Prod.mk.inj this).2.symm
        have hc := impl_DateAt vs W
        rw [hv, secs_date hf] at hc
        rw [hv]
        exact hc
      by_cases hp : p0 = 0
      · have C5 := Lib.hid (c5 hp)
        by_cases hF : F = 0
        · have C6 := Lib.hid (c6 hF)
          subst hp
          subst hF
          clear c5 c6
          refine wp_region_below (by kernel_rfl) (by kernel_rfl) ?_
          repeat (quiet_step (first | (go_at_call 39; exact gb_call (C5.out _ (HTV.out.then (Gb.h _)))) | (go_at_call 34; exact gb_call (C6.out _))))
          refine wpQuiet_nil ?_
          intro _ hw'
          obtain ⟨pz, rfl⟩ := hw'
          go_wp2_with fail
          go_meet
          exact ⟨rfl, pz.h⟩
        · clear c5 c6
          subst hp
          refine wp_region_below (by kernel_rfl) (by kernel_rfl) ?_
          repeat (quiet_step (first | (go_at_call 39; exact gb_call (C5.out _ (HTV.out.then (Gb.h _)))) | (go_at_call 34; exact gb_call (C6.out _))))
          refine wpQuiet_nil ?_
          intro _ hw'
          obtain ⟨pz, rfl⟩ := hw'
          go_wp2_with fail
          go_meet
          exact ⟨rfl, pz.h⟩
      · by_cases hF : F = 0
        · have C6 := Lib.hid (c6 hF)
          subst hF
          clear c5 c6
          refine wp_region_below (by kernel_rfl) (by kernel_rfl) ?_
          repeat (quiet_step (first | (go_at_call 39; exact gb_call (C5.out _ (HTV.out.then (Gb.h _)))) | (go_at_call 34; exact gb_call (C6.out _))))
          refine wpQuiet_nil ?_
          intro _ hw'
          obtain ⟨pz, rfl⟩ := hw'
          go_wp2_with fail
          go_meet
          exact ⟨rfl, pz.h⟩
        · clear c5 c6
          refine wp_region_below (by kernel_rfl) (by kernel_rfl) ?_
          repeat (quiet_step (first | (go_at_call 39; exact gb_call (C5.out _ (HTV.out.then (Gb.h _)))) | (go_at_call 34; exact gb_call (C6.out _))))
          refine wpQuiet_nil ?_
          intro _ hw'
          obtain ⟨pz, rfl⟩ := hw'
          go_wp2_with fail
          go_meet
          exact ⟨rfl, pz.h⟩
      --END
    case rest =>
      obtain ⟨rfl, hbc⟩ := hcut
      have KA := Lib.hid (blk_then KA.out hbc)
      have HTV := Lib.hid (HTV.out.then hbc)
      have HEV := Lib.hid (HEV.out.then hbc)
      have HBV := Lib.hid (below_then HBV.out hbc)
      obtain ⟨k0, k1, k2, k3, k4, k5, k6⟩ := cells7 KA.out
      have lA : bA < wc.heap.size := (Array.getElem?_eq_some_iff.1 KA.out).1
      clear hbc KD KS KP HF HSR HPD
      by_cases hr : inB r 0 253402300799 = true
      · obtain ⟨b1, b2⟩ := inB_iff.1 hr
        have hd := HDR.out
        have hd2 : dateR r = (0, yOf r, mOf r, dOf r, r / 3600 % 24, r / 60 % 60, r % 60) := if_pos hr
        rw [hd2] at hd
        obtain ⟨rfl, e1, e2, e3, e4, e5, e6⟩ : (0 : Int) = r0 ∧ yOf r = r1 ∧ mOf r = r2 ∧ dOf r = r3 ∧ r / 3600 % 24 = r4 ∧ r / 60 % 60 = r5 ∧ r % 60 = r6 := by
          simpa using hd
        have hds := date_secs hr
        rw [e1, e2, e3, e4, e5, e6] at hds
        have c7 := fun W => impl_SecondsOf r1 r2 r3 r4 r5 r6 W
        simp only [hds] at c7
        have hfs := fmtS_size hr
        have c8 := fun W hT => impl_FormatDate r W hT
        simp only [fmtR_yes hr] at c8
        have c9 := fun W hT hE => impl_ParseDate (fmtS r) (by omega) W hT hE
        simp only [parseD_good hr rfl] at c9
        obtain ⟨T, eT⟩ : ∃ T, fmtS r = T := ⟨_, rfl⟩
        simp only [eT] at c8 c9
        rw [eT] at hfs
        have hfz : (T.size : Int) = 29 := by omega
        have C7 := Lib.hid c7
        have C8 := Lib.hid c8
        have C9 := Lib.hid c9
        have hf1 := fieldI1
        have KA1 := KA.out
        clear c7 c8 c9 hds hd hd2 e1 e2 e3 e4 e5 e6 eT KA hts
        have wr : IntKind.i64.wrap (r + 86400) = r + 86400 := wrapi _ (by omega) (by omega)
        by_cases hgt : 253402300799 < r + 86400
        · skip
          --LEAF far
          go_wp2_with (first
            | (go_at_call 39; ((with_reducible refine (C8.out _ HTV.out).mono ?_); rintro e w8 ⟨rfl, hb⟩; obtain ⟨hc, hf⟩ := bcell hb; have hz := hb.size; (try simp only [World.size_alloc, World.size_setCell, World.size_drew] at hz); obtain ⟨hlt, hle, hn1, hn2, hn3, hn4⟩ := bsize hb; (try simp only [World.size_alloc, World.size_setCell, World.size_drew] at hlt hle hn1 hn2 hn3 hn4); (try have hr0 : w.heap.size < w8.heap.size := by omega); (try have hr1 : w.heap.size + 1 < w8.heap.size := by omega); (try have hs0 : wS.heap.size < w8.heap.size := by omega); (try have hs1 : wG.heap.size < w8.heap.size := by omega)))
            | (go_at_call 32; ((with_reducible refine (C7.out _).mono ?_); rintro e w9 ⟨rfl, hb⟩; have kF9 := blk_then (blk_new w8 _) hb; obtain ⟨f0, f1⟩ := cells2 kF9; obtain ⟨hc, hf⟩ := bcell hb; have hz := hb.size; (try simp only [World.size_alloc, World.size_setCell, World.size_drew] at hz); obtain ⟨hlt, hle, hn1, hn2, hn3, hn4⟩ := bsize hb; (try simp only [World.size_alloc, World.size_setCell, World.size_drew] at hlt hle hn1 hn2 hn3 hn4); (try have hr0 : w.heap.size < w9.heap.size := by omega); (try have hr1 : w.heap.size + 1 < w9.heap.size := by omega); (try have hs0 : wS.heap.size < w9.heap.size := by omega); (try have hs1 : wG.heap.size < w9.heap.size := by omega)))
            | (go_at_call 29; ((with_reducible refine (C9.out _ (HTV.out.then (by exact (by first | (with_reducible exact Below.refl _ _) | ((repeat' (first | (with_reducible exact Below.refl _ _) | (with_reducible assumption) | (with_reducible refine below_alloc ?_ _) | (with_reducible refine Below.drew ?_) | (with_reducible refine below_drewN ?_ _) | (with_reducible refine Below.setCell ?_ ?_ _) | refine below_then ?_ (by with_reducible assumption))) <;> (first | omega | (simp; done) | (simp; omega)))))) (HEV.out.then (by exact (by first | (with_reducible exact Below.refl _ _) | ((repeat' (first | (with_reducible exact Below.refl _ _) | (with_reducible assumption) | (with_reducible refine below_alloc ?_ _) | (with_reducible refine Below.drew ?_) | (with_reducible refine below_drewN ?_ _) | (with_reducible refine Below.setCell ?_ ?_ _) | refine below_then ?_ (by with_reducible assumption))) <;> (first | omega | (simp; done) | (simp; omega))))))).mono ?_); rintro e w10 ⟨rfl, hb⟩; have kF10 := blk_then kF9 hb; obtain ⟨f0', f1'⟩ := cells2 kF10; obtain ⟨hc, hf⟩ := bcell hb; have hz := hb.size; (try simp only [World.size_alloc, World.size_setCell, World.size_drew] at hz); obtain ⟨hlt, hle, hn1, hn2, hn3, hn4⟩ := bsize hb; (try simp only [World.size_alloc, World.size_setCell, World.size_drew] at hlt hle hn1 hn2 hn3 hn4); (try have hr0 : w.heap.size < w10.heap.size := by omega); (try have hr1 : w.heap.size + 1 < w10.heap.size := by omega); (try have hs0 : wS.heap.size < w10.heap.size := by omega); (try have hs1 : wG.heap.size < w10.heap.size := by omega))))
          all_goals exact bodyPost_ret (results_tmp Tryd.results6 _ _ _) rfl ⟨rfl, by have := HBV.out; exact (by first | (with_reducible exact Below.refl _ _) | ((repeat' (first | (with_reducible exact Below.refl _ _) | (with_reducible assumption) | (with_reducible refine below_alloc ?_ _) | (with_reducible refine Below.drew ?_) | (with_reducible refine below_drewN ?_ _) | (with_reducible refine Below.setCell ?_ ?_ _) | refine below_then ?_ (by with_reducible assumption))) <;> (first | omega | (simp; done) | (simp; omega))))⟩
          --END
        · obtain ⟨v1, v2, v3⟩ := week_next hr hgt
          --LEAF near
          have d1 := fun W => impl_WeekdayOf r W
          have d2 := fun W => impl_WeekdayOf (r + 86400) W
          generalize (weekR r).1 = g1 at *
          generalize (weekR r).2 = a' at *
          generalize (weekR (r + 86400)).1 = g2 at *
          generalize (weekR (r + 86400)).2 = b' at *
          have wa : IntKind.i64.wrap (a' + 1) = a' + 1 := wrapi _ (by omega) (by omega)
          have tm : Int.tmod (a' + 1) 7 = b' := by rw [v1, Int.tmod_eq_emod_of_nonneg (by omega)]
          have wb : IntKind.i64.wrap b' = b' := wrapi _ (by omega) (by omega)
          have Dd1 := Lib.hid d1
          have Dd2 := Lib.hid d2
          clear d1 d2 v1
          go_wp2_with (first
            | (go_at_call 39; ((with_reducible refine (C8.out _ HTV.out).mono ?_); rintro e w8 ⟨rfl, hb⟩; obtain ⟨hc, hf⟩ := bcell hb; have hz := hb.size; (try simp only [World.size_alloc, World.size_setCell, World.size_drew] at hz); obtain ⟨hlt, hle, hn1, hn2, hn3, hn4⟩ := bsize hb; (try simp only [World.size_alloc, World.size_setCell, World.size_drew] at hlt hle hn1 hn2 hn3 hn4); (try have hr0 : w.heap.size < w8.heap.size := by omega); (try have hr1 : w.heap.size + 1 < w8.heap.size := by omega); (try have hs0 : wS.heap.size < w8.heap.size := by omega); (try have hs1 : wG.heap.size < w8.heap.size := by omega)))
            | (go_at_call 32; ((with_reducible refine (C7.out _).mono ?_); rintro e w9 ⟨rfl, hb⟩; have kF9 := blk_then (blk_new w8 _) hb; obtain ⟨f0, f1⟩ := cells2 kF9; obtain ⟨hc, hf⟩ := bcell hb; have hz := hb.size; (try simp only [World.size_alloc, World.size_setCell, World.size_drew] at hz); obtain ⟨hlt, hle, hn1, hn2, hn3, hn4⟩ := bsize hb; (try simp only [World.size_alloc, World.size_setCell, World.size_drew] at hlt hle hn1 hn2 hn3 hn4); (try have hr0 : w.heap.size < w9.heap.size := by omega); (try have hr1 : w.heap.size + 1 < w9.heap.size := by omega); (try have hs0 : wS.heap.size < w9.heap.size := by omega); (try have hs1 : wG.heap.size < w9.heap.size := by omega)))
            | (go_at_call 29; ((with_reducible refine (C9.out _ (HTV.out.then (by exact (by first | (with_reducible exact Below.refl _ _) | ((repeat' (first | (with_reducible exact Below.refl _ _) | (with_reducible assumption) | (with_reducible refine below_alloc ?_ _) | (with_reducible refine Below.drew ?_) | (with_reducible refine below_drewN ?_ _) | (with_reducible refine Below.setCell ?_ ?_ _) | refine below_then ?_ (by with_reducible assumption))) <;> (first | omega | (simp; done) | (simp; omega)))))) (HEV.out.then (by exact (by first | (with_reducible exact Below.refl _ _) | ((repeat' (first | (with_reducible exact Below.refl _ _) | (with_reducible assumption) | (with_reducible refine below_alloc ?_ _) | (with_reducible refine Below.drew ?_) | (with_reducible refine below_drewN ?_ _) | (with_reducible refine Below.setCell ?_ ?_ _) | refine below_then ?_ (by with_reducible assumption))) <;> (first | omega | (simp; done) | (simp; omega))))))).mono ?_); rintro e w10 ⟨rfl, hb⟩; have kF10 := blk_then kF9 hb; obtain ⟨f0', f1'⟩ := cells2 kF10; obtain ⟨hc, hf⟩ := bcell hb; have hz := hb.size; (try simp only [World.size_alloc, World.size_setCell, World.size_drew] at hz); obtain ⟨hlt, hle, hn1, hn2, hn3, hn4⟩ := bsize hb; (try simp only [World.size_alloc, World.size_setCell, World.size_drew] at hlt hle hn1 hn2 hn3 hn4); (try have hr0 : w.heap.size < w10.heap.size := by omega); (try have hr1 : w.heap.size + 1 < w10.heap.size := by omega); (try have hs0 : wS.heap.size < w10.heap.size := by omega); (try have hs1 : wG.heap.size < w10.heap.size := by omega)))
            | (go_at_call 40; ((with_reducible refine (Dd2.out _).mono ?_); rintro e w11 ⟨rfl, hb⟩; obtain ⟨hc, hf⟩ := bcell hb; have hz := hb.size; (try simp only [World.size_alloc, World.size_setCell, World.size_drew] at hz); obtain ⟨hlt, hle, hn1, hn2, hn3, hn4⟩ := bsize hb; (try simp only [World.size_alloc, World.size_setCell, World.size_drew] at hlt hle hn1 hn2 hn3 hn4); (try have hr0 : w.heap.size < w11.heap.size := by omega); (try have hr1 : w.heap.size + 1 < w11.heap.size := by omega); (try have hs0 : wS.heap.size < w11.heap.size := by omega); (try have hs1 : wG.heap.size < w11.heap.size := by omega)))
            | (go_at_call 40; ((with_reducible refine (Dd1.out _).mono ?_); rintro e w12 ⟨rfl, hb⟩; obtain ⟨hc, hf⟩ := bcell hb; have hz := hb.size; (try simp only [World.size_alloc, World.size_setCell, World.size_drew] at hz); obtain ⟨hlt, hle, hn1, hn2, hn3, hn4⟩ := bsize hb; (try simp only [World.size_alloc, World.size_setCell, World.size_drew] at hlt hle hn1 hn2 hn3 hn4); (try have hr0 : w.heap.size < w12.heap.size := by omega); (try have hr1 : w.heap.size + 1 < w12.heap.size := by omega); (try have hs0 : wS.heap.size < w12.heap.size := by omega); (try have hs1 : wG.heap.size < w12.heap.size := by omega))))
          all_goals exact bodyPost_ret (results_tmp Tryd.results6 _ _ _) rfl ⟨rfl, by have := HBV.out; exact (by first | (with_reducible exact Below.refl _ _) | ((repeat' (first | (with_reducible exact Below.refl _ _) | (with_reducible assumption) | (with_reducible refine below_alloc ?_ _) | (with_reducible refine Below.drew ?_) | (with_reducible refine below_drewN ?_ _) | (with_reducible refine Below.setCell ?_ ?_ _) | refine below_then ?_ (by with_reducible assumption))) <;> (first | omega | (simp; done) | (simp; omega))))⟩
          --END
      · have hd := HDR.out
        have hd2 : dateR r = (3, 0, 0, 0, 0, 0, 0) := if_neg hr
        rw [hd2] at hd
        obtain rfl : (3 : Int) = r0 := (Prod.mk.inj hd).1
        go_wp2
        exact bodyPost_ret (results_tmp Tryd.results6 _ _ _) rfl ⟨rfl, HBV.out⟩
  · go_enter Tryd.func6, Tryd.ntmps6
    go_wp2_with (go_at_call 10; ((with_reducible refine (lwBig _ _ _ _).mono ?_); rintro e w' ⟨rfl, rfl⟩))
    all_goals (go_ret; exact ⟨by first | rfl | (simp [*]; done) | (simp [*]; omega), by first | (with_reducible rfl) | exact (by first | (with_reducible exact Below.refl _ _) | ((repeat' (first | (with_reducible exact Below.refl _ _) | (with_reducible assumption) | (with_reducible refine below_alloc ?_ _) | (with_reducible refine Below.drew ?_) | (with_reducible refine below_drewN ?_ _) | (with_reducible refine Below.setCell ?_ ?_ _) | refine below_then ?_ (by with_reducible assumption))) <;> (first | omega | (simp; done) | (simp; omega))))⟩)
end Go.Proofs.YtklnccoknldkcaaDoor
