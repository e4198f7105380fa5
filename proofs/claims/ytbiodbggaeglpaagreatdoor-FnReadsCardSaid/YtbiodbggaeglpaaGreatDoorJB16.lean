/- Joined: ReadI. -/
import Derived.Test.YtbiodbggaeglpaaGreatDoorJB12
/- The head lines of a text: the program's own text, and the law. -/
namespace Go.Proofs.YtbiodbggaeglpaaGreatDoor
open Go.RowKit
set_option linter.unusedSimpArgs false
set_option linter.unusedVariables false

theorem hasSuffix_iff (l p : List UInt8) : Lib.hasSuffix l p = true ↔ p <:+ l := by unfold Lib.hasSuffix; exact List.isSuffixOf_iff_suffix
theorem str_eq_nil (t : ByteArray) : (t.toList == ([] : List UInt8)) = decide (t.data.toList = []) := by
  rw [ByteArray.toList_eq, Bool.eq_iff_iff, beq_iff_eq, decide_eq_true_iff]
set_option maxRecDepth 100000 in
set_option maxHeartbeats 6400000 in
theorem impl_ReadHeaders (t : ByteArray) (ht : t.size ≤ 9223372036854775807) (w : World) (hm : MaxL w) : Calls Tryz.prog 31 #[.string t] w fun e w' => ∃ (a' : Option Addr) (n' c' : Nat), e = .returned (.agg #[.int .i64 (readR t).1, .slice a' n' c']) ∧ (((readR t).2).length = n' ∧ SlAt w' w.heap.size w'.heap.size a' n' (hV ((readR t).2))) ∧ Below w.heap.size w w' := by
  by_cases h6 : 6000 < t.size
  · have e : readR t = (2, []) := by rw [readR, if_pos h6]
    rw [e]
    clear e
    go_enter Tryz.func31, Tryz.ntmps31
    go_wp2
    exact bodyPost_ret (res_row Tryz.results31 _ _ rfl (blk_cast (by repeat' (first | (with_reducible assumption) | (with_reducible exact blk_new _ _) | (with_reducible apply blk_set) | (with_reducible refine blk_alloc ?_ _) | (with_reducible refine blk_drew ?_) | refine blk_then ?_ (by with_reducible assumption))) (by first | (simp; done) | rfl)) Tryz.underlying56 rfl _ (by kernel_rfl) rfl) rfl ⟨none, 0, 0, rfl, hdR_none _ _ _, by exact (by first | (with_reducible exact Below.refl _ _) | ((repeat' (first | (with_reducible exact Below.refl _ _) | (with_reducible assumption) | (with_reducible refine below_alloc ?_ _) | (with_reducible refine Below.drew ?_) | (with_reducible refine below_drewN ?_ _) | (with_reducible refine Below.setCell ?_ ?_ _) | refine below_then ?_ (by with_reducible assumption))) <;> (first | omega | (simp; done) | (simp; omega))))⟩
  · rw [readR_L h6]
    have hN := linesB_len t
    have hM := Lib.hid (linesB_mem t)
    by_cases he : (linesE t).isEmpty = true
    · have hsuf : (!(t.toList == ([] : List UInt8)) && !(Lib.hasSuffix t.data.toList [13, 10])) = false := by
        have := (linesE_nil t).1 (List.isEmpty_iff.1 he)
        rw [str_eq_nil]
        rcases this with h | h
        · simp [h]
        · rw [(hasSuffix_iff _ _).2 h]; simp
      have hsp := fun W hm => strings_Split t ⟨#[13, 10]⟩ (by omega) (by decide) W hm (linesB t ++ [ba (linesE t)]) (linesB_split t)
      have Hsp := Lib.hid hsp
      have Hbad := Lib.hid (fun h2 => readL_bad he h2)
      have Hfault := Lib.hid (fun l h2 h3 => readL_fault (l := l) he h2 h3)
      have Hok := Lib.hid (fun l h2 h3 => readL_ok (l := l) he h2 h3)
      clear he hsp
      by_cases h0 : t.data.toList = []
      · have h1 : (t.toList == ([] : List UInt8)) = true := by rw [str_eq_nil]; simp [h0]
        clear hsuf h0
        go_enter Tryz.func31, Tryz.ntmps31
        go_upto_region 8 with (go_at_call 32; ((with_reducible refine (Hsp.out _ (MaxL.then hm (by exact (by first | (with_reducible exact Below.refl _ _) | ((repeat' (first | (with_reducible exact Below.refl _ _) | (with_reducible assumption) | (with_reducible refine below_alloc ?_ _) | (with_reducible refine Below.drew ?_) | (with_reducible refine below_drewN ?_ _) | (with_reducible refine Below.setCell ?_ ?_ _) | refine below_then ?_ (by with_reducible assumption))) <;> (first | omega | (simp; done) | (simp; omega))))))).mono ?_); rintro e w1 ⟨rfl, hrowl, hb, hlt1⟩; obtain ⟨hc, hf⟩ := bcell hb; have hz := hb.size; (try simp only [World.size_alloc, World.size_setCell, World.size_drew] at hz); obtain ⟨hlt, hle, hn1, hn2, hn3, hn4⟩ := bsize hb; (try simp only [World.size_alloc, World.size_setCell, World.size_drew] at hlt hle hn1 hn2 hn3 hn4); (try have hr0 : w.heap.size < w1.heap.size := by omega); (try have hr1 : w.heap.size + 1 < w1.heap.size := by omega); (try have hs0 : wS.heap.size < w1.heap.size := by omega); (try have hs1 : wG.heap.size < w1.heap.size := by omega)))
        have hrc : w1.heap[w.heap.size + 1 + 1]? = some (.cells (strV (linesB t ++ [ba (linesE t)])).toArray 9 (0, 0)) := by simpa using hrowl
        clear hrowl
        go_loopw [3, 34] (fun v i wr => ∃ (k g cap : Nat) (r : List Hd), k ≤ (linesB t).length ∧ i = .int .i64 (k : Int) ∧ ((linesB t).take k).mapM hdOf = some r ∧ r.length = k ∧ v = .slice (some ⟨g, 0, none⟩) k cap ∧ wr.ownsRow ((w.alloc (.cells #[.int .i64 0, .slice none 0 0] 56))).heap.size 77 2 v k (hV r) ∧ Below ((w.alloc (.cells #[.int .i64 0, .slice none 0 0] 56))).heap.size ((w.alloc (.cells #[.int .i64 0, .slice none 0 0] 56))) wr ∧ wr.heap[w.heap.size + 1 + 1]? = some (.cells (strV (linesB t ++ [ba (linesE t)])).toArray 9 (0, 0))) (fun _ i _ => (linesB t).length - (intOf i).toNat)
        case atStart => exact ⟨0, _, _, [], Nat.zero_le _, rfl, rfl, rfl, rfl, own_below (by simpa [hV, cellsOf] using World.ownsRow_lit (size := 2) (e := 77) ((w.alloc (.cells #[.int .i64 0, .slice none 0 0] 56))) #[] 0 (Nat.le_refl _) (by unfold maxLen; omega) rfl) hb (Nat.le_refl _), by exact (by first | (with_reducible exact Below.refl _ _) | ((repeat' (first | (with_reducible exact Below.refl _ _) | (with_reducible assumption) | (with_reducible refine below_alloc ?_ _) | (with_reducible refine Below.drew ?_) | (with_reducible refine below_drewN ?_ _) | (with_reducible refine Below.setCell ?_ ?_ _) | refine below_then ?_ (by with_reducible assumption))) <;> (first | omega | (simp; done) | (simp; omega)))), hrc⟩
        case round =>
          obtain ⟨k, g, cap, r, hk, rfl, hr, hrl, rfl, hown, hb, hrc⟩ := hrel
          have hne := own_ne hown hrc (by decide)
          have hrow := row_of_blk hrc
          have hglt := hrow.lt
          have Hr := Lib.hid hr
          have Hrl := Lib.hid hrl
          have Hrc := Lib.hid hrc
          obtain ⟨hc, hf⟩ := bcell hb
          have hz := hb.size
          simp only [World.size_alloc] at hz
          have hq0 : w.heap.size < wr.heap.size := by omega
          clear hr hrl hrc
          by_cases hlt : k < (linesB t).length
          · have hcell := hrow.cell k _ (strV_at (linesB t ++ [ba (linesE t)]) k (by rw [List.length_append]; omega))
            rw [List.getElem_append_left hlt] at hcell
            have hsz := hM.out _ (List.getElem_mem hlt)
            generalize hs : (linesB t)[k] = s at *
            have Hs := Lib.hid hs
            clear hs hrow
            have hcut := fun W hm => strings_Cut s ⟨#[58]⟩ (by omega) W hm
            by_cases hx : (Lib.cut s.data.toList [58]).2.2 = true
            · have hxx : hdOf s = some (ba (Lib.cut s.data.toList [58]).1, trimT (ba (Lib.cut s.data.toList [58]).2.1)) := by rw [hdOf, if_pos hx]
              have hxs := hdOf_small hxx
              have Hx := Lib.hid (readAll_succ Hr.out hlt (by rw [Hs.out]; exact hxx))
              have hsz2 : (ba (Lib.cut s.data.toList [58]).2.1).size ≤ 6000 := by
                unfold Lib.cut at hx ⊢
                split
                · rw [ba_size, List.length_drop, Array.length_toList]; exact Nat.le_trans (Nat.sub_le _ _) (by show s.size ≤ _; omega)
                · rename_i h1; rw [if_neg h1] at hx; cases hx
              have hcut2 : ∀ W, MaxL W → Calls Tryz.prog 29 #[.string s, .string ⟨#[58]⟩] W fun e w' => e = .returned (.tuple #[.string (ba (Lib.cut s.data.toList [58]).1), .string (ba (Lib.cut s.data.toList [58]).2.1), .bool true]) ∧ Below (W).heap.size W w' := fun W hm => by
                have := hcut W hm
                rw [show (⟨#[58]⟩ : ByteArray).data.toList = [58] from rfl, hx] at this
                exact this
              have Hcut := Lib.hid hcut2
              generalize ba (Lib.cut s.data.toList [58]).1 = x1 at *
              generalize ba (Lib.cut s.data.toList [58]).2.1 = x2 at *
              clear hcut hcut2 hxx hx hxs
              go_wp2_with (first
                | (go_at_call 29; ((with_reducible refine (Hcut.out _ (MaxL.then hm (by exact (by first | (with_reducible exact Below.refl _ _) | ((repeat' (first | (with_reducible exact Below.refl _ _) | (with_reducible assumption) | (with_reducible refine below_alloc ?_ _) | (with_reducible refine Below.drew ?_) | (with_reducible refine below_drewN ?_ _) | (with_reducible refine Below.setCell ?_ ?_ _) | refine below_then ?_ (by with_reducible assumption))) <;> (first | omega | (simp; done) | (simp; omega))))))).mono ?_); rintro e w' ⟨rfl, hb⟩; obtain ⟨hc, hf⟩ := bcell hb; have hz := hb.size; (try simp only [World.size_alloc, World.size_setCell, World.size_drew] at hz); obtain ⟨hlt, hle, hn1, hn2, hn3, hn4⟩ := bsize hb; (try simp only [World.size_alloc, World.size_setCell, World.size_drew] at hlt hle hn1 hn2 hn3 hn4); (try have hr0 : w.heap.size < w'.heap.size := by omega); (try have hr1 : w.heap.size + 1 < w'.heap.size := by omega); (try have hs0 : wS.heap.size < w'.heap.size := by omega); (try have hs1 : wG.heap.size < w'.heap.size := by omega)))
                | (go_at_call 68; ((with_reducible refine (strings_Trim x2 _ (by omega)).mono ?_); rintro e w' ⟨rfl, hb⟩; have hblk := blk_then (blk_then Hrc.out (by with_reducible assumption)) hb; obtain ⟨hc, hf⟩ := bcell hb; have hz := hb.size; (try simp only [World.size_alloc, World.size_setCell, World.size_drew] at hz); obtain ⟨hlt, hle, hn1, hn2, hn3, hn4⟩ := bsize hb; (try simp only [World.size_alloc, World.size_setCell, World.size_drew] at hlt hle hn1 hn2 hn3 hn4); (try have hr0 : w.heap.size < w'.heap.size := by omega); (try have hr1 : w.heap.size + 1 < w'.heap.size := by omega); (try have hs0 : wS.heap.size < w'.heap.size := by omega); (try have hs1 : wG.heap.size < w'.heap.size := by omega)))
                | (at_builtin; refine app1 (w0 := (w.alloc (.cells #[.int .i64 0, .slice none 0 0] 56))) (news := [.string x1, .string (trimT x2)]) rfl _ _ 25 rfl Tryz.underlying25 infoHdr rfl (by decide) (own_below hown (by exact (by first | (with_reducible exact Below.refl _ _) | ((repeat' (first | (with_reducible exact Below.refl _ _) | (with_reducible assumption) | (with_reducible refine below_alloc ?_ _) | (with_reducible refine Below.drew ?_) | (with_reducible refine below_drewN ?_ _) | (with_reducible refine Below.setCell ?_ ?_ _) | refine below_then ?_ (by with_reducible assumption))) <;> (first | omega | (simp; done) | (simp; omega))))) (Nat.le_refl _)) (by exact (by first | (with_reducible exact Below.refl _ _) | ((repeat' (first | (with_reducible exact Below.refl _ _) | (with_reducible assumption) | (with_reducible refine below_alloc ?_ _) | (with_reducible refine Below.drew ?_) | (with_reducible refine below_drewN ?_ _) | (with_reducible refine Below.setCell ?_ ?_ _) | refine below_then ?_ (by with_reducible assumption))) <;> (first | omega | (simp; done) | (simp; omega))))) rfl rfl rfl (by intro u hu; simp at hu; rcases hu with rfl | rfl <;> rfl) (by omega) (by unfold maxLen; omega) ?_; intro v2 w2 hown1 hb1 hkk _; have hblk2 := own_blk hblk hkk hne; obtain ⟨g1, cap1, rfl, hg1, hrow1⟩ := own_shape hown1))
              go_roundw
              case rel => exact ⟨k + 1, g1, cap1, r ++ [(x1, trimT x2)], by omega, by go_num, Hx.out, by rw [List.length_append, List.length_singleton, Hrl.out], rfl, own_cast hown1 rfl (by rw [hV_snoc2]), hb1, hblk2⟩
              case measure => simp [intOf]; omega
            · have hnone : hdOf s = none := by rw [hdOf, if_neg hx]
              have Hb := Lib.hid (Hbad.out (readAll_none hlt (by rw [Hs.out]; exact hnone) Hr.out))
              simp only [Bool.not_eq_true] at hx
              have hcut2 : ∀ W, MaxL W → Calls Tryz.prog 29 #[.string s, .string ⟨#[58]⟩] W fun e w' => e = .returned (.tuple #[.string (ba (Lib.cut s.data.toList [58]).1), .string (ba (Lib.cut s.data.toList [58]).2.1), .bool false]) ∧ Below (W).heap.size W w' := fun W hm => by
                have := hcut W hm
                rw [show (⟨#[58]⟩ : ByteArray).data.toList = [58] from rfl, hx] at this
                exact this
              have Hcut := Lib.hid hcut2
              clear hcut hcut2 hnone hx
              go_wp2_with (go_at_call 29; ((with_reducible refine (Hcut.out _ (MaxL.then hm (by exact (by first | (with_reducible exact Below.refl _ _) | ((repeat' (first | (with_reducible exact Below.refl _ _) | (with_reducible assumption) | (with_reducible refine below_alloc ?_ _) | (with_reducible refine Below.drew ?_) | (with_reducible refine below_drewN ?_ _) | (with_reducible refine Below.setCell ?_ ?_ _) | refine below_then ?_ (by with_reducible assumption))) <;> (first | omega | (simp; done) | (simp; omega))))))).mono ?_); rintro e w' ⟨rfl, hb⟩; obtain ⟨hc, hf⟩ := bcell hb; have hz := hb.size; (try simp only [World.size_alloc, World.size_setCell, World.size_drew] at hz); obtain ⟨hlt, hle, hn1, hn2, hn3, hn4⟩ := bsize hb; (try simp only [World.size_alloc, World.size_setCell, World.size_drew] at hlt hle hn1 hn2 hn3 hn4); (try have hr0 : w.heap.size < w'.heap.size := by omega); (try have hr1 : w.heap.size + 1 < w'.heap.size := by omega); (try have hs0 : wS.heap.size < w'.heap.size := by omega); (try have hs1 : wG.heap.size < w'.heap.size := by omega)))
              exact bodyPost_ret (res_row Tryz.results31 _ _ rfl (blk_cast (by repeat' (first | (with_reducible assumption) | (with_reducible exact blk_new _ _) | (with_reducible apply blk_set) | (with_reducible refine blk_alloc ?_ _) | (with_reducible refine blk_drew ?_) | refine blk_then ?_ (by with_reducible assumption))) (by first | (simp; done) | rfl)) Tryz.underlying56 rfl _ (by kernel_rfl) rfl) rfl (by rw [Hb.out]; exact ⟨none, 0, 0, rfl, hdR_none _ _ _, by exact (by first | (with_reducible exact Below.refl _ _) | ((repeat' (first | (with_reducible exact Below.refl _ _) | (with_reducible assumption) | (with_reducible refine below_alloc ?_ _) | (with_reducible refine Below.drew ?_) | (with_reducible refine below_drewN ?_ _) | (with_reducible refine Below.setCell ?_ ?_ _) | refine below_then ?_ (by with_reducible assumption))) <;> (first | omega | (simp; done) | (simp; omega))))⟩)
          · obtain rfl : k = (linesB t).length := by omega
            have et : (linesB t).take (linesB t).length = linesB t := List.take_length
            have hr := Hr.out
            rw [et] at hr
            have hsm := read_small hr
            have hcon := fun W hr0 => impl_HeadersFault (some ⟨g, 0, none⟩) (linesB t).length cap r Hrl.out W hr0 (by omega) (fun h hh => by have := hsm h hh; omega)
            obtain ⟨ow1, ow2, hrowO⟩ := own_at hown
            simp only [World.size_alloc] at ow1
            clear et hsm hrow
            by_cases hz0 : hdsFault r = 0
            · have E := Lib.hid (Hok.out r hr hz0)
              rw [hz0] at hcon
              have Hcon := Lib.hid hcon
              clear hcon hr hz0
              go_wp2_with (go_at_call 54; ((with_reducible refine (Hcon.out _ (by first | (with_reducible assumption) | exact RowAt.rd (by repeat' (first | (with_reducible assumption) | (with_reducible refine RowAt.alloc ?_ _) | (with_reducible refine RowAt.drew ?_) | (with_reducible refine RowAt.other ?_ _ _ (by first | omega | (simp; done) | (simp; omega))) | refine RowAt.then ?_ (by with_reducible assumption))) | exact Rd.below (by with_reducible assumption) (by first | (with_reducible exact Below.refl _ _) | ((repeat' (first | (with_reducible exact Below.refl _ _) | (with_reducible assumption) | (with_reducible refine below_alloc ?_ _) | (with_reducible refine Below.drew ?_) | (with_reducible refine below_drewN ?_ _) | (with_reducible refine Below.setCell ?_ ?_ _) | refine below_then ?_ (by with_reducible assumption))) <;> (first | omega | (simp; done) | (simp; omega)))))).mono ?_); rintro e w' ⟨rfl, hb⟩; obtain ⟨hc, hf⟩ := bcell hb; have hz := hb.size; (try simp only [World.size_alloc, World.size_setCell, World.size_drew] at hz); obtain ⟨hlt, hle, hn1, hn2, hn3, hn4⟩ := bsize hb; (try simp only [World.size_alloc, World.size_setCell, World.size_drew] at hlt hle hn1 hn2 hn3 hn4); (try have hr0 : w.heap.size < w'.heap.size := by omega); (try have hr1 : w.heap.size + 1 < w'.heap.size := by omega); (try have hs0 : wS.heap.size < w'.heap.size := by omega); (try have hs1 : wG.heap.size < w'.heap.size := by omega)))
              exact bodyPost_ret (res_row Tryz.results31 _ _ rfl (blk_cast (by repeat' (first | (with_reducible assumption) | (with_reducible exact blk_new _ _) | (with_reducible apply blk_set) | (with_reducible refine blk_alloc ?_ _) | (with_reducible refine blk_drew ?_) | refine blk_then ?_ (by with_reducible assumption))) (by first | (simp; done) | rfl)) Tryz.underlying56 rfl _ (by kernel_rfl) rfl) rfl (by rw [E.out]; exact ⟨_, _, _, rfl, hdR_some (by exact (by repeat' (first | (with_reducible assumption) | (with_reducible refine RowAt.alloc ?_ _) | (with_reducible refine RowAt.drew ?_) | (with_reducible refine RowAt.other ?_ _ _ (by first | omega | (simp; done) | (simp; omega))) | refine RowAt.then ?_ (by with_reducible assumption)))) (by omega) (by first | omega | (simp; omega)) Hrl.out, by exact (by first | (with_reducible exact Below.refl _ _) | ((repeat' (first | (with_reducible exact Below.refl _ _) | (with_reducible assumption) | (with_reducible refine below_alloc ?_ _) | (with_reducible refine Below.drew ?_) | (with_reducible refine below_drewN ?_ _) | (with_reducible refine Below.setCell ?_ ?_ _) | refine below_then ?_ (by with_reducible assumption))) <;> (first | omega | (simp; done) | (simp; omega))))⟩)
            · have E := Lib.hid (Hfault.out r hr hz0)
              have hne0 : (hdsFault r != 0) = true := by simpa using hz0
              have Hcon := Lib.hid hcon
              clear hcon hr hz0
              go_wp2_with (go_at_call 54; ((with_reducible refine (Hcon.out _ (by first | (with_reducible assumption) | exact RowAt.rd (by repeat' (first | (with_reducible assumption) | (with_reducible refine RowAt.alloc ?_ _) | (with_reducible refine RowAt.drew ?_) | (with_reducible refine RowAt.other ?_ _ _ (by first | omega | (simp; done) | (simp; omega))) | refine RowAt.then ?_ (by with_reducible assumption))) | exact Rd.below (by with_reducible assumption) (by first | (with_reducible exact Below.refl _ _) | ((repeat' (first | (with_reducible exact Below.refl _ _) | (with_reducible assumption) | (with_reducible refine below_alloc ?_ _) | (with_reducible refine Below.drew ?_) | (with_reducible refine below_drewN ?_ _) | (with_reducible refine Below.setCell ?_ ?_ _) | refine below_then ?_ (by with_reducible assumption))) <;> (first | omega | (simp; done) | (simp; omega)))))).mono ?_); rintro e w' ⟨rfl, hb⟩; obtain ⟨hc, hf⟩ := bcell hb; have hz := hb.size; (try simp only [World.size_alloc, World.size_setCell, World.size_drew] at hz); obtain ⟨hlt, hle, hn1, hn2, hn3, hn4⟩ := bsize hb; (try simp only [World.size_alloc, World.size_setCell, World.size_drew] at hlt hle hn1 hn2 hn3 hn4); (try have hr0 : w.heap.size < w'.heap.size := by omega); (try have hr1 : w.heap.size + 1 < w'.heap.size := by omega); (try have hs0 : wS.heap.size < w'.heap.size := by omega); (try have hs1 : wG.heap.size < w'.heap.size := by omega)))
              exact bodyPost_ret (res_row Tryz.results31 _ _ rfl (blk_cast (by repeat' (first | (with_reducible assumption) | (with_reducible exact blk_new _ _) | (with_reducible apply blk_set) | (with_reducible refine blk_alloc ?_ _) | (with_reducible refine blk_drew ?_) | refine blk_then ?_ (by with_reducible assumption))) (by first | (simp; done) | rfl)) Tryz.underlying56 rfl _ (by kernel_rfl) rfl) rfl (by rw [E.out]; exact ⟨none, 0, 0, rfl, hdR_none _ _ _, by exact (by first | (with_reducible exact Below.refl _ _) | ((repeat' (first | (with_reducible exact Below.refl _ _) | (with_reducible assumption) | (with_reducible refine below_alloc ?_ _) | (with_reducible refine Below.drew ?_) | (with_reducible refine below_drewN ?_ _) | (with_reducible refine Below.setCell ?_ ?_ _) | refine below_then ?_ (by with_reducible assumption))) <;> (first | omega | (simp; done) | (simp; omega))))⟩)
      · have h1 : (t.toList == ([] : List UInt8)) = false := by rw [str_eq_nil]; simp [h0]
        have h2 : Lib.hasSuffix t.data.toList [13, 10] = true := by rw [h1] at hsuf; simpa using hsuf
        clear hsuf h0
        go_enter Tryz.func31, Tryz.ntmps31
        go_upto_region 8 with (first
          | (go_at_call 30; ((with_reducible refine (Tryz.strings_HasSuffix t ⟨#[13, 10]⟩ _ ht).mono ?_); rintro e w' ⟨rfl, rfl⟩))
          | (go_at_call 32; ((with_reducible refine (Hsp.out _ (MaxL.then hm (by exact (by first | (with_reducible exact Below.refl _ _) | ((repeat' (first | (with_reducible exact Below.refl _ _) | (with_reducible assumption) | (with_reducible refine below_alloc ?_ _) | (with_reducible refine Below.drew ?_) | (with_reducible refine below_drewN ?_ _) | (with_reducible refine Below.setCell ?_ ?_ _) | refine below_then ?_ (by with_reducible assumption))) <;> (first | omega | (simp; done) | (simp; omega))))))).mono ?_); rintro e w1 ⟨rfl, hrowl, hb, hlt1⟩; obtain ⟨hc, hf⟩ := bcell hb; have hz := hb.size; (try simp only [World.size_alloc, World.size_setCell, World.size_drew] at hz); obtain ⟨hlt, hle, hn1, hn2, hn3, hn4⟩ := bsize hb; (try simp only [World.size_alloc, World.size_setCell, World.size_drew] at hlt hle hn1 hn2 hn3 hn4); (try have hr0 : w.heap.size < w1.heap.size := by omega); (try have hr1 : w.heap.size + 1 < w1.heap.size := by omega); (try have hs0 : wS.heap.size < w1.heap.size := by omega); (try have hs1 : wG.heap.size < w1.heap.size := by omega))))
        have hrc : w1.heap[w.heap.size + 1 + 1]? = some (.cells (strV (linesB t ++ [ba (linesE t)])).toArray 9 (0, 0)) := by simpa using hrowl
        clear hrowl
        go_loopw [3, 34] (fun v i wr => ∃ (k g cap : Nat) (r : List Hd), k ≤ (linesB t).length ∧ i = .int .i64 (k : Int) ∧ ((linesB t).take k).mapM hdOf = some r ∧ r.length = k ∧ v = .slice (some ⟨g, 0, none⟩) k cap ∧ wr.ownsRow ((w.alloc (.cells #[.int .i64 0, .slice none 0 0] 56))).heap.size 77 2 v k (hV r) ∧ Below ((w.alloc (.cells #[.int .i64 0, .slice none 0 0] 56))).heap.size ((w.alloc (.cells #[.int .i64 0, .slice none 0 0] 56))) wr ∧ wr.heap[w.heap.size + 1 + 1]? = some (.cells (strV (linesB t ++ [ba (linesE t)])).toArray 9 (0, 0))) (fun _ i _ => (linesB t).length - (intOf i).toNat)
        case atStart => exact ⟨0, _, _, [], Nat.zero_le _, rfl, rfl, rfl, rfl, own_below (by simpa [hV, cellsOf] using World.ownsRow_lit (size := 2) (e := 77) ((w.alloc (.cells #[.int .i64 0, .slice none 0 0] 56))) #[] 0 (Nat.le_refl _) (by unfold maxLen; omega) rfl) hb (Nat.le_refl _), by exact (by first | (with_reducible exact Below.refl _ _) | ((repeat' (first | (with_reducible exact Below.refl _ _) | (with_reducible assumption) | (with_reducible refine below_alloc ?_ _) | (with_reducible refine Below.drew ?_) | (with_reducible refine below_drewN ?_ _) | (with_reducible refine Below.setCell ?_ ?_ _) | refine below_then ?_ (by with_reducible assumption))) <;> (first | omega | (simp; done) | (simp; omega)))), hrc⟩
        case round =>
          obtain ⟨k, g, cap, r, hk, rfl, hr, hrl, rfl, hown, hb, hrc⟩ := hrel
          have hne := own_ne hown hrc (by decide)
          have hrow := row_of_blk hrc
          have hglt := hrow.lt
          have Hr := Lib.hid hr
          have Hrl := Lib.hid hrl
          have Hrc := Lib.hid hrc
          obtain ⟨hc, hf⟩ := bcell hb
          have hz := hb.size
          simp only [World.size_alloc] at hz
          have hq0 : w.heap.size < wr.heap.size := by omega
          clear hr hrl hrc
          by_cases hlt : k < (linesB t).length
          · have hcell := hrow.cell k _ (strV_at (linesB t ++ [ba (linesE t)]) k (by rw [List.length_append]; omega))
            rw [List.getElem_append_left hlt] at hcell
            have hsz := hM.out _ (List.getElem_mem hlt)
            generalize hs : (linesB t)[k] = s at *
            have Hs := Lib.hid hs
            clear hs hrow
            have hcut := fun W hm => strings_Cut s ⟨#[58]⟩ (by omega) W hm
            by_cases hx : (Lib.cut s.data.toList [58]).2.2 = true
            · have hxx : hdOf s = some (ba (Lib.cut s.data.toList [58]).1, trimT (ba (Lib.cut s.data.toList [58]).2.1)) := by rw [hdOf, if_pos hx]
              have hxs := hdOf_small hxx
              have Hx := Lib.hid (readAll_succ Hr.out hlt (by rw [Hs.out]; exact hxx))
              have hsz2 : (ba (Lib.cut s.data.toList [58]).2.1).size ≤ 6000 := by
                unfold Lib.cut at hx ⊢
                split
                · rw [ba_size, List.length_drop, Array.length_toList]; exact Nat.le_trans (Nat.sub_le _ _) (by show s.size ≤ _; omega)
                · rename_i h1; rw [if_neg h1] at hx; cases hx
              have hcut2 : ∀ W, MaxL W → Calls Tryz.prog 29 #[.string s, .string ⟨#[58]⟩] W fun e w' => e = .returned (.tuple #[.string (ba (Lib.cut s.data.toList [58]).1), .string (ba (Lib.cut s.data.toList [58]).2.1), .bool true]) ∧ Below (W).heap.size W w' := fun W hm => by
                have := hcut W hm
                rw [show (⟨#[58]⟩ : ByteArray).data.toList = [58] from rfl, hx] at this
                exact this
              have Hcut := Lib.hid hcut2
              generalize ba (Lib.cut s.data.toList [58]).1 = x1 at *
              generalize ba (Lib.cut s.data.toList [58]).2.1 = x2 at *
              clear hcut hcut2 hxx hx hxs
              go_wp2_with (first
                | (go_at_call 29; ((with_reducible refine (Hcut.out _ (MaxL.then hm (by exact (by first | (with_reducible exact Below.refl _ _) | ((repeat' (first | (with_reducible exact Below.refl _ _) | (with_reducible assumption) | (with_reducible refine below_alloc ?_ _) | (with_reducible refine Below.drew ?_) | (with_reducible refine below_drewN ?_ _) | (with_reducible refine Below.setCell ?_ ?_ _) | refine below_then ?_ (by with_reducible assumption))) <;> (first | omega | (simp; done) | (simp; omega))))))).mono ?_); rintro e w' ⟨rfl, hb⟩; obtain ⟨hc, hf⟩ := bcell hb; have hz := hb.size; (try simp only [World.size_alloc, World.size_setCell, World.size_drew] at hz); obtain ⟨hlt, hle, hn1, hn2, hn3, hn4⟩ := bsize hb; (try simp only [World.size_alloc, World.size_setCell, World.size_drew] at hlt hle hn1 hn2 hn3 hn4); (try have hr0 : w.heap.size < w'.heap.size := by omega); (try have hr1 : w.heap.size + 1 < w'.heap.size := by omega); (try have hs0 : wS.heap.size < w'.heap.size := by omega); (try have hs1 : wG.heap.size < w'.heap.size := by omega)))
                | (go_at_call 68; ((with_reducible refine (strings_Trim x2 _ (by omega)).mono ?_); rintro e w' ⟨rfl, hb⟩; have hblk := blk_then (blk_then Hrc.out (by with_reducible assumption)) hb; obtain ⟨hc, hf⟩ := bcell hb; have hz := hb.size; (try simp only [World.size_alloc, World.size_setCell, World.size_drew] at hz); obtain ⟨hlt, hle, hn1, hn2, hn3, hn4⟩ := bsize hb; (try simp only [World.size_alloc, World.size_setCell, World.size_drew] at hlt hle hn1 hn2 hn3 hn4); (try have hr0 : w.heap.size < w'.heap.size := by omega); (try have hr1 : w.heap.size + 1 < w'.heap.size := by omega); (try have hs0 : wS.heap.size < w'.heap.size := by omega); (try have hs1 : wG.heap.size < w'.heap.size := by omega)))
                | (at_builtin; refine app1 (w0 := (w.alloc (.cells #[.int .i64 0, .slice none 0 0] 56))) (news := [.string x1, .string (trimT x2)]) rfl _ _ 25 rfl Tryz.underlying25 infoHdr rfl (by decide) (own_below hown (by exact (by first | (with_reducible exact Below.refl _ _) | ((repeat' (first | (with_reducible exact Below.refl _ _) | (with_reducible assumption) | (with_reducible refine below_alloc ?_ _) | (with_reducible refine Below.drew ?_) | (with_reducible refine below_drewN ?_ _) | (with_reducible refine Below.setCell ?_ ?_ _) | refine below_then ?_ (by with_reducible assumption))) <;> (first | omega | (simp; done) | (simp; omega))))) (Nat.le_refl _)) (by exact (by first | (with_reducible exact Below.refl _ _) | ((repeat' (first | (with_reducible exact Below.refl _ _) | (with_reducible assumption) | (with_reducible refine below_alloc ?_ _) | (with_reducible refine Below.drew ?_) | (with_reducible refine below_drewN ?_ _) | (with_reducible refine Below.setCell ?_ ?_ _) | refine below_then ?_ (by with_reducible assumption))) <;> (first | omega | (simp; done) | (simp; omega))))) rfl rfl rfl (by intro u hu; simp at hu; rcases hu with rfl | rfl <;> rfl) (by omega) (by unfold maxLen; omega) ?_; intro v2 w2 hown1 hb1 hkk _; have hblk2 := own_blk hblk hkk hne; obtain ⟨g1, cap1, rfl, hg1, hrow1⟩ := own_shape hown1))
              go_roundw
              case rel => exact ⟨k + 1, g1, cap1, r ++ [(x1, trimT x2)], by omega, by go_num, Hx.out, by rw [List.length_append, List.length_singleton, Hrl.out], rfl, own_cast hown1 rfl (by rw [hV_snoc2]), hb1, hblk2⟩
              case measure => simp [intOf]; omega
            · have hnone : hdOf s = none := by rw [hdOf, if_neg hx]
              have Hb := Lib.hid (Hbad.out (readAll_none hlt (by rw [Hs.out]; exact hnone) Hr.out))
              simp only [Bool.not_eq_true] at hx
              have hcut2 : ∀ W, MaxL W → Calls Tryz.prog 29 #[.string s, .string ⟨#[58]⟩] W fun e w' => e = .returned (.tuple #[.string (ba (Lib.cut s.data.toList [58]).1), .string (ba (Lib.cut s.data.toList [58]).2.1), .bool false]) ∧ Below (W).heap.size W w' := fun W hm => by
                have := hcut W hm
                rw [show (⟨#[58]⟩ : ByteArray).data.toList = [58] from rfl, hx] at this
                exact this
              have Hcut := Lib.hid hcut2
              clear hcut hcut2 hnone hx
              go_wp2_with (go_at_call 29; ((with_reducible refine (Hcut.out _ (MaxL.then hm (by exact (by first | (with_reducible exact Below.refl _ _) | ((repeat' (first | (with_reducible exact Below.refl _ _) | (with_reducible assumption) | (with_reducible refine below_alloc ?_ _) | (with_reducible refine Below.drew ?_) | (with_reducible refine below_drewN ?_ _) | (with_reducible refine Below.setCell ?_ ?_ _) | refine below_then ?_ (by with_reducible assumption))) <;> (first | omega | (simp; done) | (simp; omega))))))).mono ?_); rintro e w' ⟨rfl, hb⟩; obtain ⟨hc, hf⟩ := bcell hb; have hz := hb.size; (try simp only [World.size_alloc, World.size_setCell, World.size_drew] at hz); obtain ⟨hlt, hle, hn1, hn2, hn3, hn4⟩ := bsize hb; (try simp only [World.size_alloc, World.size_setCell, World.size_drew] at hlt hle hn1 hn2 hn3 hn4); (try have hr0 : w.heap.size < w'.heap.size := by omega); (try have hr1 : w.heap.size + 1 < w'.heap.size := by omega); (try have hs0 : wS.heap.size < w'.heap.size := by omega); (try have hs1 : wG.heap.size < w'.heap.size := by omega)))
              exact bodyPost_ret (res_row Tryz.results31 _ _ rfl (blk_cast (by repeat' (first | (with_reducible assumption) | (with_reducible exact blk_new _ _) | (with_reducible apply blk_set) | (with_reducible refine blk_alloc ?_ _) | (with_reducible refine blk_drew ?_) | refine blk_then ?_ (by with_reducible assumption))) (by first | (simp; done) | rfl)) Tryz.underlying56 rfl _ (by kernel_rfl) rfl) rfl (by rw [Hb.out]; exact ⟨none, 0, 0, rfl, hdR_none _ _ _, by exact (by first | (with_reducible exact Below.refl _ _) | ((repeat' (first | (with_reducible exact Below.refl _ _) | (with_reducible assumption) | (with_reducible refine below_alloc ?_ _) | (with_reducible refine Below.drew ?_) | (with_reducible refine below_drewN ?_ _) | (with_reducible refine Below.setCell ?_ ?_ _) | refine below_then ?_ (by with_reducible assumption))) <;> (first | omega | (simp; done) | (simp; omega))))⟩)
          · obtain rfl : k = (linesB t).length := by omega
            have et : (linesB t).take (linesB t).length = linesB t := List.take_length
            have hr := Hr.out
            rw [et] at hr
            have hsm := read_small hr
            have hcon := fun W hr0 => impl_HeadersFault (some ⟨g, 0, none⟩) (linesB t).length cap r Hrl.out W hr0 (by omega) (fun h hh => by have := hsm h hh; omega)
            obtain ⟨ow1, ow2, hrowO⟩ := own_at hown
            simp only [World.size_alloc] at ow1
            clear et hsm hrow
            by_cases hz0 : hdsFault r = 0
            · have E := Lib.hid (Hok.out r hr hz0)
              rw [hz0] at hcon
              have Hcon := Lib.hid hcon
              clear hcon hr hz0
              go_wp2_with (go_at_call 54; ((with_reducible refine (Hcon.out _ (by first | (with_reducible assumption) | exact RowAt.rd (by repeat' (first | (with_reducible assumption) | (with_reducible refine RowAt.alloc ?_ _) | (with_reducible refine RowAt.drew ?_) | (with_reducible refine RowAt.other ?_ _ _ (by first | omega | (simp; done) | (simp; omega))) | refine RowAt.then ?_ (by with_reducible assumption))) | exact Rd.below (by with_reducible assumption) (by first | (with_reducible exact Below.refl _ _) | ((repeat' (first | (with_reducible exact Below.refl _ _) | (with_reducible assumption) | (with_reducible refine below_alloc ?_ _) | (with_reducible refine Below.drew ?_) | (with_reducible refine below_drewN ?_ _) | (with_reducible refine Below.setCell ?_ ?_ _) | refine below_then ?_ (by with_reducible assumption))) <;> (first | omega | (simp; done) | (simp; omega)))))).mono ?_); rintro e w' ⟨rfl, hb⟩; obtain ⟨hc, hf⟩ := bcell hb; have hz := hb.size; (try simp only [World.size_alloc, World.size_setCell, World.size_drew] at hz); obtain ⟨hlt, hle, hn1, hn2, hn3, hn4⟩ := bsize hb; (try simp only [World.size_alloc, World.size_setCell, World.size_drew] at hlt hle hn1 hn2 hn3 hn4); (try have hr0 : w.heap.size < w'.heap.size := by omega); (try have hr1 : w.heap.size + 1 < w'.heap.size := by omega); (try have hs0 : wS.heap.size < w'.heap.size := by omega); (try have hs1 : wG.heap.size < w'.heap.size := by omega)))
              exact bodyPost_ret (res_row Tryz.results31 _ _ rfl (blk_cast (by repeat' (first | (with_reducible assumption) | (with_reducible exact blk_new _ _) | (with_reducible apply blk_set) | (with_reducible refine blk_alloc ?_ _) | (with_reducible refine blk_drew ?_) | refine blk_then ?_ (by with_reducible assumption))) (by first | (simp; done) | rfl)) Tryz.underlying56 rfl _ (by kernel_rfl) rfl) rfl (by rw [E.out]; exact ⟨_, _, _, rfl, hdR_some (by exact (by repeat' (first | (with_reducible assumption) | (with_reducible refine RowAt.alloc ?_ _) | (with_reducible refine RowAt.drew ?_) | (with_reducible refine RowAt.other ?_ _ _ (by first | omega | (simp; done) | (simp; omega))) | refine RowAt.then ?_ (by with_reducible assumption)))) (by omega) (by first | omega | (simp; omega)) Hrl.out, by exact (by first | (with_reducible exact Below.refl _ _) | ((repeat' (first | (with_reducible exact Below.refl _ _) | (with_reducible assumption) | (with_reducible refine below_alloc ?_ _) | (with_reducible refine Below.drew ?_) | (with_reducible refine below_drewN ?_ _) | (with_reducible refine Below.setCell ?_ ?_ _) | refine below_then ?_ (by with_reducible assumption))) <;> (first | omega | (simp; done) | (simp; omega))))⟩)
            · have E := Lib.hid (Hfault.out r hr hz0)
              have hne0 : (hdsFault r != 0) = true := by simpa using hz0
              have Hcon := Lib.hid hcon
              clear hcon hr hz0
              go_wp2_with (go_at_call 54; ((with_reducible refine (Hcon.out _ (by first | (with_reducible assumption) | exact RowAt.rd (by repeat' (first | (with_reducible assumption) | (with_reducible refine RowAt.alloc ?_ _) | (with_reducible refine RowAt.drew ?_) | (with_reducible refine RowAt.other ?_ _ _ (by first | omega | (simp; done) | (simp; omega))) | refine RowAt.then ?_ (by with_reducible assumption))) | exact Rd.below (by with_reducible assumption) (by first | (with_reducible exact Below.refl _ _) | ((repeat' (first | (with_reducible exact Below.refl _ _) | (with_reducible assumption) | (with_reducible refine below_alloc ?_ _) | (with_reducible refine Below.drew ?_) | (with_reducible refine below_drewN ?_ _) | (with_reducible refine Below.setCell ?_ ?_ _) | refine below_then ?_ (by with_reducible assumption))) <;> (first | omega | (simp; done) | (simp; omega)))))).mono ?_); rintro e w' ⟨rfl, hb⟩; obtain ⟨hc, hf⟩ := bcell hb; have hz := hb.size; (try simp only [World.size_alloc, World.size_setCell, World.size_drew] at hz); obtain ⟨hlt, hle, hn1, hn2, hn3, hn4⟩ := bsize hb; (try simp only [World.size_alloc, World.size_setCell, World.size_drew] at hlt hle hn1 hn2 hn3 hn4); (try have hr0 : w.heap.size < w'.heap.size := by omega); (try have hr1 : w.heap.size + 1 < w'.heap.size := by omega); (try have hs0 : wS.heap.size < w'.heap.size := by omega); (try have hs1 : wG.heap.size < w'.heap.size := by omega)))
              exact bodyPost_ret (res_row Tryz.results31 _ _ rfl (blk_cast (by repeat' (first | (with_reducible assumption) | (with_reducible exact blk_new _ _) | (with_reducible apply blk_set) | (with_reducible refine blk_alloc ?_ _) | (with_reducible refine blk_drew ?_) | refine blk_then ?_ (by with_reducible assumption))) (by first | (simp; done) | rfl)) Tryz.underlying56 rfl _ (by kernel_rfl) rfl) rfl (by rw [E.out]; exact ⟨none, 0, 0, rfl, hdR_none _ _ _, by exact (by first | (with_reducible exact Below.refl _ _) | ((repeat' (first | (with_reducible exact Below.refl _ _) | (with_reducible assumption) | (with_reducible refine below_alloc ?_ _) | (with_reducible refine Below.drew ?_) | (with_reducible refine below_drewN ?_ _) | (with_reducible refine Below.setCell ?_ ?_ _) | refine below_then ?_ (by with_reducible assumption))) <;> (first | omega | (simp; done) | (simp; omega))))⟩)
    · simp only [Bool.not_eq_true] at he
      have hE : ¬ (t.data.toList = [] ∨ [13, 10] <:+ t.data.toList) := fun q => by
        have := (linesE_nil t).2 q
        rw [this] at he; cases he
      have h1 : (t.toList == ([] : List UInt8)) = false := by rw [str_eq_nil]; simp; exact fun q => hE (.inl (by simpa using q))
      have h2 : Lib.hasSuffix t.data.toList [13, 10] = false := by
        rw [Bool.eq_false_iff]; intro q; exact hE (.inr ((hasSuffix_iff _ _).1 q))
      rw [readL_end he]
      clear he hE
      go_enter Tryz.func31, Tryz.ntmps31
      go_wp2_with (go_at_call 30; ((with_reducible refine (Tryz.strings_HasSuffix t ⟨#[13, 10]⟩ _ ht).mono ?_); rintro e w' ⟨rfl, rfl⟩))
      exact bodyPost_ret (res_row Tryz.results31 _ _ rfl (blk_cast (by repeat' (first | (with_reducible assumption) | (with_reducible exact blk_new _ _) | (with_reducible apply blk_set) | (with_reducible refine blk_alloc ?_ _) | (with_reducible refine blk_drew ?_) | refine blk_then ?_ (by with_reducible assumption))) (by first | (simp; done) | rfl)) Tryz.underlying56 rfl _ (by kernel_rfl) rfl) rfl ⟨none, 0, 0, rfl, hdR_none _ _ _, by exact (by first | (with_reducible exact Below.refl _ _) | ((repeat' (first | (with_reducible exact Below.refl _ _) | (with_reducible assumption) | (with_reducible refine below_alloc ?_ _) | (with_reducible refine Below.drew ?_) | (with_reducible refine below_drewN ?_ _) | (with_reducible refine Below.setCell ?_ ?_ _) | refine below_then ?_ (by with_reducible assumption))) <;> (first | omega | (simp; done) | (simp; omega))))⟩
end Go.Proofs.YtbiodbggaeglpaaGreatDoor
