/- Joined: ParseI. -/
import Derived.Test.YthiogijicknoiaaDoorJRowItems14
/- The items of a text: the program's own text, and the law. -/
namespace Go.Proofs.YthiogijicknoiaaDoor
open Go.RowKit
set_option linter.unusedSimpArgs false
set_option linter.unusedVariables false

theorem strings_Trim' (s : ByteArray) (w : World) (hs : s.size ≤ 9223372036854775807) : Calls Tryd.prog 53 #[.string s, .string ⟨#[32, 9]⟩] w fun e w' => e = .returned (.string (trimT s)) ∧ Below w.heap.size w w' := strings_Trim s w hs
set_option maxHeartbeats 1600000 in
theorem spec_ParseItems (t : ByteArray) (ht : t.size ≤ 9223372036854775807) (w : World) : Calls Tryd.prog 21 #[.string t] w fun e w' => ∃ (a' : Option Addr) (n' c' : Nat), e = .returned (.agg #[.int .i64 (parseR t).1, .slice a' n' c']) ∧ (((parseR t).2).length = n' ∧ SlAt w' w.heap.size w'.heap.size a' n' (iV ((parseR t).2))) ∧ Below w.heap.size w w' := by
  by_cases h6 : 1000 < t.size
  · rw [parseR_many h6]
    go_enter Tryd.func21, Tryd.ntmps21
    go_wp2
    exact bodyPost_ret (res_row Tryd.results21 _ _ rfl (blk_cast (by repeat' (first | (with_reducible assumption) | (with_reducible exact blk_new _ _) | (with_reducible apply blk_set) | (with_reducible refine blk_alloc ?_ _) | (with_reducible refine blk_drew ?_) | refine blk_then ?_ (by with_reducible assumption))) (by first | (simp; done) | rfl)) Tryd.underlying42 rfl _ (by kernel_rfl) rfl) rfl ⟨none, 0, 0, rfl, itR_none _ _ _ _, by exact (by first | (with_reducible exact Below.refl _ _) | ((repeat' (first | (with_reducible exact Below.refl _ _) | (with_reducible assumption) | (with_reducible refine below_alloc ?_ _) | (with_reducible refine Below.drew ?_) | (with_reducible refine below_drewN ?_ _) | (with_reducible refine Below.setCell ?_ ?_ _) | refine below_then ?_ (by with_reducible assumption))) <;> (first | omega | (simp; done) | (simp; omega))))⟩
  · rw [parseR_L h6]
    go_enter Tryd.func21, Tryd.ntmps21
    go_wp2_with (go_at_call 59; ((with_reducible refine (spec_l2Parse t (by omega) _).mono ?_); rintro e w' ⟨a1, n1, c1, rfl, ⟨hl1, hs1⟩, hb⟩; obtain ⟨hc, hf⟩ := bcell hb; have hz := hb.size; (try simp only [World.size_alloc, World.size_setCell, World.size_drew] at hz); obtain ⟨hlt, hle, hn1, hn2, hn3, hn4⟩ := bsize hb; (try simp only [World.size_alloc, World.size_setCell, World.size_drew] at hlt hle hn1 hn2 hn3 hn4); (try have hr0 : w.heap.size < w'.heap.size := by omega); (try have hr1 : w.heap.size + 1 < w'.heap.size := by omega); (try have hs0 : wS.heap.size < w'.heap.size := by omega); (try have hs1 : wG.heap.size < w'.heap.size := by omega)))
    have hz1 := hb.size
    (try simp only [World.size_alloc] at hz1)
    exact bodyPost_ret (res_row Tryd.results21 _ _ rfl (blk_cast (by repeat' (first | (with_reducible assumption) | (with_reducible exact blk_new _ _) | (with_reducible apply blk_set) | (with_reducible refine blk_alloc ?_ _) | (with_reducible refine blk_drew ?_) | refine blk_then ?_ (by with_reducible assumption))) (by first | (simp; done) | rfl)) Tryd.underlying42 rfl _ (by kernel_rfl) rfl) rfl ⟨_, _, _, rfl, ⟨hl1, ((hs1.other _ _ (.inl (by simp))).other _ _ (.inl (by simp))).mono (by simp) (by simp)⟩, by exact (by first | (with_reducible exact Below.refl _ _) | ((repeat' (first | (with_reducible exact Below.refl _ _) | (with_reducible assumption) | (with_reducible refine below_alloc ?_ _) | (with_reducible refine Below.drew ?_) | (with_reducible refine below_drewN ?_ _) | (with_reducible refine Below.setCell ?_ ?_ _) | refine below_then ?_ (by with_reducible assumption))) <;> (first | omega | (simp; done) | (simp; omega))))⟩
set_option maxRecDepth 100000 in
set_option maxHeartbeats 6400000 in
theorem impl_ParseItems (t : ByteArray) (ht : t.size ≤ 9223372036854775807) (w : World) (hm : MaxL w) : Calls Tryd.prog 17 #[.string t] w fun e w' => ∃ (a' : Option Addr) (n' c' : Nat), e = .returned (.agg #[.int .i64 (parseR t).1, .slice a' n' c']) ∧ (((parseR t).2).length = n' ∧ SlAt w' w.heap.size w'.heap.size a' n' (iV ((parseR t).2))) ∧ Below w.heap.size w w' := by
  by_cases h6 : 1000 < t.size
  · rw [parseR_many h6]
    go_enter Tryd.func17, Tryd.ntmps17
    go_wp2
    exact bodyPost_ret (res_row Tryd.results17 _ _ rfl (blk_cast (by repeat' (first | (with_reducible assumption) | (with_reducible exact blk_new _ _) | (with_reducible apply blk_set) | (with_reducible refine blk_alloc ?_ _) | (with_reducible refine blk_drew ?_) | refine blk_then ?_ (by with_reducible assumption))) (by first | (simp; done) | rfl)) Tryd.underlying42 rfl _ (by kernel_rfl) rfl) rfl ⟨none, 0, 0, rfl, itR_none _ _ _ _, by exact (by first | (with_reducible exact Below.refl _ _) | ((repeat' (first | (with_reducible exact Below.refl _ _) | (with_reducible assumption) | (with_reducible refine below_alloc ?_ _) | (with_reducible refine Below.drew ?_) | (with_reducible refine below_drewN ?_ _) | (with_reducible refine Below.setCell ?_ ?_ _) | refine below_then ?_ (by with_reducible assumption))) <;> (first | omega | (simp; done) | (simp; omega))))⟩
  · rw [parseR_L h6]
    have hN := piecesB_len t
    have hM := Lib.hid (piecesB_mem t)
    have Hbad := Lib.hid (fun h => parseL_bad (t := t) h)
    have Hmany := Lib.hid (fun l h h2 => parseL_many (t := t) (l := l) h h2)
    have Hok := Lib.hid (fun l h h2 => parseL_ok (t := t) (l := l) h h2)
    go_enter Tryd.func17, Tryd.ntmps17
    go_upto_region 5 with (go_at_call 52; ((with_reducible refine (impl_pieces t (by omega) _).mono ?_); rintro e w' ⟨gp, capp, rfl, hownp, hb⟩; have hbp := hb; obtain ⟨hc, hf⟩ := bcell hb; have hz := hb.size; (try simp only [World.size_alloc, World.size_setCell, World.size_drew] at hz); obtain ⟨hlt, hle, hn1, hn2, hn3, hn4⟩ := bsize hb; (try simp only [World.size_alloc, World.size_setCell, World.size_drew] at hlt hle hn1 hn2 hn3 hn4); (try have hr0 : w.heap.size < w'.heap.size := by omega); (try have hr1 : w.heap.size + 1 < w'.heap.size := by omega); (try have hs0 : wS.heap.size < w'.heap.size := by omega); (try have hs1 : wG.heap.size < w'.heap.size := by omega)))
    obtain ⟨cur, hblk0, ht0⟩ := own_cells hownp
    have Ht := Lib.hid ht0
    clear hownp ht0
    go_loopw [3, 16] (fun v i wr => ∃ (k g cap : Nat) (r : List It), k ≤ (piecesB t).length ∧ i = .int .i64 (k : Int) ∧ (told ((piecesB t).take k)).mapM itOf = some r ∧ r.length ≤ k ∧ v = .slice (some ⟨g, 0, none⟩) r.length cap ∧ wr.ownsRow ((w.alloc (.cells #[.int .i64 0, .slice none 0 0] 42))).heap.size 70 3 v r.length (iV r) ∧ Below ((w.alloc (.cells #[.int .i64 0, .slice none 0 0] 42))).heap.size ((w.alloc (.cells #[.int .i64 0, .slice none 0 0] 42))) wr ∧ wr.heap[gp]? = some (.cells cur 9 (0, 0))) (fun v i _ => (piecesB t).length - (intOf i).toNat)
    case atStart => exact ⟨0, _, _, [], Nat.zero_le _, rfl, rfl, Nat.le_refl _, rfl, own_below (by simpa [iV, cellsOf] using World.ownsRow_lit (size := 3) (e := 70) ((w.alloc (.cells #[.int .i64 0, .slice none 0 0] 42))) #[] 0 (Nat.le_refl _) (by unfold maxLen; omega) rfl) hbp (Nat.le_refl _), by exact (by first | (with_reducible exact Below.refl _ _) | ((repeat' (first | (with_reducible exact Below.refl _ _) | (with_reducible assumption) | (with_reducible refine below_alloc ?_ _) | (with_reducible refine Below.drew ?_) | (with_reducible refine below_drewN ?_ _) | (with_reducible refine Below.setCell ?_ ?_ _) | refine below_then ?_ (by with_reducible assumption))) <;> (first | omega | (simp; done) | (simp; omega)))), hblk0⟩
    case round =>
      obtain ⟨k, g, cap, r, hk, rfl, hr, hrl, rfl, hown, hb, hrc⟩ := hrel
      have hne := own_ne hown hrc (by decide)
      have hrow := row_cells hrc Ht.out
      have hglt := hrow.lt
      have Hr := Lib.hid hr
      have Hrc := Lib.hid hrc
      obtain ⟨hc, hf⟩ := bcell hb
      have hz := hb.size
      (try simp only [World.size_alloc] at hz)
      (try have hq0 : w.heap.size < wr.heap.size := by omega)
      clear hr hrc
      by_cases hlt : k < (piecesB t).length
      · have hcell := hrow.cell k _ (strV_at (piecesB t) k hlt)
        have hsz := hM.out _ (List.getElem_mem hlt)
        have htz := trimT_size (piecesB t)[k]
        have Hskip := Lib.hid (fun he => told_skip (l := piecesB t) hlt he)
        have Hnone := Lib.hid (fun he hx => told_none (l := piecesB t) hlt he Hr.out hx)
        have Hsucc := Lib.hid (fun he x hx => told_succ (l := piecesB t) hlt he Hr.out (x := x) hx)
        have htr := fun W => strings_Trim' (piecesB t)[k] W (by omega)
        generalize trimT (piecesB t)[k] = q at *
        generalize (piecesB t)[k] = p at *
        have Htr := Lib.hid htr
        clear htr hrow
        by_cases hq : q.data.toList = []
        · have h1 : (q.toList == ([] : List UInt8)) = true := by rw [str_nil]; simp [hq]
          have E := Lib.hid (Hskip.out hq)
          clear hq
          go_wp2_with (go_at_call 53; ((with_reducible refine (Htr.out _).mono ?_); rintro e w' ⟨rfl, hb⟩; obtain ⟨hc, hf⟩ := bcell hb; have hz := hb.size; (try simp only [World.size_alloc, World.size_setCell, World.size_drew] at hz); obtain ⟨hlt, hle, hn1, hn2, hn3, hn4⟩ := bsize hb; (try simp only [World.size_alloc, World.size_setCell, World.size_drew] at hlt hle hn1 hn2 hn3 hn4); (try have hr0 : w.heap.size < w'.heap.size := by omega); (try have hr1 : w.heap.size + 1 < w'.heap.size := by omega); (try have hs0 : wS.heap.size < w'.heap.size := by omega); (try have hs1 : wG.heap.size < w'.heap.size := by omega)))
          go_roundw
          case rel => exact ⟨k + 1, g, cap, r, by omega, by go_num, by rw [E.out]; exact Hr.out, by omega, rfl, own_below hown (by exact (by first | (with_reducible exact Below.refl _ _) | ((repeat' (first | (with_reducible exact Below.refl _ _) | (with_reducible assumption) | (with_reducible refine below_alloc ?_ _) | (with_reducible refine Below.drew ?_) | (with_reducible refine below_drewN ?_ _) | (with_reducible refine Below.setCell ?_ ?_ _) | refine below_then ?_ (by with_reducible assumption))) <;> (first | omega | (simp; done) | (simp; omega))))) (Nat.le_refl _), by exact (by first | (with_reducible exact Below.refl _ _) | ((repeat' (first | (with_reducible exact Below.refl _ _) | (with_reducible assumption) | (with_reducible refine below_alloc ?_ _) | (with_reducible refine Below.drew ?_) | (with_reducible refine below_drewN ?_ _) | (with_reducible refine Below.setCell ?_ ?_ _) | refine below_then ?_ (by with_reducible assumption))) <;> (first | omega | (simp; done) | (simp; omega)))), blk_then Hrc.out (by exact (by first | (with_reducible exact Below.refl _ _) | ((repeat' (first | (with_reducible exact Below.refl _ _) | (with_reducible assumption) | (with_reducible refine below_alloc ?_ _) | (with_reducible refine Below.drew ?_) | (with_reducible refine below_drewN ?_ _) | (with_reducible refine Below.setCell ?_ ?_ _) | refine below_then ?_ (by with_reducible assumption))) <;> (first | omega | (simp; done) | (simp; omega)))))⟩
          case measure => simp [intOf]; omega
        · have h1 : (q.toList == ([] : List UInt8)) = false := by rw [str_nil]; simp [hq]
          cases hx : itOf q with
          | some y =>
            have E := Lib.hid (Hsucc.out hq y hx)
            have Hio := Lib.hid (fun W hm => impl_itemOf_some q y hx (by omega) W hm)
            clear hx hq
            go_wp2_with (first
              | (go_at_call 53; ((with_reducible refine (Htr.out _).mono ?_); rintro e w' ⟨rfl, hb⟩; obtain ⟨hc, hf⟩ := bcell hb; have hz := hb.size; (try simp only [World.size_alloc, World.size_setCell, World.size_drew] at hz); obtain ⟨hlt, hle, hn1, hn2, hn3, hn4⟩ := bsize hb; (try simp only [World.size_alloc, World.size_setCell, World.size_drew] at hlt hle hn1 hn2 hn3 hn4); (try have hr0 : w.heap.size < w'.heap.size := by omega); (try have hr1 : w.heap.size + 1 < w'.heap.size := by omega); (try have hs0 : wS.heap.size < w'.heap.size := by omega); (try have hs1 : wG.heap.size < w'.heap.size := by omega)))
              | (go_at_call 54; ((with_reducible refine (Hio.out _ (MaxL.then hm (by exact (by first | (with_reducible exact Below.refl _ _) | ((repeat' (first | (with_reducible exact Below.refl _ _) | (with_reducible assumption) | (with_reducible refine below_alloc ?_ _) | (with_reducible refine Below.drew ?_) | (with_reducible refine below_drewN ?_ _) | (with_reducible refine Below.setCell ?_ ?_ _) | refine below_then ?_ (by with_reducible assumption))) <;> (first | omega | (simp; done) | (simp; omega))))))).mono ?_); rintro e w' ⟨rfl, hb⟩; obtain ⟨hc, hf⟩ := bcell hb; have hz := hb.size; (try simp only [World.size_alloc, World.size_setCell, World.size_drew] at hz); obtain ⟨hlt, hle, hn1, hn2, hn3, hn4⟩ := bsize hb; (try simp only [World.size_alloc, World.size_setCell, World.size_drew] at hlt hle hn1 hn2 hn3 hn4); (try have hr0 : w.heap.size < w'.heap.size := by omega); (try have hr1 : w.heap.size + 1 < w'.heap.size := by omega); (try have hs0 : wS.heap.size < w'.heap.size := by omega); (try have hs1 : wG.heap.size < w'.heap.size := by omega)))
              | (at_builtin; refine app1 (w0 := (w.alloc (.cells #[.int .i64 0, .slice none 0 0] 42))) (news := [.string y.1, .bool y.2.1, .string y.2.2]) rfl _ _ 35 rfl Tryd.underlying35 infoItem rfl (by decide) (own_below hown (by exact (by first | (with_reducible exact Below.refl _ _) | ((repeat' (first | (with_reducible exact Below.refl _ _) | (with_reducible assumption) | (with_reducible refine below_alloc ?_ _) | (with_reducible refine Below.drew ?_) | (with_reducible refine below_drewN ?_ _) | (with_reducible refine Below.setCell ?_ ?_ _) | refine below_then ?_ (by with_reducible assumption))) <;> (first | omega | (simp; done) | (simp; omega))))) (Nat.le_refl _)) (by exact (by first | (with_reducible exact Below.refl _ _) | ((repeat' (first | (with_reducible exact Below.refl _ _) | (with_reducible assumption) | (with_reducible refine below_alloc ?_ _) | (with_reducible refine Below.drew ?_) | (with_reducible refine below_drewN ?_ _) | (with_reducible refine Below.setCell ?_ ?_ _) | refine below_then ?_ (by with_reducible assumption))) <;> (first | omega | (simp; done) | (simp; omega))))) rfl (by first | rfl | (rw [World.size_alloc]; rfl)) rfl (by intro u hu; simp at hu; rcases hu with rfl | rfl | rfl <;> rfl) (by omega) (by unfold maxLen; omega) ?_; intro v2 w2 hown1 hb1 hkk _; have hblk2 := own_blk (blk_then Hrc.out (by exact (by first | (with_reducible exact Below.refl _ _) | ((repeat' (first | (with_reducible exact Below.refl _ _) | (with_reducible assumption) | (with_reducible refine below_alloc ?_ _) | (with_reducible refine Below.drew ?_) | (with_reducible refine below_drewN ?_ _) | (with_reducible refine Below.setCell ?_ ?_ _) | refine below_then ?_ (by with_reducible assumption))) <;> (first | omega | (simp; done) | (simp; omega)))))) hkk hne; obtain ⟨g1, cap1, rfl, hg1, hrow1⟩ := own_shape hown1))
            go_roundw
            case rel => exact ⟨k + 1, g1, cap1, r ++ [y], by omega, by go_num, E.out, by rw [List.length_append, List.length_singleton]; omega, by rw [List.length_append, List.length_singleton], own_cast hown1 (by rw [List.length_append, List.length_singleton]) (by rw [iV_snoc]), hb1, hblk2⟩
            case measure => simp [intOf]; omega
          | none =>
            have E := Lib.hid (Hbad.out (Hnone.out hq hx))
            have Hio := Lib.hid (fun W hm => impl_itemOf_none q hx (by omega) W hm)
            clear hx hq
            go_wp2_with (first | (go_at_call 53; ((with_reducible refine (Htr.out _).mono ?_); rintro e w' ⟨rfl, hb⟩; obtain ⟨hc, hf⟩ := bcell hb; have hz := hb.size; (try simp only [World.size_alloc, World.size_setCell, World.size_drew] at hz); obtain ⟨hlt, hle, hn1, hn2, hn3, hn4⟩ := bsize hb; (try simp only [World.size_alloc, World.size_setCell, World.size_drew] at hlt hle hn1 hn2 hn3 hn4); (try have hr0 : w.heap.size < w'.heap.size := by omega); (try have hr1 : w.heap.size + 1 < w'.heap.size := by omega); (try have hs0 : wS.heap.size < w'.heap.size := by omega); (try have hs1 : wG.heap.size < w'.heap.size := by omega))) | (go_at_call 54; ((with_reducible refine (Hio.out _ (MaxL.then hm (by exact (by first | (with_reducible exact Below.refl _ _) | ((repeat' (first | (with_reducible exact Below.refl _ _) | (with_reducible assumption) | (with_reducible refine below_alloc ?_ _) | (with_reducible refine Below.drew ?_) | (with_reducible refine below_drewN ?_ _) | (with_reducible refine Below.setCell ?_ ?_ _) | refine below_then ?_ (by with_reducible assumption))) <;> (first | omega | (simp; done) | (simp; omega))))))).mono ?_); rintro e w' ⟨x, rfl, hb⟩; obtain ⟨hc, hf⟩ := bcell hb; have hz := hb.size; (try simp only [World.size_alloc, World.size_setCell, World.size_drew] at hz); obtain ⟨hlt, hle, hn1, hn2, hn3, hn4⟩ := bsize hb; (try simp only [World.size_alloc, World.size_setCell, World.size_drew] at hlt hle hn1 hn2 hn3 hn4); (try have hr0 : w.heap.size < w'.heap.size := by omega); (try have hr1 : w.heap.size + 1 < w'.heap.size := by omega); (try have hs0 : wS.heap.size < w'.heap.size := by omega); (try have hs1 : wG.heap.size < w'.heap.size := by omega)))); exact bodyPost_ret (res_row Tryd.results17 _ _ rfl (blk_cast (by repeat' (first | (with_reducible assumption) | (with_reducible exact blk_new _ _) | (with_reducible apply blk_set) | (with_reducible refine blk_alloc ?_ _) | (with_reducible refine blk_drew ?_) | refine blk_then ?_ (by with_reducible assumption))) (by first | (simp; done) | rfl)) Tryd.underlying42 rfl _ (by kernel_rfl) rfl) rfl (by rw [E.out]; exact ⟨none, 0, 0, rfl, itR_none _ _ _ _, by exact (by first | (with_reducible exact Below.refl _ _) | ((repeat' (first | (with_reducible exact Below.refl _ _) | (with_reducible assumption) | (with_reducible refine below_alloc ?_ _) | (with_reducible refine Below.drew ?_) | (with_reducible refine below_drewN ?_ _) | (with_reducible refine Below.setCell ?_ ?_ _) | refine below_then ?_ (by with_reducible assumption))) <;> (first | omega | (simp; done) | (simp; omega))))⟩)
      · obtain rfl : k = (piecesB t).length := by omega
        have et : (piecesB t).take (piecesB t).length = piecesB t := List.take_length
        have hr := Hr.out
        rw [et] at hr
        obtain ⟨ow1, ow2, hrowO⟩ := own_at hown
        (try simp only [World.size_alloc] at ow1)
        by_cases h20 : 20 < r.length
        · have E := Lib.hid (Hmany.out r hr h20)
          clear hr et hrow
          go_wp2; exact bodyPost_ret (res_row Tryd.results17 _ _ rfl (blk_cast (by repeat' (first | (with_reducible assumption) | (with_reducible exact blk_new _ _) | (with_reducible apply blk_set) | (with_reducible refine blk_alloc ?_ _) | (with_reducible refine blk_drew ?_) | refine blk_then ?_ (by with_reducible assumption))) (by first | (simp; done) | rfl)) Tryd.underlying42 rfl _ (by kernel_rfl) rfl) rfl (by rw [E.out]; exact ⟨none, 0, 0, rfl, itR_none _ _ _ _, by exact (by first | (with_reducible exact Below.refl _ _) | ((repeat' (first | (with_reducible exact Below.refl _ _) | (with_reducible assumption) | (with_reducible refine below_alloc ?_ _) | (with_reducible refine Below.drew ?_) | (with_reducible refine below_drewN ?_ _) | (with_reducible refine Below.setCell ?_ ?_ _) | refine below_then ?_ (by with_reducible assumption))) <;> (first | omega | (simp; done) | (simp; omega))))⟩)
        · have E := Lib.hid (Hok.out r hr h20)
          clear hr et hrow
          go_wp2; exact bodyPost_ret (res_row Tryd.results17 _ _ rfl (blk_cast (by repeat' (first | (with_reducible assumption) | (with_reducible exact blk_new _ _) | (with_reducible apply blk_set) | (with_reducible refine blk_alloc ?_ _) | (with_reducible refine blk_drew ?_) | refine blk_then ?_ (by with_reducible assumption))) (by first | (simp; done) | rfl)) Tryd.underlying42 rfl _ (by kernel_rfl) rfl) rfl (by rw [E.out]; exact ⟨_, _, _, rfl, itR_some (by exact (by repeat' (first | (with_reducible assumption) | (with_reducible refine RowAt.alloc ?_ _) | (with_reducible refine RowAt.drew ?_) | (with_reducible refine RowAt.other ?_ _ _ (by first | omega | (simp; done) | (simp; omega))) | refine RowAt.then ?_ (by with_reducible assumption)))) (by omega) (by first | omega | (simp; omega)) rfl, by exact (by first | (with_reducible exact Below.refl _ _) | ((repeat' (first | (with_reducible exact Below.refl _ _) | (with_reducible assumption) | (with_reducible refine below_alloc ?_ _) | (with_reducible refine Below.drew ?_) | (with_reducible refine below_drewN ?_ _) | (with_reducible refine Below.setCell ?_ ?_ _) | refine below_then ?_ (by with_reducible assumption))) <;> (first | omega | (simp; done) | (simp; omega))))⟩)
end Go.Proofs.YthiogijicknoiaaDoor
