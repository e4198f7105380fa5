/- Joined: ItemsTextI. -/
import Derived.Test.YthiogijicknoiaaDoorJRowItems7
import Derived.Test.YthiogijicknoiaaDoorShelf
/- The text of items: the program's own, and the law. -/
namespace Go.Proofs.YthiogijicknoiaaDoor
open Go.RowKit
set_option linter.unusedSimpArgs false
set_option linter.unusedVariables false

theorem join_own (g cap n lo : Nat) (xs : List ByteArray) (hx : xs.length = n) (w : World) (h : w.ownsRow lo 9 1 (.slice (some ⟨g, 0, none⟩) n cap) n (strV xs)) (hn : n ≤ 100000) (hlen : (joinB commaS xs).size ≤ 140737488355328) :
    Calls Tryd.prog 50 #[.slice (some ⟨g, 0, none⟩) n cap, .string ⟨#[44, 32]⟩] w fun e w' => e = .returned (.string (joinB commaS xs)) ∧ Below w.heap.size w w' := by
  subst hx
  have hrow := RowAt.of_own h
  have hcap : xs.length ≤ cap := by
    rcases h.2 with ⟨hn, _⟩ | ⟨g', cap', cur, hv, _, _, hc, _⟩
    · cases hn
    · cases hv; exact hc
  exact Tryd.strings_Join g 0 cap xs ⟨#[44, 32]⟩ w (fun j x hj => by
    rw [Nat.zero_add]
    refine hrow.cell j _ ?_
    have hj' : j < xs.length := (List.getElem?_eq_some_iff.1 hj).1
    rw [strV_at xs j hj']
    rw [List.getElem?_eq_getElem hj'] at hj
    rw [Option.some.inj hj]) hrow.lt (by omega) hcap hlen
theorem strV_snoc2 (l : List ByteArray) (x : ByteArray) : strV l ++ [.string x] = strV (l ++ [x]) := by simp [strV]
set_option maxHeartbeats 1600000 in
set_option maxRecDepth 100000 in
theorem impl_ItemsText (a : Option Addr) (n c : Nat) (l : List It) (hl : l.length = n) (w : World) (hr : Rd w a (iV l)) (hn : n ≤ 9223372036854775807) (hs : ∀ h ∈ l, h.1.size ≤ 9223372036854775807 ∧ h.2.2.size ≤ 9223372036854775807) :
    Calls Tryd.prog 15 #[.slice a n c] w fun e w' => e = .returned (.agg #[.int .i64 (itemsR l).1, .string (itemsR l).2]) ∧ Below w.heap.size w w' := by
  have Hret := Lib.hid (ret_items l)
  have Hl := Lib.hid hl
  have Hs := Lib.hid hs
  clear hs
  by_cases h20 : 20 < n
  · rw [itemsR_many (by omega)]
    clear hl
    go_enter Tryd.func15, Tryd.ntmps15
    go_wp2
    all_goals exact bodyPost_ret (res_row Tryd.results15 _ _ rfl (blk_cast (by repeat' (first | (with_reducible assumption) | (with_reducible exact blk_new _ _) | (with_reducible apply blk_set) | (with_reducible refine blk_alloc ?_ _) | (with_reducible refine blk_drew ?_) | refine blk_then ?_ (by with_reducible assumption))) (by first | (simp; done) | rfl)) Tryd.underlying38 rfl _ (by kernel_rfl) rfl) rfl ⟨rfl, by first | (with_reducible rfl) | exact (by first | (with_reducible exact Below.refl _ _) | ((repeat' (first | (with_reducible exact Below.refl _ _) | (with_reducible assumption) | (with_reducible refine below_alloc ?_ _) | (with_reducible refine Below.drew ?_) | (with_reducible refine below_drewN ?_ _) | (with_reducible refine Below.setCell ?_ ?_ _) | refine below_then ?_ (by with_reducible assumption))) <;> (first | omega | (simp; done) | (simp; omega))))⟩
  · clear hl
    go_enter Tryd.func15, Tryd.ntmps15
    go_wp2
    go_loopw [3, 16] (fun v i wr => ∃ (k g cap : Nat), k ≤ n ∧ i = .int .i64 k ∧ v = .slice (some ⟨g, 0, none⟩) k cap ∧ (∀ j (hj : j < l.length), j < k → itemFault l[j] = 0) ∧ wr.ownsRow ((w.alloc (.cells #[.int .i64 0, .string ⟨#[]⟩] 38))).heap.size 9 1 v k (strV ((l.map itT).take k)) ∧ Below ((w.alloc (.cells #[.int .i64 0, .string ⟨#[]⟩] 38))).heap.size ((w.alloc (.cells #[.int .i64 0, .string ⟨#[]⟩] 38))) wr) (fun _ i _ => n - (intOf i).toNat)
    case atStart => exact ⟨0, _, _, Nat.zero_le _, rfl, rfl, fun j hj h => by omega, by simpa [strV] using World.ownsRow_lit ((w.alloc (.cells #[.int .i64 0, .string ⟨#[]⟩] 38))) #[] 0 (Nat.le_refl _) (by unfold maxLen; omega) (size := 1) (e := 9) rfl, below_alloc (Below.refl _ _) _⟩
    case round =>
      obtain ⟨k, g, cap, hk, rfl, rfl, hno, hown, hb⟩ := hrel
      obtain ⟨hc, hf⟩ := bcell hb
      have hz := hb.size
      simp only [World.size_alloc] at hz
      have hbr := hb
      have q0 : w.heap.size < wr.heap.size := by omega
      have Hno := Lib.hid hno
      clear hno
      by_cases hlt : k < n
      · have hlk : k < l.length := by rw [Hl.out]; exact hlt
        obtain ⟨b, off, rfl, hbl, hc0, hc1, hc2⟩ := ((Rd.alloc hr (.cells #[.int .i64 0, .string ⟨#[]⟩] 38)).below hb).item k hlk
        have hsx := (Hs.out l[k] (List.getElem_mem hlk)).1
        have hsy := (Hs.out l[k] (List.getElem_mem hlk)).2
        by_cases hft : itemFault l[k] = 0
        · have hsb := itemFault_0 hft
          have hqs := quoteS_size l[k].2.2
          have hcon := fun W => impl_ItemFault l[k].1 l[k].2.1 l[k].2.2 hsx hsy W
          rw [show itemFault (l[k].1, l[k].2.1, l[k].2.2) = 0 from hft] at hcon
          have Hcon := Lib.hid hcon
          have Hft := Lib.hid hft
          obtain ⟨hs1, hs2⟩ := hsb
          have hiw := fun W => impl_IsWord l[k].2.2 W hsy
          clear hcon hft
          by_cases hb2 : l[k].2.1 = true
          · rw [hb2] at hc1
            have hcon := Hcon.out
            rw [hb2] at hcon
            have Hcon := Lib.hid hcon
            by_cases hw : wordS l[k].2.2 = true
            · have E := Lib.hid (itT_word _ hb2 hw)
              rw [hw] at hiw
              have Hiw := Lib.hid hiw
              clear hiw hcon hb2 hw
              go_wp2_with (first | (go_at_call 47; ((with_reducible refine (Hcon.out _).mono ?_); rintro e w' ⟨rfl, hb⟩; obtain ⟨hc, hf⟩ := bcell hb; have hz := hb.size; (try simp only [World.size_alloc, World.size_setCell, World.size_drew] at hz); obtain ⟨hlt, hle, hn1, hn2, hn3, hn4⟩ := bsize hb; (try simp only [World.size_alloc, World.size_setCell, World.size_drew] at hlt hle hn1 hn2 hn3 hn4); (try have hr0 : w.heap.size < w'.heap.size := by omega); (try have hr1 : w.heap.size + 1 < w'.heap.size := by omega); (try have hs0 : wS.heap.size < w'.heap.size := by omega); (try have hs1 : wG.heap.size < w'.heap.size := by omega))) | (go_at_call 48; ((with_reducible refine (Hiw.out _).mono ?_); rintro e w' ⟨rfl, rfl⟩)) | (go_at_call 49; ((with_reducible refine (impl_quote _ _ (by omega)).mono ?_); rintro e w' ⟨rfl, hb⟩; obtain ⟨hc, hf⟩ := bcell hb; have hz := hb.size; (try simp only [World.size_alloc, World.size_setCell, World.size_drew] at hz); obtain ⟨hlt, hle, hn1, hn2, hn3, hn4⟩ := bsize hb; (try simp only [World.size_alloc, World.size_setCell, World.size_drew] at hlt hle hn1 hn2 hn3 hn4); (try have hr0 : w.heap.size < w'.heap.size := by omega); (try have hr1 : w.heap.size + 1 < w'.heap.size := by omega); (try have hs0 : wS.heap.size < w'.heap.size := by omega); (try have hs1 : wG.heap.size < w'.heap.size := by omega))) | (at_builtin; refine app1 rfl _ _ 75 rfl Tryd.underlying75 infoStr rfl (by decide) (own_below hown (by exact (by first | (with_reducible exact Below.refl _ _) | ((repeat' (first | (with_reducible exact Below.refl _ _) | (with_reducible assumption) | (with_reducible refine below_alloc ?_ _) | (with_reducible refine Below.drew ?_) | (with_reducible refine below_drewN ?_ _) | (with_reducible refine Below.setCell ?_ ?_ _) | refine below_then ?_ (by with_reducible assumption))) <;> (first | omega | (simp; done) | (simp; omega))))) (Nat.le_refl _)) (by exact (by first | (with_reducible exact Below.refl _ _) | ((repeat' (first | (with_reducible exact Below.refl _ _) | (with_reducible assumption) | (with_reducible refine below_alloc ?_ _) | (with_reducible refine Below.drew ?_) | (with_reducible refine below_drewN ?_ _) | (with_reducible refine Below.setCell ?_ ?_ _) | refine below_then ?_ (by with_reducible assumption))) <;> (first | omega | (simp; done) | (simp; omega))))) rfl rfl rfl (by intro u hu; simp at hu; subst hu; rfl) (by omega) (by unfold maxLen; omega) ?_; intro v1 w1 hown1 hb1 _ _; obtain ⟨g1, cap1, rfl, hg1, hrow1⟩ := own_shape hown1))
              go_roundw
              case rel =>
                refine ⟨k + 1, g1, cap1, by omega, by go_num, rfl, fun j hj hjk => ?_, own_cast hown1 rfl (by rw [take_map l k hlk, E.out, strV_snoc2]), hb1⟩
                by_cases e : j = k
                · subst e; exact Hft.out
                · exact Hno.out j hj (by omega)
              case measure => simp [intOf]; omega
            · simp only [Bool.not_eq_true] at hw
              have E := Lib.hid (itT_quote _ hb2 hw)
              rw [hw] at hiw
              have Hiw := Lib.hid hiw
              clear hiw hcon hb2 hw
              go_wp2_with (first | (go_at_call 47; ((with_reducible refine (Hcon.out _).mono ?_); rintro e w' ⟨rfl, hb⟩; obtain ⟨hc, hf⟩ := bcell hb; have hz := hb.size; (try simp only [World.size_alloc, World.size_setCell, World.size_drew] at hz); obtain ⟨hlt, hle, hn1, hn2, hn3, hn4⟩ := bsize hb; (try simp only [World.size_alloc, World.size_setCell, World.size_drew] at hlt hle hn1 hn2 hn3 hn4); (try have hr0 : w.heap.size < w'.heap.size := by omega); (try have hr1 : w.heap.size + 1 < w'.heap.size := by omega); (try have hs0 : wS.heap.size < w'.heap.size := by omega); (try have hs1 : wG.heap.size < w'.heap.size := by omega))) | (go_at_call 48; ((with_reducible refine (Hiw.out _).mono ?_); rintro e w' ⟨rfl, rfl⟩)) | (go_at_call 49; ((with_reducible refine (impl_quote _ _ (by omega)).mono ?_); rintro e w' ⟨rfl, hb⟩; obtain ⟨hc, hf⟩ := bcell hb; have hz := hb.size; (try simp only [World.size_alloc, World.size_setCell, World.size_drew] at hz); obtain ⟨hlt, hle, hn1, hn2, hn3, hn4⟩ := bsize hb; (try simp only [World.size_alloc, World.size_setCell, World.size_drew] at hlt hle hn1 hn2 hn3 hn4); (try have hr0 : w.heap.size < w'.heap.size := by omega); (try have hr1 : w.heap.size + 1 < w'.heap.size := by omega); (try have hs0 : wS.heap.size < w'.heap.size := by omega); (try have hs1 : wG.heap.size < w'.heap.size := by omega))) | (at_builtin; refine app1 rfl _ _ 75 rfl Tryd.underlying75 infoStr rfl (by decide) (own_below hown (by exact (by first | (with_reducible exact Below.refl _ _) | ((repeat' (first | (with_reducible exact Below.refl _ _) | (with_reducible assumption) | (with_reducible refine below_alloc ?_ _) | (with_reducible refine Below.drew ?_) | (with_reducible refine below_drewN ?_ _) | (with_reducible refine Below.setCell ?_ ?_ _) | refine below_then ?_ (by with_reducible assumption))) <;> (first | omega | (simp; done) | (simp; omega))))) (Nat.le_refl _)) (by exact (by first | (with_reducible exact Below.refl _ _) | ((repeat' (first | (with_reducible exact Below.refl _ _) | (with_reducible assumption) | (with_reducible refine below_alloc ?_ _) | (with_reducible refine Below.drew ?_) | (with_reducible refine below_drewN ?_ _) | (with_reducible refine Below.setCell ?_ ?_ _) | refine below_then ?_ (by with_reducible assumption))) <;> (first | omega | (simp; done) | (simp; omega))))) rfl rfl rfl (by intro u hu; simp at hu; subst hu; rfl) (by omega) (by unfold maxLen; omega) ?_; intro v1 w1 hown1 hb1 _ _; obtain ⟨g1, cap1, rfl, hg1, hrow1⟩ := own_shape hown1))
              go_roundw
              case rel =>
                refine ⟨k + 1, g1, cap1, by omega, by go_num, rfl, fun j hj hjk => ?_, own_cast hown1 rfl (by rw [take_map l k hlk, E.out, strV_snoc2]), hb1⟩
                by_cases e : j = k
                · subst e; exact Hft.out
                · exact Hno.out j hj (by omega)
              case measure => simp [intOf]; omega
          · simp only [Bool.not_eq_true] at hb2
            rw [hb2] at hc1
            have hcon := Hcon.out
            rw [hb2] at hcon
            have Hcon := Lib.hid hcon
            have E := Lib.hid (itT_no _ hb2)
            have Hiw := Lib.hid hiw
            clear hiw hcon hb2
            go_wp2_with (first | (go_at_call 47; ((with_reducible refine (Hcon.out _).mono ?_); rintro e w' ⟨rfl, hb⟩; obtain ⟨hc, hf⟩ := bcell hb; have hz := hb.size; (try simp only [World.size_alloc, World.size_setCell, World.size_drew] at hz); obtain ⟨hlt, hle, hn1, hn2, hn3, hn4⟩ := bsize hb; (try simp only [World.size_alloc, World.size_setCell, World.size_drew] at hlt hle hn1 hn2 hn3 hn4); (try have hr0 : w.heap.size < w'.heap.size := by omega); (try have hr1 : w.heap.size + 1 < w'.heap.size := by omega); (try have hs0 : wS.heap.size < w'.heap.size := by omega); (try have hs1 : wG.heap.size < w'.heap.size := by omega))) | (go_at_call 48; ((with_reducible refine (Hiw.out _).mono ?_); rintro e w' ⟨rfl, rfl⟩)) | (go_at_call 49; ((with_reducible refine (impl_quote _ _ (by omega)).mono ?_); rintro e w' ⟨rfl, hb⟩; obtain ⟨hc, hf⟩ := bcell hb; have hz := hb.size; (try simp only [World.size_alloc, World.size_setCell, World.size_drew] at hz); obtain ⟨hlt, hle, hn1, hn2, hn3, hn4⟩ := bsize hb; (try simp only [World.size_alloc, World.size_setCell, World.size_drew] at hlt hle hn1 hn2 hn3 hn4); (try have hr0 : w.heap.size < w'.heap.size := by omega); (try have hr1 : w.heap.size + 1 < w'.heap.size := by omega); (try have hs0 : wS.heap.size < w'.heap.size := by omega); (try have hs1 : wG.heap.size < w'.heap.size := by omega))) | (at_builtin; refine app1 rfl _ _ 75 rfl Tryd.underlying75 infoStr rfl (by decide) (own_below hown (by exact (by first | (with_reducible exact Below.refl _ _) | ((repeat' (first | (with_reducible exact Below.refl _ _) | (with_reducible assumption) | (with_reducible refine below_alloc ?_ _) | (with_reducible refine Below.drew ?_) | (with_reducible refine below_drewN ?_ _) | (with_reducible refine Below.setCell ?_ ?_ _) | refine below_then ?_ (by with_reducible assumption))) <;> (first | omega | (simp; done) | (simp; omega))))) (Nat.le_refl _)) (by exact (by first | (with_reducible exact Below.refl _ _) | ((repeat' (first | (with_reducible exact Below.refl _ _) | (with_reducible assumption) | (with_reducible refine below_alloc ?_ _) | (with_reducible refine Below.drew ?_) | (with_reducible refine below_drewN ?_ _) | (with_reducible refine Below.setCell ?_ ?_ _) | refine below_then ?_ (by with_reducible assumption))) <;> (first | omega | (simp; done) | (simp; omega))))) rfl rfl rfl (by intro u hu; simp at hu; subst hu; rfl) (by omega) (by unfold maxLen; omega) ?_; intro v1 w1 hown1 hb1 _ _; obtain ⟨g1, cap1, rfl, hg1, hrow1⟩ := own_shape hown1))
            go_roundw
            case rel =>
              refine ⟨k + 1, g1, cap1, by omega, by go_num, rfl, fun j hj hjk => ?_, own_cast hown1 rfl (by rw [take_map l k hlk, E.out, strV_snoc2]), hb1⟩
              by_cases e : j = k
              · subst e; exact Hft.out
              · exact Hno.out j hj (by omega)
            case measure => simp [intOf]; omega
        · have hcon := fun W => impl_ItemFault l[k].1 l[k].2.1 l[k].2.2 hsx hsy W
          have Hcon := Lib.hid hcon
          have E := Lib.hid (itemsR_bad (l := l) (by have := Hl.out; omega) (by rw [faultG_at itemFault l k hlk Hno.out hft]; exact hft))
          have E2 := Lib.hid (faultG_at itemFault l k hlk Hno.out hft)
          have hne : (itemFault (l[k].1, l[k].2.1, l[k].2.2) != 0) = true := by simpa using hft
          clear hcon hft
          go_wp2_with (go_at_call 47; ((with_reducible refine (Hcon.out _).mono ?_); rintro e w' ⟨rfl, hb⟩; obtain ⟨hc, hf⟩ := bcell hb; have hz := hb.size; (try simp only [World.size_alloc, World.size_setCell, World.size_drew] at hz); obtain ⟨hlt, hle, hn1, hn2, hn3, hn4⟩ := bsize hb; (try simp only [World.size_alloc, World.size_setCell, World.size_drew] at hlt hle hn1 hn2 hn3 hn4); (try have hr0 : w.heap.size < w'.heap.size := by omega); (try have hr1 : w.heap.size + 1 < w'.heap.size := by omega); (try have hs0 : wS.heap.size < w'.heap.size := by omega); (try have hs1 : wG.heap.size < w'.heap.size := by omega)))
          all_goals exact bodyPost_ret (res_row Tryd.results15 _ _ rfl (blk_cast (by repeat' (first | (with_reducible assumption) | (with_reducible exact blk_new _ _) | (with_reducible apply blk_set) | (with_reducible refine blk_alloc ?_ _) | (with_reducible refine blk_drew ?_) | refine blk_then ?_ (by with_reducible assumption))) (by first | (simp; done) | rfl)) Tryd.underlying38 rfl _ (by kernel_rfl) rfl) rfl ⟨Hret.out _ _ (E.out.trans (by rw [E2.out])), by exact (by first | (with_reducible exact Below.refl _ _) | ((repeat' (first | (with_reducible exact Below.refl _ _) | (with_reducible assumption) | (with_reducible refine below_alloc ?_ _) | (with_reducible refine Below.drew ?_) | (with_reducible refine below_drewN ?_ _) | (with_reducible refine Below.setCell ?_ ?_ _) | refine below_then ?_ (by with_reducible assumption))) <;> (first | omega | (simp; done) | (simp; omega))))⟩
      · have hk' : k = n := by omega
        have hall : faultG itemFault l = 0 := faultG_none itemFault l fun j hj => Hno.out j hj (by have := Hl.out; omega)
        have hsz := items_size k (by have := Hl.out; omega) (by have := Hl.out; omega) Hno.out
        have em : (l.map itT).take k = l.map itT := List.take_of_length_le (by rw [List.length_map]; have := Hl.out; omega)
        rw [em] at hown hsz
        have hjo := fun W h => join_own g cap k ((w.alloc (.cells #[.int .i64 0, .string ⟨#[]⟩] 38))).heap.size (l.map itT) (by rw [List.length_map]; have := Hl.out; omega) W h (by omega) (by omega)
        have Hjo := Lib.hid hjo
        by_cases h3 : 1000 < (joinB commaS (l.map itT)).size
        · have E := Lib.hid (itemsR_long (l := l) (by have := Hl.out; omega) hall h3)
          obtain rfl := hk'
          clear hall em hjo
          go_wp2_with (go_at_call 50; ((with_reducible refine (Hjo.out _ hown).mono ?_); rintro e w' ⟨rfl, hb⟩; obtain ⟨hc, hf⟩ := bcell hb; have hz := hb.size; (try simp only [World.size_alloc, World.size_setCell, World.size_drew] at hz); obtain ⟨hlt, hle, hn1, hn2, hn3, hn4⟩ := bsize hb; (try simp only [World.size_alloc, World.size_setCell, World.size_drew] at hlt hle hn1 hn2 hn3 hn4); (try have hr0 : w.heap.size < w'.heap.size := by omega); (try have hr1 : w.heap.size + 1 < w'.heap.size := by omega); (try have hs0 : wS.heap.size < w'.heap.size := by omega); (try have hs1 : wG.heap.size < w'.heap.size := by omega)))
          all_goals exact bodyPost_ret (res_row Tryd.results15 _ _ rfl (blk_cast (by repeat' (first | (with_reducible assumption) | (with_reducible exact blk_new _ _) | (with_reducible apply blk_set) | (with_reducible refine blk_alloc ?_ _) | (with_reducible refine blk_drew ?_) | refine blk_then ?_ (by with_reducible assumption))) (by first | (simp; done) | rfl)) Tryd.underlying38 rfl _ (by kernel_rfl) rfl) rfl ⟨Hret.out _ _ E.out, by exact (by first | (with_reducible exact Below.refl _ _) | ((repeat' (first | (with_reducible exact Below.refl _ _) | (with_reducible assumption) | (with_reducible refine below_alloc ?_ _) | (with_reducible refine Below.drew ?_) | (with_reducible refine below_drewN ?_ _) | (with_reducible refine Below.setCell ?_ ?_ _) | refine below_then ?_ (by with_reducible assumption))) <;> (first | omega | (simp; done) | (simp; omega))))⟩
        · have E := Lib.hid (itemsR_ok (l := l) (by have := Hl.out; omega) hall h3)
          obtain rfl := hk'
          clear hall em hjo
          go_wp2_with (go_at_call 50; ((with_reducible refine (Hjo.out _ hown).mono ?_); rintro e w' ⟨rfl, hb⟩; obtain ⟨hc, hf⟩ := bcell hb; have hz := hb.size; (try simp only [World.size_alloc, World.size_setCell, World.size_drew] at hz); obtain ⟨hlt, hle, hn1, hn2, hn3, hn4⟩ := bsize hb; (try simp only [World.size_alloc, World.size_setCell, World.size_drew] at hlt hle hn1 hn2 hn3 hn4); (try have hr0 : w.heap.size < w'.heap.size := by omega); (try have hr1 : w.heap.size + 1 < w'.heap.size := by omega); (try have hs0 : wS.heap.size < w'.heap.size := by omega); (try have hs1 : wG.heap.size < w'.heap.size := by omega)))
          all_goals exact bodyPost_ret (res_row Tryd.results15 _ _ rfl (blk_cast (by repeat' (first | (with_reducible assumption) | (with_reducible exact blk_new _ _) | (with_reducible apply blk_set) | (with_reducible refine blk_alloc ?_ _) | (with_reducible refine blk_drew ?_) | refine blk_then ?_ (by with_reducible assumption))) (by first | (simp; done) | rfl)) Tryd.underlying38 rfl _ (by kernel_rfl) rfl) rfl ⟨Hret.out _ _ E.out, by exact (by first | (with_reducible exact Below.refl _ _) | ((repeat' (first | (with_reducible exact Below.refl _ _) | (with_reducible assumption) | (with_reducible refine below_alloc ?_ _) | (with_reducible refine Below.drew ?_) | (with_reducible refine below_drewN ?_ _) | (with_reducible refine Below.setCell ?_ ?_ _) | refine below_then ?_ (by with_reducible assumption))) <;> (first | omega | (simp; done) | (simp; omega))))⟩
end Go.Proofs.YthiogijicknoiaaDoor
