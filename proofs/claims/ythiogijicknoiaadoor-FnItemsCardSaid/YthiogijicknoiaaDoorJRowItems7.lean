/- Joined: ItemsText. -/
import Derived.Test.YthiogijicknoiaaDoorJRowItems2
import Derived.Test.YthiogijicknoiaaDoorJRowItems0
import Derived.Deep.DeepCutAuto
/- The text of items: both texts write the same. -/
namespace Go.Proofs.YthiogijicknoiaaDoor
open Go.RowKit
set_option linter.unusedSimpArgs false
set_option linter.unusedVariables false

def itT (i : It) : ByteArray := itText i.1 i.2.1 i.2.2
theorem itemFault_0 {i : It} (h : itemFault i = 0) : i.1.size ≤ 64 ∧ i.2.2.size ≤ 1000 := by
  unfold itemFault at h
  split at h
  · cases h
  · rename_i h1
    split at h
    · cases h
    · split at h
      · cases h
      · rename_i h3
        refine ⟨?_, by omega⟩
        simp only [Bool.not_eq_false] at h1
        simp only [wordS, Bool.and_eq_true, decide_eq_true_eq] at h1
        exact h1.1.2
theorem itT_size {i : It} (h : itemFault i = 0) : (itT i).size ≤ 2100 := by
  have ⟨h1, h2⟩ := itemFault_0 h
  have h3 := quoteS_size i.2.2
  have e1 : (⟨#[61]⟩ : ByteArray).size = 1 := rfl
  unfold itT itText
  split
  · split
    · rw [ByteArray.size_append, ByteArray.size_append, e1]; omega
    · rw [ByteArray.size_append, ByteArray.size_append, e1]; omega
  · omega
theorem items_size {l : List It} (k : Nat) (hk : k ≤ l.length) (hl : l.length ≤ 20) (h : ∀ j (hj : j < l.length), j < k → itemFault l[j] = 0) : (joinB commaS ((l.map itT).take k)).size ≤ 45000 := by
  rw [← List.map_take]
  have := joinB_size commaS 2100 ((l.take k).map itT) (fun x hx => by
    obtain ⟨i, hi, rfl⟩ := List.mem_map.1 hx
    obtain ⟨j, hj, rfl⟩ := List.getElem_of_mem hi
    have hj' : j < k := by rw [List.length_take] at hj; omega
    have hjl : j < l.length := by omega
    rw [List.getElem_take]
    exact itT_size (h j hjl hj'))
  have e : commaS.size = 2 := rfl
  have hlen : ((l.take k).map itT).length ≤ 20 := by rw [List.length_map, List.length_take]; omega
  have h2 := Nat.mul_le_mul_right (2100 + 2) hlen
  rw [e] at this
  omega
theorem take_map (l : List It) (k : Nat) (h : k < l.length) : (l.map itT).take (k + 1) = (l.map itT).take k ++ [itT l[k]] := by
  rw [List.take_succ_eq_append_getElem (by rw [List.length_map]; exact h), List.getElem_map]
theorem items_step0 (l : List It) (k : Nat) (h : k < l.length) (h0 : k = 0) : joinB commaS ((l.map itT).take k) ++ itT l[k] = joinB commaS ((l.map itT).take (k + 1)) := by
  subst h0
  rw [take_map l 0 h, List.take_zero, List.nil_append, joinB_one, joinB_nil]
  apply ByteArray.ext; simp
theorem items_step (l : List It) (k : Nat) (h : k < l.length) (h0 : 0 < k) : joinB commaS ((l.map itT).take k) ++ ⟨#[44, 32]⟩ ++ itT l[k] = joinB commaS ((l.map itT).take (k + 1)) := by
  rw [take_map l k h]
  refine (joinB_snoc _ _ _ fun e => ?_).symm
  have := congrArg List.length e
  rw [List.length_take, List.length_map, List.length_nil] at this
  omega
theorem itT_no (i : It) (h : i.2.1 = false) : itT i = i.1 := by simp [itT, itText, h]
theorem itT_word (i : It) (h : i.2.1 = true) (h2 : wordS i.2.2 = true) : itT i = i.1 ++ (⟨#[61]⟩ ++ i.2.2) := by simp [itT, itText, h, h2]
theorem itT_quote (i : It) (h : i.2.1 = true) (h2 : wordS i.2.2 = false) : itT i = i.1 ++ (⟨#[61]⟩ ++ quoteS i.2.2) := by simp [itT, itText, h, h2]
theorem app4 (a b c d e : ByteArray) (h : a ++ (b ++ (c ++ d)) = e) : a ++ b ++ c ++ d = e := by rw [← h]; simp only [ByteArray.append_assoc]
def itemsR (l : List It) : Int × ByteArray := if 20 < l.length then (2, ⟨#[]⟩) else if faultG itemFault l ≠ 0 then (faultG itemFault l, ⟨#[]⟩) else
  if 1000 < (joinB commaS (l.map itT)).size then (2, ⟨#[]⟩) else (0, joinB commaS (l.map itT))
theorem itemsR_many {l : List It} (h : 20 < l.length) : itemsR l = (2, ⟨#[]⟩) := by simp [itemsR, h]
theorem itemsR_bad {l : List It} (h : ¬ 20 < l.length) (h2 : faultG itemFault l ≠ 0) : itemsR l = (faultG itemFault l, ⟨#[]⟩) := by simp [itemsR, h, h2]
theorem itemsR_long {l : List It} (h : ¬ 20 < l.length) (h2 : faultG itemFault l = 0) (h3 : 1000 < (joinB commaS (l.map itT)).size) : itemsR l = (2, ⟨#[]⟩) := by simp [itemsR, h, h2, h3]
theorem itemsR_ok {l : List It} (h : ¬ 20 < l.length) (h2 : faultG itemFault l = 0) (h3 : ¬ 1000 < (joinB commaS (l.map itT)).size) : itemsR l = (0, joinB commaS (l.map itT)) := by simp [itemsR, h, h2, h3]
theorem ret_items (l : List It) : ∀ c t, itemsR l = (c, t) → Ending.returned (.agg #[.int .i64 c, .string t]) = .returned (.agg #[.int .i64 (itemsR l).1, .string (itemsR l).2]) := fun c t h => by rw [h]
set_option maxHeartbeats 1600000 in
set_option maxRecDepth 100000 in
theorem spec_ItemsText (a : Option Addr) (n c : Nat) (l : List It) (hl : l.length = n) (w : World) (hr : Rd w a (iV l)) (hn : n ≤ 9223372036854775807) (hs : ∀ h ∈ l, h.1.size ≤ 9223372036854775807 ∧ h.2.2.size ≤ 9223372036854775807) :
    Calls Tryd.prog 20 #[.slice a n c] w fun e w' => e = .returned (.agg #[.int .i64 (itemsR l).1, .string (itemsR l).2]) ∧ Below w.heap.size w w' := by
  have Hret := Lib.hid (ret_items l)
  have Hl := Lib.hid hl
  have Hs := Lib.hid hs
  clear hs
  by_cases h20 : 20 < n
  · rw [itemsR_many (by omega)]
    clear hl
    go_enter Tryd.func20, Tryd.ntmps20
    go_wp2
    all_goals exact bodyPost_ret (res_row Tryd.results20 _ _ rfl (blk_cast (by repeat' (first | (with_reducible assumption) | (with_reducible exact blk_new _ _) | (with_reducible apply blk_set) | (with_reducible refine blk_alloc ?_ _) | (with_reducible refine blk_drew ?_) | refine blk_then ?_ (by with_reducible assumption))) (by first | (simp; done) | rfl)) Tryd.underlying38 rfl _ (by kernel_rfl) rfl) rfl ⟨rfl, by first | (with_reducible rfl) | exact (by first | (with_reducible exact Below.refl _ _) | ((repeat' (first | (with_reducible exact Below.refl _ _) | (with_reducible assumption) | (with_reducible refine below_alloc ?_ _) | (with_reducible refine Below.drew ?_) | (with_reducible refine below_drewN ?_ _) | (with_reducible refine Below.setCell ?_ ?_ _) | refine below_then ?_ (by with_reducible assumption))) <;> (first | omega | (simp; done) | (simp; omega))))⟩
  · clear hl
    go_enter Tryd.func20, Tryd.ntmps20
    go_wp2
    go_loopw [3, 4] (fun s i wr => ∃ k : Nat, k ≤ n ∧ i = .int .i64 k ∧ s = .string (joinB commaS ((l.map itT).take k)) ∧ (∀ j (hj : j < l.length), j < k → itemFault l[j] = 0) ∧ Below ((w.alloc (.cells #[.int .i64 0, .string ⟨#[]⟩] 38))).heap.size ((w.alloc (.cells #[.int .i64 0, .string ⟨#[]⟩] 38))) wr) (fun _ i _ => n - (intOf i).toNat)
    case atStart => exact ⟨0, Nat.zero_le _, rfl, rfl, fun j hj h => by omega, Below.refl _ _⟩
    case round =>
      obtain ⟨k, hk, rfl, rfl, hno, hb⟩ := hrel
      obtain ⟨hc, hf⟩ := bcell hb
      have hz := hb.size
      simp only [World.size_alloc] at hz
      have hbr := hb
      have q0 : w.heap.size < wr.heap.size := by omega
      have hsz := items_size k (by have := Hl.out; omega) (by have := Hl.out; omega) hno
      have Hno := Lib.hid hno
      clear hno
      by_cases hlt : k < n
      · have hlk : k < l.length := by rw [Hl.out]; exact hlt
        obtain ⟨b, off, rfl, hbl, hc0, hc1, hc2⟩ := ((Rd.alloc hr (.cells #[.int .i64 0, .string ⟨#[]⟩] 38)).below hb).item k hlk
        have hsx := (Hs.out l[k] (List.getElem_mem hlk)).1
        have hsy := (Hs.out l[k] (List.getElem_mem hlk)).2
        by_cases hft : itemFault l[k] = 0
        · have hsb := itemFault_0 hft
          have hqs := quoteS_size l[k].2.2
          have hcon := fun W => spec_ItemFault l[k].1 l[k].2.1 l[k].2.2 hsx hsy W
          rw [show itemFault (l[k].1, l[k].2.1, l[k].2.2) = 0 from hft] at hcon
          have Hcon := Lib.hid hcon
          have Hft := Lib.hid hft
          obtain ⟨hs1, hs2⟩ := hsb
          clear hcon hft
          by_cases hk0 : k = 0
          · have e0 := items_step0 l k hlk hk0
            have hkL : (k : Int) ≤ 0 := by omega
            have hkB : decide ((0 : Int) < (k : Int)) = false := decide_eq_false (by omega)
            clear hk0
            by_cases hb2 : l[k].2.1 = true
            · have hiw := fun W => spec_IsWord l[k].2.2 W hsy
              by_cases hw : wordS l[k].2.2 = true
              · rw [itT_word _ hb2 hw] at e0
                have E := Lib.hid (app4 _ _ _ _ _ e0)
                rw [hw] at hiw
                have Hiw := Lib.hid hiw
                rw [hb2] at hc1
                have hcon := Hcon.out
                rw [hb2] at hcon
                have Hcon := Lib.hid hcon
                clear hiw e0 hcon hb2 hw
                go_wp2_with (first | (go_at_call 56; ((with_reducible refine (Hcon.out _).mono ?_); rintro e w' ⟨rfl, hb⟩; obtain ⟨hc, hf⟩ := bcell hb; have hz := hb.size; (try simp only [World.size_alloc, World.size_setCell, World.size_drew] at hz); obtain ⟨hlt, hle, hn1, hn2, hn3, hn4⟩ := bsize hb; (try simp only [World.size_alloc, World.size_setCell, World.size_drew] at hlt hle hn1 hn2 hn3 hn4); (try have hr0 : w.heap.size < w'.heap.size := by omega); (try have hr1 : w.heap.size + 1 < w'.heap.size := by omega); (try have hs0 : wS.heap.size < w'.heap.size := by omega); (try have hs1 : wG.heap.size < w'.heap.size := by omega))) | (go_at_call 57; ((with_reducible refine (Hiw.out _).mono ?_); rintro e w' ⟨rfl, rfl⟩)) | (go_at_call 58; ((with_reducible refine (spec_l2Quote _ _ (by omega)).mono ?_); rintro e w' ⟨rfl, hb⟩; obtain ⟨hc, hf⟩ := bcell hb; have hz := hb.size; (try simp only [World.size_alloc, World.size_setCell, World.size_drew] at hz); obtain ⟨hlt, hle, hn1, hn2, hn3, hn4⟩ := bsize hb; (try simp only [World.size_alloc, World.size_setCell, World.size_drew] at hlt hle hn1 hn2 hn3 hn4); (try have hr0 : w.heap.size < w'.heap.size := by omega); (try have hr1 : w.heap.size + 1 < w'.heap.size := by omega); (try have hs0 : wS.heap.size < w'.heap.size := by omega); (try have hs1 : wG.heap.size < w'.heap.size := by omega))))
                go_roundw
                case rel =>
                  refine ⟨k + 1, by omega, by go_num, by rw [← E.out], fun j hj hjk => ?_, by exact (by first | (with_reducible exact Below.refl _ _) | ((repeat' (first | (with_reducible exact Below.refl _ _) | (with_reducible assumption) | (with_reducible refine below_alloc ?_ _) | (with_reducible refine Below.drew ?_) | (with_reducible refine below_drewN ?_ _) | (with_reducible refine Below.setCell ?_ ?_ _) | refine below_then ?_ (by with_reducible assumption))) <;> (first | omega | (simp; done) | (simp; omega))))⟩
                  by_cases e : j = k
                  · subst e; exact Hft.out
                  · exact Hno.out j hj (by omega)
                case measure => simp [intOf]; omega
              · simp only [Bool.not_eq_true] at hw
                rw [itT_quote _ hb2 hw] at e0
                have E := Lib.hid (app4 _ _ _ _ _ e0)
                rw [hw] at hiw
                have Hiw := Lib.hid hiw
                rw [hb2] at hc1
                have hcon := Hcon.out
                rw [hb2] at hcon
                have Hcon := Lib.hid hcon
                clear hiw e0 hcon hb2 hw
                go_wp2_with (first | (go_at_call 56; ((with_reducible refine (Hcon.out _).mono ?_); rintro e w' ⟨rfl, hb⟩; obtain ⟨hc, hf⟩ := bcell hb; have hz := hb.size; (try simp only [World.size_alloc, World.size_setCell, World.size_drew] at hz); obtain ⟨hlt, hle, hn1, hn2, hn3, hn4⟩ := bsize hb; (try simp only [World.size_alloc, World.size_setCell, World.size_drew] at hlt hle hn1 hn2 hn3 hn4); (try have hr0 : w.heap.size < w'.heap.size := by omega); (try have hr1 : w.heap.size + 1 < w'.heap.size := by omega); (try have hs0 : wS.heap.size < w'.heap.size := by omega); (try have hs1 : wG.heap.size < w'.heap.size := by omega))) | (go_at_call 57; ((with_reducible refine (Hiw.out _).mono ?_); rintro e w' ⟨rfl, rfl⟩)) | (go_at_call 58; ((with_reducible refine (spec_l2Quote _ _ (by omega)).mono ?_); rintro e w' ⟨rfl, hb⟩; obtain ⟨hc, hf⟩ := bcell hb; have hz := hb.size; (try simp only [World.size_alloc, World.size_setCell, World.size_drew] at hz); obtain ⟨hlt, hle, hn1, hn2, hn3, hn4⟩ := bsize hb; (try simp only [World.size_alloc, World.size_setCell, World.size_drew] at hlt hle hn1 hn2 hn3 hn4); (try have hr0 : w.heap.size < w'.heap.size := by omega); (try have hr1 : w.heap.size + 1 < w'.heap.size := by omega); (try have hs0 : wS.heap.size < w'.heap.size := by omega); (try have hs1 : wG.heap.size < w'.heap.size := by omega))))
                go_roundw
                case rel =>
                  refine ⟨k + 1, by omega, by go_num, by rw [← E.out], fun j hj hjk => ?_, by exact (by first | (with_reducible exact Below.refl _ _) | ((repeat' (first | (with_reducible exact Below.refl _ _) | (with_reducible assumption) | (with_reducible refine below_alloc ?_ _) | (with_reducible refine Below.drew ?_) | (with_reducible refine below_drewN ?_ _) | (with_reducible refine Below.setCell ?_ ?_ _) | refine below_then ?_ (by with_reducible assumption))) <;> (first | omega | (simp; done) | (simp; omega))))⟩
                  by_cases e : j = k
                  · subst e; exact Hft.out
                  · exact Hno.out j hj (by omega)
                case measure => simp [intOf]; omega
            · simp only [Bool.not_eq_true] at hb2
              rw [itT_no _ hb2] at e0
              have hiw := fun W => spec_IsWord l[k].2.2 W hsy
              have Hiw := Lib.hid hiw
              have E := Lib.hid e0
              rw [hb2] at hc1
              have hcon := Hcon.out
              rw [hb2] at hcon
              have Hcon := Lib.hid hcon
              clear hiw e0 hcon hb2
              go_wp2_with (first | (go_at_call 56; ((with_reducible refine (Hcon.out _).mono ?_); rintro e w' ⟨rfl, hb⟩; obtain ⟨hc, hf⟩ := bcell hb; have hz := hb.size; (try simp only [World.size_alloc, World.size_setCell, World.size_drew] at hz); obtain ⟨hlt, hle, hn1, hn2, hn3, hn4⟩ := bsize hb; (try simp only [World.size_alloc, World.size_setCell, World.size_drew] at hlt hle hn1 hn2 hn3 hn4); (try have hr0 : w.heap.size < w'.heap.size := by omega); (try have hr1 : w.heap.size + 1 < w'.heap.size := by omega); (try have hs0 : wS.heap.size < w'.heap.size := by omega); (try have hs1 : wG.heap.size < w'.heap.size := by omega))) | (go_at_call 57; ((with_reducible refine (Hiw.out _).mono ?_); rintro e w' ⟨rfl, rfl⟩)) | (go_at_call 58; ((with_reducible refine (spec_l2Quote _ _ (by omega)).mono ?_); rintro e w' ⟨rfl, hb⟩; obtain ⟨hc, hf⟩ := bcell hb; have hz := hb.size; (try simp only [World.size_alloc, World.size_setCell, World.size_drew] at hz); obtain ⟨hlt, hle, hn1, hn2, hn3, hn4⟩ := bsize hb; (try simp only [World.size_alloc, World.size_setCell, World.size_drew] at hlt hle hn1 hn2 hn3 hn4); (try have hr0 : w.heap.size < w'.heap.size := by omega); (try have hr1 : w.heap.size + 1 < w'.heap.size := by omega); (try have hs0 : wS.heap.size < w'.heap.size := by omega); (try have hs1 : wG.heap.size < w'.heap.size := by omega))))
              go_roundw
              case rel =>
                refine ⟨k + 1, by omega, by go_num, by rw [← E.out], fun j hj hjk => ?_, by exact (by first | (with_reducible exact Below.refl _ _) | ((repeat' (first | (with_reducible exact Below.refl _ _) | (with_reducible assumption) | (with_reducible refine below_alloc ?_ _) | (with_reducible refine Below.drew ?_) | (with_reducible refine below_drewN ?_ _) | (with_reducible refine Below.setCell ?_ ?_ _) | refine below_then ?_ (by with_reducible assumption))) <;> (first | omega | (simp; done) | (simp; omega))))⟩
                by_cases e : j = k
                · subst e; exact Hft.out
                · exact Hno.out j hj (by omega)
              case measure => simp [intOf]; omega
          · have e0 := items_step l k hlk (by omega)
            by_cases hb2 : l[k].2.1 = true
            · have hiw := fun W => spec_IsWord l[k].2.2 W hsy
              by_cases hw : wordS l[k].2.2 = true
              · rw [itT_word _ hb2 hw] at e0
                have E := Lib.hid (app4 _ _ _ _ _ e0)
                rw [hw] at hiw
                have Hiw := Lib.hid hiw
                rw [hb2] at hc1
                have hcon := Hcon.out
                rw [hb2] at hcon
                have Hcon := Lib.hid hcon
                clear hiw e0 hcon hb2 hw
                go_wp2_with (first | (go_at_call 56; ((with_reducible refine (Hcon.out _).mono ?_); rintro e w' ⟨rfl, hb⟩; obtain ⟨hc, hf⟩ := bcell hb; have hz := hb.size; (try simp only [World.size_alloc, World.size_setCell, World.size_drew] at hz); obtain ⟨hlt, hle, hn1, hn2, hn3, hn4⟩ := bsize hb; (try simp only [World.size_alloc, World.size_setCell, World.size_drew] at hlt hle hn1 hn2 hn3 hn4); (try have hr0 : w.heap.size < w'.heap.size := by omega); (try have hr1 : w.heap.size + 1 < w'.heap.size := by omega); (try have hs0 : wS.heap.size < w'.heap.size := by omega); (try have hs1 : wG.heap.size < w'.heap.size := by omega))) | (go_at_call 57; ((with_reducible refine (Hiw.out _).mono ?_); rintro e w' ⟨rfl, rfl⟩)) | (go_at_call 58; ((with_reducible refine (spec_l2Quote _ _ (by omega)).mono ?_); rintro e w' ⟨rfl, hb⟩; obtain ⟨hc, hf⟩ := bcell hb; have hz := hb.size; (try simp only [World.size_alloc, World.size_setCell, World.size_drew] at hz); obtain ⟨hlt, hle, hn1, hn2, hn3, hn4⟩ := bsize hb; (try simp only [World.size_alloc, World.size_setCell, World.size_drew] at hlt hle hn1 hn2 hn3 hn4); (try have hr0 : w.heap.size < w'.heap.size := by omega); (try have hr1 : w.heap.size + 1 < w'.heap.size := by omega); (try have hs0 : wS.heap.size < w'.heap.size := by omega); (try have hs1 : wG.heap.size < w'.heap.size := by omega))))
                go_roundw
                case rel =>
                  refine ⟨k + 1, by omega, by go_num, by rw [← E.out], fun j hj hjk => ?_, by exact (by first | (with_reducible exact Below.refl _ _) | ((repeat' (first | (with_reducible exact Below.refl _ _) | (with_reducible assumption) | (with_reducible refine below_alloc ?_ _) | (with_reducible refine Below.drew ?_) | (with_reducible refine below_drewN ?_ _) | (with_reducible refine Below.setCell ?_ ?_ _) | refine below_then ?_ (by with_reducible assumption))) <;> (first | omega | (simp; done) | (simp; omega))))⟩
                  by_cases e : j = k
                  · subst e; exact Hft.out
                  · exact Hno.out j hj (by omega)
                case measure => simp [intOf]; omega
              · simp only [Bool.not_eq_true] at hw
                rw [itT_quote _ hb2 hw] at e0
                have E := Lib.hid (app4 _ _ _ _ _ e0)
                rw [hw] at hiw
                have Hiw := Lib.hid hiw
                rw [hb2] at hc1
                have hcon := Hcon.out
                rw [hb2] at hcon
                have Hcon := Lib.hid hcon
                clear hiw e0 hcon hb2 hw
                go_wp2_with (first | (go_at_call 56; ((with_reducible refine (Hcon.out _).mono ?_); rintro e w' ⟨rfl, hb⟩; obtain ⟨hc, hf⟩ := bcell hb; have hz := hb.size; (try simp only [World.size_alloc, World.size_setCell, World.size_drew] at hz); obtain ⟨hlt, hle, hn1, hn2, hn3, hn4⟩ := bsize hb; (try simp only [World.size_alloc, World.size_setCell, World.size_drew] at hlt hle hn1 hn2 hn3 hn4); (try have hr0 : w.heap.size < w'.heap.size := by omega); (try have hr1 : w.heap.size + 1 < w'.heap.size := by omega); (try have hs0 : wS.heap.size < w'.heap.size := by omega); (try have hs1 : wG.heap.size < w'.heap.size := by omega))) | (go_at_call 57; ((with_reducible refine (Hiw.out _).mono ?_); rintro e w' ⟨rfl, rfl⟩)) | (go_at_call 58; ((with_reducible refine (spec_l2Quote _ _ (by omega)).mono ?_); rintro e w' ⟨rfl, hb⟩; obtain ⟨hc, hf⟩ := bcell hb; have hz := hb.size; (try simp only [World.size_alloc, World.size_setCell, World.size_drew] at hz); obtain ⟨hlt, hle, hn1, hn2, hn3, hn4⟩ := bsize hb; (try simp only [World.size_alloc, World.size_setCell, World.size_drew] at hlt hle hn1 hn2 hn3 hn4); (try have hr0 : w.heap.size < w'.heap.size := by omega); (try have hr1 : w.heap.size + 1 < w'.heap.size := by omega); (try have hs0 : wS.heap.size < w'.heap.size := by omega); (try have hs1 : wG.heap.size < w'.heap.size := by omega))))
                go_roundw
                case rel =>
                  refine ⟨k + 1, by omega, by go_num, by rw [← E.out], fun j hj hjk => ?_, by exact (by first | (with_reducible exact Below.refl _ _) | ((repeat' (first | (with_reducible exact Below.refl _ _) | (with_reducible assumption) | (with_reducible refine below_alloc ?_ _) | (with_reducible refine Below.drew ?_) | (with_reducible refine below_drewN ?_ _) | (with_reducible refine Below.setCell ?_ ?_ _) | refine below_then ?_ (by with_reducible assumption))) <;> (first | omega | (simp; done) | (simp; omega))))⟩
                  by_cases e : j = k
                  · subst e; exact Hft.out
                  · exact Hno.out j hj (by omega)
                case measure => simp [intOf]; omega
            · simp only [Bool.not_eq_true] at hb2
              rw [itT_no _ hb2] at e0
              have hiw := fun W => spec_IsWord l[k].2.2 W hsy
              have Hiw := Lib.hid hiw
              have E := Lib.hid e0
              rw [hb2] at hc1
              have hcon := Hcon.out
              rw [hb2] at hcon
              have Hcon := Lib.hid hcon
              clear hiw e0 hcon hb2
              go_wp2_with (first | (go_at_call 56; ((with_reducible refine (Hcon.out _).mono ?_); rintro e w' ⟨rfl, hb⟩; obtain ⟨hc, hf⟩ := bcell hb; have hz := hb.size; (try simp only [World.size_alloc, World.size_setCell, World.size_drew] at hz); obtain ⟨hlt, hle, hn1, hn2, hn3, hn4⟩ := bsize hb; (try simp only [World.size_alloc, World.size_setCell, World.size_drew] at hlt hle hn1 hn2 hn3 hn4); (try have hr0 : w.heap.size < w'.heap.size := by omega); (try have hr1 : w.heap.size + 1 < w'.heap.size := by omega); (try have hs0 : wS.heap.size < w'.heap.size := by omega); (try have hs1 : wG.heap.size < w'.heap.size := by omega))) | (go_at_call 57; ((with_reducible refine (Hiw.out _).mono ?_); rintro e w' ⟨rfl, rfl⟩)) | (go_at_call 58; ((with_reducible refine (spec_l2Quote _ _ (by omega)).mono ?_); rintro e w' ⟨rfl, hb⟩; obtain ⟨hc, hf⟩ := bcell hb; have hz := hb.size; (try simp only [World.size_alloc, World.size_setCell, World.size_drew] at hz); obtain ⟨hlt, hle, hn1, hn2, hn3, hn4⟩ := bsize hb; (try simp only [World.size_alloc, World.size_setCell, World.size_drew] at hlt hle hn1 hn2 hn3 hn4); (try have hr0 : w.heap.size < w'.heap.size := by omega); (try have hr1 : w.heap.size + 1 < w'.heap.size := by omega); (try have hs0 : wS.heap.size < w'.heap.size := by omega); (try have hs1 : wG.heap.size < w'.heap.size := by omega))))
              go_roundw
              case rel =>
                refine ⟨k + 1, by omega, by go_num, by rw [← E.out], fun j hj hjk => ?_, by exact (by first | (with_reducible exact Below.refl _ _) | ((repeat' (first | (with_reducible exact Below.refl _ _) | (with_reducible assumption) | (with_reducible refine below_alloc ?_ _) | (with_reducible refine Below.drew ?_) | (with_reducible refine below_drewN ?_ _) | (with_reducible refine Below.setCell ?_ ?_ _) | refine below_then ?_ (by with_reducible assumption))) <;> (first | omega | (simp; done) | (simp; omega))))⟩
                by_cases e : j = k
                · subst e; exact Hft.out
                · exact Hno.out j hj (by omega)
              case measure => simp [intOf]; omega
        · have hcon := fun W => spec_ItemFault l[k].1 l[k].2.1 l[k].2.2 hsx hsy W
          have Hcon := Lib.hid hcon
          have E := Lib.hid (itemsR_bad (l := l) (by have := Hl.out; omega) (by rw [faultG_at itemFault l k hlk Hno.out hft]; exact hft))
          have E2 := Lib.hid (faultG_at itemFault l k hlk Hno.out hft)
          have hne : (itemFault (l[k].1, l[k].2.1, l[k].2.2) != 0) = true := by simpa using hft
          clear hcon hft
          go_wp2_with (go_at_call 56; ((with_reducible refine (Hcon.out _).mono ?_); rintro e w' ⟨rfl, hb⟩; obtain ⟨hc, hf⟩ := bcell hb; have hz := hb.size; (try simp only [World.size_alloc, World.size_setCell, World.size_drew] at hz); obtain ⟨hlt, hle, hn1, hn2, hn3, hn4⟩ := bsize hb; (try simp only [World.size_alloc, World.size_setCell, World.size_drew] at hlt hle hn1 hn2 hn3 hn4); (try have hr0 : w.heap.size < w'.heap.size := by omega); (try have hr1 : w.heap.size + 1 < w'.heap.size := by omega); (try have hs0 : wS.heap.size < w'.heap.size := by omega); (try have hs1 : wG.heap.size < w'.heap.size := by omega)))
          all_goals exact bodyPost_ret (res_row Tryd.results20 _ _ rfl (blk_cast (by repeat' (first | (with_reducible assumption) | (with_reducible exact blk_new _ _) | (with_reducible apply blk_set) | (with_reducible refine blk_alloc ?_ _) | (with_reducible refine blk_drew ?_) | refine blk_then ?_ (by with_reducible assumption))) (by first | (simp; done) | rfl)) Tryd.underlying38 rfl _ (by kernel_rfl) rfl) rfl ⟨Hret.out _ _ (E.out.trans (by rw [E2.out])), by exact (by first | (with_reducible exact Below.refl _ _) | ((repeat' (first | (with_reducible exact Below.refl _ _) | (with_reducible assumption) | (with_reducible refine below_alloc ?_ _) | (with_reducible refine Below.drew ?_) | (with_reducible refine below_drewN ?_ _) | (with_reducible refine Below.setCell ?_ ?_ _) | refine below_then ?_ (by with_reducible assumption))) <;> (first | omega | (simp; done) | (simp; omega))))⟩
      · have hk' : k = n := by omega
        have hall : faultG itemFault l = 0 := faultG_none itemFault l fun j hj => Hno.out j hj (by have := Hl.out; omega)
        have et : True := trivial
        have em : List.take n (List.map itT l) = l.map itT := List.take_of_length_le (by rw [List.length_map]; have := Hl.out; omega)
        by_cases h3 : 1000 < (joinB commaS (l.map itT)).size
        · have E := Lib.hid (itemsR_long (l := l) (by have := Hl.out; omega) hall h3)
          obtain rfl := hk'
          clear hall et
          go_wp2
          all_goals exact bodyPost_ret (res_row Tryd.results20 _ _ rfl (blk_cast (by repeat' (first | (with_reducible assumption) | (with_reducible exact blk_new _ _) | (with_reducible apply blk_set) | (with_reducible refine blk_alloc ?_ _) | (with_reducible refine blk_drew ?_) | refine blk_then ?_ (by with_reducible assumption))) (by first | (simp; done) | rfl)) Tryd.underlying38 rfl _ (by kernel_rfl) rfl) rfl ⟨Hret.out _ _ E.out, by exact (by first | (with_reducible exact Below.refl _ _) | ((repeat' (first | (with_reducible exact Below.refl _ _) | (with_reducible assumption) | (with_reducible refine below_alloc ?_ _) | (with_reducible refine Below.drew ?_) | (with_reducible refine below_drewN ?_ _) | (with_reducible refine Below.setCell ?_ ?_ _) | refine below_then ?_ (by with_reducible assumption))) <;> (first | omega | (simp; done) | (simp; omega))))⟩
        · have E := Lib.hid (itemsR_ok (l := l) (by have := Hl.out; omega) hall h3)
          obtain rfl := hk'
          clear hall et
          go_wp2
          all_goals exact bodyPost_ret (res_row Tryd.results20 _ _ rfl (blk_cast (by repeat' (first | (with_reducible assumption) | (with_reducible exact blk_new _ _) | (with_reducible apply blk_set) | (with_reducible refine blk_alloc ?_ _) | (with_reducible refine blk_drew ?_) | refine blk_then ?_ (by with_reducible assumption))) (by first | (simp; done) | rfl)) Tryd.underlying38 rfl _ (by kernel_rfl) rfl) rfl ⟨Hret.out _ _ E.out, by exact (by first | (with_reducible exact Below.refl _ _) | ((repeat' (first | (with_reducible exact Below.refl _ _) | (with_reducible assumption) | (with_reducible refine below_alloc ?_ _) | (with_reducible refine Below.drew ?_) | (with_reducible refine below_drewN ?_ _) | (with_reducible refine Below.setCell ?_ ?_ _) | refine below_then ?_ (by with_reducible assumption))) <;> (first | omega | (simp; done) | (simp; omega))))⟩
end Go.Proofs.YthiogijicknoiaaDoor
