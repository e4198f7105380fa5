/- Joined: ItemS. -/
import Derived.Test.YthiogijicknoiaaDoorJRowItems10
/- The item of a piece: the second text; and both in the words of what is told. -/
namespace Go.Proofs.YthiogijicknoiaaDoor
open Go.RowKit
set_option linter.unusedSimpArgs false
set_option linter.unusedVariables false

set_option maxRecDepth 100000 in
set_option maxHeartbeats 6400000 in
theorem spec_l2Item (s : ByteArray) (hs : s.size ≤ 1000) (w : World) : Calls Tryd.prog 98 #[.string s] w fun e w' => ∃ x : It, e = .returned (.tuple #[.agg #[.string x.1, .bool x.2.1, .string x.2.2], .bool (itOf s).isSome]) ∧ (∀ y, itOf s = some y → x = y) ∧ Below w.heap.size w w' := by
  go_enter Tryd.func98, Tryd.ntmps98
  go_wp2
  go_loop [4] (fun v => ∃ j : Nat, j ≤ s.size ∧ v = .int .i64 (j : Int) ∧ ∀ q (hq : q < s.size), q < j → s[q] ≠ 61) (fun v => s.size - (intOf v).toNat)
  case atStart => exact ⟨0, Nat.zero_le _, rfl, fun q hq h => by omega⟩
  case round =>
    obtain ⟨j, hj, rfl, hno⟩ := hrel
    have Hno := Lib.hid hno
    clear hno
    by_cases hjl : j < s.size
    · by_cases c : ((s[j].toNat : Int) != 61) = true
      · have hne : s[j] ≠ 61 := fun e => by rw [e] at c; cases c
        have Hne := Lib.hid hne
        clear hne
        go_wp2
        go_round
        case rel =>
          refine ⟨j + 1, by omega, by go_num, fun q hq h => ?_⟩
          by_cases e : q = j
          · subst e; exact Hne.out
          · exact Hno.out q hq (by omega)
        case measure => simp [intOf]; omega
      · simp only [Bool.not_eq_true] at c
        have h61 : s[j] = 61 := by
          have : (s[j].toNat : Int) = 61 := by simpa using c
          apply UInt8.toNat_inj.1
          show _ = 61
          omega
        have ec := cutB_at hjl h61 Hno.out
        have z1 : (s.extract 0 j).size ≤ 1000 := by rw [extB_to, ba_size, List.length_take, Array.length_toList]; exact Nat.le_trans (Nat.min_le_left _ _) (by omega)
        have z2 : (s.extract (j + 1) s.size).size ≤ 1000 := by rw [extB_from, ba_size, List.length_drop, Array.length_toList]; exact Nat.le_trans (Nat.sub_le _ _) hs
        have n1 : ba (Lib.cut s.data.toList [61]).1 = s.extract 0 j := by rw [ec, extB_to]
        have n2 : ba (Lib.cut s.data.toList [61]).2.1 = s.extract (j + 1) s.size := by rw [ec, extB_from]
        have n3 : (Lib.cut s.data.toList [61]).2.2 = true := by rw [ec]
        have hjb : (j : Int) + 1 ≤ (s.size : Int) := by omega
        have hjw : IntKind.i64.wrap ((j : Int) + 1) = (j : Int) + 1 := wrapi _ (by omega) (by omega)
        have hj0 : (0 : Int) ≤ (j : Int) + 1 := by omega
        have hiw1 := fun W => spec_IsWord (s.extract 0 j) W (by omega)
        have hiw2 := fun W => spec_IsWord (s.extract (j + 1) s.size) W (by omega)
        clear ec h61
        by_cases h1 : wordS (s.extract 0 j) = true
        · have E1 := itOf_word (s := s)
          have E2 := fun b => itOf_quoted (s := s) (b := b)
          have E3 := itOf_badq (s := s)
          rw [n1, n2, n3] at E1 E3
          simp only [n1, n2, n3] at E2
          rw [h1] at hiw1
          by_cases h3 : wordS (s.extract (j + 1) s.size) = true
          · have E := Lib.hid (E1 h1 rfl h3)
            rw [h3] at hiw2
            have Hiw1 := Lib.hid hiw1
            have Hiw2 := Lib.hid hiw2
            clear E1 E2 E3 n1 n2 n3 h1 h3 hiw1 hiw2
            go_wp2_with (first
              | (go_at_call 57; ((with_reducible refine (Hiw1.out _).mono ?_); rintro e w' ⟨rfl, rfl⟩))
              | (go_at_call 57; ((with_reducible refine (Hiw2.out _).mono ?_); rintro e w' ⟨rfl, rfl⟩)))
            exact bodyPost_ret (res_row2 Tryd.results98 _ _ rfl (blk_cast (by repeat' (first | (with_reducible assumption) | (with_reducible exact blk_new _ _) | (with_reducible apply blk_set) | (with_reducible refine blk_new' _ _ _ (by first | omega | (simp only [World.size_alloc]; first | done | omega))) | (with_reducible refine blk_other ?_ _ _ _ (by omega)) | (with_reducible refine blk_drew ?_) | (with_reducible refine blk_alloc ?_ _) | refine blk_then ?_ (by with_reducible assumption))) (by first | (simp; done) | rfl)) Tryd.underlying70 rfl _ (by kernel_rfl) rfl rfl) rfl (by rw [E.out]; exact ⟨(_, _, _), rfl, fun y hy => (by first | (cases hy; rfl) | cases hy), by exact (by first | (with_reducible exact Below.refl _ _) | ((repeat' (first | (with_reducible exact Below.refl _ _) | (with_reducible assumption) | (with_reducible refine below_alloc ?_ _) | (with_reducible refine Below.drew ?_) | (with_reducible refine below_drewN ?_ _) | (with_reducible refine Below.setCell ?_ ?_ _) | refine below_then ?_ (by with_reducible assumption))) <;> (first | omega | (simp; done) | (simp; omega))))⟩)
          · simp only [Bool.not_eq_true] at h3
            rw [h3] at hiw2
            have Hiw1 := Lib.hid hiw1
            have Hiw2 := Lib.hid hiw2
            cases h4 : unqO (s.extract (j + 1) s.size) with
            | some b =>
              have E := Lib.hid (E2 b h1 trivial h3 h4)
              have Hun := Lib.hid (fun W => spec_l2Unquote_yes (s.extract (j + 1) s.size) b h4 W (by omega))
              clear E1 E2 E3 n1 n2 n3 h1 h3 h4 hiw1 hiw2
              go_wp2_with (first
                | (go_at_call 57; ((with_reducible refine (Hiw1.out _).mono ?_); rintro e w' ⟨rfl, rfl⟩))
                | (go_at_call 57; ((with_reducible refine (Hiw2.out _).mono ?_); rintro e w' ⟨rfl, rfl⟩))
                | (go_at_call 124; ((with_reducible refine (Hun.out _).mono ?_); rintro e w' ⟨rfl, hb⟩; obtain ⟨hc, hf⟩ := bcell hb; have hz := hb.size; (try simp only [World.size_alloc, World.size_setCell, World.size_drew] at hz); obtain ⟨hlt, hle, hn1, hn2, hn3, hn4⟩ := bsize hb; (try simp only [World.size_alloc, World.size_setCell, World.size_drew] at hlt hle hn1 hn2 hn3 hn4); (try have hr0 : w.heap.size < w'.heap.size := by omega); (try have hr1 : w.heap.size + 1 < w'.heap.size := by omega); (try have hs0 : wS.heap.size < w'.heap.size := by omega); (try have hs1 : wG.heap.size < w'.heap.size := by omega))))
              exact bodyPost_ret (res_row2 Tryd.results98 _ _ rfl (blk_cast (by repeat' (first | (with_reducible assumption) | (with_reducible exact blk_new _ _) | (with_reducible apply blk_set) | (with_reducible refine blk_new' _ _ _ (by first | omega | (simp only [World.size_alloc]; first | done | omega))) | (with_reducible refine blk_other ?_ _ _ _ (by omega)) | (with_reducible refine blk_drew ?_) | (with_reducible refine blk_alloc ?_ _) | refine blk_then ?_ (by with_reducible assumption))) (by first | (simp; done) | rfl)) Tryd.underlying70 rfl _ (by kernel_rfl) rfl rfl) rfl (by rw [E.out]; exact ⟨(_, _, _), rfl, fun y hy => (by first | (cases hy; rfl) | cases hy), by exact (by first | (with_reducible exact Below.refl _ _) | ((repeat' (first | (with_reducible exact Below.refl _ _) | (with_reducible assumption) | (with_reducible refine below_alloc ?_ _) | (with_reducible refine Below.drew ?_) | (with_reducible refine below_drewN ?_ _) | (with_reducible refine Below.setCell ?_ ?_ _) | refine below_then ?_ (by with_reducible assumption))) <;> (first | omega | (simp; done) | (simp; omega))))⟩)
            | none =>
              have E := Lib.hid (E3 h1 rfl h3 h4)
              have Hun := Lib.hid (fun W => spec_l2Unquote_no (s.extract (j + 1) s.size) h4 W (by omega))
              clear E1 E2 E3 n1 n2 n3 h1 h3 h4 hiw1 hiw2
              go_wp2_with (first
                | (go_at_call 57; ((with_reducible refine (Hiw1.out _).mono ?_); rintro e w' ⟨rfl, rfl⟩))
                | (go_at_call 57; ((with_reducible refine (Hiw2.out _).mono ?_); rintro e w' ⟨rfl, rfl⟩))
                | (go_at_call 124; ((with_reducible refine (Hun.out _).mono ?_); rintro e w' ⟨t, rfl, hb⟩; obtain ⟨hc, hf⟩ := bcell hb; have hz := hb.size; (try simp only [World.size_alloc, World.size_setCell, World.size_drew] at hz); obtain ⟨hlt, hle, hn1, hn2, hn3, hn4⟩ := bsize hb; (try simp only [World.size_alloc, World.size_setCell, World.size_drew] at hlt hle hn1 hn2 hn3 hn4); (try have hr0 : w.heap.size < w'.heap.size := by omega); (try have hr1 : w.heap.size + 1 < w'.heap.size := by omega); (try have hs0 : wS.heap.size < w'.heap.size := by omega); (try have hs1 : wG.heap.size < w'.heap.size := by omega))))
              exact bodyPost_ret (res_row2 Tryd.results98 _ _ rfl (blk_cast (by repeat' (first | (with_reducible assumption) | (with_reducible exact blk_new _ _) | (with_reducible apply blk_set) | (with_reducible refine blk_new' _ _ _ (by first | omega | (simp only [World.size_alloc]; first | done | omega))) | (with_reducible refine blk_other ?_ _ _ _ (by omega)) | (with_reducible refine blk_drew ?_) | (with_reducible refine blk_alloc ?_ _) | refine blk_then ?_ (by with_reducible assumption))) (by first | (simp; done) | rfl)) Tryd.underlying70 rfl _ (by kernel_rfl) rfl rfl) rfl (by rw [E.out]; exact ⟨(_, _, _), rfl, fun y hy => (by first | (cases hy; rfl) | cases hy), by exact (by first | (with_reducible exact Below.refl _ _) | ((repeat' (first | (with_reducible exact Below.refl _ _) | (with_reducible assumption) | (with_reducible refine below_alloc ?_ _) | (with_reducible refine Below.drew ?_) | (with_reducible refine below_drewN ?_ _) | (with_reducible refine Below.setCell ?_ ?_ _) | refine below_then ?_ (by with_reducible assumption))) <;> (first | omega | (simp; done) | (simp; omega))))⟩)
        · simp only [Bool.not_eq_true] at h1
          have E0 := itOf_noname (s := s)
          rw [n1] at E0
          have E := Lib.hid (E0 h1)
          rw [h1] at hiw1
          have Hiw1 := Lib.hid hiw1
          clear E0 n1 n2 n3 h1 hiw1 hiw2
          go_wp2_with (go_at_call 57; ((with_reducible refine (Hiw1.out _).mono ?_); rintro e w' ⟨rfl, rfl⟩))
          exact bodyPost_ret (res_row2 Tryd.results98 _ _ rfl (blk_cast (by repeat' (first | (with_reducible assumption) | (with_reducible exact blk_new _ _) | (with_reducible apply blk_set) | (with_reducible refine blk_new' _ _ _ (by first | omega | (simp only [World.size_alloc]; first | done | omega))) | (with_reducible refine blk_other ?_ _ _ _ (by omega)) | (with_reducible refine blk_drew ?_) | (with_reducible refine blk_alloc ?_ _) | refine blk_then ?_ (by with_reducible assumption))) (by first | (simp; done) | rfl)) Tryd.underlying70 rfl _ (by kernel_rfl) rfl rfl) rfl (by rw [E.out]; exact ⟨(_, _, _), rfl, fun y hy => (by first | (cases hy; rfl) | cases hy), by exact (by first | (with_reducible exact Below.refl _ _) | ((repeat' (first | (with_reducible exact Below.refl _ _) | (with_reducible assumption) | (with_reducible refine below_alloc ?_ _) | (with_reducible refine Below.drew ?_) | (with_reducible refine below_drewN ?_ _) | (with_reducible refine Below.setCell ?_ ?_ _) | refine below_then ?_ (by with_reducible assumption))) <;> (first | omega | (simp; done) | (simp; omega))))⟩)
    · have ec := cutB_none (s := s) (c := 61) (fun q hq => Hno.out q hq (by omega))
      obtain rfl : j = s.size := by omega
      have e0 : s.extract 0 s.size = s := by rw [extB_to, List.take_of_length_le (by rw [Array.length_toList]; exact Nat.le_refl _), ba_of]
      have hiw1 := fun W => spec_IsWord s W (by omega)
      by_cases h1 : wordS s = true
      · have E := Lib.hid (itOf_bare (s := s) (by rw [ec, ba_of]; exact h1) (by rw [ec]))
        rw [h1] at hiw1
        have Hiw1 := Lib.hid hiw1
        clear ec h1 hiw1
        go_wp2_with (go_at_call 57; ((with_reducible refine (Hiw1.out _).mono ?_); rintro e w' ⟨rfl, rfl⟩))
        exact bodyPost_ret (res_row2 Tryd.results98 _ _ rfl (blk_cast (by repeat' (first | (with_reducible assumption) | (with_reducible exact blk_new _ _) | (with_reducible apply blk_set) | (with_reducible refine blk_new' _ _ _ (by first | omega | (simp only [World.size_alloc]; first | done | omega))) | (with_reducible refine blk_other ?_ _ _ _ (by omega)) | (with_reducible refine blk_drew ?_) | (with_reducible refine blk_alloc ?_ _) | refine blk_then ?_ (by with_reducible assumption))) (by first | (simp; done) | rfl)) Tryd.underlying70 rfl _ (by kernel_rfl) rfl rfl) rfl (by rw [E.out]; exact ⟨(_, _, _), rfl, fun y hy => (by first | (cases hy; rfl) | cases hy), by exact (by first | (with_reducible exact Below.refl _ _) | ((repeat' (first | (with_reducible exact Below.refl _ _) | (with_reducible assumption) | (with_reducible refine below_alloc ?_ _) | (with_reducible refine Below.drew ?_) | (with_reducible refine below_drewN ?_ _) | (with_reducible refine Below.setCell ?_ ?_ _) | refine below_then ?_ (by with_reducible assumption))) <;> (first | omega | (simp; done) | (simp; omega))))⟩)
      · simp only [Bool.not_eq_true] at h1
        have E := Lib.hid (itOf_noname (s := s) (by rw [ec, ba_of]; exact h1))
        rw [h1] at hiw1
        have Hiw1 := Lib.hid hiw1
        clear ec h1 hiw1
        go_wp2_with (go_at_call 57; ((with_reducible refine (Hiw1.out _).mono ?_); rintro e w' ⟨rfl, rfl⟩))
        exact bodyPost_ret (res_row2 Tryd.results98 _ _ rfl (blk_cast (by repeat' (first | (with_reducible assumption) | (with_reducible exact blk_new _ _) | (with_reducible apply blk_set) | (with_reducible refine blk_new' _ _ _ (by first | omega | (simp only [World.size_alloc]; first | done | omega))) | (with_reducible refine blk_other ?_ _ _ _ (by omega)) | (with_reducible refine blk_drew ?_) | (with_reducible refine blk_alloc ?_ _) | refine blk_then ?_ (by with_reducible assumption))) (by first | (simp; done) | rfl)) Tryd.underlying70 rfl _ (by kernel_rfl) rfl rfl) rfl (by rw [E.out]; exact ⟨(_, _, _), rfl, fun y hy => (by first | (cases hy; rfl) | cases hy), by exact (by first | (with_reducible exact Below.refl _ _) | ((repeat' (first | (with_reducible exact Below.refl _ _) | (with_reducible assumption) | (with_reducible refine below_alloc ?_ _) | (with_reducible refine Below.drew ?_) | (with_reducible refine below_drewN ?_ _) | (with_reducible refine Below.setCell ?_ ?_ _) | refine below_then ?_ (by with_reducible assumption))) <;> (first | omega | (simp; done) | (simp; omega))))⟩)
theorem spec_l2Item_some (s : ByteArray) (y : It) (e : itOf s = some y) (hs : s.size ≤ 1000) (w : World) : Calls Tryd.prog 98 #[.string s] w fun e w' => e = .returned (.tuple #[.agg #[.string y.1, .bool y.2.1, .string y.2.2], .bool true]) ∧ Below w.heap.size w w' := by
  refine (spec_l2Item s hs w).mono ?_
  rintro e' w' ⟨x, rfl, hx, hb⟩
  rw [hx y e, e]
  exact ⟨rfl, hb⟩
theorem spec_l2Item_none (s : ByteArray) (e : itOf s = none) (hs : s.size ≤ 1000) (w : World) : Calls Tryd.prog 98 #[.string s] w fun e w' => ∃ x : It, e = .returned (.tuple #[.agg #[.string x.1, .bool x.2.1, .string x.2.2], .bool false]) ∧ Below w.heap.size w w' := by
  refine (spec_l2Item s hs w).mono ?_
  rintro e' w' ⟨x, rfl, hx, hb⟩
  rw [e]
  exact ⟨x, rfl, hb⟩
theorem impl_itemOf_some (s : ByteArray) (y : It) (e : itOf s = some y) (hs : s.size ≤ 1000) (w : World) (hm : MaxL w) : Calls Tryd.prog 54 #[.string s] w fun e w' => e = .returned (.tuple #[.agg #[.string y.1, .bool y.2.1, .string y.2.2], .bool true]) ∧ Below w.heap.size w w' := by
  refine (impl_itemOf s hs w hm).mono ?_
  rintro e' w' ⟨x, rfl, hx, hb⟩
  rw [hx y e, e]
  exact ⟨rfl, hb⟩
theorem impl_itemOf_none (s : ByteArray) (e : itOf s = none) (hs : s.size ≤ 1000) (w : World) (hm : MaxL w) : Calls Tryd.prog 54 #[.string s] w fun e w' => ∃ x : It, e = .returned (.tuple #[.agg #[.string x.1, .bool x.2.1, .string x.2.2], .bool false]) ∧ Below w.heap.size w w' := by
  refine (impl_itemOf s hs w hm).mono ?_
  rintro e' w' ⟨x, rfl, hx, hb⟩
  rw [e]
  exact ⟨x, rfl, hb⟩
end Go.Proofs.YthiogijicknoiaaDoor
