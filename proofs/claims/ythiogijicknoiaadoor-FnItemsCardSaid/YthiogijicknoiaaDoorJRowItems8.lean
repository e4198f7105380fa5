/- Joined: Pieces. -/
import Derived.Test.YthiogijicknoiaaDoorJRowItems6
import Derived.Test.YthiogijicknoiaaDoorJRowItems0
/- The pieces of a text: both texts. -/
namespace Go.Proofs.YthiogijicknoiaaDoor
open Go.RowKit
set_option linter.unusedSimpArgs false
set_option linter.unusedVariables false

theorem extB (s : ByteArray) (f e : Nat) : s.extract f e = ba ((s.data.toList.take e).drop f) := by
  apply ByteArray.ext
  apply Array.toList_inj.1
  simp [ByteArray.data_extract, List.extract_eq_take_drop, ba]
  rw [List.drop_take]
theorem extB_to (s : ByteArray) (j : Nat) : s.extract 0 j = ba (s.data.toList.take j) := by rw [extB]; simp
theorem extB_from (s : ByteArray) (j : Nat) : s.extract j s.size = ba (s.data.toList.drop j) := by rw [extB, List.take_of_length_le (by rw [Array.length_toList]; exact Nat.le_refl _)]
theorem b_eq {b : UInt8} {n : Nat} (h : ((b.toNat : Int) == (n : Int)) = true) (hn : n < 256) : b = UInt8.ofNat n := by
  have := beq_iff_eq.1 h
  apply UInt8.toNat_inj.1
  rw [UInt8.toNat_ofNat']
  omega
theorem b_ne {b : UInt8} {n : Nat} (h : ((b.toNat : Int) == (n : Int)) = false) (hn : n < 256) : b ≠ UInt8.ofNat n := by
  have := beq_eq_false_iff_ne.1 h
  intro e
  apply this
  rw [e, UInt8.toNat_ofNat']
  omega
set_option maxRecDepth 100000 in
set_option maxHeartbeats 3200000 in
theorem spec_l2Pieces (t : ByteArray) (ht : t.size ≤ 10000) (w : World) : Calls Tryd.prog 96 #[.string t] w fun e w' => ∃ g cap, e = .returned (.slice (some ⟨g, 0, none⟩) (piecesB t).length cap) ∧
    w'.ownsRow w.heap.size 9 1 (.slice (some ⟨g, 0, none⟩) (piecesB t).length cap) (piecesB t).length (strV (piecesB t)) ∧ Below w.heap.size w w' := by
  go_enter Tryd.func96, Tryd.ntmps96
  go_wp2
  go_loopw [3, 4, 5, 6] (fun v fv pv iv wr => ∃ (f i g cap : Nat) (ins : Bool) (done : List ByteArray), fv = .int .i64 (f : Int) ∧ iv = .int .i64 (i : Int) ∧ pv = .bool ins ∧ PiecesAt t f i ins done ∧ done.length ≤ i ∧ v = .slice (some ⟨g, 0, none⟩) done.length cap ∧ wr.ownsRow w.heap.size 9 1 v done.length (strV done) ∧ Below w.heap.size w wr) (fun _ _ _ i _ => t.size - (intOf i).toNat)
  case atStart => exact ⟨0, 0, _, _, false, [], rfl, rfl, rfl, PiecesAt.start t, Nat.le_refl _, rfl, World.ownsRow_lit (size := 1) (e := 9) w #[] 0 (Nat.le_refl _) (by unfold maxLen; omega) rfl, below_alloc (Below.refl _ _) _⟩
  case round =>
    obtain ⟨f, i, g, cap, ins, done, rfl, rfl, rfl, hat, hdl, rfl, hown, hb⟩ := hrel
    have hfi := hat.1
    have hfs := hat.2.1
    have his := hat.2.2.1
    have Hat := Lib.hid hat
    clear hat
    have hz := hb.size
    by_cases hlt : i < t.size
    · by_cases c34 : ((t[i].toNat : Int) == 34) = true
      · have e34 := b_eq (n := 34) c34 (by omega)
        have c92 : ((t[i].toNat : Int) == 92) = false := by rw [e34]; rfl
        have hq := Hat.out.quote hlt e34
        have Hq := Lib.hid hq
        clear e34 hq
        cases ins
        · skip
          have H2 := Lib.hid Hq.out
          go_wp2
          go_roundw
          case rel => exact ⟨f, i + 1, g, cap, true, done, rfl, by go_num, rfl, H2.out, by omega, rfl, hown, hb⟩
          case measure => simp [intOf]; omega
        · skip
          have H2 := Lib.hid Hq.out
          go_wp2
          go_roundw
          case rel => exact ⟨f, i + 1, g, cap, false, done, rfl, by go_num, rfl, H2.out, by omega, rfl, hown, hb⟩
          case measure => simp [intOf]; omega
      · simp only [Bool.not_eq_true] at c34
        have N34 := Lib.hid (b_ne (n := 34) c34 (by omega))
        cases ins
        · by_cases c44 : ((t[i].toNat : Int) == 44) = true
          · have e44 := b_eq (n := 44) c44 (by omega)
            have c92 : ((t[i].toNat : Int) == 92) = false := by rw [e44]; rfl
            have H2 := Lib.hid (Hat.out.comma hlt e44)
            clear e44
            go_wp2_with (at_builtin; refine app1 rfl _ _ 75 rfl Tryd.underlying75 infoStr rfl (by decide) (own_below hown (by exact (by first | (with_reducible exact Below.refl _ _) | ((repeat' (first | (with_reducible exact Below.refl _ _) | (with_reducible assumption) | (with_reducible refine below_alloc ?_ _) | (with_reducible refine Below.drew ?_) | (with_reducible refine below_drewN ?_ _) | (with_reducible refine Below.setCell ?_ ?_ _) | refine below_then ?_ (by with_reducible assumption))) <;> (first | omega | (simp; done) | (simp; omega))))) (Nat.le_refl _)) (by exact (by first | (with_reducible exact Below.refl _ _) | ((repeat' (first | (with_reducible exact Below.refl _ _) | (with_reducible assumption) | (with_reducible refine below_alloc ?_ _) | (with_reducible refine Below.drew ?_) | (with_reducible refine below_drewN ?_ _) | (with_reducible refine Below.setCell ?_ ?_ _) | refine below_then ?_ (by with_reducible assumption))) <;> (first | omega | (simp; done) | (simp; omega))))) rfl rfl rfl (by intro u hu; simp at hu; subst hu; rfl) (by omega) (by unfold maxLen; omega) ?_; intro v1 w1 hown1 hb1 _ _; obtain ⟨g1, cap1, rfl, hg1, hrow1⟩ := own_shape hown1)
            go_roundw
            case rel => exact ⟨i + 1, i + 1, g1, cap1, false, done ++ [t.extract f i], by go_num, by go_num, rfl, by rw [extB]; exact H2.out, by rw [List.length_append, List.length_singleton]; omega, by rw [List.length_append, List.length_singleton], own_cast hown1 (by rw [List.length_append, List.length_singleton]) (by rw [strV_snoc]), hb1⟩
            case measure => simp [intOf]; omega
          · simp only [Bool.not_eq_true] at c44
            have N44 := Lib.hid (b_ne (n := 44) c44 (by omega))
            by_cases c92 : ((t[i].toNat : Int) == 92) = true
            · skip
              have H2 := Lib.hid (Hat.out.plain hlt (fun q => by cases q.1) N34.out (fun q => N44.out q.1))
              go_wp2
              go_roundw
              case rel => exact ⟨f, i + 1, g, cap, false, done, rfl, by go_num, rfl, H2.out, by omega, rfl, hown, hb⟩
              case measure => simp [intOf]; omega
            · simp only [Bool.not_eq_true] at c92
              have H2 := Lib.hid (Hat.out.plain hlt (fun q => by cases q.1) N34.out (fun q => N44.out q.1))
              go_wp2
              go_roundw
              case rel => exact ⟨f, i + 1, g, cap, false, done, rfl, by go_num, rfl, H2.out, by omega, rfl, hown, hb⟩
              case measure => simp [intOf]; omega
        · by_cases c92 : ((t[i].toNat : Int) == 92) = true
          · skip
            have H2 := Lib.hid (Hat.out.back hlt (b_eq (n := 92) c92 (by omega)))
            go_wp2
            go_roundw
            case rel => exact ⟨f, i + 2, g, cap, true, done, rfl, by go_num, rfl, H2.out, by omega, rfl, hown, hb⟩
            case measure => simp [intOf]; omega
          · simp only [Bool.not_eq_true] at c92
            by_cases c44 : ((t[i].toNat : Int) == 44) = true
            · skip
              have H2 := Lib.hid (Hat.out.plain hlt (fun q => b_ne (n := 92) c92 (by omega) q.2) N34.out (fun q => by cases q.2))
              go_wp2
              go_roundw
              case rel => exact ⟨f, i + 1, g, cap, true, done, rfl, by go_num, rfl, H2.out, by omega, rfl, hown, hb⟩
              case measure => simp [intOf]; omega
            · simp only [Bool.not_eq_true] at c44
              have H2 := Lib.hid (Hat.out.plain hlt (fun q => b_ne (n := 92) c92 (by omega) q.2) N34.out (fun q => by cases q.2))
              go_wp2
              go_roundw
              case rel => exact ⟨f, i + 1, g, cap, true, done, rfl, by go_num, rfl, H2.out, by omega, rfl, hown, hb⟩
              case measure => simp [intOf]; omega
    · have E := Lib.hid (Hat.out.stop hlt)
      have hfz : (f : Int) ≤ (t.size : Int) := by omega
      go_wp2_with (at_builtin; refine app1 rfl _ _ 75 rfl Tryd.underlying75 infoStr rfl (by decide) (own_below hown (by exact (by first | (with_reducible exact Below.refl _ _) | ((repeat' (first | (with_reducible exact Below.refl _ _) | (with_reducible assumption) | (with_reducible refine below_alloc ?_ _) | (with_reducible refine Below.drew ?_) | (with_reducible refine below_drewN ?_ _) | (with_reducible refine Below.setCell ?_ ?_ _) | refine below_then ?_ (by with_reducible assumption))) <;> (first | omega | (simp; done) | (simp; omega))))) (Nat.le_refl _)) (by exact (by first | (with_reducible exact Below.refl _ _) | ((repeat' (first | (with_reducible exact Below.refl _ _) | (with_reducible assumption) | (with_reducible refine below_alloc ?_ _) | (with_reducible refine Below.drew ?_) | (with_reducible refine below_drewN ?_ _) | (with_reducible refine Below.setCell ?_ ?_ _) | refine below_then ?_ (by with_reducible assumption))) <;> (first | omega | (simp; done) | (simp; omega))))) rfl rfl rfl (by intro u hu; simp at hu; subst hu; rfl) (by omega) (by unfold maxLen; omega) ?_; intro v1 w1 hown1 hb1 _ _; obtain ⟨g1, cap1, rfl, hg1, hrow1⟩ := own_shape hown1)
      go_ret
      refine ⟨g1, cap1, ?_, ?_, hb1⟩
      · rw [E.out, List.length_append, List.length_singleton]; rfl
      · rw [E.out, List.length_append, List.length_singleton, ← extB_from, ← strV_snoc]; exact hown1
set_option maxRecDepth 100000 in
set_option maxHeartbeats 3200000 in
theorem impl_pieces (t : ByteArray) (ht : t.size ≤ 10000) (w : World) : Calls Tryd.prog 52 #[.string t] w fun e w' => ∃ g cap, e = .returned (.slice (some ⟨g, 0, none⟩) (piecesB t).length cap) ∧
    w'.ownsRow w.heap.size 9 1 (.slice (some ⟨g, 0, none⟩) (piecesB t).length cap) (piecesB t).length (strV (piecesB t)) ∧ Below w.heap.size w w' := by
  go_enter Tryd.func52, Tryd.ntmps52
  go_wp2
  go_loopw [3, 4, 5, 6] (fun v fv pv iv wr => ∃ (f i g cap : Nat) (ins : Bool) (done : List ByteArray), fv = .int .i64 (f : Int) ∧ iv = .int .i64 (i : Int) ∧ pv = .bool ins ∧ PiecesAt t f i ins done ∧ done.length ≤ i ∧ v = .slice (some ⟨g, 0, none⟩) done.length cap ∧ wr.ownsRow w.heap.size 9 1 v done.length (strV done) ∧ Below w.heap.size w wr) (fun _ _ _ i _ => t.size - (intOf i).toNat)
  case atStart => exact ⟨0, 0, _, _, false, [], rfl, rfl, rfl, PiecesAt.start t, Nat.le_refl _, rfl, World.ownsRow_lit (size := 1) (e := 9) w #[] 0 (Nat.le_refl _) (by unfold maxLen; omega) rfl, below_alloc (Below.refl _ _) _⟩
  case round =>
    obtain ⟨f, i, g, cap, ins, done, rfl, rfl, rfl, hat, hdl, rfl, hown, hb⟩ := hrel
    have hfi := hat.1
    have hfs := hat.2.1
    have his := hat.2.2.1
    have Hat := Lib.hid hat
    clear hat
    have hz := hb.size
    by_cases hlt : i < t.size
    · by_cases c34 : ((t[i].toNat : Int) == 34) = true
      · have e34 := b_eq (n := 34) c34 (by omega)
        have c92 : ((t[i].toNat : Int) == 92) = false := by rw [e34]; rfl
        have hq := Hat.out.quote hlt e34
        have Hq := Lib.hid hq
        clear e34 hq
        cases ins
        · skip
          have H2 := Lib.hid Hq.out
          go_wp2
          go_roundw
          case rel => exact ⟨f, i + 1, g, cap, true, done, rfl, by go_num, rfl, H2.out, by omega, rfl, hown, hb⟩
          case measure => simp [intOf]; omega
        · skip
          have H2 := Lib.hid Hq.out
          go_wp2
          go_roundw
          case rel => exact ⟨f, i + 1, g, cap, false, done, rfl, by go_num, rfl, H2.out, by omega, rfl, hown, hb⟩
          case measure => simp [intOf]; omega
      · simp only [Bool.not_eq_true] at c34
        have N34 := Lib.hid (b_ne (n := 34) c34 (by omega))
        cases ins
        · by_cases c44 : ((t[i].toNat : Int) == 44) = true
          · have e44 := b_eq (n := 44) c44 (by omega)
            have c92 : ((t[i].toNat : Int) == 92) = false := by rw [e44]; rfl
            have H2 := Lib.hid (Hat.out.comma hlt e44)
            clear e44
            go_wp2_with (at_builtin; refine app1 rfl _ _ 75 rfl Tryd.underlying75 infoStr rfl (by decide) (own_below hown (by exact (by first | (with_reducible exact Below.refl _ _) | ((repeat' (first | (with_reducible exact Below.refl _ _) | (with_reducible assumption) | (with_reducible refine below_alloc ?_ _) | (with_reducible refine Below.drew ?_) | (with_reducible refine below_drewN ?_ _) | (with_reducible refine Below.setCell ?_ ?_ _) | refine below_then ?_ (by with_reducible assumption))) <;> (first | omega | (simp; done) | (simp; omega))))) (Nat.le_refl _)) (by exact (by first | (with_reducible exact Below.refl _ _) | ((repeat' (first | (with_reducible exact Below.refl _ _) | (with_reducible assumption) | (with_reducible refine below_alloc ?_ _) | (with_reducible refine Below.drew ?_) | (with_reducible refine below_drewN ?_ _) | (with_reducible refine Below.setCell ?_ ?_ _) | refine below_then ?_ (by with_reducible assumption))) <;> (first | omega | (simp; done) | (simp; omega))))) rfl rfl rfl (by intro u hu; simp at hu; subst hu; rfl) (by omega) (by unfold maxLen; omega) ?_; intro v1 w1 hown1 hb1 _ _; obtain ⟨g1, cap1, rfl, hg1, hrow1⟩ := own_shape hown1)
            go_roundw
            case rel => exact ⟨i + 1, i + 1, g1, cap1, false, done ++ [t.extract f i], by go_num, by go_num, rfl, by rw [extB]; exact H2.out, by rw [List.length_append, List.length_singleton]; omega, by rw [List.length_append, List.length_singleton], own_cast hown1 (by rw [List.length_append, List.length_singleton]) (by rw [strV_snoc]), hb1⟩
            case measure => simp [intOf]; omega
          · simp only [Bool.not_eq_true] at c44
            have N44 := Lib.hid (b_ne (n := 44) c44 (by omega))
            by_cases c92 : ((t[i].toNat : Int) == 92) = true
            · skip
              have H2 := Lib.hid (Hat.out.plain hlt (fun q => by cases q.1) N34.out (fun q => N44.out q.1))
              go_wp2
              go_roundw
              case rel => exact ⟨f, i + 1, g, cap, false, done, rfl, by go_num, rfl, H2.out, by omega, rfl, hown, hb⟩
              case measure => simp [intOf]; omega
            · simp only [Bool.not_eq_true] at c92
              have H2 := Lib.hid (Hat.out.plain hlt (fun q => by cases q.1) N34.out (fun q => N44.out q.1))
              go_wp2
              go_roundw
              case rel => exact ⟨f, i + 1, g, cap, false, done, rfl, by go_num, rfl, H2.out, by omega, rfl, hown, hb⟩
              case measure => simp [intOf]; omega
        · by_cases c92 : ((t[i].toNat : Int) == 92) = true
          · skip
            have H2 := Lib.hid (Hat.out.back hlt (b_eq (n := 92) c92 (by omega)))
            go_wp2
            go_roundw
            case rel => exact ⟨f, i + 2, g, cap, true, done, rfl, by go_num, rfl, H2.out, by omega, rfl, hown, hb⟩
            case measure => simp [intOf]; omega
          · simp only [Bool.not_eq_true] at c92
            by_cases c44 : ((t[i].toNat : Int) == 44) = true
            · skip
              have H2 := Lib.hid (Hat.out.plain hlt (fun q => b_ne (n := 92) c92 (by omega) q.2) N34.out (fun q => by cases q.2))
              go_wp2
              go_roundw
              case rel => exact ⟨f, i + 1, g, cap, true, done, rfl, by go_num, rfl, H2.out, by omega, rfl, hown, hb⟩
              case measure => simp [intOf]; omega
            · simp only [Bool.not_eq_true] at c44
              have H2 := Lib.hid (Hat.out.plain hlt (fun q => b_ne (n := 92) c92 (by omega) q.2) N34.out (fun q => by cases q.2))
              go_wp2
              go_roundw
              case rel => exact ⟨f, i + 1, g, cap, true, done, rfl, by go_num, rfl, H2.out, by omega, rfl, hown, hb⟩
              case measure => simp [intOf]; omega
    · have E := Lib.hid (Hat.out.stop hlt)
      have hfz : (f : Int) ≤ (t.size : Int) := by omega
      go_wp2_with (at_builtin; refine app1 rfl _ _ 75 rfl Tryd.underlying75 infoStr rfl (by decide) (own_below hown (by exact (by first | (with_reducible exact Below.refl _ _) | ((repeat' (first | (with_reducible exact Below.refl _ _) | (with_reducible assumption) | (with_reducible refine below_alloc ?_ _) | (with_reducible refine Below.drew ?_) | (with_reducible refine below_drewN ?_ _) | (with_reducible refine Below.setCell ?_ ?_ _) | refine below_then ?_ (by with_reducible assumption))) <;> (first | omega | (simp; done) | (simp; omega))))) (Nat.le_refl _)) (by exact (by first | (with_reducible exact Below.refl _ _) | ((repeat' (first | (with_reducible exact Below.refl _ _) | (with_reducible assumption) | (with_reducible refine below_alloc ?_ _) | (with_reducible refine Below.drew ?_) | (with_reducible refine below_drewN ?_ _) | (with_reducible refine Below.setCell ?_ ?_ _) | refine below_then ?_ (by with_reducible assumption))) <;> (first | omega | (simp; done) | (simp; omega))))) rfl rfl rfl (by intro u hu; simp at hu; subst hu; rfl) (by omega) (by unfold maxLen; omega) ?_; intro v1 w1 hown1 hb1 _ _; obtain ⟨g1, cap1, rfl, hg1, hrow1⟩ := own_shape hown1)
      go_ret
      refine ⟨g1, cap1, ?_, ?_, hb1⟩
      · rw [E.out, List.length_append, List.length_singleton]; rfl
      · rw [E.out, List.length_append, List.length_singleton, ← extB_from, ← strV_snoc]; exact hown1
end Go.Proofs.YthiogijicknoiaaDoor
