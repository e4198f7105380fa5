/- Joined: Unq. -/
import Derived.Test.YthiogijicknoiaaDoorJRowItems0
/- What stands between quotes is read. -/
namespace Go.Proofs.YthiogijicknoiaaDoor
open Go.RowKit
set_option linter.unusedSimpArgs false
set_option linter.unusedVariables false

theorem unqR_yes {s : ByteArray} {b : List UInt8} (h : s.size ≤ 2002) (e : unqO s = some b) : unqR s = (0, ⟨b.toArray⟩) := by simp [unqR, h, e]
theorem unqR_no {s : ByteArray} (h : s.size ≤ 2002) (e : unqO s = none) : unqR s = (5, ⟨#[]⟩) := by simp [unqR, h, e]
theorem unqR_many {s : ByteArray} (h : ¬ s.size ≤ 2002) : unqR s = (2, ⟨#[]⟩) := by simp [unqR, h]
theorem ret_unq (s : ByteArray) : ∀ c t, unqR s = (c, t) → Ending.returned (.agg #[.int .i64 c, .string t]) = .returned (.agg #[.int .i64 (unqR s).1, .string (unqR s).2]) := fun c t h => by rw [h]
theorem append_len {acc : List UInt8} {b : UInt8} : acc.length + 1 = (acc ++ [b]).length := by simp
theorem append_V {acc : List UInt8} {b : UInt8} : acc.map byteV ++ [.int .u8 (b.toNat : Int)] = (acc ++ [b]).map byteV := by simp [byteV]

set_option maxHeartbeats 3200000 in
set_option maxRecDepth 100000 in
theorem impl_UnquoteText (s : ByteArray) (w : World) (hs : s.size ≤ 9223372036854775807) : Calls Tryd.prog 90 #[.string s] w fun e w' => e = .returned (.agg #[.int .i64 (unqR s).1, .string (unqR s).2]) ∧ Below w.heap.size w w' := by
  by_cases h : s.size ≤ 2002
  · by_cases hq : quoted s = true
    · have hq2 := hq
      unfold quoted at hq2
      simp only [Bool.and_eq_true] at hq2
      obtain ⟨hf, hp⟩ := hq2
      obtain ⟨hpos, h34⟩ := quoted_first hf
      have hpre : Lib.hasPrefix s.data.toList [34] = true := hf
      have hO : unqO s = unqGo [] (s.data.toList.drop 1) := by simp [unqO, hq]
      have HO := Lib.hid hO
      have Hret := Lib.hid (ret_unq s)
      clear hO hq hf h34
      go_enter Tryd.func90, Tryd.ntmps90
      go_wp2_with (first | (go_at_call 119; ((with_reducible refine (Tryd.strings_HasPrefix _ _ _).mono ?_); rintro e w' ⟨rfl, rfl⟩)) | (go_at_call 78; ((with_reducible refine (impl_arePlain s _ hs).mono ?_); rintro e w' ⟨rfl, rfl⟩)))
      go_loopw [4, 5] (fun v i wr => ∃ (k : Nat) (acc : List UInt8) (g cap : Nat), k + 1 ≤ s.size ∧ i = .int .i64 ((k : Int) + 1) ∧ v = .slice (some ⟨g, 0, none⟩) acc.length cap ∧ acc.length ≤ k ∧ wr.ownsRow ((w.alloc (.cells #[.int .i64 0, .string ⟨#[]⟩] 38)).alloc (.cells #[.int .i64 5, .string ⟨#[]⟩] 38)).heap.size 5 1 v acc.length (acc.map byteV) ∧ unqO s = unqGo acc (s.data.toList.drop (k + 1)) ∧ Below ((w.alloc (.cells #[.int .i64 0, .string ⟨#[]⟩] 38)).alloc (.cells #[.int .i64 5, .string ⟨#[]⟩] 38)).heap.size ((w.alloc (.cells #[.int .i64 0, .string ⟨#[]⟩] 38)).alloc (.cells #[.int .i64 5, .string ⟨#[]⟩] 38)) wr) (fun _ i _ => s.size + 1 - (intOf i).toNat)
      case atStart => exact ⟨0, [], _, _, by omega, rfl, rfl, by simp, by simpa using World.ownsRow_lit ((w.alloc (.cells #[.int .i64 0, .string ⟨#[]⟩] 38)).alloc (.cells #[.int .i64 5, .string ⟨#[]⟩] 38)) #[] 0 (Nat.le_refl _) (by unfold maxLen; omega) (size := 1) (e := 5) rfl, HO.out, below_alloc (Below.refl _ _) _⟩
      case round =>
        obtain ⟨k, acc, g, cap, hk, rfl, rfl, hacc, hown, ho, hb⟩ := hrel
        obtain ⟨hc, hf⟩ := bcell hb
        have hz := hb.size
        simp only [World.size_alloc] at hz
        have Ho := Lib.hid ho
        clear ho
        by_cases hlt : k + 1 < s.size
        · by_cases c34 : s[k + 1].toNat = 34
          · have g1 : ((s[k + 1].toNat : Int) == 34) = true := by simp; omega
            by_cases hend : k + 1 + 1 = s.size
            · have g3 : ((k : Int) + 1 != (s.size : Int) - 1) = false := by simp; omega
              have e : unqO s = some acc := by rw [Ho.out, unq_quote s (k + 1) acc hlt c34, if_pos hend]
              have E := Lib.hid (unqR_yes h e)
              have hrow := RowAt.of_own hown
              have hcv := conv_back wr g cap acc acc.length rfl hrow
              clear e hend c34
              go_wp2
              all_goals exact bodyPost_ret (res_row Tryd.results90 _ _ rfl (blk_cast (by repeat' (first | (with_reducible assumption) | (with_reducible exact blk_new _ _) | (with_reducible apply blk_set) | (with_reducible refine blk_alloc ?_ _) | (with_reducible refine blk_drew ?_) | refine blk_then ?_ (by with_reducible assumption))) (by first | (simp; done) | rfl)) Tryd.underlying38 rfl _ (by kernel_rfl) rfl) rfl ⟨Hret.out _ _ E.out, by exact (by first | (with_reducible exact Below.refl _ _) | ((repeat' (first | (with_reducible exact Below.refl _ _) | (with_reducible assumption) | (with_reducible refine below_alloc ?_ _) | (with_reducible refine Below.drew ?_) | (with_reducible refine below_drewN ?_ _) | (with_reducible refine Below.setCell ?_ ?_ _) | refine below_then ?_ (by with_reducible assumption))) <;> (first | omega | (simp; done) | (simp; omega))))⟩
            · have g3 : ((k : Int) + 1 != (s.size : Int) - 1) = true := by simp; omega
              have e : unqO s = none := by rw [Ho.out, unq_quote s (k + 1) acc hlt c34, if_neg hend]
              have E := Lib.hid (unqR_no h e)
              clear e hend c34
              go_wp2
              all_goals exact bodyPost_ret (res_row Tryd.results90 _ _ rfl (blk_cast (by repeat' (first | (with_reducible assumption) | (with_reducible exact blk_new _ _) | (with_reducible apply blk_set) | (with_reducible refine blk_alloc ?_ _) | (with_reducible refine blk_drew ?_) | refine blk_then ?_ (by with_reducible assumption))) (by first | (simp; done) | rfl)) Tryd.underlying38 rfl _ (by kernel_rfl) rfl) rfl ⟨Hret.out _ _ E.out, by exact (by first | (with_reducible exact Below.refl _ _) | ((repeat' (first | (with_reducible exact Below.refl _ _) | (with_reducible assumption) | (with_reducible refine below_alloc ?_ _) | (with_reducible refine Below.drew ?_) | (with_reducible refine below_drewN ?_ _) | (with_reducible refine Below.setCell ?_ ?_ _) | refine below_then ?_ (by with_reducible assumption))) <;> (first | omega | (simp; done) | (simp; omega))))⟩
          · have g1 : ((s[k + 1].toNat : Int) == 34) = false := by simp; omega
            by_cases c92 : s[k + 1].toNat = 92
            · have g2 : ((s[k + 1].toNat : Int) == 92) = true := by simp; omega
              by_cases h2 : k + 1 + 1 < s.size
              · have e := Lib.hid (unq_back s (k + 1) acc hlt c92 h2)
                have g3 : ((k : Int) + 1 + 1 == (s.size : Int)) = false := by simp; omega
                clear c34 c92
                go_wp2_with ((at_builtin; refine app1 rfl _ _ 22 rfl Tryd.underlying22 infoByte rfl (by decide) hown hb rfl rfl rfl (by intro u hu; simp at hu; subst hu; rfl) (by omega) (by unfold maxLen; omega) ?_; intro v1 w1 hown1 hb1 _ _); obtain ⟨g', cap', rfl, hg', _⟩ := own_shape hown1)
                go_roundw
                case rel => exact ⟨k + 2, acc ++ [s[k + 2]], g', cap', by omega, by go_num, by rw [List.length_append]; rfl, by rw [List.length_append]; simp only [List.length_cons, List.length_nil]; omega, own_cast hown1 append_len append_V, by rw [Ho.out, e.out], hb1⟩
                case measure => simp [intOf]; omega
              · have e : unqO s = none := by rw [Ho.out, unq_back_end s (k + 1) acc hlt c92 h2]
                have g3 : ((k : Int) + 1 + 1 == (s.size : Int)) = true := by simp; omega
                have E := Lib.hid (unqR_no h e)
                clear e c34 c92
                go_wp2
                all_goals exact bodyPost_ret (res_row Tryd.results90 _ _ rfl (blk_cast (by repeat' (first | (with_reducible assumption) | (with_reducible exact blk_new _ _) | (with_reducible apply blk_set) | (with_reducible refine blk_alloc ?_ _) | (with_reducible refine blk_drew ?_) | refine blk_then ?_ (by with_reducible assumption))) (by first | (simp; done) | rfl)) Tryd.underlying38 rfl _ (by kernel_rfl) rfl) rfl ⟨Hret.out _ _ E.out, by exact (by first | (with_reducible exact Below.refl _ _) | ((repeat' (first | (with_reducible exact Below.refl _ _) | (with_reducible assumption) | (with_reducible refine below_alloc ?_ _) | (with_reducible refine Below.drew ?_) | (with_reducible refine below_drewN ?_ _) | (with_reducible refine Below.setCell ?_ ?_ _) | refine below_then ?_ (by with_reducible assumption))) <;> (first | omega | (simp; done) | (simp; omega))))⟩
            · have g2 : ((s[k + 1].toNat : Int) == 92) = false := by simp; omega
              have e := Lib.hid (unq_plain s (k + 1) acc hlt c34 c92)
              clear c34 c92
              go_wp2_with ((at_builtin; refine app1 rfl _ _ 22 rfl Tryd.underlying22 infoByte rfl (by decide) hown hb rfl rfl rfl (by intro u hu; simp at hu; subst hu; rfl) (by omega) (by unfold maxLen; omega) ?_; intro v1 w1 hown1 hb1 _ _); obtain ⟨g', cap', rfl, hg', _⟩ := own_shape hown1)
              go_roundw
              case rel => exact ⟨k + 1, acc ++ [s[k + 1]], g', cap', by omega, by go_num, by rw [List.length_append]; rfl, by rw [List.length_append]; simp only [List.length_cons, List.length_nil]; omega, own_cast hown1 append_len append_V, by rw [Ho.out, e.out], hb1⟩
              case measure => simp [intOf]; omega
        · have e : unqO s = none := by rw [Ho.out, unq_end s (k + 1) acc (by omega)]
          have E := Lib.hid (unqR_no h e)
          clear e
          go_wp2
          all_goals exact bodyPost_ret (res_row Tryd.results90 _ _ rfl (blk_cast (by repeat' (first | (with_reducible assumption) | (with_reducible exact blk_new _ _) | (with_reducible apply blk_set) | (with_reducible refine blk_alloc ?_ _) | (with_reducible refine blk_drew ?_) | refine blk_then ?_ (by with_reducible assumption))) (by first | (simp; done) | rfl)) Tryd.underlying38 rfl _ (by kernel_rfl) rfl) rfl ⟨Hret.out _ _ E.out, by exact (by first | (with_reducible exact Below.refl _ _) | ((repeat' (first | (with_reducible exact Below.refl _ _) | (with_reducible assumption) | (with_reducible refine below_alloc ?_ _) | (with_reducible refine Below.drew ?_) | (with_reducible refine below_drewN ?_ _) | (with_reducible refine Below.setCell ?_ ?_ _) | refine below_then ?_ (by with_reducible assumption))) <;> (first | omega | (simp; done) | (simp; omega))))⟩
    · have e : unqO s = none := by simp only [Bool.not_eq_true] at hq; simp [unqO, hq]
      rw [unqR_no h e]
      clear e
      by_cases hpre : Lib.hasPrefix s.data.toList [34] = true
      · have hp : allB plainB s = false := by
          by_cases hp : allB plainB s = true
          · exact absurd (by unfold quoted; rw [hp]; exact (Bool.and_true _).trans hpre) hq
          · simpa using hp
        clear hq
        go_enter Tryd.func90, Tryd.ntmps90
        go_wp2_with (first | (go_at_call 119; ((with_reducible refine (Tryd.strings_HasPrefix _ _ _).mono ?_); rintro e w' ⟨rfl, rfl⟩)) | (go_at_call 78; ((with_reducible refine (impl_arePlain s _ hs).mono ?_); rintro e w' ⟨rfl, rfl⟩)))
        all_goals exact bodyPost_ret (res_row Tryd.results90 _ _ rfl (blk_cast (by repeat' (first | (with_reducible assumption) | (with_reducible exact blk_new _ _) | (with_reducible apply blk_set) | (with_reducible refine blk_alloc ?_ _) | (with_reducible refine blk_drew ?_) | refine blk_then ?_ (by with_reducible assumption))) (by first | (simp; done) | rfl)) Tryd.underlying38 rfl _ (by kernel_rfl) rfl) rfl ⟨rfl, by first | (with_reducible rfl) | exact (by first | (with_reducible exact Below.refl _ _) | ((repeat' (first | (with_reducible exact Below.refl _ _) | (with_reducible assumption) | (with_reducible refine below_alloc ?_ _) | (with_reducible refine Below.drew ?_) | (with_reducible refine below_drewN ?_ _) | (with_reducible refine Below.setCell ?_ ?_ _) | refine below_then ?_ (by with_reducible assumption))) <;> (first | omega | (simp; done) | (simp; omega))))⟩
      · simp only [Bool.not_eq_true] at hpre
        clear hq
        go_enter Tryd.func90, Tryd.ntmps90
        go_wp2_with (first | (go_at_call 119; ((with_reducible refine (Tryd.strings_HasPrefix _ _ _).mono ?_); rintro e w' ⟨rfl, rfl⟩)))
        all_goals exact bodyPost_ret (res_row Tryd.results90 _ _ rfl (blk_cast (by repeat' (first | (with_reducible assumption) | (with_reducible exact blk_new _ _) | (with_reducible apply blk_set) | (with_reducible refine blk_alloc ?_ _) | (with_reducible refine blk_drew ?_) | refine blk_then ?_ (by with_reducible assumption))) (by first | (simp; done) | rfl)) Tryd.underlying38 rfl _ (by kernel_rfl) rfl) rfl ⟨rfl, by first | (with_reducible rfl) | exact (by first | (with_reducible exact Below.refl _ _) | ((repeat' (first | (with_reducible exact Below.refl _ _) | (with_reducible assumption) | (with_reducible refine below_alloc ?_ _) | (with_reducible refine Below.drew ?_) | (with_reducible refine below_drewN ?_ _) | (with_reducible refine Below.setCell ?_ ?_ _) | refine below_then ?_ (by with_reducible assumption))) <;> (first | omega | (simp; done) | (simp; omega))))⟩
  · rw [unqR_many h]
    go_enter Tryd.func90, Tryd.ntmps90
    go_wp2
    all_goals exact bodyPost_ret (res_row Tryd.results90 _ _ rfl (blk_cast (by repeat' (first | (with_reducible assumption) | (with_reducible exact blk_new _ _) | (with_reducible apply blk_set) | (with_reducible refine blk_alloc ?_ _) | (with_reducible refine blk_drew ?_) | refine blk_then ?_ (by with_reducible assumption))) (by first | (simp; done) | rfl)) Tryd.underlying38 rfl _ (by kernel_rfl) rfl) rfl ⟨rfl, by first | (with_reducible rfl) | exact (by first | (with_reducible exact Below.refl _ _) | ((repeat' (first | (with_reducible exact Below.refl _ _) | (with_reducible assumption) | (with_reducible refine below_alloc ?_ _) | (with_reducible refine Below.drew ?_) | (with_reducible refine below_drewN ?_ _) | (with_reducible refine Below.setCell ?_ ?_ _) | refine below_then ?_ (by with_reducible assumption))) <;> (first | omega | (simp; done) | (simp; omega))))⟩

def UnqP (s : ByteArray) (e : Ending) : Prop := ∃ t, e = .returned (.tuple #[.string t, .bool (unqO s).isSome]) ∧ ∀ b, unqO s = some b → t = ⟨b.toArray⟩
theorem UnqP.yes {s : ByteArray} {b : List UInt8} (h : unqO s = some b) : UnqP s (.returned (.tuple #[.string ⟨b.toArray⟩, .bool true])) := ⟨_, by rw [h]; rfl, fun b' h' => by rw [h] at h'; cases h'; rfl⟩
theorem UnqP.no {s : ByteArray} (h : unqO s = none) (t : ByteArray) : UnqP s (.returned (.tuple #[.string t, .bool false])) := ⟨t, by rw [h]; rfl, fun b' h' => by rw [h] at h'; cases h'⟩
set_option maxHeartbeats 3200000 in
set_option maxRecDepth 100000 in
theorem spec_l2Unquote (s : ByteArray) (w : World) (hs : s.size ≤ 2002) : Calls Tryd.prog 124 #[.string s] w fun e w' => UnqP s e ∧ Below w.heap.size w w' := by
  by_cases hq : quoted s = true
  · have hq2 := hq
    unfold quoted at hq2
    simp only [Bool.and_eq_true] at hq2
    obtain ⟨hf, hp⟩ := hq2
    obtain ⟨hpos, h34⟩ := quoted_first hf
    have hO : unqO s = unqGo [] (s.data.toList.drop 1) := by simp [unqO, hq]
    have HO := Lib.hid hO
    by_cases hone : s.size = 1
    · have e : unqO s = none := by rw [hO, unq_end s 1 [] (by omega)]
      have E := Lib.hid e
      have hone' : s.size < 2 := by omega
      clear hO hq hf h34 hone e
      go_enter Tryd.func124, Tryd.ntmps124
      go_wp2
      go_ret2
      exact ⟨UnqP.no E.out _, Below.refl _ _⟩
    · have hone' : 2 ≤ s.size := by omega
      have g0 : ((s[0].toNat : Int) != 34) = false := by simp; omega
      clear hO hq hf h34 hone
      go_enter Tryd.func124, Tryd.ntmps124
      go_wp2_with (first | (go_at_call 94; ((with_reducible refine (spec_l2PlainText s _ (by omega)).mono ?_); rintro e w' ⟨rfl, rfl⟩)))
      go_loopw [4, 5] (fun v i wr => ∃ (k : Nat) (acc : List UInt8) (g cap : Nat), k + 1 ≤ s.size ∧ i = .int .i64 ((k : Int) + 1) ∧ v = .slice (some ⟨g, 0, none⟩) acc.length cap ∧ acc.length ≤ k ∧ wr.ownsRow w.heap.size 5 1 v acc.length (acc.map byteV) ∧ unqO s = unqGo acc (s.data.toList.drop (k + 1)) ∧ Below w.heap.size w wr) (fun _ i _ => s.size + 1 - (intOf i).toNat)
      case atStart => exact ⟨0, [], _, _, by omega, rfl, rfl, by simp, by simpa using World.ownsRow_lit w #[] 0 (Nat.le_refl _) (by unfold maxLen; omega) (size := 1) (e := 5) rfl, HO.out, below_alloc (Below.refl _ _) _⟩
      case round =>
        obtain ⟨k, acc, g, cap, hk, rfl, rfl, hacc, hown, ho, hb⟩ := hrel
        have Ho := Lib.hid ho
        clear ho
        by_cases hlt : k + 1 < s.size
        · by_cases c34 : s[k + 1].toNat = 34
          · have g1 : ((s[k + 1].toNat : Int) == 34) = true := by simp; omega
            have hrow := RowAt.of_own hown
            have hcv := conv_back wr g cap acc acc.length rfl hrow
            by_cases hend : k + 1 + 1 = s.size
            · have g3 : ((k : Int) + 1 == (s.size : Int) - 1) = true := by simp; omega
              have e : unqO s = some acc := by rw [Ho.out, unq_quote s (k + 1) acc hlt c34, if_pos hend]
              have E := Lib.hid e
              clear e hend c34
              go_wp2
              go_ret2
              exact ⟨UnqP.yes E.out, hb⟩
            · have g3 : ((k : Int) + 1 == (s.size : Int) - 1) = false := by simp; omega
              have e : unqO s = none := by rw [Ho.out, unq_quote s (k + 1) acc hlt c34, if_neg hend]
              have E := Lib.hid e
              clear e hend c34
              go_wp2
              go_ret2
              exact ⟨UnqP.no E.out _, hb⟩
          · have g1 : ((s[k + 1].toNat : Int) == 34) = false := by simp; omega
            by_cases c92 : s[k + 1].toNat = 92
            · have g2 : ((s[k + 1].toNat : Int) == 92) = true := by simp; omega
              by_cases h2 : k + 1 + 1 < s.size
              · have e := Lib.hid (unq_back s (k + 1) acc hlt c92 h2)
                have g3 : ((k : Int) + 1 + 1 == (s.size : Int)) = false := by simp; omega
                clear c34 c92
                go_wp2_with ((at_builtin; refine app1 rfl _ _ 22 rfl Tryd.underlying22 infoByte rfl (by decide) hown hb rfl rfl rfl (by intro u hu; simp at hu; subst hu; rfl) (by omega) (by unfold maxLen; omega) ?_; intro v1 w1 hown1 hb1 _ _); obtain ⟨g', cap', rfl, hg', _⟩ := own_shape hown1)
                go_roundw
                case rel => exact ⟨k + 2, acc ++ [s[k + 2]], g', cap', by omega, by go_num, by rw [List.length_append]; rfl, by rw [List.length_append]; simp only [List.length_cons, List.length_nil]; omega, own_cast hown1 append_len append_V, by rw [Ho.out, e.out], hb1⟩
                case measure => simp [intOf]; omega
              · have e : unqO s = none := by rw [Ho.out, unq_back_end s (k + 1) acc hlt c92 h2]
                have g3 : ((k : Int) + 1 + 1 == (s.size : Int)) = true := by simp; omega
                have E := Lib.hid e
                clear e c34 c92
                go_wp2
                go_ret2
                exact ⟨UnqP.no E.out _, hb⟩
            · have g2 : ((s[k + 1].toNat : Int) == 92) = false := by simp; omega
              have e := Lib.hid (unq_plain s (k + 1) acc hlt c34 c92)
              clear c34 c92
              go_wp2_with ((at_builtin; refine app1 rfl _ _ 22 rfl Tryd.underlying22 infoByte rfl (by decide) hown hb rfl rfl rfl (by intro u hu; simp at hu; subst hu; rfl) (by omega) (by unfold maxLen; omega) ?_; intro v1 w1 hown1 hb1 _ _); obtain ⟨g', cap', rfl, hg', _⟩ := own_shape hown1)
              go_roundw
              case rel => exact ⟨k + 1, acc ++ [s[k + 1]], g', cap', by omega, by go_num, by rw [List.length_append]; rfl, by rw [List.length_append]; simp only [List.length_cons, List.length_nil]; omega, own_cast hown1 append_len append_V, by rw [Ho.out, e.out], hb1⟩
              case measure => simp [intOf]; omega
        · have e : unqO s = none := by rw [Ho.out, unq_end s (k + 1) acc (by omega)]
          have E := Lib.hid e
          clear e
          go_wp2
          go_ret2
          exact ⟨UnqP.no E.out _, hb⟩
  · have e : unqO s = none := by simp only [Bool.not_eq_true] at hq; simp [unqO, hq]
    have E := Lib.hid e
    clear e
    by_cases hsz : s.size < 2
    · clear hq
      go_enter Tryd.func124, Tryd.ntmps124
      go_wp2
      go_ret2
      exact ⟨UnqP.no E.out _, Below.refl _ _⟩
    · have hpos : 0 < s.size := by omega
      by_cases h34 : s[0].toNat = 34
      · have g0 : ((s[0].toNat : Int) != 34) = false := by simp; omega
        have hp : allB plainB s = false := by
          by_cases hp : allB plainB s = true
          · refine absurd ?_ hq
            unfold quoted
            have h0 := drop_at s 0 hpos
            rw [List.drop_zero] at h0
            rw [hp, h0, Bool.and_true]
            have : s[0] = 34 := UInt8.toNat_inj.1 h34
            simp [List.isPrefixOf, this]
          · simpa using hp
        clear hq h34
        go_enter Tryd.func124, Tryd.ntmps124
        go_wp2_with (first | (go_at_call 94; ((with_reducible refine (spec_l2PlainText s _ (by omega)).mono ?_); rintro e w' ⟨rfl, rfl⟩)))
        go_ret2
        exact ⟨UnqP.no E.out _, Below.refl _ _⟩
      · have g0 : ((s[0].toNat : Int) != 34) = true := by simp; omega
        clear hq h34
        go_enter Tryd.func124, Tryd.ntmps124
        go_wp2
        go_ret2
        exact ⟨UnqP.no E.out _, Below.refl _ _⟩
theorem spec_l2Unquote_yes (s : ByteArray) (b : List UInt8) (e : unqO s = some b) (w : World) (hs : s.size ≤ 2002) : Calls Tryd.prog 124 #[.string s] w fun e w' => e = .returned (.tuple #[.string ⟨b.toArray⟩, .bool true]) ∧ Below w.heap.size w w' :=
  (spec_l2Unquote s w hs).mono fun _ _ ⟨⟨t, he, ht⟩, hb⟩ => ⟨by rw [he, ht b e, e]; rfl, hb⟩
theorem spec_l2Unquote_no (s : ByteArray) (e : unqO s = none) (w : World) (hs : s.size ≤ 2002) : Calls Tryd.prog 124 #[.string s] w fun e w' => ∃ t, e = .returned (.tuple #[.string t, .bool false]) ∧ Below w.heap.size w w' :=
  (spec_l2Unquote s w hs).mono fun _ _ ⟨⟨t, he, _⟩, hb⟩ => ⟨t, by rw [he, e]; rfl, hb⟩
end Go.Proofs.YthiogijicknoiaaDoor
