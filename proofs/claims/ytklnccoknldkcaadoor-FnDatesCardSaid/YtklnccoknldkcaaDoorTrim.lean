/- What is trimmed: both texts find the same. -/
import Derived.Test.YtklnccoknldkcaaDoorText
import Derived.Test.YtklnccoknldkcaaDoorTrimP
import Derived.Test.YtklnccoknldkcaaDoorLower
import Derived.Shelf.Strings.SlTrimAscii
namespace Go.Proofs.YtklnccoknldkcaaDoor
open Go.RowKit
set_option linter.unusedSimpArgs false
set_option linter.unusedVariables false

theorem strings_Trim (s : ByteArray) (w : World) (hs : s.size ≤ 9223372036854775807) : Calls Tryd.prog 71 #[.string s, .string ⟨#[32, 9]⟩] w fun e w' => e = .returned (.string (trimT s)) ∧ Below w.heap.size w w' :=
  Any.strings_Trim_laid Tryd.lays160 (by kernel_rfl) s ⟨#[32, 9]⟩ w hs (by decide) (ascii_of_all (by decide))
theorem spec_l1Blank (c : Int) (w : World) : Calls Tryd.prog 154 #[.int .u8 c] w fun e w' => e = .returned (.bool (blankB c)) ∧ w = w' := by
  go_enter Tryd.func154, Tryd.ntmps154
  go_wp2
  all_goals (go_ret; exact ⟨ret_bool (by first | (simp_all [blankB]; done) | (rw [Bool.eq_iff_iff]; simp_all [blankB])), rfl⟩)
theorem extract_eq (s : ByteArray) (f e : Nat) : s.extract f e = ⟨((s.data.toList.take e).drop f).toArray⟩ := by
  apply ByteArray.ext
  apply Array.toList_inj.1
  simp [ByteArray.data_extract, List.extract_eq_take_drop]
  rw [List.drop_take]
set_option maxHeartbeats 1600000 in
theorem spec_l1Trim (s : ByteArray) (w : World) (hs : s.size ≤ 9223372036854775807) : Calls Tryd.prog 74 #[.string s] w fun e w' => e = .returned (.string (trimT s)) ∧ w = w' := by
  go_enter Tryd.func74, Tryd.ntmps74
  go_wp2
  go_loop [3] (fun i => ∃ k : Nat, k ≤ s.size ∧ i = .int .i64 k ∧ ∀ j (h : j < s.size), j < k → blankB (s[j].toNat : Int) = true) (fun i => s.size - (intOf i).toNat)
  case atStart => exact ⟨0, Nat.zero_le _, rfl, fun j _ h => by omega⟩
  case round =>
    obtain ⟨f, hf, rfl, hall⟩ := hrel
    have Hall := Lib.hid hall
    clear hall
    by_cases hlt : f < s.size
    · by_cases hp : blankB (s[f].toNat : Int) = true
      · have Hp := Lib.hid hp
        go_wp2_with (go_at_call 154; ((with_reducible refine (spec_l1Blank _ _).mono ?_); rintro e w' ⟨rfl, rfl⟩))
        go_round
        case rel =>
          refine ⟨f + 1, by omega, by go_num, fun j h hj => ?_⟩
          by_cases e : j = f
          · subst e; exact Hp.out
          · exact Hall.out j h (by omega)
        case measure => (simp [intOf] <;> omega)
      · simp only [Bool.not_eq_true] at hp
        have hend : ∀ h : f < s.size, blankB (s[f].toNat : Int) = false := fun _ => hp
        have Hend := Lib.hid hend
        clear hend
        go_wp2_with (go_at_call 154; ((with_reducible refine (spec_l1Blank _ _).mono ?_); rintro e w' ⟨rfl, rfl⟩))
        go_loop [4] (fun i => ∃ k : Nat, f ≤ k ∧ k ≤ s.size ∧ i = .int .i64 k ∧ ∀ j (h : j < s.size), k ≤ j → blankB (s[j].toNat : Int) = true) (fun i => (intOf i).toNat)
        case atStart => exact ⟨s.size, hf, Nat.le_refl _, rfl, fun j h hj => by omega⟩
        case round =>
          obtain ⟨e, hfe, he, rfl, hall2⟩ := hrel
          have Hall2 := Lib.hid hall2
          clear hall2
          have hfin : (f < e → ∀ h : e - 1 < s.size, blankB (s[e - 1].toNat : Int) = false) → Ending.returned (.string (s.extract f e)) = .returned (.string (trimT s)) := fun h4 => by
            rw [extract_eq, trimT, trim_of s f e hfe he Hall.out Hend.out Hall2.out h4]
          have Hfin := Lib.hid hfin
          clear hfin
          by_cases hlt2 : f < e
          · obtain ⟨e', rfl⟩ : ∃ e', e = e' + 1 := ⟨e - 1, by omega⟩
            have he' : e' < s.size := by omega
            by_cases hp2 : blankB (s[e'].toNat : Int) = true
            · have Hp2 := Lib.hid hp2
              go_wp2_with (go_at_call 154; ((with_reducible refine (spec_l1Blank _ _).mono ?_); rintro e w' ⟨rfl, rfl⟩))
              go_round
              case rel =>
                refine ⟨e', by omega, by omega, by go_num, fun j h hj => ?_⟩
                by_cases e0 : j = e'
                · subst e0; exact Hp2.out
                · exact Hall2.out j h (by omega)
              case measure => (simp [intOf] <;> omega)
            · simp only [Bool.not_eq_true] at hp2
              have h5 : f < e' + 1 → ∀ h : e' + 1 - 1 < s.size, blankB (s[e' + 1 - 1].toNat : Int) = false := fun _ _ => hp2
              have H5 := Lib.hid h5
              clear h5
              go_wp2_with (go_at_call 154; ((with_reducible refine (spec_l1Blank _ _).mono ?_); rintro e w' ⟨rfl, rfl⟩))
              go_ret
              exact ⟨Hfin.out H5.out, rfl⟩
          · have e0 : e = f := by omega
            subst e0
            have e1 : s.extract e e = ByteArray.empty := by apply ByteArray.ext; simp
            have h6 : Ending.returned (.string ByteArray.empty) = .returned (.string (trimT s)) := by rw [← e1]; exact Hfin.out (fun h => absurd h (Nat.lt_irrefl _))
            have H6 := Lib.hid h6
            clear e1 h6
            go_wp2_with (go_at_call 154; ((with_reducible refine (spec_l1Blank _ _).mono ?_); rintro e w' ⟨rfl, rfl⟩))
            go_ret
            exact ⟨H6.out, rfl⟩
    · have hend : ∀ h : f < s.size, blankB (s[f].toNat : Int) = false := fun h => absurd h hlt
      have Hend := Lib.hid hend
      clear hend
      go_wp2_with (go_at_call 154; ((with_reducible refine (spec_l1Blank _ _).mono ?_); rintro e w' ⟨rfl, rfl⟩))
      go_loop [4] (fun i => ∃ k : Nat, f ≤ k ∧ k ≤ s.size ∧ i = .int .i64 k) (fun i => (intOf i).toNat)
      case atStart => exact ⟨s.size, hf, Nat.le_refl _, rfl⟩
      case round =>
        obtain ⟨e, hfe, he, rfl⟩ := hrel
        obtain rfl : e = f := by omega
        have e1 : s.extract e e = ByteArray.empty := by apply ByteArray.ext; simp
        have h6 : Ending.returned (.string ByteArray.empty) = .returned (.string (trimT s)) := by
          rw [← e1, extract_eq, trimT, trim_of s e e (Nat.le_refl _) hf Hall.out Hend.out (fun j h hj => by omega) (fun h => absurd h (Nat.lt_irrefl _))]
        have H6 := Lib.hid h6
        clear e1 h6
        go_wp2_with (go_at_call 154; ((with_reducible refine (spec_l1Blank _ _).mono ?_); rintro e w' ⟨rfl, rfl⟩))
        go_ret
        exact ⟨H6.out, rfl⟩
theorem trimR_yes {s : ByteArray} (h : s.size ≤ 1000) : trimR s = (0, trimT s) := by simp [trimR, h]
theorem trimR_no {s : ByteArray} (h : ¬ s.size ≤ 1000) : trimR s = (2, ByteArray.empty) := by simp [trimR, h]
theorem spec_TrimText (s : ByteArray) (w : World) (hs : s.size ≤ 9223372036854775807) : Calls Tryd.prog 16 #[.string s] w fun e w' => e = .returned (.agg #[.int .i64 (trimR s).1, .string (trimR s).2]) ∧ Below w.heap.size w w' := by
  by_cases h : s.size ≤ 1000
  · rw [trimR_yes h]
    go_enter Tryd.func16, Tryd.ntmps16
    go_wp2_with (go_at_call 74; ((with_reducible refine (spec_l1Trim s _ hs).mono ?_); rintro e w' ⟨rfl, rfl⟩))
    all_goals exact bodyPost_ret (by first | ((simp [results, Tryd.results16, go_sem]; try rfl); done) | ((simp [results, Tryd.results16, go_sem, *]; try rfl); done) | ((simp (maxDischargeDepth := 8) [results, Tryd.results16, go_sem, *]; try rfl); done)) rfl ⟨rfl, by first | (with_reducible rfl) | exact (by first | (with_reducible exact Below.refl _ _) | ((repeat' (first | (with_reducible exact Below.refl _ _) | (with_reducible assumption) | (with_reducible refine below_alloc ?_ _) | (with_reducible refine Below.drew ?_) | (with_reducible refine below_drewN ?_ _) | (with_reducible refine Below.setCell ?_ ?_ _) | refine below_then ?_ (by with_reducible assumption))) <;> (first | omega | (simp; done) | (simp; omega))))⟩
  · rw [trimR_no h]
    go_enter Tryd.func16, Tryd.ntmps16
    go_wp2
    all_goals exact bodyPost_ret (by first | ((simp [results, Tryd.results16, go_sem]; try rfl); done) | ((simp [results, Tryd.results16, go_sem, *]; try rfl); done) | ((simp (maxDischargeDepth := 8) [results, Tryd.results16, go_sem, *]; try rfl); done)) rfl ⟨rfl, by first | (with_reducible rfl) | exact (by first | (with_reducible exact Below.refl _ _) | ((repeat' (first | (with_reducible exact Below.refl _ _) | (with_reducible assumption) | (with_reducible refine below_alloc ?_ _) | (with_reducible refine Below.drew ?_) | (with_reducible refine below_drewN ?_ _) | (with_reducible refine Below.setCell ?_ ?_ _) | refine below_then ?_ (by with_reducible assumption))) <;> (first | omega | (simp; done) | (simp; omega))))⟩
theorem impl_TrimText (s : ByteArray) (w : World) (hs : s.size ≤ 9223372036854775807) : Calls Tryd.prog 13 #[.string s] w fun e w' => e = .returned (.agg #[.int .i64 (trimR s).1, .string (trimR s).2]) ∧ Below w.heap.size w w' := by
  by_cases h : s.size ≤ 1000
  · rw [trimR_yes h]
    go_enter Tryd.func13, Tryd.ntmps13
    go_wp2_with (go_at_call 71; ((with_reducible refine (strings_Trim s _ hs).mono ?_); rintro e w' ⟨rfl, hb⟩; obtain ⟨hc, hf⟩ := bcell hb; have hz := hb.size; (try simp only [World.size_alloc, World.size_setCell, World.size_drew] at hz); obtain ⟨hlt, hle, hn1, hn2, hn3, hn4⟩ := bsize hb; (try simp only [World.size_alloc, World.size_setCell, World.size_drew] at hlt hle hn1 hn2 hn3 hn4); (try have hr0 : w.heap.size < w'.heap.size := by omega); (try have hr1 : w.heap.size + 1 < w'.heap.size := by omega); (try have hs0 : wS.heap.size < w'.heap.size := by omega); (try have hs1 : wG.heap.size < w'.heap.size := by omega)))
    all_goals exact bodyPost_ret (by first | ((simp [results, Tryd.results13, go_sem]; try rfl); done) | ((simp [results, Tryd.results13, go_sem, *]; try rfl); done) | ((simp (maxDischargeDepth := 8) [results, Tryd.results13, go_sem, *]; try rfl); done)) rfl ⟨rfl, by first | (with_reducible rfl) | exact (by first | (with_reducible exact Below.refl _ _) | ((repeat' (first | (with_reducible exact Below.refl _ _) | (with_reducible assumption) | (with_reducible refine below_alloc ?_ _) | (with_reducible refine Below.drew ?_) | (with_reducible refine below_drewN ?_ _) | (with_reducible refine Below.setCell ?_ ?_ _) | refine below_then ?_ (by with_reducible assumption))) <;> (first | omega | (simp; done) | (simp; omega))))⟩
  · rw [trimR_no h]
    go_enter Tryd.func13, Tryd.ntmps13
    go_wp2
    all_goals exact bodyPost_ret (by first | ((simp [results, Tryd.results13, go_sem]; try rfl); done) | ((simp [results, Tryd.results13, go_sem, *]; try rfl); done) | ((simp (maxDischargeDepth := 8) [results, Tryd.results13, go_sem, *]; try rfl); done)) rfl ⟨rfl, by first | (with_reducible rfl) | exact (by first | (with_reducible exact Below.refl _ _) | ((repeat' (first | (with_reducible exact Below.refl _ _) | (with_reducible assumption) | (with_reducible refine below_alloc ?_ _) | (with_reducible refine Below.drew ?_) | (with_reducible refine below_drewN ?_ _) | (with_reducible refine Below.setCell ?_ ?_ _) | refine below_then ?_ (by with_reducible assumption))) <;> (first | omega | (simp; done) | (simp; omega))))⟩
end Go.Proofs.YtklnccoknldkcaaDoor
