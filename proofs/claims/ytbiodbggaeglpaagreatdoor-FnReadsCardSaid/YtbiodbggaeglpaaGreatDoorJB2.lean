/- Joined: Vals, WordsP. -/
import Derived.Test.YtbiodbggaeglpaaGreatDoorJB1
import Derived.Test.YtbiodbggaeglpaaGreatDoorJB0
/- The values of the head lines of one name. -/
namespace Go.Proofs.YtbiodbggaeglpaaGreatDoor
open Go.RowKit
set_option linter.unusedSimpArgs false
set_option linter.unusedVariables false

def vals (nm : ByteArray) (l : List Hd) : List ByteArray := (l.filter fun h => alikeB h.1 nm).map (·.2)
theorem vals_yes (nm : ByteArray) (l : List Hd) (k : Nat) (h : k < l.length) (ha : alikeB l[k].1 nm = true) : vals nm (l.take (k + 1)) = vals nm (l.take k) ++ [l[k].2] := by
  unfold vals; rw [List.take_succ_eq_append_getElem h, List.filter_append, List.map_append]
  simp [ha]
theorem vals_no (nm : ByteArray) (l : List Hd) (k : Nat) (h : k < l.length) (ha : alikeB l[k].1 nm = false) : vals nm (l.take (k + 1)) = vals nm (l.take k) := by
  unfold vals; rw [List.take_succ_eq_append_getElem h, List.filter_append, List.map_append]
  simp [ha]
theorem vals_len (nm : ByteArray) (l : List Hd) : (vals nm l).length ≤ l.length := by unfold vals; rw [List.length_map]; exact List.length_filter_le _ _
theorem vals_take_len (nm : ByteArray) (l : List Hd) (k : Nat) : (vals nm (l.take k)).length ≤ k := by
  have h1 := vals_len nm (l.take k)
  have h2 := List.length_take_le k l
  omega
theorem vals_mem {nm : ByteArray} {l : List Hd} {x : ByteArray} (h : x ∈ vals nm l) : ∃ y ∈ l, y.2 = x := by
  obtain ⟨y, hy, e⟩ := List.mem_map.1 h
  exact ⟨y, (List.mem_filter.1 hy).1, e⟩
theorem strV_snoc (l : List ByteArray) (x : ByteArray) : strV l ++ [.string x] = strV (l ++ [x]) := by simp [strV]
set_option maxHeartbeats 1600000 in
theorem impl_valuesOf (nm : ByteArray) (hnm : nm.size ≤ 9223372036854775807) (a : Option Addr) (n c : Nat) (l : List Hd) (hl : l.length = n) (w : World) (hr : Rd w a (hV l)) (hn : n ≤ 100000) (hs : ∀ h ∈ l, h.1.size ≤ 9223372036854775807 ∧ h.2.size ≤ 9223372036854775807) :
    Calls Tryz.prog 33 #[.slice a n c, .string nm] w fun e w' => ∃ g cap, e = .returned (.slice (some ⟨g, 0, none⟩) (vals nm l).length cap) ∧ w'.ownsRow w.heap.size 9 1 (.slice (some ⟨g, 0, none⟩) (vals nm l).length cap) (vals nm l).length (strV (vals nm l)) ∧ Below w.heap.size w w' := by
  have Hl := Lib.hid hl
  have Hs := Lib.hid hs
  clear hl hs
  go_enter Tryz.func33, Tryz.ntmps33
  go_wp2
  go_loopw [5, 11] (fun v i wr => ∃ (k g cap : Nat), k ≤ n ∧ i = .int .i64 k ∧ v = .slice (some ⟨g, 0, none⟩) (vals nm (l.take k)).length cap ∧ wr.ownsRow w.heap.size 9 1 v (vals nm (l.take k)).length (strV (vals nm (l.take k))) ∧ Below w.heap.size w wr) (fun _ i _ => n - (intOf i).toNat)
  case atStart => exact ⟨0, _, _, Nat.zero_le _, rfl, rfl, World.ownsRow_lit (size := 1) (e := 9) w #[] 0 (Nat.le_refl _) (by unfold maxLen; omega) rfl, below_alloc (Below.refl _ _) _⟩
  case round =>
    obtain ⟨k, g, cap, hk, rfl, rfl, hown, hb⟩ := hrel
    have hvl := vals_take_len nm l k
    have hbr := hb
    obtain ⟨hc, hf⟩ := bcell hb
    have hz := hb.size
    by_cases hlt : k < n
    · have hlk : k < l.length := by rw [Hl.out]; exact hlt
      obtain ⟨b, off, rfl, hbl, hc0, hc1⟩ := (hr.below hb).hdr k hlk
      have hsx := (Hs.out l[k] (List.getElem_mem hlk)).1
      have hcon := fun W => impl_alike l[k].1 nm hsx hnm W
      by_cases hp : alikeB l[k].1 nm = true
      · rw [hp] at hcon
        have Hcon := Lib.hid hcon
        have Hv := Lib.hid (vals_yes nm l k hlk hp)
        clear hcon hp
        go_wp2_with (first | (go_at_call 70; ((with_reducible refine (Hcon.out _).mono ?_); rintro e w' ⟨rfl, hb⟩; obtain ⟨hc, hf⟩ := bcell hb; have hz := hb.size; (try simp only [World.size_alloc, World.size_setCell, World.size_drew] at hz); obtain ⟨hlt, hle, hn1, hn2, hn3, hn4⟩ := bsize hb; (try simp only [World.size_alloc, World.size_setCell, World.size_drew] at hlt hle hn1 hn2 hn3 hn4); (try have hr0 : w.heap.size < w'.heap.size := by omega); (try have hr1 : w.heap.size + 1 < w'.heap.size := by omega); (try have hs0 : wS.heap.size < w'.heap.size := by omega); (try have hs1 : wG.heap.size < w'.heap.size := by omega))) | (at_builtin; refine app1 rfl _ _ 58 rfl Tryz.underlying58 infoStr rfl (by decide) (own_below hown (by exact (by first | (with_reducible exact Below.refl _ _) | ((repeat' (first | (with_reducible exact Below.refl _ _) | (with_reducible assumption) | (with_reducible refine below_alloc ?_ _) | (with_reducible refine Below.drew ?_) | (with_reducible refine below_drewN ?_ _) | (with_reducible refine Below.setCell ?_ ?_ _) | refine below_then ?_ (by with_reducible assumption))) <;> (first | omega | (simp; done) | (simp; omega))))) (Nat.le_refl _)) (by exact (by first | (with_reducible exact Below.refl _ _) | ((repeat' (first | (with_reducible exact Below.refl _ _) | (with_reducible assumption) | (with_reducible refine below_alloc ?_ _) | (with_reducible refine Below.drew ?_) | (with_reducible refine below_drewN ?_ _) | (with_reducible refine Below.setCell ?_ ?_ _) | refine below_then ?_ (by with_reducible assumption))) <;> (first | omega | (simp; done) | (simp; omega))))) rfl rfl rfl (by intro u hu; simp at hu; subst hu; rfl) (by omega) (by unfold maxLen; omega) ?_; intro v1 w1 hown1 hb1 _ _; obtain ⟨g1, cap1, rfl, hg1, hrow1⟩ := own_shape hown1))
        go_roundw
        case rel => exact ⟨k + 1, g1, cap1, by omega, by go_num, by rw [Hv.out, List.length_append, List.length_singleton], own_cast hown1 (by rw [Hv.out, List.length_append, List.length_singleton]) (by rw [Hv.out, strV_snoc]), hb1⟩
        case measure => simp [intOf]; omega
      · simp only [Bool.not_eq_true] at hp
        rw [hp] at hcon
        have Hcon := Lib.hid hcon
        have Hv := Lib.hid (vals_no nm l k hlk hp)
        clear hcon hp
        go_wp2_with (go_at_call 70; ((with_reducible refine (Hcon.out _).mono ?_); rintro e w' ⟨rfl, hb⟩; obtain ⟨hc, hf⟩ := bcell hb; have hz := hb.size; (try simp only [World.size_alloc, World.size_setCell, World.size_drew] at hz); obtain ⟨hlt, hle, hn1, hn2, hn3, hn4⟩ := bsize hb; (try simp only [World.size_alloc, World.size_setCell, World.size_drew] at hlt hle hn1 hn2 hn3 hn4); (try have hr0 : w.heap.size < w'.heap.size := by omega); (try have hr1 : w.heap.size + 1 < w'.heap.size := by omega); (try have hs0 : wS.heap.size < w'.heap.size := by omega); (try have hs1 : wG.heap.size < w'.heap.size := by omega)))
        go_roundw
        case rel => exact ⟨k + 1, g, cap, by omega, by go_num, by rw [Hv.out], by rw [Hv.out]; exact own_below hown (by exact (by first | (with_reducible exact Below.refl _ _) | ((repeat' (first | (with_reducible exact Below.refl _ _) | (with_reducible assumption) | (with_reducible refine below_alloc ?_ _) | (with_reducible refine Below.drew ?_) | (with_reducible refine below_drewN ?_ _) | (with_reducible refine Below.setCell ?_ ?_ _) | refine below_then ?_ (by with_reducible assumption))) <;> (first | omega | (simp; done) | (simp; omega))))) (Nat.le_refl _), by exact (by first | (with_reducible exact Below.refl _ _) | ((repeat' (first | (with_reducible exact Below.refl _ _) | (with_reducible assumption) | (with_reducible refine below_alloc ?_ _) | (with_reducible refine Below.drew ?_) | (with_reducible refine below_drewN ?_ _) | (with_reducible refine Below.setCell ?_ ?_ _) | refine below_then ?_ (by with_reducible assumption))) <;> (first | omega | (simp; done) | (simp; omega))))⟩
        case measure => simp [intOf]; omega
    · have hk' : k = n := by omega
      have et : l.take k = l := List.take_of_length_le (by have := Hl.out; omega)
      have Et := Lib.hid et
      clear et
      rw [Et.out] at hown
      go_wp2
      go_ret
      exact ⟨g, cap, by rw [Et.out]; rfl, hown, hb⟩
theorem vals_size {nm : ByteArray} {l : List Hd} (k : Nat) (hl : l.length ≤ 20) (hs : ∀ h ∈ l, h.2.size ≤ 200) : (joinB commaS (vals nm (l.take k))).size ≤ 5000 := by
  have h1 := joinB_size commaS 200 (vals nm (l.take k)) (fun x hx => by
    obtain ⟨y, hy, rfl⟩ := vals_mem hx
    exact hs y (List.mem_of_mem_take hy))
  have h2 := vals_len nm (l.take k)
  have h3 := List.length_take_le' k l
  have e : commaS.size = 2 := rfl
  have h4 := Nat.mul_le_mul_right (200 + 2) (show (vals nm (l.take k)).length ≤ 20 by omega)
  rw [e] at h1
  omega
set_option maxHeartbeats 1600000 in
theorem spec_l4Join (nm : ByteArray) (hnm : nm.size ≤ 9223372036854775807) (a : Option Addr) (n c : Nat) (l : List Hd) (hl : l.length = n) (w : World) (hr : Rd w a (hV l)) (hn : n ≤ 20) (hs : ∀ h ∈ l, h.1.size ≤ 9223372036854775807 ∧ h.2.size ≤ 200) :
    Calls Tryz.prog 46 #[.slice a n c, .string nm] w fun e w' => e = .returned (.tuple #[.string (joinB commaS (vals nm l)), .bool (!(vals nm l).isEmpty)]) ∧ Below w.heap.size w w' := by
  have Hl := Lib.hid hl
  have Hs := Lib.hid hs
  clear hl hs
  go_enter Tryz.func46, Tryz.ntmps46
  go_wp2
  go_loopw [6, 7, 8] (fun s f i wr => ∃ k : Nat, k ≤ n ∧ i = .int .i64 k ∧ s = .string (joinB commaS (vals nm (l.take k))) ∧ f = .bool (!(vals nm (l.take k)).isEmpty) ∧ Below w.heap.size w wr) (fun _ _ i _ => n - (intOf i).toNat)
  case atStart => exact ⟨0, Nat.zero_le _, rfl, rfl, rfl, Below.refl _ _⟩
  case round =>
    obtain ⟨k, hk, rfl, rfl, rfl, hb⟩ := hrel
    have hsz := vals_size (nm := nm) k (by have := Hl.out; omega) (fun h hh => (Hs.out h hh).2)
    by_cases hlt : k < n
    · have hlk : k < l.length := by rw [Hl.out]; exact hlt
      obtain ⟨b, off, rfl, hbl, hc0, hc1⟩ := (hr.below hb).hdr k hlk
      have hsx := (Hs.out l[k] (List.getElem_mem hlk)).1
      have hsy := (Hs.out l[k] (List.getElem_mem hlk)).2
      have hcon := fun W => spec_l4Alike l[k].1 nm hsx hnm W
      by_cases hp : alikeB l[k].1 nm = true
      · rw [hp] at hcon
        have Hcon := Lib.hid hcon
        have hv := vals_yes nm l k hlk hp
        have hne : (!(vals nm (l.take (k + 1))).isEmpty) = true := by rw [hv]; simp
        have Hne := Lib.hid hne
        have Hv := Lib.hid hv
        clear hcon hp hv hne
        by_cases he : vals nm (l.take k) = []
        · have e1 : (!(vals nm (l.take k)).isEmpty) = false := by rw [he]; rfl
          have e2 : joinB commaS (vals nm (l.take k)) ++ l[k].2 = joinB commaS (vals nm (l.take (k + 1))) := by
            rw [Hv.out, he, List.nil_append, joinB_one, joinB_nil]
            apply ByteArray.ext; simp
          have E2 := Lib.hid e2
          clear he e2
          go_wp2_with (go_at_call 76; ((with_reducible refine (Hcon.out _).mono ?_); rintro e w' ⟨rfl, hb⟩; obtain ⟨hc, hf⟩ := bcell hb; have hz := hb.size; (try simp only [World.size_alloc, World.size_setCell, World.size_drew] at hz); obtain ⟨hlt, hle, hn1, hn2, hn3, hn4⟩ := bsize hb; (try simp only [World.size_alloc, World.size_setCell, World.size_drew] at hlt hle hn1 hn2 hn3 hn4); (try have hr0 : w.heap.size < w'.heap.size := by omega); (try have hr1 : w.heap.size + 1 < w'.heap.size := by omega); (try have hs0 : wS.heap.size < w'.heap.size := by omega); (try have hs1 : wG.heap.size < w'.heap.size := by omega)))
          go_roundw
          case rel => exact ⟨k + 1, by omega, by go_num, by rw [E2.out], by rw [Hne.out], by exact (by first | (with_reducible exact Below.refl _ _) | ((repeat' (first | (with_reducible exact Below.refl _ _) | (with_reducible assumption) | (with_reducible refine below_alloc ?_ _) | (with_reducible refine Below.drew ?_) | (with_reducible refine below_drewN ?_ _) | (with_reducible refine Below.setCell ?_ ?_ _) | refine below_then ?_ (by with_reducible assumption))) <;> (first | omega | (simp; done) | (simp; omega))))⟩
          case measure => simp [intOf]; omega
        · have e1 : (!(vals nm (l.take k)).isEmpty) = true := by cases h : vals nm (l.take k) with | nil => exact absurd h he | cons x t => rfl
          have e2 : joinB commaS (vals nm (l.take k)) ++ ⟨#[44, 32]⟩ ++ l[k].2 = joinB commaS (vals nm (l.take (k + 1))) := by
            rw [Hv.out, joinB_snoc _ _ _ he]; rfl
          have E2 := Lib.hid e2
          clear he e2
          go_wp2_with (go_at_call 76; ((with_reducible refine (Hcon.out _).mono ?_); rintro e w' ⟨rfl, hb⟩; obtain ⟨hc, hf⟩ := bcell hb; have hz := hb.size; (try simp only [World.size_alloc, World.size_setCell, World.size_drew] at hz); obtain ⟨hlt, hle, hn1, hn2, hn3, hn4⟩ := bsize hb; (try simp only [World.size_alloc, World.size_setCell, World.size_drew] at hlt hle hn1 hn2 hn3 hn4); (try have hr0 : w.heap.size < w'.heap.size := by omega); (try have hr1 : w.heap.size + 1 < w'.heap.size := by omega); (try have hs0 : wS.heap.size < w'.heap.size := by omega); (try have hs1 : wG.heap.size < w'.heap.size := by omega)))
          go_roundw
          case rel => exact ⟨k + 1, by omega, by go_num, by rw [E2.out], by rw [Hne.out], by exact (by first | (with_reducible exact Below.refl _ _) | ((repeat' (first | (with_reducible exact Below.refl _ _) | (with_reducible assumption) | (with_reducible refine below_alloc ?_ _) | (with_reducible refine Below.drew ?_) | (with_reducible refine below_drewN ?_ _) | (with_reducible refine Below.setCell ?_ ?_ _) | refine below_then ?_ (by with_reducible assumption))) <;> (first | omega | (simp; done) | (simp; omega))))⟩
          case measure => simp [intOf]; omega
      · simp only [Bool.not_eq_true] at hp
        rw [hp] at hcon
        have Hcon := Lib.hid hcon
        have Hv := Lib.hid (vals_no nm l k hlk hp)
        clear hcon hp
        go_wp2_with (go_at_call 76; ((with_reducible refine (Hcon.out _).mono ?_); rintro e w' ⟨rfl, hb⟩; obtain ⟨hc, hf⟩ := bcell hb; have hz := hb.size; (try simp only [World.size_alloc, World.size_setCell, World.size_drew] at hz); obtain ⟨hlt, hle, hn1, hn2, hn3, hn4⟩ := bsize hb; (try simp only [World.size_alloc, World.size_setCell, World.size_drew] at hlt hle hn1 hn2 hn3 hn4); (try have hr0 : w.heap.size < w'.heap.size := by omega); (try have hr1 : w.heap.size + 1 < w'.heap.size := by omega); (try have hs0 : wS.heap.size < w'.heap.size := by omega); (try have hs1 : wG.heap.size < w'.heap.size := by omega)))
        go_roundw
        case rel => exact ⟨k + 1, by omega, by go_num, by rw [Hv.out], by rw [Hv.out], by exact (by first | (with_reducible exact Below.refl _ _) | ((repeat' (first | (with_reducible exact Below.refl _ _) | (with_reducible assumption) | (with_reducible refine below_alloc ?_ _) | (with_reducible refine Below.drew ?_) | (with_reducible refine below_drewN ?_ _) | (with_reducible refine Below.setCell ?_ ?_ _) | refine below_then ?_ (by with_reducible assumption))) <;> (first | omega | (simp; done) | (simp; omega))))⟩
        case measure => simp [intOf]; omega
    · have et : l.take k = l := List.take_of_length_le (by have := Hl.out; omega)
      have Et := Lib.hid et
      clear et
      go_wp2
      go_ret2
      exact ⟨by rw [Et.out]; rfl, hb⟩
end Go.Proofs.YtbiodbggaeglpaaGreatDoor

/- Plain laws: small letters stay so, what is trimmed stays so, a word bears no blank. No program in sight. -/
namespace Go.Proofs.YtbiodbggaeglpaaGreatDoor
theorem lowB_twice (b : UInt8) : lowB (lowB b) = lowB b := by
  unfold lowB
  by_cases h : 65 ≤ b.toNat ∧ b.toNat ≤ 90
  · rw [if_pos h, if_neg]
    have : (b + 32).toNat = b.toNat + 32 := by rw [UInt8.toNat_add]; simp; omega
    omega
  · rw [if_neg h, if_neg h]
theorem lowS_twice (s : ByteArray) : lowS (lowS s) = lowS s := by
  apply ByteArray.ext
  show (s.data.map lowB).map lowB = s.data.map lowB
  rw [Array.map_map]
  congr 1
  funext b
  exact lowB_twice b
theorem dw_twice (p : UInt8 → Bool) (l : List UInt8) : (l.dropWhile p).dropWhile p = l.dropWhile p := by
  induction l with
  | nil => rfl
  | cons b l ih =>
    by_cases h : p b = true
    · rw [List.dropWhile_cons_of_pos h, ih]
    · rw [List.dropWhile_cons_of_neg h, List.dropWhile_cons_of_neg h]
theorem dw_all (p : UInt8 → Bool) (l : List UInt8) (h : ∀ b ∈ l, p b = false) : l.dropWhile p = l := by
  cases l with
  | nil => rfl
  | cons b l => exact List.dropWhile_cons_of_neg (by simp [h b (by simp)])
/-- Cut off behind, then before: behind there is still nothing to cut off. -/
theorem trim_twice (l : List UInt8) : trimL (trimL l) = trimL l := by
  unfold trimL Lib.trimS Lib.trimLeftS Lib.trimRightS
  generalize (fun x => ([32, 9] : List UInt8).contains x) = p
  have key : ∀ m : List UInt8, (m.reverse.dropWhile p) = m.reverse → ((m.dropWhile p).reverse.dropWhile p) = (m.dropWhile p).reverse := by
    intro m hm
    by_cases e : m.dropWhile p = []
    · rw [e]; rfl
    · obtain ⟨a, ha⟩ : ∃ a, m = a ++ m.dropWhile p := ⟨m.takeWhile p, (List.takeWhile_append_dropWhile).symm⟩
      generalize m.dropWhile p = d at *
      subst ha
      rw [List.reverse_append] at hm
      cases hd : d.reverse with
      | nil => rfl
      | cons x r =>
        rw [hd, List.cons_append] at hm
        by_cases hx : p x = true
        · rw [List.dropWhile_cons_of_pos hx] at hm
          have h1 := (List.dropWhile_sublist p (l := r ++ a.reverse)).length_le
          rw [hm, List.length_cons] at h1
          omega
        · exact List.dropWhile_cons_of_neg hx
  have h0 : ((l.reverse.dropWhile p).reverse.reverse.dropWhile p) = (l.reverse.dropWhile p).reverse.reverse := by
    rw [List.reverse_reverse, dw_twice]
  rw [key _ h0, List.reverse_reverse, dw_twice]
theorem trimT_twice (s : ByteArray) : trimT (trimT s) = trimT s := by
  unfold trimT
  show (⟨(trimL (trimL s.data.toList)).toArray⟩ : ByteArray) = _
  rw [trim_twice]
theorem word_blank (b : UInt8) (h : wordB (b.toNat : Int) = true) : ([32, 9] : List UInt8).contains b = false := by
  rw [blank_has]
  cases hb : blankB (b.toNat : Int) with
  | false => rfl
  | true =>
    simp only [blankB, Bool.or_eq_true, decide_eq_true_eq] at hb
    rcases hb with e | e <;> (rw [e] at h; revert h; decide)
theorem word_trim (s : ByteArray) (h : wordS s = true) : trimT s = s := by
  unfold wordS at h
  rw [Bool.and_eq_true] at h
  have hall := List.all_eq_true.1 (show (s.data.toList.all fun b => wordB (b.toNat : Int)) = true from h.2)
  have hno : ∀ b ∈ s.data.toList, ([32, 9] : List UInt8).contains b = false := fun b hb => word_blank b (hall b hb)
  have e : trimL s.data.toList = s.data.toList := by
    unfold trimL Lib.trimS Lib.trimLeftS Lib.trimRightS
    rw [dw_all _ _ (fun b hb => hno b (List.mem_reverse.1 hb)), List.reverse_reverse, dw_all _ _ hno]
  unfold trimT
  rw [e]
theorem word_size (s : ByteArray) (h : wordS s = true) : s.size ≤ 64 := by
  unfold wordS at h
  simp only [Bool.and_eq_true, decide_eq_true_eq] at h
  exact h.1.2
end Go.Proofs.YtbiodbggaeglpaaGreatDoor
