/- Joined: Ask. -/
import Derived.Test.YthiogijicknoiaaGreatDoorJB5
import Derived.Test.YthiogijicknoiaaGreatDoorJB4
import Derived.Test.YthiogijicknoiaaGreatDoorJB0
/- What is asked of head lines and a name; the head lines without those of a name. -/
namespace Go.Proofs.YthiogijicknoiaaGreatDoor
open Go.RowKit
set_option linter.unusedSimpArgs false
set_option linter.unusedVariables false

def askF (nm : ByteArray) (l : List Hd) : Int := if hdsFault l = 0 then (if wordS nm = true then 0 else 5) else hdsFault l
set_option maxHeartbeats 1600000 in
theorem spec_l4Ask (nm : ByteArray) (hnm : nm.size ≤ 9223372036854775807) (a : Option Addr) (n c : Nat) (l : List Hd) (hl : l.length = n) (w : World) (hr : Rd w a (hV l)) (hn : n ≤ 9223372036854775807) (hs : ∀ h ∈ l, h.1.size ≤ 9223372036854775807 ∧ h.2.size ≤ 9223372036854775807) :
    Calls Tryz.prog 104 #[.slice a n c, .string nm] w fun e w' => e = .returned (.int .i64 (askF nm l)) ∧ Below w.heap.size w w' := by
  have hc := fun W hr => spec_HeadersFault a n c l hl W hr hn hs
  have hw := fun W => spec_IsWord nm W hnm
  by_cases hz : hdsFault l = 0
  · rw [hz] at hc
    have Hc := Lib.hid hc
    by_cases h2 : wordS nm = true
    · have e : askF nm l = 0 := by rw [askF, if_pos hz, if_pos h2]
      rw [e]
      rw [h2] at hw
      have Hw := Lib.hid hw
      clear e hz h2 hc hw hl hs
      go_enter Tryz.func104, Tryz.ntmps104
      go_wp2_with (first
        | (go_at_call 40; ((with_reducible refine (Hc.out _ (by first | (with_reducible assumption) | exact RowAt.rd (by repeat' (first | (with_reducible assumption) | (with_reducible refine RowAt.alloc ?_ _) | (with_reducible refine RowAt.drew ?_) | (with_reducible refine RowAt.other ?_ _ _ (by first | omega | (simp; done) | (simp; omega))) | refine RowAt.then ?_ (by with_reducible assumption))) | exact Rd.below (by with_reducible assumption) (by first | (with_reducible exact Below.refl _ _) | ((repeat' (first | (with_reducible exact Below.refl _ _) | (with_reducible assumption) | (with_reducible refine below_alloc ?_ _) | (with_reducible refine Below.drew ?_) | (with_reducible refine below_drewN ?_ _) | (with_reducible refine Below.setCell ?_ ?_ _) | refine below_then ?_ (by with_reducible assumption))) <;> (first | omega | (simp; done) | (simp; omega)))))).mono ?_); rintro e w' ⟨rfl, hb⟩; obtain ⟨hc, hf⟩ := bcell hb; have hz := hb.size; (try simp only [World.size_alloc, World.size_setCell, World.size_drew] at hz); obtain ⟨hlt, hle, hn1, hn2, hn3, hn4⟩ := bsize hb; (try simp only [World.size_alloc, World.size_setCell, World.size_drew] at hlt hle hn1 hn2 hn3 hn4); (try have hr0 : w.heap.size < w'.heap.size := by omega); (try have hr1 : w.heap.size + 1 < w'.heap.size := by omega); (try have hs0 : wS.heap.size < w'.heap.size := by omega); (try have hs1 : wG.heap.size < w'.heap.size := by omega)))
        | (go_at_call 117; ((with_reducible refine (Hw.out _).mono ?_); rintro e w' ⟨rfl, rfl⟩)))
      go_ret
      exact ⟨rfl, (by first | (with_reducible exact Below.refl _ _) | ((repeat' (first | (with_reducible exact Below.refl _ _) | (with_reducible assumption) | (with_reducible refine below_alloc ?_ _) | (with_reducible refine Below.drew ?_) | (with_reducible refine below_drewN ?_ _) | (with_reducible refine Below.setCell ?_ ?_ _) | refine below_then ?_ (by with_reducible assumption))) <;> (first | omega | (simp; done) | (simp; omega))))⟩
    · have e : askF nm l = 5 := by rw [askF, if_pos hz, if_neg h2]
      rw [e]
      simp only [Bool.not_eq_true] at h2
      rw [h2] at hw
      have Hw := Lib.hid hw
      clear e hz h2 hc hw hl hs
      go_enter Tryz.func104, Tryz.ntmps104
      go_wp2_with (first
        | (go_at_call 40; ((with_reducible refine (Hc.out _ (by first | (with_reducible assumption) | exact RowAt.rd (by repeat' (first | (with_reducible assumption) | (with_reducible refine RowAt.alloc ?_ _) | (with_reducible refine RowAt.drew ?_) | (with_reducible refine RowAt.other ?_ _ _ (by first | omega | (simp; done) | (simp; omega))) | refine RowAt.then ?_ (by with_reducible assumption))) | exact Rd.below (by with_reducible assumption) (by first | (with_reducible exact Below.refl _ _) | ((repeat' (first | (with_reducible exact Below.refl _ _) | (with_reducible assumption) | (with_reducible refine below_alloc ?_ _) | (with_reducible refine Below.drew ?_) | (with_reducible refine below_drewN ?_ _) | (with_reducible refine Below.setCell ?_ ?_ _) | refine below_then ?_ (by with_reducible assumption))) <;> (first | omega | (simp; done) | (simp; omega)))))).mono ?_); rintro e w' ⟨rfl, hb⟩; obtain ⟨hc, hf⟩ := bcell hb; have hz := hb.size; (try simp only [World.size_alloc, World.size_setCell, World.size_drew] at hz); obtain ⟨hlt, hle, hn1, hn2, hn3, hn4⟩ := bsize hb; (try simp only [World.size_alloc, World.size_setCell, World.size_drew] at hlt hle hn1 hn2 hn3 hn4); (try have hr0 : w.heap.size < w'.heap.size := by omega); (try have hr1 : w.heap.size + 1 < w'.heap.size := by omega); (try have hs0 : wS.heap.size < w'.heap.size := by omega); (try have hs1 : wG.heap.size < w'.heap.size := by omega)))
        | (go_at_call 117; ((with_reducible refine (Hw.out _).mono ?_); rintro e w' ⟨rfl, rfl⟩)))
      go_ret
      exact ⟨rfl, (by first | (with_reducible exact Below.refl _ _) | ((repeat' (first | (with_reducible exact Below.refl _ _) | (with_reducible assumption) | (with_reducible refine below_alloc ?_ _) | (with_reducible refine Below.drew ?_) | (with_reducible refine below_drewN ?_ _) | (with_reducible refine Below.setCell ?_ ?_ _) | refine below_then ?_ (by with_reducible assumption))) <;> (first | omega | (simp; done) | (simp; omega))))⟩
  · have e : askF nm l = hdsFault l := by rw [askF, if_neg hz]
    rw [e]
    have hne : (hdsFault l != 0) = true := by simpa using hz
    have Hc := Lib.hid hc
    clear e hz hc hw hl hs
    go_enter Tryz.func104, Tryz.ntmps104
    go_wp2_with (go_at_call 40; ((with_reducible refine (Hc.out _ (by first | (with_reducible assumption) | exact RowAt.rd (by repeat' (first | (with_reducible assumption) | (with_reducible refine RowAt.alloc ?_ _) | (with_reducible refine RowAt.drew ?_) | (with_reducible refine RowAt.other ?_ _ _ (by first | omega | (simp; done) | (simp; omega))) | refine RowAt.then ?_ (by with_reducible assumption))) | exact Rd.below (by with_reducible assumption) (by first | (with_reducible exact Below.refl _ _) | ((repeat' (first | (with_reducible exact Below.refl _ _) | (with_reducible assumption) | (with_reducible refine below_alloc ?_ _) | (with_reducible refine Below.drew ?_) | (with_reducible refine below_drewN ?_ _) | (with_reducible refine Below.setCell ?_ ?_ _) | refine below_then ?_ (by with_reducible assumption))) <;> (first | omega | (simp; done) | (simp; omega)))))).mono ?_); rintro e w' ⟨rfl, hb⟩; obtain ⟨hc, hf⟩ := bcell hb; have hz := hb.size; (try simp only [World.size_alloc, World.size_setCell, World.size_drew] at hz); obtain ⟨hlt, hle, hn1, hn2, hn3, hn4⟩ := bsize hb; (try simp only [World.size_alloc, World.size_setCell, World.size_drew] at hlt hle hn1 hn2 hn3 hn4); (try have hr0 : w.heap.size < w'.heap.size := by omega); (try have hr1 : w.heap.size + 1 < w'.heap.size := by omega); (try have hs0 : wS.heap.size < w'.heap.size := by omega); (try have hs1 : wG.heap.size < w'.heap.size := by omega)))
    go_ret
    exact ⟨rfl, (by first | (with_reducible exact Below.refl _ _) | ((repeat' (first | (with_reducible exact Below.refl _ _) | (with_reducible assumption) | (with_reducible refine below_alloc ?_ _) | (with_reducible refine Below.drew ?_) | (with_reducible refine below_drewN ?_ _) | (with_reducible refine Below.setCell ?_ ?_ _) | refine below_then ?_ (by with_reducible assumption))) <;> (first | omega | (simp; done) | (simp; omega))))⟩
set_option maxHeartbeats 1600000 in
theorem impl_namedFault (nm : ByteArray) (hnm : nm.size ≤ 9223372036854775807) (a : Option Addr) (n c : Nat) (l : List Hd) (hl : l.length = n) (w : World) (hr : Rd w a (hV l)) (hn : n ≤ 9223372036854775807) (hs : ∀ h ∈ l, h.1.size ≤ 9223372036854775807 ∧ h.2.size ≤ 9223372036854775807) :
    Calls Tryz.prog 97 #[.slice a n c, .string nm] w fun e w' => e = .returned (.int .i64 (askF nm l)) ∧ Below w.heap.size w w' := by
  have hc := fun W hr => impl_HeadersFault a n c l hl W hr hn hs
  have hw := fun W => impl_IsWord nm W hnm
  by_cases hz : hdsFault l = 0
  · rw [hz] at hc
    have Hc := Lib.hid hc
    by_cases h2 : wordS nm = true
    · have e : askF nm l = 0 := by rw [askF, if_pos hz, if_pos h2]
      rw [e]
      rw [h2] at hw
      have Hw := Lib.hid hw
      clear e hz h2 hc hw hl hs
      go_enter Tryz.func97, Tryz.ntmps97
      go_wp2_with (first
        | (go_at_call 41; ((with_reducible refine (Hc.out _ (by first | (with_reducible assumption) | exact RowAt.rd (by repeat' (first | (with_reducible assumption) | (with_reducible refine RowAt.alloc ?_ _) | (with_reducible refine RowAt.drew ?_) | (with_reducible refine RowAt.other ?_ _ _ (by first | omega | (simp; done) | (simp; omega))) | refine RowAt.then ?_ (by with_reducible assumption))) | exact Rd.below (by with_reducible assumption) (by first | (with_reducible exact Below.refl _ _) | ((repeat' (first | (with_reducible exact Below.refl _ _) | (with_reducible assumption) | (with_reducible refine below_alloc ?_ _) | (with_reducible refine Below.drew ?_) | (with_reducible refine below_drewN ?_ _) | (with_reducible refine Below.setCell ?_ ?_ _) | refine below_then ?_ (by with_reducible assumption))) <;> (first | omega | (simp; done) | (simp; omega)))))).mono ?_); rintro e w' ⟨rfl, hb⟩; obtain ⟨hc, hf⟩ := bcell hb; have hz := hb.size; (try simp only [World.size_alloc, World.size_setCell, World.size_drew] at hz); obtain ⟨hlt, hle, hn1, hn2, hn3, hn4⟩ := bsize hb; (try simp only [World.size_alloc, World.size_setCell, World.size_drew] at hlt hle hn1 hn2 hn3 hn4); (try have hr0 : w.heap.size < w'.heap.size := by omega); (try have hr1 : w.heap.size + 1 < w'.heap.size := by omega); (try have hs0 : wS.heap.size < w'.heap.size := by omega); (try have hs1 : wG.heap.size < w'.heap.size := by omega)))
        | (go_at_call 116; ((with_reducible refine (Hw.out _).mono ?_); rintro e w' ⟨rfl, rfl⟩)))
      go_ret
      exact ⟨rfl, (by first | (with_reducible exact Below.refl _ _) | ((repeat' (first | (with_reducible exact Below.refl _ _) | (with_reducible assumption) | (with_reducible refine below_alloc ?_ _) | (with_reducible refine Below.drew ?_) | (with_reducible refine below_drewN ?_ _) | (with_reducible refine Below.setCell ?_ ?_ _) | refine below_then ?_ (by with_reducible assumption))) <;> (first | omega | (simp; done) | (simp; omega))))⟩
    · have e : askF nm l = 5 := by rw [askF, if_pos hz, if_neg h2]
      rw [e]
      simp only [Bool.not_eq_true] at h2
      rw [h2] at hw
      have Hw := Lib.hid hw
      clear e hz h2 hc hw hl hs
      go_enter Tryz.func97, Tryz.ntmps97
      go_wp2_with (first
        | (go_at_call 41; ((with_reducible refine (Hc.out _ (by first | (with_reducible assumption) | exact RowAt.rd (by repeat' (first | (with_reducible assumption) | (with_reducible refine RowAt.alloc ?_ _) | (with_reducible refine RowAt.drew ?_) | (with_reducible refine RowAt.other ?_ _ _ (by first | omega | (simp; done) | (simp; omega))) | refine RowAt.then ?_ (by with_reducible assumption))) | exact Rd.below (by with_reducible assumption) (by first | (with_reducible exact Below.refl _ _) | ((repeat' (first | (with_reducible exact Below.refl _ _) | (with_reducible assumption) | (with_reducible refine below_alloc ?_ _) | (with_reducible refine Below.drew ?_) | (with_reducible refine below_drewN ?_ _) | (with_reducible refine Below.setCell ?_ ?_ _) | refine below_then ?_ (by with_reducible assumption))) <;> (first | omega | (simp; done) | (simp; omega)))))).mono ?_); rintro e w' ⟨rfl, hb⟩; obtain ⟨hc, hf⟩ := bcell hb; have hz := hb.size; (try simp only [World.size_alloc, World.size_setCell, World.size_drew] at hz); obtain ⟨hlt, hle, hn1, hn2, hn3, hn4⟩ := bsize hb; (try simp only [World.size_alloc, World.size_setCell, World.size_drew] at hlt hle hn1 hn2 hn3 hn4); (try have hr0 : w.heap.size < w'.heap.size := by omega); (try have hr1 : w.heap.size + 1 < w'.heap.size := by omega); (try have hs0 : wS.heap.size < w'.heap.size := by omega); (try have hs1 : wG.heap.size < w'.heap.size := by omega)))
        | (go_at_call 116; ((with_reducible refine (Hw.out _).mono ?_); rintro e w' ⟨rfl, rfl⟩)))
      go_ret
      exact ⟨rfl, (by first | (with_reducible exact Below.refl _ _) | ((repeat' (first | (with_reducible exact Below.refl _ _) | (with_reducible assumption) | (with_reducible refine below_alloc ?_ _) | (with_reducible refine Below.drew ?_) | (with_reducible refine below_drewN ?_ _) | (with_reducible refine Below.setCell ?_ ?_ _) | refine below_then ?_ (by with_reducible assumption))) <;> (first | omega | (simp; done) | (simp; omega))))⟩
  · have e : askF nm l = hdsFault l := by rw [askF, if_neg hz]
    rw [e]
    have hne : (hdsFault l != 0) = true := by simpa using hz
    have Hc := Lib.hid hc
    clear e hz hc hw hl hs
    go_enter Tryz.func97, Tryz.ntmps97
    go_wp2_with (go_at_call 41; ((with_reducible refine (Hc.out _ (by first | (with_reducible assumption) | exact RowAt.rd (by repeat' (first | (with_reducible assumption) | (with_reducible refine RowAt.alloc ?_ _) | (with_reducible refine RowAt.drew ?_) | (with_reducible refine RowAt.other ?_ _ _ (by first | omega | (simp; done) | (simp; omega))) | refine RowAt.then ?_ (by with_reducible assumption))) | exact Rd.below (by with_reducible assumption) (by first | (with_reducible exact Below.refl _ _) | ((repeat' (first | (with_reducible exact Below.refl _ _) | (with_reducible assumption) | (with_reducible refine below_alloc ?_ _) | (with_reducible refine Below.drew ?_) | (with_reducible refine below_drewN ?_ _) | (with_reducible refine Below.setCell ?_ ?_ _) | refine below_then ?_ (by with_reducible assumption))) <;> (first | omega | (simp; done) | (simp; omega)))))).mono ?_); rintro e w' ⟨rfl, hb⟩; obtain ⟨hc, hf⟩ := bcell hb; have hz := hb.size; (try simp only [World.size_alloc, World.size_setCell, World.size_drew] at hz); obtain ⟨hlt, hle, hn1, hn2, hn3, hn4⟩ := bsize hb; (try simp only [World.size_alloc, World.size_setCell, World.size_drew] at hlt hle hn1 hn2 hn3 hn4); (try have hr0 : w.heap.size < w'.heap.size := by omega); (try have hr1 : w.heap.size + 1 < w'.heap.size := by omega); (try have hs0 : wS.heap.size < w'.heap.size := by omega); (try have hs1 : wG.heap.size < w'.heap.size := by omega)))
    go_ret
    exact ⟨rfl, (by first | (with_reducible exact Below.refl _ _) | ((repeat' (first | (with_reducible exact Below.refl _ _) | (with_reducible assumption) | (with_reducible refine below_alloc ?_ _) | (with_reducible refine Below.drew ?_) | (with_reducible refine below_drewN ?_ _) | (with_reducible refine Below.setCell ?_ ?_ _) | refine below_then ?_ (by with_reducible assumption))) <;> (first | omega | (simp; done) | (simp; omega))))⟩
theorem askF_0 {nm : ByteArray} {l : List Hd} (h : askF nm l = 0) : hdsFault l = 0 ∧ wordS nm = true := by
  unfold askF at h
  split at h
  · rename_i h1
    split at h
    · rename_i h2; exact ⟨h1, h2⟩
    · cases h
  · rename_i h1; exact absurd h h1

def dropL (nm : ByteArray) (l : List Hd) : List Hd := l.filter fun h => !alikeB h.1 nm
theorem dropL_yes (nm : ByteArray) (l : List Hd) (k : Nat) (h : k < l.length) (ha : alikeB l[k].1 nm = true) : dropL nm (l.take (k + 1)) = dropL nm (l.take k) := by
  unfold dropL; rw [List.take_succ_eq_append_getElem h, List.filter_append]
  simp [ha]
theorem dropL_no (nm : ByteArray) (l : List Hd) (k : Nat) (h : k < l.length) (ha : alikeB l[k].1 nm = false) : dropL nm (l.take (k + 1)) = dropL nm (l.take k) ++ [l[k]] := by
  unfold dropL; rw [List.take_succ_eq_append_getElem h, List.filter_append]
  simp [ha]
theorem dropL_take_len (nm : ByteArray) (l : List Hd) (k : Nat) : (dropL nm (l.take k)).length ≤ k := by
  have h1 : (dropL nm (l.take k)).length ≤ (l.take k).length := List.length_filter_le _ _
  have h2 := List.length_take_le k l
  omega
theorem hV_snoc1 (l : List Hd) (h : Hd) : hV l ++ [.string h.1, .string h.2] = hV (l ++ [h]) := by simp [hV, cellsOf, hEnc]
set_option maxHeartbeats 1600000 in
theorem spec_l4Drop (nm : ByteArray) (hnm : nm.size ≤ 9223372036854775807) (a : Option Addr) (n c : Nat) (l : List Hd) (hl : l.length = n) (w : World) (hr : Rd w a (hV l)) (hn : n ≤ 100000) (hs : ∀ h ∈ l, h.1.size ≤ 9223372036854775807 ∧ h.2.size ≤ 9223372036854775807) :
    Calls Tryz.prog 86 #[.slice a n c, .string nm] w fun e w' => ∃ g cap, e = .returned (.slice (some ⟨g, 0, none⟩) (dropL nm l).length cap) ∧ w'.ownsRow w.heap.size 112 2 (.slice (some ⟨g, 0, none⟩) (dropL nm l).length cap) (dropL nm l).length (hV (dropL nm l)) ∧ Below w.heap.size w w' := by
  have Hl := Lib.hid hl
  have Hs := Lib.hid hs
  clear hl hs
  go_enter Tryz.func86, Tryz.ntmps86
  go_wp2
  go_loopw [5, 6] (fun v i wr => ∃ (k g cap : Nat), k ≤ n ∧ i = .int .i64 k ∧ v = .slice (some ⟨g, 0, none⟩) (dropL nm (l.take k)).length cap ∧ wr.ownsRow w.heap.size 112 2 v (dropL nm (l.take k)).length (hV (dropL nm (l.take k))) ∧ Below w.heap.size w wr) (fun v i _ => n - (intOf i).toNat)
  case atStart => exact ⟨0, _, _, Nat.zero_le _, rfl, rfl, World.ownsRow_lit (size := 2) (e := 112) w #[] 0 (Nat.le_refl _) (by unfold maxLen; omega) rfl, below_alloc (Below.refl _ _) _⟩
  case round =>
    obtain ⟨k, g, cap, hk, rfl, rfl, hown, hb⟩ := hrel
    have hvl := dropL_take_len nm l k
    have hbr := hb
    obtain ⟨hc, hf⟩ := bcell hb
    have hz := hb.size
    by_cases hlt : k < n
    · have hlk : k < l.length := by rw [Hl.out]; exact hlt
      obtain ⟨b, off, rfl, hbl, hc0, hc1⟩ := (hr.below hb).hdr k hlk
      have hsx := (Hs.out l[k] (List.getElem_mem hlk)).1
      have hcon := fun W => spec_l4Alike l[k].1 nm hsx hnm W
      by_cases hp : alikeB l[k].1 nm = true
      · rw [hp] at hcon
        have Hcon := Lib.hid hcon
        have Hv := Lib.hid (dropL_yes nm l k hlk hp)
        clear hcon hp
        go_wp2_with (go_at_call 126; ((with_reducible refine (Hcon.out _).mono ?_); rintro e w' ⟨rfl, hb⟩; obtain ⟨hc, hf⟩ := bcell hb; have hz := hb.size; (try simp only [World.size_alloc, World.size_setCell, World.size_drew] at hz); obtain ⟨hlt, hle, hn1, hn2, hn3, hn4⟩ := bsize hb; (try simp only [World.size_alloc, World.size_setCell, World.size_drew] at hlt hle hn1 hn2 hn3 hn4); (try have hr0 : w.heap.size < w'.heap.size := by omega); (try have hr1 : w.heap.size + 1 < w'.heap.size := by omega); (try have hs0 : wS.heap.size < w'.heap.size := by omega); (try have hs1 : wG.heap.size < w'.heap.size := by omega)))
        go_roundw
        case rel => exact ⟨k + 1, g, cap, by omega, by go_num, by rw [Hv.out], by rw [Hv.out]; exact own_below hown (by exact (by first | (with_reducible exact Below.refl _ _) | ((repeat' (first | (with_reducible exact Below.refl _ _) | (with_reducible assumption) | (with_reducible refine below_alloc ?_ _) | (with_reducible refine Below.drew ?_) | (with_reducible refine below_drewN ?_ _) | (with_reducible refine Below.setCell ?_ ?_ _) | refine below_then ?_ (by with_reducible assumption))) <;> (first | omega | (simp; done) | (simp; omega))))) (Nat.le_refl _), by exact (by first | (with_reducible exact Below.refl _ _) | ((repeat' (first | (with_reducible exact Below.refl _ _) | (with_reducible assumption) | (with_reducible refine below_alloc ?_ _) | (with_reducible refine Below.drew ?_) | (with_reducible refine below_drewN ?_ _) | (with_reducible refine Below.setCell ?_ ?_ _) | refine below_then ?_ (by with_reducible assumption))) <;> (first | omega | (simp; done) | (simp; omega))))⟩
        case measure => simp [intOf]; omega
      · simp only [Bool.not_eq_true] at hp
        rw [hp] at hcon
        have Hcon := Lib.hid hcon
        have Hv := Lib.hid (dropL_no nm l k hlk hp)
        clear hcon hp
        go_wp2_with (first | (go_at_call 126; ((with_reducible refine (Hcon.out _).mono ?_); rintro e w' ⟨rfl, hb⟩; obtain ⟨hc, hf⟩ := bcell hb; have hz := hb.size; (try simp only [World.size_alloc, World.size_setCell, World.size_drew] at hz); obtain ⟨hlt, hle, hn1, hn2, hn3, hn4⟩ := bsize hb; (try simp only [World.size_alloc, World.size_setCell, World.size_drew] at hlt hle hn1 hn2 hn3 hn4); (try have hr0 : w.heap.size < w'.heap.size := by omega); (try have hr1 : w.heap.size + 1 < w'.heap.size := by omega); (try have hs0 : wS.heap.size < w'.heap.size := by omega); (try have hs1 : wG.heap.size < w'.heap.size := by omega))) | (at_builtin; refine app1 rfl _ _ 24 rfl Tryz.underlying24 infoHdr rfl (by decide) (own_below hown (by exact (by first | (with_reducible exact Below.refl _ _) | ((repeat' (first | (with_reducible exact Below.refl _ _) | (with_reducible assumption) | (with_reducible refine below_alloc ?_ _) | (with_reducible refine Below.drew ?_) | (with_reducible refine below_drewN ?_ _) | (with_reducible refine Below.setCell ?_ ?_ _) | refine below_then ?_ (by with_reducible assumption))) <;> (first | omega | (simp; done) | (simp; omega))))) (Nat.le_refl _)) (by exact (by first | (with_reducible exact Below.refl _ _) | ((repeat' (first | (with_reducible exact Below.refl _ _) | (with_reducible assumption) | (with_reducible refine below_alloc ?_ _) | (with_reducible refine Below.drew ?_) | (with_reducible refine below_drewN ?_ _) | (with_reducible refine Below.setCell ?_ ?_ _) | refine below_then ?_ (by with_reducible assumption))) <;> (first | omega | (simp; done) | (simp; omega))))) rfl rfl rfl (by intro u hu; simp at hu; rcases hu with rfl | rfl <;> rfl) (by omega) (by unfold maxLen; omega) ?_; intro v1 w1 hown1 hb1 _ _; obtain ⟨g1, cap1, rfl, hg1, hrow1⟩ := own_shape hown1))
        go_roundw
        case rel => exact ⟨k + 1, g1, cap1, by omega, by go_num, by rw [Hv.out, List.length_append, List.length_singleton], own_cast hown1 (by rw [Hv.out, List.length_append, List.length_singleton]) (by rw [Hv.out, hV_snoc1]), hb1⟩
        case measure => simp [intOf]; omega
    · have hk' : k = n := by omega
      have et : l.take k = l := List.take_of_length_le (by have := Hl.out; omega)
      have Et := Lib.hid et
      clear et
      rw [Et.out] at hown
      go_wp2
      go_ret
      exact ⟨g, cap, by rw [Et.out]; rfl, hown, hb⟩
set_option maxHeartbeats 1600000 in
theorem impl_dropHeader (nm : ByteArray) (hnm : nm.size ≤ 9223372036854775807) (a : Option Addr) (n c : Nat) (l : List Hd) (hl : l.length = n) (w : World) (hr : Rd w a (hV l)) (hn : n ≤ 100000) (hs : ∀ h ∈ l, h.1.size ≤ 9223372036854775807 ∧ h.2.size ≤ 9223372036854775807) :
    Calls Tryz.prog 76 #[.slice a n c, .string nm] w fun e w' => ∃ g cap, e = .returned (.slice (some ⟨g, 0, none⟩) (dropL nm l).length cap) ∧ w'.ownsRow w.heap.size 112 2 (.slice (some ⟨g, 0, none⟩) (dropL nm l).length cap) (dropL nm l).length (hV (dropL nm l)) ∧ Below w.heap.size w w' := by
  have Hl := Lib.hid hl
  have Hs := Lib.hid hs
  clear hl hs
  go_enter Tryz.func76, Tryz.ntmps76
  go_wp2
  go_loopw [5, 11] (fun v i wr => ∃ (k g cap : Nat), k ≤ n ∧ i = .int .i64 k ∧ v = .slice (some ⟨g, 0, none⟩) (dropL nm (l.take k)).length cap ∧ wr.ownsRow w.heap.size 112 2 v (dropL nm (l.take k)).length (hV (dropL nm (l.take k))) ∧ Below w.heap.size w wr) (fun v i _ => n - (intOf i).toNat)
  case atStart => exact ⟨0, _, _, Nat.zero_le _, rfl, rfl, World.ownsRow_lit (size := 2) (e := 112) w #[] 0 (Nat.le_refl _) (by unfold maxLen; omega) rfl, below_alloc (Below.refl _ _) _⟩
  case round =>
    obtain ⟨k, g, cap, hk, rfl, rfl, hown, hb⟩ := hrel
    have hvl := dropL_take_len nm l k
    have hbr := hb
    obtain ⟨hc, hf⟩ := bcell hb
    have hz := hb.size
    by_cases hlt : k < n
    · have hlk : k < l.length := by rw [Hl.out]; exact hlt
      obtain ⟨b, off, rfl, hbl, hc0, hc1⟩ := (hr.below hb).hdr k hlk
      have hsx := (Hs.out l[k] (List.getElem_mem hlk)).1
      have hcon := fun W => impl_alike l[k].1 nm hsx hnm W
      by_cases hp : alikeB l[k].1 nm = true
      · rw [hp] at hcon
        have Hcon := Lib.hid hcon
        have Hv := Lib.hid (dropL_yes nm l k hlk hp)
        clear hcon hp
        go_wp2_with (go_at_call 133; ((with_reducible refine (Hcon.out _).mono ?_); rintro e w' ⟨rfl, hb⟩; obtain ⟨hc, hf⟩ := bcell hb; have hz := hb.size; (try simp only [World.size_alloc, World.size_setCell, World.size_drew] at hz); obtain ⟨hlt, hle, hn1, hn2, hn3, hn4⟩ := bsize hb; (try simp only [World.size_alloc, World.size_setCell, World.size_drew] at hlt hle hn1 hn2 hn3 hn4); (try have hr0 : w.heap.size < w'.heap.size := by omega); (try have hr1 : w.heap.size + 1 < w'.heap.size := by omega); (try have hs0 : wS.heap.size < w'.heap.size := by omega); (try have hs1 : wG.heap.size < w'.heap.size := by omega)))
        go_roundw
        case rel => exact ⟨k + 1, g, cap, by omega, by go_num, by rw [Hv.out], by rw [Hv.out]; exact own_below hown (by exact (by first | (with_reducible exact Below.refl _ _) | ((repeat' (first | (with_reducible exact Below.refl _ _) | (with_reducible assumption) | (with_reducible refine below_alloc ?_ _) | (with_reducible refine Below.drew ?_) | (with_reducible refine below_drewN ?_ _) | (with_reducible refine Below.setCell ?_ ?_ _) | refine below_then ?_ (by with_reducible assumption))) <;> (first | omega | (simp; done) | (simp; omega))))) (Nat.le_refl _), by exact (by first | (with_reducible exact Below.refl _ _) | ((repeat' (first | (with_reducible exact Below.refl _ _) | (with_reducible assumption) | (with_reducible refine below_alloc ?_ _) | (with_reducible refine Below.drew ?_) | (with_reducible refine below_drewN ?_ _) | (with_reducible refine Below.setCell ?_ ?_ _) | refine below_then ?_ (by with_reducible assumption))) <;> (first | omega | (simp; done) | (simp; omega))))⟩
        case measure => simp [intOf]; omega
      · simp only [Bool.not_eq_true] at hp
        rw [hp] at hcon
        have Hcon := Lib.hid hcon
        have Hv := Lib.hid (dropL_no nm l k hlk hp)
        clear hcon hp
        go_wp2_with (first | (go_at_call 133; ((with_reducible refine (Hcon.out _).mono ?_); rintro e w' ⟨rfl, hb⟩; obtain ⟨hc, hf⟩ := bcell hb; have hz := hb.size; (try simp only [World.size_alloc, World.size_setCell, World.size_drew] at hz); obtain ⟨hlt, hle, hn1, hn2, hn3, hn4⟩ := bsize hb; (try simp only [World.size_alloc, World.size_setCell, World.size_drew] at hlt hle hn1 hn2 hn3 hn4); (try have hr0 : w.heap.size < w'.heap.size := by omega); (try have hr1 : w.heap.size + 1 < w'.heap.size := by omega); (try have hs0 : wS.heap.size < w'.heap.size := by omega); (try have hs1 : wG.heap.size < w'.heap.size := by omega))) | (at_builtin; refine app1 rfl _ _ 24 rfl Tryz.underlying24 infoHdr rfl (by decide) (own_below hown (by exact (by first | (with_reducible exact Below.refl _ _) | ((repeat' (first | (with_reducible exact Below.refl _ _) | (with_reducible assumption) | (with_reducible refine below_alloc ?_ _) | (with_reducible refine Below.drew ?_) | (with_reducible refine below_drewN ?_ _) | (with_reducible refine Below.setCell ?_ ?_ _) | refine below_then ?_ (by with_reducible assumption))) <;> (first | omega | (simp; done) | (simp; omega))))) (Nat.le_refl _)) (by exact (by first | (with_reducible exact Below.refl _ _) | ((repeat' (first | (with_reducible exact Below.refl _ _) | (with_reducible assumption) | (with_reducible refine below_alloc ?_ _) | (with_reducible refine Below.drew ?_) | (with_reducible refine below_drewN ?_ _) | (with_reducible refine Below.setCell ?_ ?_ _) | refine below_then ?_ (by with_reducible assumption))) <;> (first | omega | (simp; done) | (simp; omega))))) rfl rfl rfl (by intro u hu; simp at hu; rcases hu with rfl | rfl <;> rfl) (by omega) (by unfold maxLen; omega) ?_; intro v1 w1 hown1 hb1 _ _; obtain ⟨g1, cap1, rfl, hg1, hrow1⟩ := own_shape hown1))
        go_roundw
        case rel => exact ⟨k + 1, g1, cap1, by omega, by go_num, by rw [Hv.out, List.length_append, List.length_singleton], own_cast hown1 (by rw [Hv.out, List.length_append, List.length_singleton]) (by rw [Hv.out, hV_snoc1]), hb1⟩
        case measure => simp [intOf]; omega
    · have hk' : k = n := by omega
      have et : l.take k = l := List.take_of_length_le (by have := Hl.out; omega)
      have Et := Lib.hid et
      clear et
      rw [Et.out] at hown
      go_wp2
      go_ret
      exact ⟨g, cap, by rw [Et.out]; rfl, hown, hb⟩
end Go.Proofs.YthiogijicknoiaaGreatDoor
