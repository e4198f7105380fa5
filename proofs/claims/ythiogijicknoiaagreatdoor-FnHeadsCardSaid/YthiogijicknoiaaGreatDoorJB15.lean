/- Joined: PackH. -/
import Derived.Test.YthiogijicknoiaaGreatDoorJB0
import Derived.Test.YthiogijicknoiaaGreatDoorJB10
/- The text of head lines: both texts, and the law. -/
namespace Go.Proofs.YthiogijicknoiaaGreatDoor
open Go.RowKit
set_option linter.unusedSimpArgs false
set_option linter.unusedVariables false

def lineS (h : Hd) : ByteArray := h.1 ++ ⟨#[58, 32]⟩ ++ h.2 ++ ⟨#[13, 10]⟩
def packL (l : List Hd) : List UInt8 := l.flatMap fun h => (lineS h).data.toList
def packB (l : List Hd) : ByteArray := ⟨(packL l).toArray⟩
theorem packL_succ (l : List Hd) (k : Nat) (h : k < l.length) : packL (l.take (k + 1)) = packL (l.take k) ++ (lineS l[k]).data.toList := by
  unfold packL; rw [List.take_succ_eq_append_getElem h, List.flatMap_append]; simp
theorem packB_succ (l : List Hd) (k : Nat) (h : k < l.length) : packB (l.take k) ++ l[k].1 ++ ⟨#[58, 32]⟩ ++ l[k].2 ++ ⟨#[13, 10]⟩ = packB (l.take (k + 1)) := by
  unfold packB
  rw [packL_succ l k h]
  apply ByteArray.ext
  simp [lineS]
theorem lineS_size (h : Hd) : (lineS h).size = h.1.size + h.2.size + 4 := by
  unfold lineS
  rw [ByteArray.size_append, ByteArray.size_append, ByteArray.size_append]
  show h.1.size + 2 + h.2.size + 2 = _
  omega
theorem packL_len (m : Nat) : ∀ (l : List Hd), (∀ h ∈ l, h.1.size + h.2.size ≤ m) → (packL l).length ≤ l.length * (m + 4)
  | [], _ => Nat.zero_le _
  | x :: l, hs => by
    have h1 := packL_len m l fun h hh => hs h (by simp [hh])
    have h2 := hs x (by simp)
    have h3 := lineS_size x
    have e : packL (x :: l) = (lineS x).data.toList ++ packL l := by simp [packL]
    have h4 : (lineS x).data.toList.length = (lineS x).size := Array.length_toList
    rw [e, List.length_append, List.length_cons, Nat.succ_mul]
    omega
theorem packB_size {l : List Hd} (k : Nat) (hl : l.length ≤ 20) (hs : ∀ h ∈ l, h.1.size ≤ 64 ∧ h.2.size ≤ 200) : (packB (l.take k)).size ≤ 5360 := by
  have h1 := packL_len 264 (l.take k) fun h hh => by have := hs h (List.mem_of_mem_take hh); omega
  have h2 := List.length_take_le' k l
  have h3 : (packB (l.take k)).size = (packL (l.take k)).length := by simp [packB, ByteArray.size]
  have h4 := Nat.mul_le_mul_right (264 + 4) (show (l.take k).length ≤ 20 by omega)
  omega
theorem wordS_size {s : ByteArray} (h : wordS s = true) : s.size ≤ 64 := by
  unfold wordS at h
  simp only [Bool.and_eq_true, decide_eq_true_eq] at h
  exact h.1.2
theorem hdFault_name {h : Hd} (e : hdFault h = 0) : h.1.size ≤ 64 := by
  unfold hdFault at e
  split at e
  · cases e
  · rename_i h1
    exact wordS_size (by simpa using h1)
theorem hds_small {l : List Hd} (e : hdsFault l = 0) : l.length ≤ 20 ∧ ∀ h ∈ l, h.1.size ≤ 64 ∧ h.2.size ≤ 200 := by
  obtain ⟨h20, hall⟩ := hdsFault_0 e
  exact ⟨h20, fun h hh => ⟨hdFault_name (hall h hh), hdFault_size (hall h hh)⟩⟩
theorem isB_then {B b : Nat} {l : List Value} {w w' : World} (h : IsB B b l w) (hb : Below w.heap.size w w') : IsB B b l w' := by
  rcases h with ⟨hB, v, hbk, hown, hne⟩ | ⟨hB, v, hbk, hown, hne⟩
  · exact .inl ⟨hB, v, blk_then hbk hb, own_below hown hb (Nat.le_refl _), hne⟩
  · exact .inr ⟨hB, v, blk_then hbk hb, own_below hown hb (Nat.le_refl _), hne⟩
theorem isB_alloc {B b : Nat} {l : List Value} {w : World} (h : IsB B b l w) (o : Obj) : IsB B b l (w.alloc o) := isB_then h (below_alloc (Below.refl _ _) o)
theorem isB_drew {B b : Nat} {l : List Value} {w : World} (h : IsB B b l w) : IsB B b l w.drew := isB_then h (Below.refl _ _).drew
theorem impl_lineText (x y : ByteArray) (hx : x.size ≤ 1000000) (hy : y.size ≤ 1000000) (w : World) : Calls Tryz.prog 138 #[.agg #[.string x, .string y]] w fun e w' => e = .returned (.string (lineS (x, y))) ∧ Below w.heap.size w w' := by
  go_enter Tryz.func138, Tryz.ntmps138
  go_wp2
  all_goals (go_ret; exact ⟨by first | rfl | (simp [*]; done) | (simp [*]; omega), by first | (with_reducible rfl) | exact (by first | (with_reducible exact Below.refl _ _) | ((repeat' (first | (with_reducible exact Below.refl _ _) | (with_reducible assumption) | (with_reducible refine below_alloc ?_ _) | (with_reducible refine Below.drew ?_) | (with_reducible refine below_drewN ?_ _) | (with_reducible refine Below.setCell ?_ ?_ _) | refine below_then ?_ (by with_reducible assumption))) <;> (first | omega | (simp; done) | (simp; omega))))⟩)
theorem byteCells_app (l m : List UInt8) : Lib.byteCells l ++ m.map (fun b => Value.int .u8 b.toNat) = Lib.byteCells (l ++ m) := by simp [Lib.byteCells]
set_option maxHeartbeats 1600000 in
theorem impl_headersText (a : Option Addr) (n c : Nat) (l : List Hd) (hl : l.length = n) (w : World) (hr : Rd w a (hV l)) (hn : n ≤ 20) (hs : ∀ h ∈ l, h.1.size ≤ 64 ∧ h.2.size ≤ 200) :
    Calls Tryz.prog 96 #[.slice a n c] w fun e w' => e = .returned (.string (packB l)) ∧ Below w.heap.size w w' := by
  have Hl := Lib.hid hl
  have Hs := Lib.hid hs
  clear hl hs
  go_enter Tryz.func96, Tryz.ntmps96
  go_wp2
  go_loopw [9] (fun i wr => ∃ k : Nat, k ≤ n ∧ i = .int .i64 (k : Int) ∧ IsB w.heap.size w.heap.size (Lib.byteCells (packL (l.take k))) wr ∧ Below w.heap.size w wr) (fun i _ => n - (intOf i).toNat)
  case atStart => exact ⟨0, Nat.zero_le _, rfl, Lib.fresh_isBuilder _ _ w, below_alloc (Below.refl _ _) _⟩
  case round =>
    obtain ⟨k, hk, rfl, hB, hb⟩ := hrel
    obtain ⟨hc, hf⟩ := bcell hb
    have hz := hb.size
    by_cases hlt : k < n
    · have hlk : k < l.length := by rw [Hl.out]; exact hlt
      obtain ⟨bb, off, rfl, hbl, hc0, hc1⟩ := (hr.below hb).hdr k hlk
      obtain ⟨hs1, hs2⟩ := Hs.out l[k] (List.getElem_mem hlk)
      have hpz := packB_size (l := l) k (by have := Hl.out; omega) Hs.out
      have hpl : (Lib.byteCells (packL (l.take k))).length ≤ 5360 := by
        have : (packB (l.take k)).size = (Lib.byteCells (packL (l.take k))).length := by simp [packB, Lib.byteCells, ByteArray.size]
        omega
      have hls := lineS_size (l[k].1, l[k].2)
      simp only at hls
      have HB := Lib.hid hB
      have E := Lib.hid (packL_succ l k hlk)
      clear hB
      go_wp2_with (first
        | (go_at_call 138; ((with_reducible refine (impl_lineText l[k].1 l[k].2 (by omega) (by omega) _).mono ?_); rintro e w' ⟨rfl, hb1⟩; have HB1 := Lib.hid (isB_then (isB_alloc HB.out _) hb1); have hb2 := below_then (below_alloc hb _) hb1))
        | (go_at_call 144; ((with_reducible refine (builder_write w.heap.size w.heap.size _ _ _ HB1.out (by omega) hb2.size).mono ?_); rintro e w' ⟨rfl, hB3, hb3⟩)))
      go_roundw
      case rel => exact ⟨k + 1, by omega, by go_num, by rw [E.out, ← byteCells_app]; exact hB3, hb2.trans hb3⟩
      case measure => simp [intOf]; omega
    · obtain rfl : k = n := by omega
      have et : l.take k = l := List.take_of_length_le (by have := Hl.out; omega)
      rw [et] at hB
      have HB := Lib.hid hB
      clear hB et
      go_wp2_with (go_at_call 145; ((with_reducible refine (builder_string w.heap.size w.heap.size _ _ HB.out hb.size).mono ?_); rintro e w' ⟨rfl, hb3⟩))
      go_ret
      exact ⟨rfl, hb.trans hb3⟩
set_option maxHeartbeats 1600000 in
theorem spec_l4Pack (a : Option Addr) (n c : Nat) (l : List Hd) (hl : l.length = n) (w : World) (hr : Rd w a (hV l)) (hn : n ≤ 20) (hs : ∀ h ∈ l, h.1.size ≤ 64 ∧ h.2.size ≤ 200) :
    Calls Tryz.prog 100 #[.slice a n c] w fun e w' => e = .returned (.string (packB l)) ∧ Below w.heap.size w w' := by
  have Hl := Lib.hid hl
  have Hs := Lib.hid hs
  clear hl hs
  go_enter Tryz.func100, Tryz.ntmps100
  go_wp2
  go_loopw [3, 4] (fun s i wr => ∃ k : Nat, k ≤ n ∧ i = .int .i64 (k : Int) ∧ s = .string (packB (l.take k)) ∧ Below w.heap.size w wr) (fun _ i _ => n - (intOf i).toNat)
  case atStart => exact ⟨0, Nat.zero_le _, rfl, rfl, Below.refl _ _⟩
  case round =>
    obtain ⟨k, hk, rfl, rfl, hb⟩ := hrel
    by_cases hlt : k < n
    · have hlk : k < l.length := by rw [Hl.out]; exact hlt
      obtain ⟨bb, off, rfl, hbl, hc0, hc1⟩ := (hr.below hb).hdr k hlk
      obtain ⟨hs1, hs2⟩ := Hs.out l[k] (List.getElem_mem hlk)
      have hpz := packB_size (l := l) k (by have := Hl.out; omega) Hs.out
      have E := Lib.hid (packB_succ l k hlk)
      go_wp2
      go_quiet (fail)
      go_wp2
      go_roundw
      case rel => exact ⟨k + 1, by omega, by go_num, by rw [E.out], below_drewN hb _⟩
      case measure => simp [intOf]; omega
    · obtain rfl : k = n := by omega
      have et : l.take k = l := List.take_of_length_le (by have := Hl.out; omega)
      have Et := Lib.hid et
      clear et
      go_wp2
      go_ret
      exact ⟨by rw [Et.out]; rfl, hb⟩
def packR (l : List Hd) : Int × ByteArray := if hdsFault l = 0 then (0, packB l) else (hdsFault l, ⟨#[]⟩)
set_option maxHeartbeats 1600000 in
theorem impl_PackHeaders (a : Option Addr) (n c : Nat) (l : List Hd) (hl : l.length = n) (w : World) (hr : Rd w a (hV l)) (hn : n ≤ 9223372036854775807) (hs : ∀ h ∈ l, h.1.size ≤ 9223372036854775807 ∧ h.2.size ≤ 9223372036854775807) :
    Calls Tryz.prog 35 #[.slice a n c] w fun e w' => e = .returned (.agg #[.int .i64 (packR l).1, .string (packR l).2]) ∧ Below w.heap.size w w' := by
  have hc := fun W hr => impl_HeadersFault a n c l hl W hr hn hs
  by_cases hz : hdsFault l = 0
  · obtain ⟨h20, hs2⟩ := hds_small hz
    have hd := fun W hr => impl_headersText a n c l hl W hr (by omega) hs2
    have e : packR l = (0, packB l) := by rw [packR, if_pos hz]
    rw [e]
    rw [hz] at hc
    have Hc := Lib.hid hc
    have Hd := Lib.hid hd
    clear e hz hc hl hs hd h20 hs2
    go_enter Tryz.func35, Tryz.ntmps35
    go_wp2_with (first
      | (go_at_call 41; ((with_reducible refine (Hc.out _ (by first | (with_reducible assumption) | exact RowAt.rd (by repeat' (first | (with_reducible assumption) | (with_reducible refine RowAt.alloc ?_ _) | (with_reducible refine RowAt.drew ?_) | (with_reducible refine RowAt.other ?_ _ _ (by first | omega | (simp; done) | (simp; omega))) | refine RowAt.then ?_ (by with_reducible assumption))) | exact Rd.below (by with_reducible assumption) (by first | (with_reducible exact Below.refl _ _) | ((repeat' (first | (with_reducible exact Below.refl _ _) | (with_reducible assumption) | (with_reducible refine below_alloc ?_ _) | (with_reducible refine Below.drew ?_) | (with_reducible refine below_drewN ?_ _) | (with_reducible refine Below.setCell ?_ ?_ _) | refine below_then ?_ (by with_reducible assumption))) <;> (first | omega | (simp; done) | (simp; omega)))))).mono ?_); rintro e w' ⟨rfl, hb⟩; obtain ⟨hc, hf⟩ := bcell hb; have hz := hb.size; (try simp only [World.size_alloc, World.size_setCell, World.size_drew] at hz); obtain ⟨hlt, hle, hn1, hn2, hn3, hn4⟩ := bsize hb; (try simp only [World.size_alloc, World.size_setCell, World.size_drew] at hlt hle hn1 hn2 hn3 hn4); (try have hr0 : w.heap.size < w'.heap.size := by omega); (try have hr1 : w.heap.size + 1 < w'.heap.size := by omega); (try have hs0 : wS.heap.size < w'.heap.size := by omega); (try have hs1 : wG.heap.size < w'.heap.size := by omega)))
      | (go_at_call 96; ((with_reducible refine (Hd.out _ (by first | (with_reducible assumption) | exact RowAt.rd (by repeat' (first | (with_reducible assumption) | (with_reducible refine RowAt.alloc ?_ _) | (with_reducible refine RowAt.drew ?_) | (with_reducible refine RowAt.other ?_ _ _ (by first | omega | (simp; done) | (simp; omega))) | refine RowAt.then ?_ (by with_reducible assumption))) | exact Rd.below (by with_reducible assumption) (by first | (with_reducible exact Below.refl _ _) | ((repeat' (first | (with_reducible exact Below.refl _ _) | (with_reducible assumption) | (with_reducible refine below_alloc ?_ _) | (with_reducible refine Below.drew ?_) | (with_reducible refine below_drewN ?_ _) | (with_reducible refine Below.setCell ?_ ?_ _) | refine below_then ?_ (by with_reducible assumption))) <;> (first | omega | (simp; done) | (simp; omega)))))).mono ?_); rintro e w' ⟨rfl, hb⟩; obtain ⟨hc, hf⟩ := bcell hb; have hz := hb.size; (try simp only [World.size_alloc, World.size_setCell, World.size_drew] at hz); obtain ⟨hlt, hle, hn1, hn2, hn3, hn4⟩ := bsize hb; (try simp only [World.size_alloc, World.size_setCell, World.size_drew] at hlt hle hn1 hn2 hn3 hn4); (try have hr0 : w.heap.size < w'.heap.size := by omega); (try have hr1 : w.heap.size + 1 < w'.heap.size := by omega); (try have hs0 : wS.heap.size < w'.heap.size := by omega); (try have hs1 : wG.heap.size < w'.heap.size := by omega))))
    all_goals exact bodyPost_ret (res_row Tryz.results35 _ _ rfl (blk_cast (by repeat' (first | (with_reducible assumption) | (with_reducible exact blk_new _ _) | (with_reducible apply blk_set) | (with_reducible refine blk_alloc ?_ _) | (with_reducible refine blk_drew ?_) | refine blk_then ?_ (by with_reducible assumption))) (by first | (simp; done) | rfl)) Tryz.underlying31 rfl _ (by kernel_rfl) rfl) rfl ⟨rfl, by first | (with_reducible rfl) | exact (by first | (with_reducible exact Below.refl _ _) | ((repeat' (first | (with_reducible exact Below.refl _ _) | (with_reducible assumption) | (with_reducible refine below_alloc ?_ _) | (with_reducible refine Below.drew ?_) | (with_reducible refine below_drewN ?_ _) | (with_reducible refine Below.setCell ?_ ?_ _) | refine below_then ?_ (by with_reducible assumption))) <;> (first | omega | (simp; done) | (simp; omega))))⟩
  · have e : packR l = (hdsFault l, ⟨#[]⟩) := by rw [packR, if_neg hz]
    rw [e]
    have hne : (hdsFault l != 0) = true := by simpa using hz
    have Hc := Lib.hid hc
    clear e hz hc hl hs
    go_enter Tryz.func35, Tryz.ntmps35
    go_wp2_with (go_at_call 41; ((with_reducible refine (Hc.out _ (by first | (with_reducible assumption) | exact RowAt.rd (by repeat' (first | (with_reducible assumption) | (with_reducible refine RowAt.alloc ?_ _) | (with_reducible refine RowAt.drew ?_) | (with_reducible refine RowAt.other ?_ _ _ (by first | omega | (simp; done) | (simp; omega))) | refine RowAt.then ?_ (by with_reducible assumption))) | exact Rd.below (by with_reducible assumption) (by first | (with_reducible exact Below.refl _ _) | ((repeat' (first | (with_reducible exact Below.refl _ _) | (with_reducible assumption) | (with_reducible refine below_alloc ?_ _) | (with_reducible refine Below.drew ?_) | (with_reducible refine below_drewN ?_ _) | (with_reducible refine Below.setCell ?_ ?_ _) | refine below_then ?_ (by with_reducible assumption))) <;> (first | omega | (simp; done) | (simp; omega)))))).mono ?_); rintro e w' ⟨rfl, hb⟩; obtain ⟨hc, hf⟩ := bcell hb; have hz := hb.size; (try simp only [World.size_alloc, World.size_setCell, World.size_drew] at hz); obtain ⟨hlt, hle, hn1, hn2, hn3, hn4⟩ := bsize hb; (try simp only [World.size_alloc, World.size_setCell, World.size_drew] at hlt hle hn1 hn2 hn3 hn4); (try have hr0 : w.heap.size < w'.heap.size := by omega); (try have hr1 : w.heap.size + 1 < w'.heap.size := by omega); (try have hs0 : wS.heap.size < w'.heap.size := by omega); (try have hs1 : wG.heap.size < w'.heap.size := by omega)))
    all_goals exact bodyPost_ret (res_row Tryz.results35 _ _ rfl (blk_cast (by repeat' (first | (with_reducible assumption) | (with_reducible exact blk_new _ _) | (with_reducible apply blk_set) | (with_reducible refine blk_alloc ?_ _) | (with_reducible refine blk_drew ?_) | refine blk_then ?_ (by with_reducible assumption))) (by first | (simp; done) | rfl)) Tryz.underlying31 rfl _ (by kernel_rfl) rfl) rfl ⟨rfl, by first | (with_reducible rfl) | exact (by first | (with_reducible exact Below.refl _ _) | ((repeat' (first | (with_reducible exact Below.refl _ _) | (with_reducible assumption) | (with_reducible refine below_alloc ?_ _) | (with_reducible refine Below.drew ?_) | (with_reducible refine below_drewN ?_ _) | (with_reducible refine Below.setCell ?_ ?_ _) | refine below_then ?_ (by with_reducible assumption))) <;> (first | omega | (simp; done) | (simp; omega))))⟩
end Go.Proofs.YthiogijicknoiaaGreatDoor
