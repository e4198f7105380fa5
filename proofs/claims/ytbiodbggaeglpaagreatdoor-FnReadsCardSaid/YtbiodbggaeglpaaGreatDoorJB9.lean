/- Joined: Bw, DropH, JoinH, PackH, DrawH, ReqP, HeadP, KeyP, RspP, RspB. -/
import Derived.Test.YtbiodbggaeglpaaGreatDoorJB0
import Derived.Test.YtbiodbggaeglpaaGreatDoorJB8
import Derived.Test.YtbiodbggaeglpaaGreatDoorJB6
import Derived.Test.YtbiodbggaeglpaaGreatDoorJB1
import Derived.Test.YtbiodbggaeglpaaGreatDoorJB4
import Derived.Test.YtbiodbggaeglpaaGreatDoorJB2
/- A text laid as bytes. -/
namespace Go.Proofs.YtbiodbggaeglpaaGreatDoor
open Go.RowKit
set_option linter.unusedVariables false

theorem bw_below (w : World) (s : ByteArray) : Below w.heap.size w (Lib.bytesWorld w 5 s) := ⟨rfl, rfl, rfl, by rw [Lib.bytesWorld_size]; omega, fun k hk => Lib.bytesWorld_at_old w 5 s k hk⟩
theorem bw_row (w : World) (s : ByteArray) : RowAt (Lib.bytesWorld w 5 s) w.heap.size (bV s.data.toList) := by
  obtain ⟨cap, W, h1, h2, _⟩ := conv_there w s
  have h3 := Lib.run_convert_string_bytes (P := Tryz.prog) w 9 22 5 s Tryz.underlying9 Tryz.underlying22 Tryz.underlying5
  rw [h3] at h1
  injection h1 with _ e
  subst e
  exact h2
theorem bw_good (s : ByteArray) (W : World) (lo : Nat) (h : lo ≤ W.heap.size) : ∃ g cap W', (convert 9 22 (.string s)).run Tryz.prog W = .ok (.slice (some ⟨g, 0, none⟩) s.size cap) W' ∧ lo ≤ g ∧ RowAt W' g (bV s.data.toList) ∧ Below W.heap.size W W' := by
  have h3 := Lib.run_convert_string_bytes (P := Tryz.prog) W 9 22 5 s Tryz.underlying9 Tryz.underlying22 Tryz.underlying5
  exact ⟨_, _, _, h3, h, bw_row W s, bw_below W s⟩
end Go.Proofs.YtbiodbggaeglpaaGreatDoor

/- The head lines without those of a name: both texts, and the law. -/
namespace Go.Proofs.YtbiodbggaeglpaaGreatDoor
open Go.RowKit
set_option linter.unusedSimpArgs false
set_option linter.unusedVariables false

def dropR (nm : ByteArray) (l : List Hd) : Int × List Hd := if askF nm l = 0 then (0, dropL nm l) else (askF nm l, [])
theorem own_at {w : World} {lo g : Nat} {e : TypeId} {size n cap : Nat} {xs : List Value} (h : w.ownsRow lo e size (.slice (some ⟨g, 0, none⟩) n cap) n xs) : lo ≤ g ∧ g < w.heap.size ∧ RowAt w g xs := by
  have hr := RowAt.of_own h
  refine ⟨?_, hr.lt, hr⟩
  rcases h.2 with ⟨hn, _⟩ | ⟨g', cap', cur, hv, hlo, _⟩
  · cases hn
  · cases hv; exact hlo
theorem hdR_some {w : World} {g n lo hi : Nat} {l : List Hd} (h : RowAt w g (hV l)) (h1 : lo ≤ g) (h2 : g < hi) (hn : l.length = n) : l.length = n ∧ SlAt w lo hi (some ⟨g, 0, none⟩) n (hV l) := ⟨hn, h.sl n h1 h2⟩
theorem hdR_none (w : World) (lo hi : Nat) : ([] : List Hd).length = 0 ∧ SlAt w lo hi none 0 (hV []) := ⟨rfl, SlAt.nil _ _ _ _⟩
theorem dropR_len (nm : ByteArray) (l : List Hd) : (dropR nm l).2.length ≤ l.length := by
  unfold dropR
  split
  · exact List.length_filter_le _ _
  · exact Nat.zero_le _
theorem dropR_20 (nm : ByteArray) (l : List Hd) : (dropR nm l).2.length ≤ 20 := by
  by_cases h : askF nm l = 0
  · have h1 := dropR_len nm l
    have h2 := (hdsFault_0 (askF_0 h).1).1
    omega
  · rw [dropR, if_neg h]; exact Nat.zero_le _
end Go.Proofs.YtbiodbggaeglpaaGreatDoor

/- The values of the head lines of a name, joined: both texts, and the law. -/
namespace Go.Proofs.YtbiodbggaeglpaaGreatDoor
open Go.RowKit
set_option linter.unusedSimpArgs false
set_option linter.unusedVariables false

def joinR (nm : ByteArray) (l : List Hd) : Int × ByteArray := if askF nm l = 0 then (if (vals nm l).isEmpty = true then (4, ⟨#[]⟩) else (0, joinB commaS (vals nm l))) else (askF nm l, ⟨#[]⟩)
theorem ask_small {nm : ByteArray} {l : List Hd} (h : askF nm l = 0) (hs : ∀ h ∈ l, h.1.size ≤ 9223372036854775807 ∧ h.2.size ≤ 9223372036854775807) : l.length ≤ 20 ∧ ∀ h ∈ l, h.1.size ≤ 9223372036854775807 ∧ h.2.size ≤ 200 := by
  obtain ⟨h20, hall⟩ := hdsFault_0 (askF_0 h).1
  exact ⟨h20, fun h hh => ⟨(hs h hh).1, hdFault_size (hall h hh)⟩⟩
end Go.Proofs.YtbiodbggaeglpaaGreatDoor

/- The text of head lines: both texts, and the law. -/
namespace Go.Proofs.YtbiodbggaeglpaaGreatDoor
open Go.RowKit
set_option linter.unusedSimpArgs false
set_option linter.unusedVariables false

def lineS (h : Hd) : ByteArray := h.1 ++ ⟨#[58, 32]⟩ ++ h.2 ++ ⟨#[13, 10]⟩
def packL (l : List Hd) : List UInt8 := l.flatMap fun h => (lineS h).data.toList
def packB (l : List Hd) : ByteArray := ⟨(packL l).toArray⟩
theorem packL_succ (l : List Hd) (k : Nat) (h : k < l.length) : packL (l.take (k + 1)) = packL (l.take k) ++ (lineS l[k]).data.toList := by
  unfold packL; rw [List.take_succ_eq_append_getElem h, List.flatMap_append]; simp
theorem packB_succ (l : List Hd) (k : Nat) (h : k < l.length) : packB (l.take k) ++ l[k].1 ++ ⟨#[58, 32]⟩ ++ l[k].2 ++ ⟨#[13, 10]⟩ = packB (l.take (k + 1)) := by
  unfold packB
  rw [packL_succ l k h]
  apply ByteArray.ext
  simp [lineS]
theorem lineS_size (h : Hd) : (lineS h).size = h.1.size + h.2.size + 4 := by
  unfold lineS
  rw [ByteArray.size_append, ByteArray.size_append, ByteArray.size_append]
  show h.1.size + 2 + h.2.size + 2 = _
  omega
theorem packL_len (m : Nat) : ∀ (l : List Hd), (∀ h ∈ l, h.1.size + h.2.size ≤ m) → (packL l).length ≤ l.length * (m + 4)
  | [], _ => Nat.zero_le _
  | x :: l, hs => by
    have h1 := packL_len m l fun h hh => hs h (by simp [hh])
    have h2 := hs x (by simp)
    have h3 := lineS_size x
    have e : packL (x :: l) = (lineS x).data.toList ++ packL l := by simp [packL]
    have h4 : (lineS x).data.toList.length = (lineS x).size := Array.length_toList
    rw [e, List.length_append, List.length_cons, Nat.succ_mul]
    omega
theorem packB_size {l : List Hd} (k : Nat) (hl : l.length ≤ 20) (hs : ∀ h ∈ l, h.1.size ≤ 64 ∧ h.2.size ≤ 200) : (packB (l.take k)).size ≤ 5360 := by
  have h1 := packL_len 264 (l.take k) fun h hh => by have := hs h (List.mem_of_mem_take hh); omega
  have h2 := List.length_take_le' k l
  have h3 : (packB (l.take k)).size = (packL (l.take k)).length := by simp [packB, ByteArray.size]
  have h4 := Nat.mul_le_mul_right (264 + 4) (show (l.take k).length ≤ 20 by omega)
  omega
theorem wordS_size {s : ByteArray} (h : wordS s = true) : s.size ≤ 64 := by
  unfold wordS at h
  simp only [Bool.and_eq_true, decide_eq_true_eq] at h
  exact h.1.2
theorem hdFault_name {h : Hd} (e : hdFault h = 0) : h.1.size ≤ 64 := by
  unfold hdFault at e
  split at e
  · cases e
  · rename_i h1
    exact wordS_size (by simpa using h1)
theorem hds_small {l : List Hd} (e : hdsFault l = 0) : l.length ≤ 20 ∧ ∀ h ∈ l, h.1.size ≤ 64 ∧ h.2.size ≤ 200 := by
  obtain ⟨h20, hall⟩ := hdsFault_0 e
  exact ⟨h20, fun h hh => ⟨hdFault_name (hall h hh), hdFault_size (hall h hh)⟩⟩
theorem isB_then {B b : Nat} {l : List Value} {w w' : World} (h : IsB B b l w) (hb : Below w.heap.size w w') : IsB B b l w' := by
  rcases h with ⟨hB, v, hbk, hown, hne⟩ | ⟨hB, v, hbk, hown, hne⟩
  · exact .inl ⟨hB, v, blk_then hbk hb, own_below hown hb (Nat.le_refl _), hne⟩
  · exact .inr ⟨hB, v, blk_then hbk hb, own_below hown hb (Nat.le_refl _), hne⟩
theorem isB_alloc {B b : Nat} {l : List Value} {w : World} (h : IsB B b l w) (o : Obj) : IsB B b l (w.alloc o) := isB_then h (below_alloc (Below.refl _ _) o)
theorem isB_drew {B b : Nat} {l : List Value} {w : World} (h : IsB B b l w) : IsB B b l w.drew := isB_then h (Below.refl _ _).drew
theorem impl_lineText (x y : ByteArray) (hx : x.size ≤ 1000000) (hy : y.size ≤ 1000000) (w : World) : Calls Tryz.prog 78 #[.agg #[.string x, .string y]] w fun e w' => e = .returned (.string (lineS (x, y))) ∧ Below w.heap.size w w' := by
  go_enter Tryz.func78, Tryz.ntmps78
  go_wp2
  all_goals (go_ret; exact ⟨by first | rfl | (simp [*]; done) | (simp [*]; omega), by first | (with_reducible rfl) | exact (by first | (with_reducible exact Below.refl _ _) | ((repeat' (first | (with_reducible exact Below.refl _ _) | (with_reducible assumption) | (with_reducible refine below_alloc ?_ _) | (with_reducible refine Below.drew ?_) | (with_reducible refine below_drewN ?_ _) | (with_reducible refine Below.setCell ?_ ?_ _) | refine below_then ?_ (by with_reducible assumption))) <;> (first | omega | (simp; done) | (simp; omega))))⟩)
theorem byteCells_app (l m : List UInt8) : Lib.byteCells l ++ m.map (fun b => Value.int .u8 b.toNat) = Lib.byteCells (l ++ m) := by simp [Lib.byteCells]
set_option maxHeartbeats 1600000 in
theorem impl_headersText (a : Option Addr) (n c : Nat) (l : List Hd) (hl : l.length = n) (w : World) (hr : Rd w a (hV l)) (hn : n ≤ 20) (hs : ∀ h ∈ l, h.1.size ≤ 64 ∧ h.2.size ≤ 200) :
    Calls Tryz.prog 79 #[.slice a n c] w fun e w' => e = .returned (.string (packB l)) ∧ Below w.heap.size w w' := by
  have Hl := Lib.hid hl
  have Hs := Lib.hid hs
  clear hl hs
  go_enter Tryz.func79, Tryz.ntmps79
  go_wp2
  go_loopw [9] (fun i wr => ∃ k : Nat, k ≤ n ∧ i = .int .i64 (k : Int) ∧ IsB w.heap.size w.heap.size (Lib.byteCells (packL (l.take k))) wr ∧ Below w.heap.size w wr) (fun i _ => n - (intOf i).toNat)
  case atStart => exact ⟨0, Nat.zero_le _, rfl, Lib.fresh_isBuilder _ _ w, below_alloc (Below.refl _ _) _⟩
  case round =>
    obtain ⟨k, hk, rfl, hB, hb⟩ := hrel
    obtain ⟨hc, hf⟩ := bcell hb
    have hz := hb.size
    by_cases hlt : k < n
    · have hlk : k < l.length := by rw [Hl.out]; exact hlt
      obtain ⟨bb, off, rfl, hbl, hc0, hc1⟩ := (hr.below hb).hdr k hlk
      obtain ⟨hs1, hs2⟩ := Hs.out l[k] (List.getElem_mem hlk)
      have hpz := packB_size (l := l) k (by have := Hl.out; omega) Hs.out
      have hpl : (Lib.byteCells (packL (l.take k))).length ≤ 5360 := by
        have : (packB (l.take k)).size = (Lib.byteCells (packL (l.take k))).length := by simp [packB, Lib.byteCells, ByteArray.size]
        omega
      have hls := lineS_size (l[k].1, l[k].2)
      simp only at hls
      have HB := Lib.hid hB
      have E := Lib.hid (packL_succ l k hlk)
      clear hB
      go_wp2_with (first
        | (go_at_call 78; ((with_reducible refine (impl_lineText l[k].1 l[k].2 (by omega) (by omega) _).mono ?_); rintro e w' ⟨rfl, hb1⟩; have HB1 := Lib.hid (isB_then (isB_alloc HB.out _) hb1); have hb2 := below_then (below_alloc hb _) hb1))
        | (go_at_call 108; ((with_reducible refine (builder_write w.heap.size w.heap.size _ _ _ HB1.out (by omega) hb2.size).mono ?_); rintro e w' ⟨rfl, hB3, hb3⟩)))
      go_roundw
      case rel => exact ⟨k + 1, by omega, by go_num, by rw [E.out, ← byteCells_app]; exact hB3, hb2.trans hb3⟩
      case measure => simp [intOf]; omega
    · obtain rfl : k = n := by omega
      have et : l.take k = l := List.take_of_length_le (by have := Hl.out; omega)
      rw [et] at hB
      have HB := Lib.hid hB
      clear hB et
      go_wp2_with (go_at_call 109; ((with_reducible refine (builder_string w.heap.size w.heap.size _ _ HB.out hb.size).mono ?_); rintro e w' ⟨rfl, hb3⟩))
      go_ret
      exact ⟨rfl, hb.trans hb3⟩
set_option maxHeartbeats 1600000 in
theorem spec_l4Pack (a : Option Addr) (n c : Nat) (l : List Hd) (hl : l.length = n) (w : World) (hr : Rd w a (hV l)) (hn : n ≤ 20) (hs : ∀ h ∈ l, h.1.size ≤ 64 ∧ h.2.size ≤ 200) :
    Calls Tryz.prog 63 #[.slice a n c] w fun e w' => e = .returned (.string (packB l)) ∧ Below w.heap.size w w' := by
  have Hl := Lib.hid hl
  have Hs := Lib.hid hs
  clear hl hs
  go_enter Tryz.func63, Tryz.ntmps63
  go_wp2
  go_loopw [3, 4] (fun s i wr => ∃ k : Nat, k ≤ n ∧ i = .int .i64 (k : Int) ∧ s = .string (packB (l.take k)) ∧ Below w.heap.size w wr) (fun _ i _ => n - (intOf i).toNat)
  case atStart => exact ⟨0, Nat.zero_le _, rfl, rfl, Below.refl _ _⟩
  case round =>
    obtain ⟨k, hk, rfl, rfl, hb⟩ := hrel
    by_cases hlt : k < n
    · have hlk : k < l.length := by rw [Hl.out]; exact hlt
      obtain ⟨bb, off, rfl, hbl, hc0, hc1⟩ := (hr.below hb).hdr k hlk
      obtain ⟨hs1, hs2⟩ := Hs.out l[k] (List.getElem_mem hlk)
      have hpz := packB_size (l := l) k (by have := Hl.out; omega) Hs.out
      have E := Lib.hid (packB_succ l k hlk)
      go_wp2
      go_quiet (fail)
      go_wp2
      go_roundw
      case rel => exact ⟨k + 1, by omega, by go_num, by rw [E.out], below_drewN hb _⟩
      case measure => simp [intOf]; omega
    · obtain rfl : k = n := by omega
      have et : l.take k = l := List.take_of_length_le (by have := Hl.out; omega)
      have Et := Lib.hid et
      clear et
      go_wp2
      go_ret
      exact ⟨by rw [Et.out]; rfl, hb⟩
def packR (l : List Hd) : Int × ByteArray := if hdsFault l = 0 then (0, packB l) else (hdsFault l, ⟨#[]⟩)
end Go.Proofs.YtbiodbggaeglpaaGreatDoor

/- What is drawn for head lines. -/
namespace Go.Proofs.YtbiodbggaeglpaaGreatDoor
open Go.RowKit
set_option linter.unusedSimpArgs false
set_option linter.unusedVariables false

/-- All lines are small. -/
def SmH (k : Nat) (l : List Hd) : Prop := ∀ h ∈ l, h.1.size ≤ k ∧ h.2.size ≤ k
theorem SmH.snoc {k : Nat} {l : List Hd} (h : SmH k l) {x y : ByteArray} (hx : x.size ≤ k) (hy : y.size ≤ k) : SmH k (l ++ [(x, y)]) := fun i hi =>
  (List.mem_append.1 hi).elim (fun h' => h i h') (fun h' => by rw [List.mem_singleton.1 h']; exact ⟨hx, hy⟩)
theorem SmH.big {k : Nat} {l : List Hd} (h : SmH k l) (hk : k ≤ 9223372036854775807) : ∀ i ∈ l, i.1.size ≤ 9223372036854775807 ∧ i.2.size ≤ 9223372036854775807 := fun i hi => ⟨Nat.le_trans (h i hi).1 hk, Nat.le_trans (h i hi).2 hk⟩
theorem SmH.mono {k k' : Nat} {l : List Hd} (h : SmH k l) (hk : k ≤ k') : SmH k' l := fun i hi => ⟨Nat.le_trans (h i hi).1 hk, Nat.le_trans (h i hi).2 hk⟩
theorem SmH.nil (k : Nat) : SmH k [] := fun _ h => by cases h
theorem one_hV (l : List Hd) : ∀ u ∈ hV l, u.oneCell' = true := by
  intro u hu
  unfold hV cellsOf at hu
  obtain ⟨i, _, hi⟩ := List.mem_flatMap.1 hu
  simp [hEnc] at hi
  rcases hi with rfl | rfl <;> rfl
theorem hV_app2 (l m : List Hd) : hV (l ++ m) = hV l ++ hV m := by simp [hV, cellsOf]
/-- One line behind a row of lines. -/
theorem app_hdr (g n cap : Nat) (l : List Hd) (hl : l.length = n) (hn : n ≤ 1000) (x y : ByteArray) (w : World) (hB : VRow w g n cap 2 (hV l)) (ty : TypeId) :
    ∃ g' cap' w', (Builtin.append_ #[25, 25] ty #[.slice (some ⟨g, 0, none⟩) n cap, .slice (some ⟨w.heap.size, 0, none⟩) 1 1]).run Tryz.prog (w.alloc (.cells #[.string x, .string y] 77)) = .ok (.slice (some ⟨g', 0, none⟩) (n + 1) cap') w' ∧
      (g' = g ∨ w.heap.size ≤ g') ∧ VRow w' g' (n + 1) cap' 2 (hV (l ++ [(x, y)])) ∧ Chg (w.alloc (.cells #[.string x, .string y] 77)) w' g (g + 1) := by
  obtain ⟨g', cap', w', h1, h2, h3, h4⟩ := app_vals Tryz.underlying25 infoHdr rfl (some ⟨w.heap.size, 0, none⟩) 1 1 (hV [(x, y)]) rfl (one_hV _) g n cap (hV l) (w.alloc (.cells #[.string x, .string y] 77)) (hB.alloc _) (RowAt.rd (RowAt.of_alloc _ _ _ _ rfl)) (fun h => by cases h) (by omega) (by omega) (by omega) ty
  rw [World.size_alloc] at h2
  exact ⟨g', cap', w', h1, by omega, by rw [hV_app2]; exact h3, h4⟩
theorem fzh {w : World} {g : Nat} {cs : Array Value} {t : TypeId} (h : w.heap[g]? = some (.cells cs t (0, 0))) (k : Nat) : w.frozen? ⟨g, k, none⟩ = false := by simp [World.frozen?, h]
set_option maxHeartbeats 6400000 in
theorem spec_l4DrawLine (G : Nat) (a : Option Addr) (n c K : Nat) (w : World) (hs : Src w G a n c K) (hK : K ≤ 900000) :
    Calls Tryz.prog 90 #[.pointer (some ⟨G, 0, none⟩)] w fun e w' => ∃ x y : ByteArray, e = .returned (.agg #[.string x, .string y]) ∧ (x.size ≤ 100 ∧ y.size ≤ 100) ∧ Src w' G a n c (K + 3) ∧ w.grownBy w' (some G) := by
  have hG := hs.lt
  have hne0 : w.heap.size ≠ G := by omega
  obtain ⟨hG1, hG2⟩ := gstart hG
  go_enter Tryz.func90, Tryz.ntmps90
  go_wp2_with (first
    | (go_at_call 26; ((with_reducible refine (spec_l1Next G a n c K _ (by omega) (by omega) _ (hs.alloc _) (by omega)).mono ?_); rintro e w1 ⟨r, rfl, ⟨hr0, hr1⟩, hs1, hg1⟩; have z1 := blk_g (blk_new w (.cells #[.string ⟨#[]⟩, .string ⟨#[]⟩] 77)) hg1 hne0; have l1 := hs1.lt; have fz := fzh z1; obtain ⟨j0, j1⟩ := cells2 z1))
    | (go_at_call 27; ((with_reducible refine (spec_l1Word (fun x => x.size ≤ 100) G a n c (K + 1 + 1) _ 10 _ _ rfl (by omega) (by omega) (strs_small _ _ (by kernel_rfl)) _ (hs2.alloc _) (by omega) (rd_at (by first | rfl | (simp; done))) (by first | omega | (simp; omega))).mono ?_); rintro e w3 ⟨y, rfl, hy, hs3, hg3⟩; have z3 := blk_g (blk_alloc z2 _) hg3 hne0; have fz := fzh z3; obtain ⟨j0, j1⟩ := cells2 z3)) | (go_at_call 27; ((with_reducible refine (spec_l1Word (fun x => x.size ≤ 100) G a n c (K + 1 + 1) _ 3 _ _ rfl (by omega) (by omega) (strs_small _ _ (by kernel_rfl)) _ (hs2.alloc _) (by omega) (rd_at (by first | rfl | (simp; done))) (by first | omega | (simp; omega))).mono ?_); rintro e w3 ⟨y, rfl, hy, hs3, hg3⟩; have z3 := blk_g (blk_alloc z2 _) hg3 hne0; have fz := fzh z3; obtain ⟨j0, j1⟩ := cells2 z3)) | (go_at_call 27; ((with_reducible refine (spec_l1Word (fun x => x.size ≤ 100) G a n c (K + 1 + 1) _ 4 _ _ rfl (by omega) (by omega) (strs_small _ _ (by kernel_rfl)) _ (hs2.alloc _) (by omega) (rd_at (by first | rfl | (simp; done))) (by first | omega | (simp; omega))).mono ?_); rintro e w3 ⟨y, rfl, hy, hs3, hg3⟩; have z3 := blk_g (blk_alloc z2 _) hg3 hne0; have fz := fzh z3; obtain ⟨j0, j1⟩ := cells2 z3))
    | (go_at_call 27; ((with_reducible refine (spec_l1Word (fun x => x.size ≤ 100) G a n c (K + 1) _ 2 _ _ rfl (by omega) (by omega) (strs_small _ _ (by kernel_rfl)) _ (hs1.alloc _) (by omega) (rd_at (by first | rfl | (simp; done))) (by first | omega | (simp; omega))).mono ?_); rintro e w2 ⟨x, rfl, hx, hs2, hg2⟩; have z2 := blk_g (blk_alloc z1 _) hg2 hne0; have l2 := hs2.lt; have fz := fzh z2; obtain ⟨j0, j1⟩ := cells2 z2)) | (go_at_call 27; ((with_reducible refine (spec_l1Word (fun x => x.size ≤ 100) G a n c (K + 1) _ 3 _ _ rfl (by omega) (by omega) (strs_small _ _ (by kernel_rfl)) _ (hs1.alloc _) (by omega) (rd_at (by first | rfl | (simp; done))) (by first | omega | (simp; omega))).mono ?_); rintro e w2 ⟨x, rfl, hx, hs2, hg2⟩; have z2 := blk_g (blk_alloc z1 _) hg2 hne0; have l2 := hs2.lt; have fz := fzh z2; obtain ⟨j0, j1⟩ := cells2 z2)) | (go_at_call 27; ((with_reducible refine (spec_l1Word (fun x => x.size ≤ 100) G a n c (K + 1) _ 4 _ _ rfl (by omega) (by omega) (strs_small _ _ (by kernel_rfl)) _ (hs1.alloc _) (by omega) (rd_at (by first | rfl | (simp; done))) (by first | omega | (simp; omega))).mono ?_); rintro e w2 ⟨x, rfl, hx, hs2, hg2⟩; have z2 := blk_g (blk_alloc z1 _) hg2 hne0; have l2 := hs2.lt; have fz := fzh z2; obtain ⟨j0, j1⟩ := cells2 z2)))
  all_goals first | exact bodyPost_ret (res_row Tryz.results90 _ _ rfl (blk_set (blk_set z3 0 _) 1 _) Tryz.underlying77 rfl _ (by kernel_rfl) rfl) rfl ⟨_, _, rfl, ⟨by first | omega | decide, by first | omega | decide⟩, Src.other (Src.other (Src.mono hs3 (by omega)) _ _ (by show G < w.heap.size; omega)) _ _ (by show G < w.heap.size; omega), by exact (by repeat' (first | (with_reducible assumption) | (with_reducible exact World.grownBy.refl _ _) | (with_reducible refine g_alloc ?_ _) | (with_reducible refine g_drew ?_) | (with_reducible refine g_drewN ?_ _) | (with_reducible refine g_set ?_ (by first | omega | (simp; done) | (simp; omega)) _) | refine g_then ?_ (by with_reducible assumption) | refine g_below ?_ (by with_reducible assumption)))⟩ | exact bodyPost_ret (res_row Tryz.results90 _ _ rfl (blk_set (blk_set z2 0 _) 1 _) Tryz.underlying77 rfl _ (by kernel_rfl) rfl) rfl ⟨_, _, rfl, ⟨by first | omega | decide, by first | omega | decide⟩, Src.other (Src.other (Src.mono hs2 (by omega)) _ _ (by show G < w.heap.size; omega)) _ _ (by show G < w.heap.size; omega), by exact (by repeat' (first | (with_reducible assumption) | (with_reducible exact World.grownBy.refl _ _) | (with_reducible refine g_alloc ?_ _) | (with_reducible refine g_drew ?_) | (with_reducible refine g_drewN ?_ _) | (with_reducible refine g_set ?_ (by first | omega | (simp; done) | (simp; omega)) _) | refine g_then ?_ (by with_reducible assumption) | refine g_below ?_ (by with_reducible assumption)))⟩
end Go.Proofs.YtbiodbggaeglpaaGreatDoor

/- Plain words: a text cut at the first of some bytes; the request that bytes tell. No program in sight. -/
namespace Go.Proofs.YtbiodbggaeglpaaGreatDoor
open Go.RowKit
set_option linter.unusedVariables false

theorem occ_iff (s sub : List UInt8) (i : Nat) : Lib.occAt s sub i = true ↔ (s.drop i).take sub.length = sub := by
  unfold Lib.occAt
  rw [List.isPrefixOf_iff_prefix, List.prefix_iff_eq_take]
  exact ⟨fun h => h.symm, fun h => h.symm⟩
theorem cut_first {s sep : List UInt8} {i : Nat} (hi : i ≤ s.length) (hc : (s.drop i).take sep.length = sep) (hn : ∀ j, j < i → (s.drop j).take sep.length ≠ sep) : Lib.cut s sep = (s.take i, s.drop (i + sep.length), true) := by
  have e : Lib.index s sep = i := Lib.index_first hi ((occ_iff _ _ _).2 hc) (fun j hj => by
    rw [Bool.eq_false_iff]
    exact fun q => hn j hj ((occ_iff _ _ _).1 q))
  unfold Lib.cut
  rw [e, if_pos (by omega)]
  simp
theorem cut_never {s sep : List UInt8} (hn : ∀ j, j + sep.length ≤ s.length → (s.drop j).take sep.length ≠ sep) : Lib.cut s sep = (s, [], false) := by
  have e : Lib.index s sep = -1 := Lib.index_none (fun j hj => by
    rw [Bool.eq_false_iff]
    intro q
    have h := (occ_iff _ _ _).1 q
    refine hn j ?_ h
    have h2 := congrArg List.length h
    rw [List.length_take, List.length_drop] at h2
    omega)
  unfold Lib.cut
  rw [e, if_neg (by omega)]
theorem take2 {s : List UInt8} {i : Nat} {a b : UInt8} : (s.drop i).take 2 = [a, b] ↔ ∃ h : i + 1 < s.length, s[i] = a ∧ s[i + 1] = b := by
  by_cases h : i + 1 < s.length
  · rw [List.drop_eq_getElem_cons (by omega : i < s.length), List.drop_eq_getElem_cons h]
    simp only [List.take_succ_cons, List.take_zero, List.cons.injEq, and_true]
    exact ⟨fun q => ⟨h, q⟩, fun ⟨_, q⟩ => q⟩
  · refine ⟨fun e => ?_, fun ⟨h', _⟩ => absurd h' h⟩
    have h2 := congrArg List.length e
    rw [List.length_take, List.length_drop] at h2
    simp only [List.length_cons, List.length_nil] at h2
    omega
abbrev crlf : List UInt8 := [13, 10]
/-- A first line, and what stands behind it up to the last 13 and 10. -/
def firstR (t : List UInt8) : Option (List UInt8 × List UInt8) :=
  if (Lib.cut t crlf).2.2 = true ∧ ((Lib.cut t crlf).2.1 = crlf ∨ (crlf ++ crlf) <:+ (Lib.cut t crlf).2.1) then some ((Lib.cut t crlf).1, (Lib.cut t crlf).2.1.take ((Lib.cut t crlf).2.1.length - 2)) else none
theorem firstR_at {t : List UInt8} {i : Nat} (hi : i + 1 < t.length) (h1 : t[i] = 13) (h2 : t[i + 1] = 10) (hn : ∀ j (hj : j + 1 < t.length), j < i → ¬ (t[j] = 13 ∧ t[j + 1] = 10)) :
    firstR t = if t.drop (i + 2) = crlf ∨ (crlf ++ crlf) <:+ t.drop (i + 2) then some (t.take i, (t.drop (i + 2)).take ((t.drop (i + 2)).length - 2)) else none := by
  have e : Lib.cut t crlf = (t.take i, t.drop (i + 2), true) := cut_first (by omega) (take2.2 ⟨hi, h1, h2⟩) (fun j hj q => by
    obtain ⟨hh, hc⟩ := take2.1 q
    exact hn j hh hj hc)
  unfold firstR
  rw [e]
  simp
theorem firstR_never {t : List UInt8} (hn : ∀ j (hj : j + 1 < t.length), ¬ (t[j] = 13 ∧ t[j + 1] = 10)) : firstR t = none := by
  have e : Lib.cut t crlf = (t, [], false) := cut_never (fun j hj q => by
    obtain ⟨hh, hc⟩ := take2.1 q
    exact hn j hh hc)
  unfold firstR
  rw [e]
  simp
theorem suffix4 {l : List UInt8} (k : List UInt8) (hk : k.length = 4) : k <:+ l ↔ 4 ≤ l.length ∧ l.drop (l.length - 4) = k := by
  constructor
  · rintro ⟨a, rfl⟩
    rw [List.length_append, hk]
    refine ⟨by omega, ?_⟩
    rw [show a.length + 4 - 4 = a.length from by omega, List.drop_left]
  · rintro ⟨h1, h2⟩
    exact ⟨l.take (l.length - 4), by rw [← h2, List.take_append_drop]⟩
abbrev HostName : ByteArray := ⟨#[72, 111, 115, 116]⟩
abbrev http11 : List UInt8 := [72, 84, 84, 80, 47, 49, 46, 49]
abbrev Rq := ByteArray × ByteArray × ByteArray × List Hd
def noRq : Rq := (⟨#[]⟩, ⟨#[]⟩, ⟨#[]⟩, [])
def rqOf (line : List UInt8) (l : List Hd) : Option Rq :=
  if (Lib.split line [32]).length = 3 ∧ (Lib.split line [32])[2]? = some http11 ∧ (vals hostName l).length = 1 then
    some (ba ((Lib.split line [32])[0]!), (vals hostName l)[0]!, ba ((Lib.split line [32])[1]!), dropL hostName l) else none
def rqEnd : Option Rq → Int × Rq
  | none => (5, noRq)
  | some q => if rqFault q.1 q.2.1 q.2.2.1 q.2.2.2 = 0 then (0, q) else (rqFault q.1 q.2.1 q.2.2.1 q.2.2.2, noRq)
def rqMid : Option (List UInt8 × List UInt8) → Int × Rq
  | none => (5, noRq)
  | some p => if (readR (ba p.2)).1 = 0 then rqEnd (rqOf p.1 (readR (ba p.2)).2) else ((readR (ba p.2)).1, noRq)
/-- What bytes tell: a code, and a request. -/
def reqR (t : List UInt8) : Int × Rq := if 8000 < t.length then (2, noRq) else rqMid (firstR t)
theorem drop_host (l : List Hd) : dropL HostName l = dropL hostName l := by
  unfold dropL
  congr 1
  funext h
  rw [alike_host]
theorem vals_Host (l : List Hd) : vals HostName l = vals hostName l := vals_host l
theorem filter_len {α : Type} (p : α → Bool) (l : List α) : (l.filter p).length + (l.filter fun x => !p x).length = l.length := by
  induction l with
  | nil => rfl
  | cons x l ih =>
    cases h : p x <;> simp [h] <;> omega
theorem drop_vals_len (nm : ByteArray) (l : List Hd) : (vals nm l).length + (dropL nm l).length = l.length := by
  unfold vals dropL
  rw [List.length_map]
  exact filter_len _ l
theorem join_one {l : List ByteArray} (h : l.length = 1) : joinB commaS l = l[0]! := by
  match l, h with
  | [x], _ => exact joinB_one commaS x
theorem rqEnd_fault_len (o : Option Rq) : (rqEnd o).2.2.2.2.length ≤ 20 := by
  cases o with
  | none => exact Nat.zero_le _
  | some q =>
    unfold rqEnd
    by_cases h : rqFault q.1 q.2.1 q.2.2.1 q.2.2.2 = 0
    · simp only [h, if_pos]
      have h2 : hdsFault q.2.2.2 = 0 := by
        unfold rqFault at h
        split at h
        · omega
        · split at h
          · rename_i a b; exact absurd h b
          · rename_i a b; exact Decidable.not_not.1 b
      exact (hdsFault_0 h2).1
    · simp only [h, if_false]; exact Nat.zero_le _
theorem reqR_20 (t : List UInt8) : (reqR t).2.2.2.2.length ≤ 20 := by
  unfold reqR
  split
  · exact Nat.zero_le _
  · unfold rqMid
    split
    · exact Nat.zero_le _
    · split
      · exact rqEnd_fault_len _
      · exact Nat.zero_le _
end Go.Proofs.YtbiodbggaeglpaaGreatDoor

/- Plain laws: head lines are read back from their text; what was set is found, what was dropped is not. No program in sight. -/
namespace Go.Proofs.YtbiodbggaeglpaaGreatDoor
open Go.RowKit
set_option linter.unusedVariables false

theorem word_bytes {s : ByteArray} (h : wordS s = true) : 1 ≤ s.size ∧ s.size ≤ 64 ∧ ∀ b ∈ s.data.toList, wordB (b.toNat : Int) = true := by
  unfold wordS at h
  simp only [Bool.and_eq_true, decide_eq_true_eq] at h
  exact ⟨h.1.1, h.1.2, List.all_eq_true.1 (show (s.data.toList.all fun b => wordB (b.toNat : Int)) = true from h.2)⟩
theorem word_not {b : UInt8} (h : wordB (b.toNat : Int) = true) {n : Nat} (hn : n < 256) (hw : wordB (n : Int) = false) : b ≠ UInt8.ofNat n := by
  intro e
  rw [e, UInt8.toNat_ofNat', Nat.mod_eq_of_lt hn, hw] at h
  cases h
theorem plain_not {b : UInt8} (h : plainB (b.toNat : Int) = true) {n : Nat} (hn : n < 256) (hw : plainB (n : Int) = false) : b ≠ UInt8.ofNat n := by
  intro e
  rw [e, UInt8.toNat_ofNat', Nat.mod_eq_of_lt hn, hw] at h
  cases h
theorem hdFault_parts {h : Hd} (e : hdFault h = 0) : wordS h.1 = true ∧ h.2.size ≤ 200 ∧ (∀ b ∈ h.2.data.toList, plainB (b.toNat : Int) = true) ∧ trimT h.2 = h.2 := by
  unfold hdFault at e
  by_cases h1 : wordS h.1 = false
  · rw [if_pos h1] at e; omega
  rw [if_neg h1] at e
  by_cases h2 : 200 < h.2.size
  · rw [if_pos h2] at e; omega
  rw [if_neg h2] at e
  by_cases h3 : allB plainB h.2 = false
  · rw [if_pos h3] at e; omega
  rw [if_neg h3] at e
  by_cases h4 : trimmed h.2 = false
  · rw [if_pos h4] at e; omega
  simp only [Bool.not_eq_false] at h1 h3 h4
  refine ⟨h1, by omega, List.all_eq_true.1 h3, ?_⟩
  have := beq_iff_eq.1 h4
  rw [ByteArray.toList_eq, ByteArray.toList_eq] at this
  exact ByteArray.ext (Array.toList_inj.1 this)
/-- A line that no byte 13 is in, ended. -/
theorem linesGo_one : ∀ (s cur r : List UInt8), (∀ b ∈ s, b ≠ 13) → linesGo cur (s ++ (13 :: 10 :: r)) = ((cur ++ s) :: (linesGo [] r).1, (linesGo [] r).2)
  | [], cur, r, _ => by
    rw [List.nil_append]
    conv => lhs; unfold linesGo
    rw [if_pos ⟨rfl, rfl⟩, List.append_nil]
  | [b], cur, r, h => by
    have hb := h b (by simp)
    have e : [b] ++ (13 :: 10 :: r) = b :: 13 :: 10 :: r := rfl
    rw [e]
    conv => lhs; unfold linesGo
    rw [if_neg (fun q => hb q.1)]
    conv => lhs; unfold linesGo
    rw [if_pos ⟨rfl, rfl⟩]
  | b :: c :: s, cur, r, h => by
    have hb := h b (by simp)
    have e : (b :: c :: s) ++ (13 :: 10 :: r) = b :: c :: (s ++ (13 :: 10 :: r)) := rfl
    rw [e]
    conv => lhs; unfold linesGo
    rw [if_neg (fun q => hb q.1)]
    have ih := linesGo_one (c :: s) (cur ++ [b]) r (fun x hx => h x (List.mem_cons_of_mem _ hx))
    rw [List.cons_append] at ih
    rw [ih]
    simp
def bareL (h : Hd) : List UInt8 := h.1.data.toList ++ ([58, 32] ++ h.2.data.toList)
theorem lineS_list (h : Hd) : (lineS h).data.toList = bareL h ++ [13, 10] := by
  unfold lineS bareL
  simp
theorem bare_13 {h : Hd} (e : hdFault h = 0) : ∀ b ∈ bareL h, b ≠ 13 := by
  obtain ⟨h1, _, h3, _⟩ := hdFault_parts e
  intro b hb
  unfold bareL at hb
  rcases List.mem_append.1 hb with hb | hb
  · exact word_not (n := 13) ((word_bytes h1).2.2 b hb) (by omega) (by decide)
  · rcases List.mem_append.1 hb with hb | hb
    · intro q; subst q; simp at hb
    · exact plain_not (n := 13) (h3 b hb) (by omega) (by decide)
theorem linesGo_pack : ∀ (l : List Hd) (r : List UInt8), (∀ h ∈ l, hdFault h = 0) → linesGo [] (packL l ++ r) = (l.map bareL ++ (linesGo [] r).1, (linesGo [] r).2)
  | [], r, _ => by simp [packL]
  | h :: l, r, hf => by
    have e : packL (h :: l) ++ r = bareL h ++ (13 :: 10 :: (packL l ++ r)) := by
      have : packL (h :: l) = (lineS h).data.toList ++ packL l := rfl
      rw [this, lineS_list]; simp
    rw [e, linesGo_one _ _ _ (bare_13 (hf h (by simp))), linesGo_pack l r (fun x hx => hf x (List.mem_cons_of_mem _ hx))]
    simp
theorem trim_lead (s : ByteArray) : trimT (ba (32 :: s.data.toList)) = trimT s := by
  unfold trimT trimL Lib.trimS Lib.trimLeftS Lib.trimRightS
  rw [ba_list]
  have key : ∀ m : List UInt8, ((m ++ [32]).dropWhile fun x => ([32, 9] : List UInt8).contains x).reverse.dropWhile (fun x => ([32, 9] : List UInt8).contains x) = ((m.dropWhile fun x => ([32, 9] : List UInt8).contains x).reverse.dropWhile fun x => ([32, 9] : List UInt8).contains x) := by
    intro m
    induction m with
    | nil => rfl
    | cons b m ih =>
      by_cases hb : ([32, 9] : List UInt8).contains b = true
      · rw [List.cons_append, List.dropWhile_cons_of_pos hb, List.dropWhile_cons_of_pos hb, ih]
      · rw [List.cons_append, List.dropWhile_cons_of_neg hb, List.dropWhile_cons_of_neg hb, ← List.cons_append, List.reverse_append]
        exact List.dropWhile_cons_of_pos (by decide)
  have e := key s.data.toList.reverse
  rw [List.reverse_cons, e]
theorem hdOf_bare {h : Hd} (e : hdFault h = 0) : hdOf (ba (bareL h)) = some h := by
  obtain ⟨h1, _, _, h4⟩ := hdFault_parts e
  have hsz : h.1.data.toList.length = h.1.size := Array.length_toList
  have hL : bareL h = h.1.data.toList ++ 58 :: (32 :: h.2.data.toList) := rfl
  have hc : Lib.cut (bareL h) [58] = (h.1.data.toList, 32 :: h.2.data.toList, true) := by
    rw [hL, cut_at (c := 58) (i := h.1.data.toList.length) (by simp) (by rw [List.getElem_append_right (Nat.le_refl _)]; simp) (fun j hj => by
      rw [List.getElem_append_left hj]
      exact word_not (n := 58) ((word_bytes h1).2.2 _ (List.getElem_mem hj)) (by omega) (by decide))]
    rw [List.take_left, ← List.drop_drop, List.drop_left]
    rfl
  unfold hdOf
  rw [ba_list, hc]
  simp only [if_pos]
  rw [ba_of, trim_lead, h4]
theorem mapM_of {α β : Type} {f : α → Option β} {g : β → α} : ∀ {l : List β}, (∀ x ∈ l, f (g x) = some x) → (l.map g).mapM f = some l
  | [], _ => rfl
  | x :: l, h => by
    rw [List.map_cons, List.mapM_cons, h x (by simp), mapM_of (fun y hy => h y (List.mem_cons_of_mem _ hy))]
    rfl
/-- Right head lines are read back from their text. -/
theorem read_pack {l : List Hd} (hf : hdsFault l = 0) : readR (packB l) = (0, l) := by
  obtain ⟨h1, h2⟩ := hdsFault_0 hf
  obtain ⟨h3, h4⟩ := hds_small hf
  have hz := packB_size l.length h1 h4
  rw [List.take_of_length_le (Nat.le_refl _)] at hz
  have hp := linesGo_pack l [] h2
  rw [List.append_nil] at hp
  have hl : (packB l).data.toList = packL l := by simp [packB]
  have e1 : linesE (packB l) = [] := by unfold linesE; rw [hl, hp]; simp [linesGo]
  have e2 : linesB (packB l) = l.map fun h => ba (bareL h) := by
    unfold linesB; rw [hl, hp]; simp [linesGo]
  rw [readR, if_neg (by omega), if_neg (fun q => q e1), e2, mapM_of (g := fun h => ba (bareL h)) (fun x hx => hdOf_bare (h2 x hx))]
  exact if_pos hf
theorem readR_ok {t : ByteArray} (h : (readR t).1 = 0) : hdsFault (readR t).2 = 0 := by
  unfold readR at h ⊢
  split at h
  · rename_i c; simp at h
  · rename_i c
    rw [if_neg c]
    split at h
    · simp at h
    · rename_i c2
      rw [if_neg c2]
      cases hm : (linesB t).mapM hdOf with
      | none => rw [hm] at h; simp at h
      | some l =>
        rw [hm] at h
        simp only at h ⊢
        by_cases c3 : hdsFault l = 0
        · rw [if_pos c3]; exact c3
        · rw [if_neg c3] at h; exact absurd h c3
theorem faultG_0 {α : Type} {f : α → Int} : ∀ {l : List α}, (faultG f l = 0 ↔ ∀ x ∈ l, f x = 0)
  | [] => by simp [faultG]
  | x :: l => by
    have ih := faultG_0 (f := f) (l := l)
    unfold faultG
    by_cases h : f x = 0
    · simp [h, ih]
    · simp [h]
theorem hdsFault_iff {l : List Hd} : hdsFault l = 0 ↔ l.length ≤ 20 ∧ ∀ h ∈ l, hdFault h = 0 := by
  unfold hdsFault
  by_cases h : 20 < l.length
  · rw [if_pos h]; constructor
    · intro q; cases q
    · intro q; omega
  · rw [if_neg h, faultG_0]
    exact ⟨fun q => ⟨by omega, q⟩, fun q => q.2⟩
theorem drop_fault {nm : ByteArray} {l : List Hd} (h : hdsFault l = 0) : hdsFault (dropL nm l) = 0 := by
  rw [hdsFault_iff] at h ⊢
  refine ⟨Nat.le_trans (List.length_filter_le _ _) h.1, fun x hx => h.2 x (List.mem_filter.1 hx).1⟩
theorem vals_drop (nm : ByteArray) (l : List Hd) : vals nm (dropL nm l) = [] := by
  unfold vals dropL
  rw [List.filter_filter]
  have : (l.filter fun h => alikeB h.1 nm && !alikeB h.1 nm) = [] := List.filter_eq_nil_iff.2 fun x _ => by simp
  rw [this]; rfl
theorem join_dropped {nm : ByteArray} {l : List Hd} (h : (dropR nm l).1 = 0) : joinR nm (dropR nm l).2 = (4, ⟨#[]⟩) := by
  by_cases ha : askF nm l = 0
  · have e : dropR nm l = (0, dropL nm l) := if_pos ha
    obtain ⟨h1, h2⟩ := askF_0 ha
    have h3 : askF nm (dropL nm l) = 0 := by rw [askF, if_pos (drop_fault h1), if_pos h2]
    rw [e]
    simp only
    rw [joinR, if_pos h3, vals_drop]; rfl
  · have e : dropR nm l = (askF nm l, []) := if_neg ha
    rw [e] at h
    exact absurd h ha
theorem alike_self (nm : ByteArray) : alikeB nm nm = true := by simp [alikeB]
theorem putG_filter {α : Type} {p : α → Bool} {x : α} (hx : p x = true) : ∀ l : List α, (putG p x l).filter (fun h => !p h) = l.filter fun h => !p h
  | [] => rfl
  | h :: t => by
    unfold putG
    by_cases hh : p h = true
    · rw [if_pos hh]
      simp [hx, hh]
    · rw [if_neg hh]
      simp [hh, putG_filter hx t]
theorem putG_hit {α : Type} {p : α → Bool} {x : α} (hx : p x = true) : ∀ l : List α, l.any p = true → (putG p x l).filter p = [x]
  | [], h => by simp at h
  | h :: t, ha => by
    unfold putG
    by_cases hh : p h = true
    · rw [if_pos hh]
      have : ((t.filter fun h => !p h).filter p) = [] := by
        rw [List.filter_filter]
        exact List.filter_eq_nil_iff.2 fun x _ => by simp
      simp [hx, this]
    · rw [if_neg hh]
      have ha' : t.any p = true := by simpa [hh] using ha
      simp [hh, putG_hit hx t ha']
theorem putG_mem {α : Type} {p : α → Bool} {x y : α} : ∀ {l : List α}, y ∈ putG p x l → y = x ∨ y ∈ l
  | [], h => by simp [putG] at h
  | h :: t, hy => by
    unfold putG at hy
    split at hy
    · rcases List.mem_cons.1 hy with rfl | hy
      · exact .inl rfl
      · exact .inr (List.mem_cons_of_mem _ (List.mem_filter.1 hy).1)
    · rcases List.mem_cons.1 hy with rfl | hy
      · exact .inr (List.mem_cons_self ..)
      · rcases putG_mem hy with h | h
        · exact .inl h
        · exact .inr (List.mem_cons_of_mem _ h)
theorem set_drop (nm vl : ByteArray) (l : List Hd) : dropL nm (setL nm vl l) = dropL nm l := by
  unfold setL dropL
  split
  · exact putG_filter (p := fun h : Hd => alikeB h.1 nm) (alike_self nm) l
  · rw [List.filter_append]
    simp [alike_self]
theorem set_vals (nm vl : ByteArray) (l : List Hd) : vals nm (setL nm vl l) = [vl] := by
  unfold setL vals
  split
  · rename_i h
    rw [putG_hit (p := fun h : Hd => alikeB h.1 nm) (alike_self nm) l h]; rfl
  · rename_i h
    have hn : (l.filter fun h => alikeB h.1 nm) = [] := List.filter_eq_nil_iff.2 fun x hx q => h (List.any_eq_true.2 ⟨x, hx, q⟩)
    rw [List.filter_append, hn]
    simp [alike_self]
theorem set_mem {nm vl : ByteArray} {l : List Hd} {y : Hd} (h : y ∈ setL nm vl l) : y = (nm, vl) ∨ y ∈ l := by
  unfold setL at h
  split at h
  · exact putG_mem h
  · rcases List.mem_append.1 h with h | h
    · exact .inr h
    · simp at h; exact .inl h
/-- What was set is found, and dropping it leaves what dropping would have left. -/
theorem set_found {nm vl : ByteArray} {l : List Hd} (h : (setR nm vl l).1 = 0) : (setR nm vl l).2 = setL nm vl l ∧ askF nm l = 0 ∧ joinR nm (setR nm vl l).2 = (0, vl) ∧ dropR nm (setR nm vl l).2 = dropR nm l := by
  unfold setR at h ⊢
  by_cases ha : askF nm l = 0
  · rw [if_pos ha] at h ⊢
    by_cases hf : hdFault (nm, vl) = 0
    · rw [if_pos hf] at h ⊢
      by_cases hn : 20 < (setL nm vl l).length
      · rw [if_pos hn] at h; simp at h
      · rw [if_neg hn]
        obtain ⟨h1, h2⟩ := askF_0 ha
        have h3 : hdsFault (setL nm vl l) = 0 := by
          rw [hdsFault_iff] at h1 ⊢
          refine ⟨by omega, fun x hx => ?_⟩
          rcases set_mem hx with rfl | hx
          · exact hf
          · exact h1.2 x hx
        have h4 : askF nm (setL nm vl l) = 0 := by rw [askF, if_pos h3, if_pos h2]
        refine ⟨rfl, ha, ?_, ?_⟩
        · simp only
          rw [joinR, if_pos h4, set_vals]
          simp only [List.isEmpty_cons, Bool.false_eq_true, if_false]
          rw [joinB_one]
        · simp only
          rw [dropR, if_pos h4, set_drop, dropR, if_pos ha]
    · rw [if_neg hf] at h; exact absurd h hf
  · rw [if_neg ha] at h; exact absurd h ha
end Go.Proofs.YtbiodbggaeglpaaGreatDoor

/- Plain words: texts in the order of their bytes; the key of a request. No program in sight. -/
namespace Go.Proofs.YtbiodbggaeglpaaGreatDoor
open Go.RowKit
set_option linter.unusedVariables false

/-- Put in behind all that are not greater. -/
def insG {α : Type} (le : α → α → Bool) (x : α) : List α → List α
  | [] => [x]
  | y :: t => if le y x = true then y :: insG le x t else x :: y :: t
def sortG {α : Type} (le : α → α → Bool) (l : List α) : List α := l.foldl (fun acc x => insG le x acc) []
theorem sortG_snoc {α : Type} (le : α → α → Bool) (l : List α) (x : α) : sortG le (l ++ [x]) = insG le x (sortG le l) := by simp [sortG]
theorem insG_perm {α : Type} (le : α → α → Bool) (x : α) : ∀ l : List α, (insG le x l).Perm (x :: l)
  | [] => .refl _
  | y :: t => by
    unfold insG
    split
    · exact ((insG_perm le x t).cons y).trans (List.Perm.swap x y t)
    · exact .refl _
theorem insG_len {α : Type} (le : α → α → Bool) (x : α) (l : List α) : (insG le x l).length = l.length + 1 := by
  rw [(insG_perm le x l).length_eq, List.length_cons]
theorem insG_mem {α : Type} {le : α → α → Bool} {x z : α} {l : List α} (h : z ∈ insG le x l) : z = x ∨ z ∈ l := by
  have := (insG_perm le x l).mem_iff.1 h
  simpa using this
theorem insG_sorted {α : Type} {le : α → α → Bool} (htot : ∀ a b, le a b = true ∨ le b a = true) (htr : ∀ a b c, le a b = true → le b c = true → le a c = true) (x : α) : ∀ {l : List α}, l.Pairwise (fun a b => le a b = true) → (insG le x l).Pairwise (fun a b => le a b = true)
  | [], _ => by simp [insG]
  | y :: t, h => by
    rw [List.pairwise_cons] at h
    unfold insG
    split
    · rename_i hy
      rw [List.pairwise_cons]
      refine ⟨fun z hz => ?_, insG_sorted htot htr x h.2⟩
      rcases insG_mem hz with rfl | hz
      · exact hy
      · exact h.1 z hz
    · rename_i hy
      have hxy : le x y = true := (htot y x).resolve_left hy
      rw [List.pairwise_cons, List.pairwise_cons]
      refine ⟨fun z hz => ?_, h⟩
      rcases List.mem_cons.1 hz with rfl | hz
      · exact hxy
      · exact htr _ _ _ hxy (h.1 z hz)
theorem sortG_both {α : Type} {le : α → α → Bool} (htot : ∀ a b, le a b = true ∨ le b a = true) (htr : ∀ a b c, le a b = true → le b c = true → le a c = true) (l : List α) : ∀ acc : List α, acc.Pairwise (fun a b => le a b = true) → (l.foldl (fun acc x => insG le x acc) acc).Pairwise (fun a b => le a b = true) ∧ (l.foldl (fun acc x => insG le x acc) acc).Perm (l ++ acc) := by
  induction l with
  | nil => intro acc h; exact ⟨h, .refl _⟩
  | cons x l ih =>
    intro acc h
    obtain ⟨h1, h2⟩ := ih _ (insG_sorted htot htr x h)
    refine ⟨h1, h2.trans ?_⟩
    refine ((insG_perm le x acc).append_left l).trans ?_
    simp
theorem perm_sorted_eq {α : Type} {le : α → α → Bool} (hanti : ∀ a b, le a b = true → le b a = true → a = b) : ∀ {l m : List α}, l.Perm m → l.Pairwise (fun a b => le a b = true) → m.Pairwise (fun a b => le a b = true) → l = m
  | [], m, h, _, _ => by rw [List.nil_perm.1 h]
  | x :: l, [], h, _, _ => by have := h.length_eq; simp at this
  | x :: l, y :: m, h, h1, h2 => by
    rw [List.pairwise_cons] at h1 h2
    have hxy : x = y := by
      have a1 : x ∈ y :: m := h.mem_iff.1 (List.mem_cons_self ..)
      have a2 : y ∈ x :: l := h.mem_iff.2 (List.mem_cons_self ..)
      rcases List.mem_cons.1 a1 with e | a1
      · exact e
      · rcases List.mem_cons.1 a2 with e | a2
        · exact e.symm
        · exact hanti _ _ (h1.1 y a2) (h2.1 x a1)
    subst hxy
    rw [perm_sorted_eq hanti ((List.perm_cons x).1 h) h1.2 h2.2]
abbrev Tx := List UInt8
def leT (x y : Tx) : Bool := decide (x ≤ y)
theorem leT_tot (a b : Tx) : leT a b = true ∨ leT b a = true := by
  simp only [leT, decide_eq_true_eq]; exact List.le_total a b
theorem leT_tr (a b c : Tx) : leT a b = true → leT b c = true → leT a c = true := by
  simp only [leT, decide_eq_true_eq]; exact fun h1 h2 => List.le_trans h1 h2
theorem leT_anti (a b : Tx) : leT a b = true → leT b a = true → a = b := by
  simp only [leT, decide_eq_true_eq]; exact fun h1 h2 => List.le_antisymm h1 h2
theorem sort_merge (l : List Tx) : l.mergeSort (fun x y => decide (x ≤ y)) = sortG leT l := by
  obtain ⟨h1, h2⟩ := sortG_both leT_tot leT_tr l [] List.Pairwise.nil
  rw [List.append_nil] at h2
  refine perm_sorted_eq leT_anti ((List.mergeSort_perm l _).trans h2.symm) ?_ h1
  have := List.pairwise_mergeSort (le := fun x y : Tx => decide (x ≤ y)) (fun a b c => leT_tr a b c) (fun a b => by
    have := leT_tot a b
    simp only [leT] at this
    simpa [Bool.or_eq_true] using this) l
  exact this
/-- As the reader of places has it. -/
theorem insG_at {α : Type} {le : α → α → Bool} {x : α} : ∀ {l : List α} {k : Nat}, k ≤ l.length → (∀ j (hj : j < l.length), j < k → le l[j] x = true) → (∀ h : k < l.length, le l[k] x = false) → insG le x l = l.take k ++ x :: l.drop k
  | [], k, hk, _, _ => by
    obtain rfl : k = 0 := by simpa using hk
    rfl
  | y :: t, 0, _, _, hn => by
    have := hn (by simp)
    simp only [List.getElem_cons_zero] at this
    simp [insG, this]
  | y :: t, k + 1, hk, ha, hn => by
    have h0 := ha 0 (by simp) (by omega)
    simp only [List.getElem_cons_zero] at h0
    rw [insG, if_pos h0, insG_at (l := t) (k := k) (by simpa using hk) (fun j hj hjk => by
      have := ha (j + 1) (by simpa using hj) (by omega)
      simpa using this) (fun h => by
      have := hn (by simpa using h)
      simpa using this)]
    simp
theorem sortT_perm (l : List Tx) : (sortG leT l).Perm l := by
  have := (sortG_both leT_tot leT_tr l [] List.Pairwise.nil).2
  rw [List.append_nil] at this
  exact this
theorem sortT_sorted (l : List Tx) : (sortG leT l).Pairwise (fun a b => leT a b = true) := (sortG_both leT_tot leT_tr l [] List.Pairwise.nil).1
theorem sortT_len (l : List Tx) : (sortG leT l).length = l.length := (sortT_perm l).length_eq
theorem sortT_twice (l : List Tx) : sortG leT (sortG leT l) = sortG leT l := perm_sorted_eq leT_anti (sortT_perm _) (sortT_sorted _) (sortT_sorted _)
def piecesOf (q : Tx) : List Tx := (Lib.split q [38]).filter fun p => !p.isEmpty
def sortedOf (q : Tx) : List ByteArray := (sortG leT (piecesOf q)).map ba
abbrev ampS : ByteArray := ⟨#[38]⟩
def queryT (l : List ByteArray) : ByteArray := if l = [] then ⟨#[]⟩ else ⟨#[63]⟩ ++ joinB ampS l
/-- The key of a host and a path. -/
def keyT (host path : ByteArray) : ByteArray := lowS host ++ ba (Lib.cut path.data.toList [63]).1 ++ queryT (sortedOf (Lib.cut path.data.toList [63]).2.1)
def keyR (m h p : ByteArray) (l : List Hd) : Int × ByteArray := if rqFault m h p l = 0 then (0, keyT h p) else (rqFault m h p l, ⟨#[]⟩)
def namedT (l : List Hd) (nm : ByteArray) : ByteArray := ⟨#[32]⟩ ++ lowS nm ++ ⟨#[61]⟩ ++ joinB commaS (vals nm l)
def fullTo (h p : ByteArray) (l : List Hd) : List ByteArray → ByteArray
  | ns => ⟨((keyT h p).data.toList ++ (ns.flatMap fun nm => (namedT l nm).data.toList)).toArray⟩
def namesF (ns : List ByteArray) : Int := if 4 < ns.length then 2 else if ns.all wordS = true then 0 else 5
def fullR (m h p : ByteArray) (l : List Hd) (ns : List ByteArray) : Int × ByteArray :=
  if rqFault m h p l = 0 then (if namesF ns = 0 then (0, fullTo h p l ns) else (namesF ns, ⟨#[]⟩)) else (rqFault m h p l, ⟨#[]⟩)
end Go.Proofs.YtbiodbggaeglpaaGreatDoor

/- Plain words: the response that bytes tell. No program in sight. -/
namespace Go.Proofs.YtbiodbggaeglpaaGreatDoor
open Go.RowKit
set_option linter.unusedVariables false

theorem least {p : Nat → Prop} (hp : ∀ i, p i ∨ ¬ p i) : ∀ {n : Nat}, p n → ∃ i, i ≤ n ∧ p i ∧ ∀ j, j < i → ¬ p j := by
  intro n
  induction n using Nat.strongRecOn with
  | ind n ih =>
    intro h
    by_cases hx : ∃ j, j < n ∧ p j
    · obtain ⟨j, hj, hpj⟩ := hx
      obtain ⟨i, h1, h2, h3⟩ := ih j hj hpj
      exact ⟨i, by omega, h2, h3⟩
    · exact ⟨n, Nat.le_refl _, h, fun j hj q => hx ⟨j, hj, q⟩⟩
theorem firstR_head (head : List UInt8) : (Lib.cut (head ++ crlf) crlf).2.2 = true ∧ firstR (head ++ crlf ++ crlf) = some ((Lib.cut (head ++ crlf) crlf).1, (Lib.cut (head ++ crlf) crlf).2.1) := by
  have hlen : (head ++ crlf).length = head.length + 2 := by simp
  have hend : ((head ++ crlf).drop head.length).take 2 = crlf := by simp
  obtain ⟨i, h1, h2, h3⟩ := least (p := fun i => ((head ++ crlf).drop i).take 2 = crlf) (fun i => Decidable.em _) hend
  have e1 : Lib.cut (head ++ crlf) crlf = ((head ++ crlf).take i, (head ++ crlf).drop (i + 2), true) := cut_first (by omega) h2 (fun j hj => h3 j hj)
  have same : ∀ j, j ≤ head.length → ((head ++ crlf ++ crlf).drop j).take 2 = ((head ++ crlf).drop j).take 2 := fun j hj => by
    rw [List.drop_append_of_le_length (by omega), List.take_append_of_le_length (by rw [List.length_drop]; omega)]
  have e2 : Lib.cut (head ++ crlf ++ crlf) crlf = ((head ++ crlf ++ crlf).take i, (head ++ crlf ++ crlf).drop (i + 2), true) := cut_first (by simp; omega) (by rw [show crlf.length = 2 from rfl, same i h1]; exact h2) (fun j hj => by
    rw [show crlf.length = 2 from rfl, same j (by omega)]; exact h3 j hj)
  have e3 : (head ++ crlf ++ crlf).take i = (head ++ crlf).take i := List.take_append_of_le_length (by omega)
  have e4 : (head ++ crlf ++ crlf).drop (i + 2) = (head ++ crlf).drop (i + 2) ++ crlf := List.drop_append_of_le_length (by omega)
  have hc : (head ++ crlf).drop (i + 2) ++ crlf = crlf ∨ (crlf ++ crlf) <:+ (head ++ crlf).drop (i + 2) ++ crlf := by
    by_cases hi : i = head.length
    · left
      rw [List.drop_of_length_le (by omega)]; rfl
    · right
      obtain ⟨hlt, g1, g2⟩ := take2.1 h2
      have hne : i + 1 ≠ head.length := by
        intro q
        rw [List.getElem_append_right (by omega)] at g2
        simp only [q, Nat.sub_self, List.getElem_cons_zero] at g2
        exact absurd g2 (by decide)
      rw [List.drop_append_of_le_length (by omega), List.append_assoc]
      exact List.suffix_append _ _
  refine ⟨by rw [e1], ?_⟩
  unfold firstR
  rw [e2, e1]
  simp only [true_and]
  rw [e4, if_pos hc, e3]
  simp
abbrev http11b : List UInt8 := [72, 84, 84, 80, 47, 49, 46, 49, 32]
abbrev Rs := Int × List Hd × List UInt8
def noRs : Rs := (0, [], [])
def rsEnd (q : Rs) : Int × Rs := if rspFault q.1 q.2.1 q.2.2.length = 0 then (0, q) else (rspFault q.1 q.2.1 q.2.2.length, noRs)
def lineOK (line : List UInt8) : Bool := decide (line.length = 12) && decide (line.take 9 = http11b) && deltaOk (ba (line.drop 9))
def rsMid (line rest body : List UInt8) : Int × Rs :=
  if (readR (ba rest)).1 = 0 then (if lineOK line = true then rsEnd (deltaTo (ba (line.drop 9)) 3, (readR (ba rest)).2, body) else (5, noRs)) else ((readR (ba rest)).1, noRs)
/-- What bytes tell: a code, and a response. -/
def rspR (t : List UInt8) : Int × Rs := if 10000 < t.length then (2, noRs) else
  if (Lib.cut t (crlf ++ crlf)).2.2 = true then rsMid (Lib.cut ((Lib.cut t (crlf ++ crlf)).1 ++ crlf) crlf).1 (Lib.cut ((Lib.cut t (crlf ++ crlf)).1 ++ crlf) crlf).2.1 (Lib.cut t (crlf ++ crlf)).2.1 else (5, noRs)
theorem rsEnd_bd (q : Rs) : (rsEnd q).2.2.1.length ≤ 20 ∧ (rsEnd q).2.2.2.length ≤ 2000 := by
  unfold rsEnd
  by_cases h : rspFault q.1 q.2.1 q.2.2.length = 0
  · rw [if_pos h]
    unfold rspFault at h
    split at h
    · omega
    · split at h
      · rename_i a b; exact absurd h b
      · rename_i a b
        split at h
        · omega
        · exact ⟨(hdsFault_0 (Decidable.not_not.1 b)).1, by show q.2.2.length ≤ 2000; omega⟩
  · rw [if_neg h]; exact ⟨Nat.zero_le _, Nat.zero_le _⟩
theorem rspR_bd (t : List UInt8) : (rspR t).2.2.1.length ≤ 20 ∧ (rspR t).2.2.2.length ≤ 2000 := by
  unfold rspR
  split
  · exact ⟨Nat.zero_le _, Nat.zero_le _⟩
  · split
    · unfold rsMid
      split
      · split
        · exact rsEnd_bd _
        · exact ⟨Nat.zero_le _, Nat.zero_le _⟩
      · exact ⟨Nat.zero_le _, Nat.zero_le _⟩
    · exact ⟨Nat.zero_le _, Nat.zero_le _⟩
end Go.Proofs.YtbiodbggaeglpaaGreatDoor

/- The response that bytes tell: what is answered. -/
namespace Go.Proofs.YtbiodbggaeglpaaGreatDoor
open Go.RowKit
set_option linter.unusedSimpArgs false
set_option linter.unusedVariables false

theorem rspR_many {t : List UInt8} (h : 10000 < t.length) : rspR t = (2, noRs) := if_pos h
theorem rspR_none {t : List UInt8} (h : ¬ 10000 < t.length) (hc : (Lib.cut t (crlf ++ crlf)).2.2 = false) : rspR t = (5, noRs) := by
  rw [rspR, if_neg h, if_neg (by rw [hc]; decide)]
theorem rspR_some {t head body : List UInt8} (h : ¬ 10000 < t.length) (hc : Lib.cut t (crlf ++ crlf) = (head, body, true)) : rspR t = rsMid (Lib.cut (head ++ crlf) crlf).1 (Lib.cut (head ++ crlf) crlf).2.1 body := by
  rw [rspR, if_neg h, hc, if_pos rfl]
def RpR (w : World) (r : Int × Rs) (e : Ending) (w' : World) : Prop := ∃ (a' : Option Addr) (n' c' : Nat) (ab : Option Addr) (nb cb mid : Nat), e = .returned (.agg #[.int .i64 r.1, .int .i64 r.2.1, .slice a' n' c', .slice ab nb cb]) ∧ (r.2.2.1.length = n' ∧ r.2.2.2.length = nb) ∧ (w.heap.size ≤ mid ∧ mid ≤ w'.heap.size) ∧ SlAt w' w.heap.size mid a' n' (hV r.2.2.1) ∧ SlAt w' mid w'.heap.size ab nb (bV r.2.2.2) ∧ Below w.heap.size w w'
theorem RpR.none {w w' : World} {r : Int × Rs} {k : Int} (hr : r = (k, noRs)) (hb : Below w.heap.size w w') : RpR w r (.returned (.agg #[.int .i64 k, .int .i64 0, .slice none 0 0, .slice none 0 0])) w' := by
  subst hr
  exact ⟨Option.none, 0, 0, Option.none, 0, 0, w.heap.size, rfl, ⟨rfl, rfl⟩, ⟨Nat.le_refl _, hb.size⟩, .inl ⟨rfl, rfl⟩, .inl ⟨rfl, rfl⟩, hb⟩
theorem fzr {w : World} {g : Nat} {cs : Array Value} {t : TypeId} (h : w.heap[g]? = some (.cells cs t (0, 0))) : ∀ k, w.frozen? ⟨g, k, none⟩ = false := fun k => by simp [World.frozen?, h]
theorem cut_len (s p : List UInt8) : (Lib.cut s p).1.length ≤ s.length ∧ (Lib.cut s p).2.1.length ≤ s.length := by
  unfold Lib.cut
  split
  · exact ⟨by rw [List.length_take]; exact Nat.min_le_right _ _, by rw [List.length_drop]; exact Nat.sub_le _ _⟩
  · exact ⟨Nat.le_refl _, Nat.zero_le _⟩
theorem row_store3 {w : World} {g G : Nat} {l : List UInt8} {x : Int} {y z : Value} {t : TypeId} (h : RowAt w g (bV l)) (hG : w.heap[G]? = some (.cells #[.int .i64 x, y, z] t (0, 0))) (u v s : Value) :
    RowAt (((w.setCell ⟨G, 0, none⟩ u).setCell ⟨G, 1, none⟩ v).setCell ⟨G, 2, none⟩ s) g (bV l) := by
  by_cases e : g = G
  · subst e
    have hl : l = [] := by
      obtain ⟨cur, e, lo, hi, hc, ht, _⟩ := h
      rw [hG] at hc
      cases hc
      cases l with
      | nil => rfl
      | cons b l => simp [bV, byteV] at ht
    subst hl
    exact ⟨_, _, _, _, blk_set (blk_set (blk_set hG 0 _) 1 _) 2 _, by simp [bV], by intro i hi; simp [bV] at hi⟩
  · exact ((h.other _ _ e).other _ _ e).other _ _ e
/-- What the operations of the region that lays the response yield. -/
def rrF (vs : List Value) (ks kb ka : Nat) (st : Int) (hs : Value) (nb : Nat) (body : List UInt8) (lo : Nat) (k : Nat) (v : Value) (w : World) : Prop :=
  if k = ks then ∃ g cap, v = .slice (some ⟨g, 0, none⟩) nb cap ∧ lo ≤ g ∧ RowAt w g (bV body)
  else if k = kb then ∃ g cap, v = .agg #[.int .i64 st, hs, .slice (some ⟨g, 0, none⟩) nb cap] ∧ lo ≤ g ∧ RowAt w g (bV body)
  else if k = ka then ∃ G, v = .pointer (some ⟨G, 0, none⟩) ∧ lo ≤ G ∧ w.heap[G]? = some (.cells #[.int .i64 0, .slice none 0 0, .slice none 0 0] 32 (0, 0))
  else vs[k]? = some v
theorem rrF_keep {vs : List Value} {ks kb ka : Nat} {st : Int} {hs : Value} {nb : Nat} {body : List UInt8} {lo : Nat} (k : Nat) (v : Value) (w w' : World) (h : rrF vs ks kb ka st hs nb body lo k v w) (hb : Below w.heap.size w w') : rrF vs ks kb ka st hs nb body lo k v w' := by
  unfold rrF at h ⊢
  split at h
  · rename_i q; rw [if_pos q]
    obtain ⟨g, cap, e, h1, h2⟩ := h
    exact ⟨g, cap, e, h1, h2.then hb⟩
  · rename_i q; rw [if_neg q]
    split at h
    · rename_i q; rw [if_pos q]
      obtain ⟨g, cap, e, h1, h2⟩ := h
      exact ⟨g, cap, e, h1, h2.then hb⟩
    · rename_i q; rw [if_neg q]
      split at h
      · rename_i q; rw [if_pos q]
        obtain ⟨G, e, h1, h2⟩ := h
        exact ⟨G, e, h1, blk_then h2 hb⟩
      · rename_i q; rw [if_neg q]; exact h
theorem lineOK_pre (line : List UInt8) : lineOK line = (Lib.hasPrefix line http11b && (inB (ba (Lib.trimPrefix line http11b)).size 3 3 && allB digitB (ba (Lib.trimPrefix line http11b)))) := by
  by_cases hp : Lib.hasPrefix line http11b = true
  · have h9 : http11b <+: line := List.isPrefixOf_iff_prefix.1 hp
    obtain ⟨r, rfl⟩ := h9
    have ht : Lib.trimPrefix (http11b ++ r) http11b = r := by unfold Lib.trimPrefix; rw [if_pos hp]; exact List.drop_left
    rw [hp, ht, Bool.true_and]
    unfold lineOK
    have e1 : (http11b ++ r).take 9 = http11b := List.take_left' rfl
    have e2 : (http11b ++ r).drop 9 = r := List.drop_left' rfl
    rw [e1, e2]
    unfold deltaOk inB
    rw [ba_size]
    by_cases h3 : r.length = 3
    · simp [h3, http11b]
    · have : ¬ (9 + r.length = 12) := by omega
      have h4 : ¬ ((3 : Int) ≤ (r.length : Int) ∧ (r.length : Int) ≤ 3) := by omega
      simp only [List.length_append, List.length_cons, List.length_nil]
      rw [decide_eq_false (show ¬ (0 + 1 + 1 + 1 + 1 + 1 + 1 + 1 + 1 + 1 + r.length = 12) by omega)]
      by_cases h5 : (3 : Int) ≤ (r.length : Int)
      · rw [decide_eq_false (show ¬ ((r.length : Int) ≤ 3) by omega)]; simp
      · rw [decide_eq_false h5]; simp
  · simp only [Bool.not_eq_true] at hp
    rw [hp, Bool.false_and]
    unfold lineOK
    rw [Bool.eq_false_iff]
    intro q
    simp only [Bool.and_eq_true, decide_eq_true_eq] at q
    have : http11b <+: line := ⟨line.drop 9, by rw [← q.1.2]; exact List.take_append_drop 9 line⟩
    have := List.isPrefixOf_iff_prefix.2 this
    unfold Lib.hasPrefix at hp
    rw [this] at hp
    cases hp
end Go.Proofs.YtbiodbggaeglpaaGreatDoor
