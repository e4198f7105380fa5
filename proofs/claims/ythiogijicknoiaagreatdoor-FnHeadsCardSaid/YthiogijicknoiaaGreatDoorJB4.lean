/- Joined: Mark, MarkB, OpenB, Req, Rsp, Vals. -/
import Derived.Test.YthiogijicknoiaaGreatDoorJB0
import Derived.Test.YthiogijicknoiaaGreatDoorJB2
import Derived.Test.YthiogijicknoiaaGreatDoorJB1
import Derived.Deep.DeepCutAuto
import Derived.Deep.RegionHeld3
import Derived.Test.YthiogijicknoiaaGreatDoorJB3
import Derived.Test.YthiogijicknoiaaGreatDoorShelf
/- Marks: what is written into rows, and read again. -/
namespace Go.Proofs.YthiogijicknoiaaGreatDoor
open Go.RowKit
set_option linter.unusedSimpArgs false
set_option linter.unusedVariables false

def markS (k : Nat) : ByteArray := if k = 0 then ⟨#[109, 48]⟩ else ⟨#[109]⟩ ++ decS (k : Int)
theorem mark_step {j k0 : Nat} {s : ByteArray} (h : decS (j : Int) ++ s = decS (k0 : Int)) (hj : ¬ j < 10) : decS ((j / 10 : Nat) : Int) ++ (⟨#[48 + UInt8.ofNat (j % 10)]⟩ ++ s) = decS (k0 : Int) := by
  have e8 : (48 : UInt8) + UInt8.ofNat (j % 10) = UInt8.ofNat (48 + j % 10) := by rw [UInt8.ofNat_add]; rfl
  rw [e8, ← h, decS_big hj]
  apply ByteArray.ext
  simp
theorem mark_last {j k0 : Nat} {s : ByteArray} (h : decS (j : Int) ++ s = decS (k0 : Int)) (hj : j < 10) : ⟨#[48 + UInt8.ofNat (j % 10)]⟩ ++ s = decS (k0 : Int) := by
  have e8 : (48 : UInt8) + UInt8.ofNat (j % 10) = UInt8.ofNat (48 + j % 10) := by rw [UInt8.ofNat_add]; rfl
  rw [e8, ← h, decS_small hj, Nat.mod_eq_of_lt hj]
theorem mark_size {j k0 : Nat} {s : ByteArray} (h : decS (j : Int) ++ s = decS (k0 : Int)) (hk : k0 ≤ 1000000000) : s.size ≤ 21 := by
  have h1 := decS_len (k0 : Int) (by omega) (by omega)
  rw [← h, ByteArray.size_append] at h1
  omega
def marksH (k n : Nat) : List Hd := (List.range n).map fun i => (markS (k + 2 * i), markS (k + 2 * i + 1))
theorem marksH_len (k n : Nat) : (marksH k n).length = n := by simp [marksH]
theorem marksH_succ (k n : Nat) : marksH k (n + 1) = marksH k n ++ [(markS (k + 2 * n), markS (k + 2 * n + 1))] := by simp [marksH, List.range_succ]
theorem marksH_at (k n i : Nat) (h : i < (marksH k n).length) : (marksH k n)[i] = (markS (k + 2 * i), markS (k + 2 * i + 1)) := by simp [marksH]
theorem hV_snoc (l : List Hd) (x y : ByteArray) : hV l ++ [.string x, .string y] = hV (l ++ [(x, y)]) := by simp [hV, cellsOf, hEnc]
theorem put_cell {w : World} {g p : Nat} {A D : List Value} (h : RowAt w g (A ++ D)) (hA : A.length = p) (hD : 1 ≤ D.length) : (∃ v, w.cell? ⟨g, p, none⟩ = some v) ∧ w.frozen? ⟨g, p, none⟩ = false :=
  ⟨⟨_, h.cell p ((A ++ D)[p]'(by rw [List.length_append]; omega)) (List.getElem?_eq_getElem _)⟩, h.free p (by rw [List.length_append]; omega)⟩
theorem gb_row {w : World} {g : Nat} {xs : List Value} (h : RowAt w g xs) (i : Nat) (v : Value) (hv : xs[i]? = some v) (p : Gb w) : p.w.cell? ⟨g, i, none⟩ = some v := (h.then p.h).cell i v hv
end Go.Proofs.YthiogijicknoiaaGreatDoor

/- Marks in bytes, in requests, and what a result of bytes says. -/
namespace Go.Proofs.YthiogijicknoiaaGreatDoor
open Go.RowKit
set_option linter.unusedSimpArgs false
set_option linter.unusedVariables false

def marksB (k n : Nat) : List UInt8 := (List.range n).map fun i => UInt8.ofNat (k + i)
theorem marksB_len (k n : Nat) : (marksB k n).length = n := by simp [marksB]
theorem marksB_succ (k n : Nat) : marksB k (n + 1) = marksB k n ++ [UInt8.ofNat (k + n)] := by simp [marksB, List.range_succ]
theorem marksB_at (k n i : Nat) (h : i < (marksB k n).length) : (marksB k n)[i] = UInt8.ofNat (k + i) := by simp [marksB]
theorem bV_snoc (l : List UInt8) (x : UInt8) : bV l ++ [.int .u8 (x.toNat : Int)] = bV (l ++ [x]) := by simp [bV, byteV]
theorem wrap8 (m : Nat) : IntKind.u8.wrap (m : Int) = ((UInt8.ofNat m).toNat : Int) := by
  rw [UInt8.toNat_ofNat']
  simp [IntKind.wrap, IntKind.bits, IntKind.signed]
end Go.Proofs.YthiogijicknoiaaGreatDoor

/- A slice of bytes, opened. -/
namespace Go.Proofs.YthiogijicknoiaaGreatDoor
open Go.ChangeShapes Go.WideShapes Go.Deep Go.Joins Go.RowKit
variable {H : Type} {enc : TypeId × Value → H} {P : Program} {w : World} {base : Nat} {spare : Nat → Bool} {held : Bool}
theorem open_bytesR {t e : TypeId} {fuel : Nat} {v : Value} {x : DataW H × List MemPlace} (ht : P.underlying t = some (.slice e)) (he : P.underlying e = some (.int .u8)) (hC : P.cellsOf e = 1) (h : DataW.trod enc P w base spare held fuel t [v] = some x) :
    ∃ (a : Option Addr) (n cap : Nat) (l : List UInt8), v = .slice a n cap ∧ l.length = n ∧ Rd w a (bV l) ∧ n ≤ 9223372036854775807 := by
  obtain ⟨a, n, cap, rfl, hn, hor⟩ := open_cells1 ht hC h
  rcases hor with rfl | ⟨b, off, rfl, hb, hc⟩
  · exact ⟨a, 0, cap, [], rfl, rfl, Rd.nil _ _, hn⟩
  · obtain ⟨l, hl, hp⟩ := list_of (P := fun i (s : UInt8) => w.cell? ⟨b, off + i, none⟩ = some (.int .u8 (s.toNat : Int))) n fun i hi => by
      obtain ⟨u, y, m, hu, hy⟩ := hc i hi
      obtain ⟨s, e1, _, e3⟩ := DataW.trod_int he hy
      cases e1
      have hs : 0 ≤ s ∧ s ≤ 255 := by
        simp [Lit.wf, IntKind.min, IntKind.max] at e3
        obtain ⟨q1, q2⟩ := e3
        constructor
        · have := q1; simp [IntKind.signed] at this; omega
        · have := q2; simp [IntKind.signed, IntKind.bits] at this; omega
      refine ⟨UInt8.ofNat s.toNat, ?_⟩
      rw [hu]
      congr 2
      simp only [UInt8.toNat_ofNat']
      omega
    refine ⟨_, n, cap, l, rfl, hl, fun j v hv => ?_, hn⟩
    unfold bV at hv
    rw [List.getElem?_map] at hv
    obtain ⟨s, hs, rfl⟩ := Option.map_eq_some_iff.1 hv
    exact ⟨b, off, rfl, hb, hp j s hs⟩
end Go.Proofs.YthiogijicknoiaaGreatDoor

/- Requests and responses: copied, measured, compared. -/
namespace Go.Proofs.YthiogijicknoiaaGreatDoor
open Go.RowKit
set_option linter.unusedSimpArgs false
set_option linter.unusedVariables false

set_option maxHeartbeats 800000 in
theorem szRequest (m : ByteArray) (hm : m.size ≤ 9223372036854775807) (h : ByteArray) (hh : h.size ≤ 9223372036854775807) (p : ByteArray) (hp : p.size ≤ 9223372036854775807) (a : Option Addr) (n c : Nat) (l : List Hd) (hl : l.length = n)
    (left : Int) (h0 : 0 ≤ left) (h1 : left ≤ 1048576) (w : World) (hr : Rd w a (hV l)) (hn : n ≤ 9223372036854775807) (hs : ∀ h ∈ l, h.1.size ≤ 9223372036854775807 ∧ h.2.size ≤ 9223372036854775807) :
    Calls Tryz.prog 16 #[.agg #[.string m, .string h, .string p, .slice a n c], .int .i64 left] w fun e w' => ∃ r : Int, e = .returned (.int .i64 r) ∧ SzR n left r ∧ Below w.heap.size w w' := by
  have Hl := Lib.hid hl
  have Hs := Lib.hid hs
  clear hl hs
  by_cases g1 : left < m.size
  · go_enter Tryz.func16, Tryz.ntmps16
    go_wp2
    go_ret
    exact ⟨_, rfl, SzR.of (by omega) (by omega) (by omega), (by first | (with_reducible exact Below.refl _ _) | ((repeat' (first | (with_reducible exact Below.refl _ _) | (with_reducible assumption) | (with_reducible refine below_alloc ?_ _) | (with_reducible refine Below.drew ?_) | (with_reducible refine below_drewN ?_ _) | (with_reducible refine Below.setCell ?_ ?_ _) | refine below_then ?_ (by with_reducible assumption))) <;> (first | omega | (simp; done) | (simp; omega))))⟩
  · by_cases g2 : left - m.size < h.size
    · go_enter Tryz.func16, Tryz.ntmps16
      go_wp2
      go_ret
      exact ⟨_, rfl, SzR.of (by omega) (by omega) (by omega), (by first | (with_reducible exact Below.refl _ _) | ((repeat' (first | (with_reducible exact Below.refl _ _) | (with_reducible assumption) | (with_reducible refine below_alloc ?_ _) | (with_reducible refine Below.drew ?_) | (with_reducible refine below_drewN ?_ _) | (with_reducible refine Below.setCell ?_ ?_ _) | refine below_then ?_ (by with_reducible assumption))) <;> (first | omega | (simp; done) | (simp; omega))))⟩
    · by_cases g3 : left - m.size - h.size < p.size
      · go_enter Tryz.func16, Tryz.ntmps16
        go_wp2
        go_ret
        exact ⟨_, rfl, SzR.of (by omega) (by omega) (by omega), (by first | (with_reducible exact Below.refl _ _) | ((repeat' (first | (with_reducible exact Below.refl _ _) | (with_reducible assumption) | (with_reducible refine below_alloc ?_ _) | (with_reducible refine Below.drew ?_) | (with_reducible refine below_drewN ?_ _) | (with_reducible refine Below.setCell ?_ ?_ _) | refine below_then ?_ (by with_reducible assumption))) <;> (first | omega | (simp; done) | (simp; omega))))⟩
      · go_enter Tryz.func16, Tryz.ntmps16
        go_wp2_with (go_at_call 67; ((with_reducible refine (szHeaderS a n c l Hl.out _ (by omega) (by omega) _ (by first | (with_reducible assumption) | exact RowAt.rd (by repeat' (first | (with_reducible assumption) | (with_reducible refine RowAt.alloc ?_ _) | (with_reducible refine RowAt.drew ?_) | (with_reducible refine RowAt.other ?_ _ _ (by first | omega | (simp; done) | (simp; omega))) | refine RowAt.then ?_ (by with_reducible assumption))) | exact Rd.below (by with_reducible assumption) (by first | (with_reducible exact Below.refl _ _) | ((repeat' (first | (with_reducible exact Below.refl _ _) | (with_reducible assumption) | (with_reducible refine below_alloc ?_ _) | (with_reducible refine Below.drew ?_) | (with_reducible refine below_drewN ?_ _) | (with_reducible refine Below.setCell ?_ ?_ _) | refine below_then ?_ (by with_reducible assumption))) <;> (first | omega | (simp; done) | (simp; omega))))) hn Hs.out).mono ?_); rintro e w' ⟨r, rfl, ⟨⟨hr1, hr2⟩, hr3⟩, hb⟩))
        all_goals
          go_ret
          exact ⟨_, rfl, SzR.of (by omega) (by omega) (by omega), (by first | (with_reducible exact Below.refl _ _) | ((repeat' (first | (with_reducible exact Below.refl _ _) | (with_reducible assumption) | (with_reducible refine below_alloc ?_ _) | (with_reducible refine Below.drew ?_) | (with_reducible refine below_drewN ?_ _) | (with_reducible refine Below.setCell ?_ ?_ _) | refine below_then ?_ (by with_reducible assumption))) <;> (first | omega | (simp; done) | (simp; omega))))⟩

set_option maxHeartbeats 1600000 in
theorem toRequest (m h p : ByteArray) (a : Option Addr) (n c : Nat) (l : List Hd) (hl : l.length = n) (w : World) (hr : Rd w a (hV l)) (hn : n * 32 ≤ 281474976710656) :
    Calls Tryz.prog 18 #[.agg #[.string m, .string h, .string p, .slice a n c]] w fun e w' => ∃ g, e = .returned (.agg #[.string m, .string h, .string p, .slice (some ⟨g, 0, none⟩) n n]) ∧ w.heap.size ≤ g ∧ RowAt w' g (hV l) ∧ Below w.heap.size w w' := by
  have Hl := Lib.hid hl
  clear hl
  go_enter Tryz.func18, Tryz.ntmps18
  go_wp2_with (go_at_call 68; ((with_reducible refine (toHeaderS a n c l Hl.out _ (by first | (with_reducible assumption) | exact RowAt.rd (by repeat' (first | (with_reducible assumption) | (with_reducible refine RowAt.alloc ?_ _) | (with_reducible refine RowAt.drew ?_) | (with_reducible refine RowAt.other ?_ _ _ (by first | omega | (simp; done) | (simp; omega))) | refine RowAt.then ?_ (by with_reducible assumption))) | exact Rd.below (by with_reducible assumption) (by first | (with_reducible exact Below.refl _ _) | ((repeat' (first | (with_reducible exact Below.refl _ _) | (with_reducible assumption) | (with_reducible refine below_alloc ?_ _) | (with_reducible refine Below.drew ?_) | (with_reducible refine below_drewN ?_ _) | (with_reducible refine Below.setCell ?_ ?_ _) | refine below_then ?_ (by with_reducible assumption))) <;> (first | omega | (simp; done) | (simp; omega))))) hn).mono ?_); rintro e w' ⟨g, rfl, hg, hrow, hb⟩; simp only [World.size_alloc] at hg; obtain ⟨hc, hf⟩ := bcell hb; have hz := hb.size; (try simp only [World.size_alloc, World.size_setCell, World.size_drew] at hz); obtain ⟨hlt, hle, hn1, hn2, hn3, hn4⟩ := bsize hb; (try simp only [World.size_alloc, World.size_setCell, World.size_drew] at hlt hle hn1 hn2 hn3 hn4); (try have hr0 : w.heap.size < w'.heap.size := by omega); (try have hr1 : w.heap.size + 1 < w'.heap.size := by omega); (try have hs0 : wS.heap.size < w'.heap.size := by omega); (try have hs1 : wG.heap.size < w'.heap.size := by omega)))
  exact bodyPost_ret (res_row Tryz.results18 _ _ rfl (blk_cast (by repeat' (first | (with_reducible assumption) | (with_reducible exact blk_new _ _) | (with_reducible apply blk_set) | (with_reducible refine blk_new' _ _ _ (by first | omega | (simp only [World.size_alloc]; first | done | omega))) | (with_reducible refine blk_other ?_ _ _ _ (by omega)) | (with_reducible refine blk_drew ?_) | (with_reducible refine blk_alloc ?_ _) | refine blk_then ?_ (by with_reducible assumption))) (by first | (simp; done) | rfl)) Tryz.underlying26 rfl _ (by kernel_rfl) rfl) rfl ⟨g, rfl, by omega, (by repeat' (first | (with_reducible assumption) | (with_reducible refine RowAt.alloc ?_ _) | (with_reducible refine RowAt.drew ?_) | (with_reducible refine RowAt.other ?_ _ _ (by first | omega | (simp; done) | (simp; omega))) | refine RowAt.then ?_ (by with_reducible assumption))), (by first | (with_reducible exact Below.refl _ _) | ((repeat' (first | (with_reducible exact Below.refl _ _) | (with_reducible assumption) | (with_reducible refine below_alloc ?_ _) | (with_reducible refine Below.drew ?_) | (with_reducible refine below_drewN ?_ _) | (with_reducible refine Below.setCell ?_ ?_ _) | refine below_then ?_ (by with_reducible assumption))) <;> (first | omega | (simp; done) | (simp; omega))))⟩

set_option maxHeartbeats 800000 in
theorem eqRequest (m h p : ByteArray) (a a' : Option Addr) (n c c' : Nat) (l : List Hd) (hl : l.length = n) (w : World) (hr : Rd w a (hV l)) (hr' : Rd w a' (hV l)) (hn : n ≤ 9223372036854775807) :
    Calls Tryz.prog 21 #[.agg #[.string m, .string h, .string p, .slice a n c], .agg #[.string m, .string h, .string p, .slice a' n c']] w fun e w' => e = .returned (.bool true) ∧ Below w.heap.size w w' := by
  have Hl := Lib.hid hl
  clear hl
  go_enter Tryz.func21, Tryz.ntmps21
  go_wp2_with (go_at_call 69; ((with_reducible refine (eqHeaderS _ _ _ _ _ l Hl.out _ (by first | (with_reducible assumption) | exact RowAt.rd (by repeat' (first | (with_reducible assumption) | (with_reducible refine RowAt.alloc ?_ _) | (with_reducible refine RowAt.drew ?_) | (with_reducible refine RowAt.other ?_ _ _ (by first | omega | (simp; done) | (simp; omega))) | refine RowAt.then ?_ (by with_reducible assumption))) | exact Rd.below (by with_reducible assumption) (by first | (with_reducible exact Below.refl _ _) | ((repeat' (first | (with_reducible exact Below.refl _ _) | (with_reducible assumption) | (with_reducible refine below_alloc ?_ _) | (with_reducible refine Below.drew ?_) | (with_reducible refine below_drewN ?_ _) | (with_reducible refine Below.setCell ?_ ?_ _) | refine below_then ?_ (by with_reducible assumption))) <;> (first | omega | (simp; done) | (simp; omega))))) (by first | (with_reducible assumption) | exact RowAt.rd (by repeat' (first | (with_reducible assumption) | (with_reducible refine RowAt.alloc ?_ _) | (with_reducible refine RowAt.drew ?_) | (with_reducible refine RowAt.other ?_ _ _ (by first | omega | (simp; done) | (simp; omega))) | refine RowAt.then ?_ (by with_reducible assumption))) | exact Rd.below (by with_reducible assumption) (by first | (with_reducible exact Below.refl _ _) | ((repeat' (first | (with_reducible exact Below.refl _ _) | (with_reducible assumption) | (with_reducible refine below_alloc ?_ _) | (with_reducible refine Below.drew ?_) | (with_reducible refine below_drewN ?_ _) | (with_reducible refine Below.setCell ?_ ?_ _) | refine below_then ?_ (by with_reducible assumption))) <;> (first | omega | (simp; done) | (simp; omega))))) hn).mono ?_); rintro e w' ⟨rfl, hb⟩))
  go_ret
  exact ⟨rfl, (by first | (with_reducible exact Below.refl _ _) | ((repeat' (first | (with_reducible exact Below.refl _ _) | (with_reducible assumption) | (with_reducible refine below_alloc ?_ _) | (with_reducible refine Below.drew ?_) | (with_reducible refine below_drewN ?_ _) | (with_reducible refine Below.setCell ?_ ?_ _) | refine below_then ?_ (by with_reducible assumption))) <;> (first | omega | (simp; done) | (simp; omega))))⟩

def sameReq (m h p : ByteArray) (l : List Hd) (m' h' p' : ByteArray) (l' : List Hd) : Bool := m.toList == m'.toList && h.toList == h'.toList && p.toList == p'.toList && decide (l = l')
set_option maxHeartbeats 1600000 in
theorem impl_SameRequests (m h p : ByteArray) (a : Option Addr) (n c : Nat) (l : List Hd) (hl : l.length = n) (m' h' p' : ByteArray) (a' : Option Addr) (n' c' : Nat) (l' : List Hd) (hl' : l'.length = n') (w : World) (hr : Rd w a (hV l)) (hr' : Rd w a' (hV l')) (hn : n ≤ 9223372036854775807) (hn' : n' ≤ 9223372036854775807) :
    Calls Tryz.prog 29 #[.agg #[.string m, .string h, .string p, .slice a n c], .agg #[.string m', .string h', .string p', .slice a' n' c']] w fun e w' => e = .returned (.bool (sameReq m h p l m' h' p' l')) ∧ Below w.heap.size w w' := by
  have Hl := Lib.hid hl
  have Hl' := Lib.hid hl'
  clear hl hl'
  go_enter Tryz.func29, Tryz.ntmps29
  go_wp2_with (go_at_call 89; ((with_reducible refine (slices_Equal_Header _ _ _ _ _ _ l l' Hl.out Hl'.out _ (by first | (with_reducible assumption) | exact RowAt.rd (by repeat' (first | (with_reducible assumption) | (with_reducible refine RowAt.alloc ?_ _) | (with_reducible refine RowAt.drew ?_) | (with_reducible refine RowAt.other ?_ _ _ (by first | omega | (simp; done) | (simp; omega))) | refine RowAt.then ?_ (by with_reducible assumption))) | exact Rd.below (by with_reducible assumption) (by first | (with_reducible exact Below.refl _ _) | ((repeat' (first | (with_reducible exact Below.refl _ _) | (with_reducible assumption) | (with_reducible refine below_alloc ?_ _) | (with_reducible refine Below.drew ?_) | (with_reducible refine below_drewN ?_ _) | (with_reducible refine Below.setCell ?_ ?_ _) | refine below_then ?_ (by with_reducible assumption))) <;> (first | omega | (simp; done) | (simp; omega))))) (by first | (with_reducible assumption) | exact RowAt.rd (by repeat' (first | (with_reducible assumption) | (with_reducible refine RowAt.alloc ?_ _) | (with_reducible refine RowAt.drew ?_) | (with_reducible refine RowAt.other ?_ _ _ (by first | omega | (simp; done) | (simp; omega))) | refine RowAt.then ?_ (by with_reducible assumption))) | exact Rd.below (by with_reducible assumption) (by first | (with_reducible exact Below.refl _ _) | ((repeat' (first | (with_reducible exact Below.refl _ _) | (with_reducible assumption) | (with_reducible refine below_alloc ?_ _) | (with_reducible refine Below.drew ?_) | (with_reducible refine below_drewN ?_ _) | (with_reducible refine Below.setCell ?_ ?_ _) | refine below_then ?_ (by with_reducible assumption))) <;> (first | omega | (simp; done) | (simp; omega))))) hn hn').mono ?_); rintro e w' ⟨rfl, hb⟩))
  all_goals
    go_ret
    exact ⟨ret_bool (by simp_all [sameReq]), (by first | (with_reducible exact Below.refl _ _) | ((repeat' (first | (with_reducible exact Below.refl _ _) | (with_reducible assumption) | (with_reducible refine below_alloc ?_ _) | (with_reducible refine Below.drew ?_) | (with_reducible refine below_drewN ?_ _) | (with_reducible refine Below.setCell ?_ ?_ _) | refine below_then ?_ (by with_reducible assumption))) <;> (first | omega | (simp; done) | (simp; omega))))⟩

end Go.Proofs.YthiogijicknoiaaGreatDoor

/- Responses: copied, measured, compared. -/
namespace Go.Proofs.YthiogijicknoiaaGreatDoor
open Go.RowKit
set_option linter.unusedSimpArgs false
set_option linter.unusedVariables false

/-- What a measure of two slices tells. -/
def SzR2 (n m : Nat) (left r : Int) : Prop := (-1 ≤ r ∧ r ≤ 1048576) ∧ (0 ≤ r → (n : Int) ≤ left ∧ (m : Int) ≤ 1048576)
theorem SzR2.of {n m : Nat} {left r : Int} (h1 : -1 ≤ r) (h2 : r ≤ 1048576) (h3 : 0 ≤ r → (n : Int) ≤ left) (h4 : 0 ≤ r → (m : Int) ≤ 1048576) : SzR2 n m left r := ⟨⟨h1, h2⟩, fun h => ⟨h3 h, h4 h⟩⟩
def sameRsp (t : Int) (l : List Hd) (lb : List UInt8) (t' : Int) (l' : List Hd) (lb' : List UInt8) : Bool := t == t' && decide (l = l') && lb == lb'
set_option maxRecDepth 100000 in
set_option maxHeartbeats 1600000 in
theorem spec_SameResponses (t : Int) (a : Option Addr) (n c : Nat) (l : List Hd) (hl : l.length = n) (ab : Option Addr) (nb cb : Nat) (lb : List UInt8) (hlb : lb.length = nb)
    (t' : Int) (a' : Option Addr) (n' c' : Nat) (l' : List Hd) (hl' : l'.length = n') (ab' : Option Addr) (nb' cb' : Nat) (lb' : List UInt8) (hlb' : lb'.length = nb') (w : World)
    (hr : Rd w a (hV l)) (hr' : Rd w a' (hV l')) (hrb : Rd w ab (bV lb)) (hrb' : Rd w ab' (bV lb')) (hn : n ≤ 9223372036854775807) (hn' : n' ≤ 9223372036854775807) :
    Calls Tryz.prog 52 #[.agg #[.int .i64 t, .slice a n c, .slice ab nb cb], .agg #[.int .i64 t', .slice a' n' c', .slice ab' nb' cb']] w fun e w' => e = .returned (.bool (sameRsp t l lb t' l' lb')) ∧ Below w.heap.size w w' := by
  have Hl := Lib.hid hl
  have Hl' := Lib.hid hl'
  have Hlb := Lib.hid hlb
  have Hlb' := Lib.hid hlb'
  clear hl hl' hlb hlb'
  go_enter Tryz.func52, Tryz.ntmps52
  go_wp2_with (go_at_call 47; ((with_reducible refine (spec_SameHeaders _ _ _ _ _ _ l l' Hl.out Hl'.out _ (by first | (with_reducible assumption) | exact RowAt.rd (by repeat' (first | (with_reducible assumption) | (with_reducible refine RowAt.alloc ?_ _) | (with_reducible refine RowAt.drew ?_) | (with_reducible refine RowAt.other ?_ _ _ (by first | omega | (simp; done) | (simp; omega))) | refine RowAt.then ?_ (by with_reducible assumption))) | exact Rd.below (by with_reducible assumption) (by first | (with_reducible exact Below.refl _ _) | ((repeat' (first | (with_reducible exact Below.refl _ _) | (with_reducible assumption) | (with_reducible refine below_alloc ?_ _) | (with_reducible refine Below.drew ?_) | (with_reducible refine below_drewN ?_ _) | (with_reducible refine Below.setCell ?_ ?_ _) | refine below_then ?_ (by with_reducible assumption))) <;> (first | omega | (simp; done) | (simp; omega))))) (by first | (with_reducible assumption) | exact RowAt.rd (by repeat' (first | (with_reducible assumption) | (with_reducible refine RowAt.alloc ?_ _) | (with_reducible refine RowAt.drew ?_) | (with_reducible refine RowAt.other ?_ _ _ (by first | omega | (simp; done) | (simp; omega))) | refine RowAt.then ?_ (by with_reducible assumption))) | exact Rd.below (by with_reducible assumption) (by first | (with_reducible exact Below.refl _ _) | ((repeat' (first | (with_reducible exact Below.refl _ _) | (with_reducible assumption) | (with_reducible refine below_alloc ?_ _) | (with_reducible refine Below.drew ?_) | (with_reducible refine below_drewN ?_ _) | (with_reducible refine Below.setCell ?_ ?_ _) | refine below_then ?_ (by with_reducible assumption))) <;> (first | omega | (simp; done) | (simp; omega))))) hn hn').mono ?_); rintro e w' ⟨rfl, hb⟩; obtain ⟨hc, hf⟩ := bcell hb; have hz := hb.size; (try simp only [World.size_alloc, World.size_setCell, World.size_drew] at hz); obtain ⟨hlt, hle, hn1, hn2, hn3, hn4⟩ := bsize hb; (try simp only [World.size_alloc, World.size_setCell, World.size_drew] at hlt hle hn1 hn2 hn3 hn4); (try have hr0 : w.heap.size < w'.heap.size := by omega); (try have hr1 : w.heap.size + 1 < w'.heap.size := by omega); (try have hs0 : wS.heap.size < w'.heap.size := by omega); (try have hs1 : wG.heap.size < w'.heap.size := by omega); have hcv := conv_rd w' ab nb cb lb Hlb.out (by first | (with_reducible assumption) | exact RowAt.rd (by repeat' (first | (with_reducible assumption) | (with_reducible refine RowAt.alloc ?_ _) | (with_reducible refine RowAt.drew ?_) | (with_reducible refine RowAt.other ?_ _ _ (by first | omega | (simp; done) | (simp; omega))) | refine RowAt.then ?_ (by with_reducible assumption))) | exact Rd.below (by with_reducible assumption) (by first | (with_reducible exact Below.refl _ _) | ((repeat' (first | (with_reducible exact Below.refl _ _) | (with_reducible assumption) | (with_reducible refine below_alloc ?_ _) | (with_reducible refine Below.drew ?_) | (with_reducible refine below_drewN ?_ _) | (with_reducible refine Below.setCell ?_ ?_ _) | refine below_then ?_ (by with_reducible assumption))) <;> (first | omega | (simp; done) | (simp; omega))))); have hcv' := conv_rd w' ab' nb' cb' lb' Hlb'.out (by first | (with_reducible assumption) | exact RowAt.rd (by repeat' (first | (with_reducible assumption) | (with_reducible refine RowAt.alloc ?_ _) | (with_reducible refine RowAt.drew ?_) | (with_reducible refine RowAt.other ?_ _ _ (by first | omega | (simp; done) | (simp; omega))) | refine RowAt.then ?_ (by with_reducible assumption))) | exact Rd.below (by with_reducible assumption) (by first | (with_reducible exact Below.refl _ _) | ((repeat' (first | (with_reducible exact Below.refl _ _) | (with_reducible assumption) | (with_reducible refine below_alloc ?_ _) | (with_reducible refine Below.drew ?_) | (with_reducible refine below_drewN ?_ _) | (with_reducible refine Below.setCell ?_ ?_ _) | refine below_then ?_ (by with_reducible assumption))) <;> (first | omega | (simp; done) | (simp; omega)))))))
  all_goals
    go_ret
    exact ⟨ret_bool (by simp_all [sameRsp]), (by first | (with_reducible exact Below.refl _ _) | ((repeat' (first | (with_reducible exact Below.refl _ _) | (with_reducible assumption) | (with_reducible refine below_alloc ?_ _) | (with_reducible refine Below.drew ?_) | (with_reducible refine below_drewN ?_ _) | (with_reducible refine Below.setCell ?_ ?_ _) | refine below_then ?_ (by with_reducible assumption))) <;> (first | omega | (simp; done) | (simp; omega))))⟩
set_option maxRecDepth 100000 in
set_option maxHeartbeats 1600000 in
theorem impl_SameResponses (t : Int) (a : Option Addr) (n c : Nat) (l : List Hd) (hl : l.length = n) (ab : Option Addr) (nb cb : Nat) (lb : List UInt8) (hlb : lb.length = nb)
    (t' : Int) (a' : Option Addr) (n' c' : Nat) (l' : List Hd) (hl' : l'.length = n') (ab' : Option Addr) (nb' cb' : Nat) (lb' : List UInt8) (hlb' : lb'.length = nb') (w : World)
    (hr : Rd w a (hV l)) (hr' : Rd w a' (hV l')) (hrb : Rd w ab (bV lb)) (hrb' : Rd w ab' (bV lb')) (hn : n ≤ 9223372036854775807) (hn' : n' ≤ 9223372036854775807) :
    Calls Tryz.prog 31 #[.agg #[.int .i64 t, .slice a n c, .slice ab nb cb], .agg #[.int .i64 t', .slice a' n' c', .slice ab' nb' cb']] w fun e w' => e = .returned (.bool (sameRsp t l lb t' l' lb')) ∧ Below w.heap.size w w' := by
  have Hl := Lib.hid hl
  have Hl' := Lib.hid hl'
  have Hlb := Lib.hid hlb
  have Hlb' := Lib.hid hlb'
  clear hl hl' hlb hlb'
  go_enter Tryz.func31, Tryz.ntmps31
  go_wp2_with (first | (go_at_call 89; ((with_reducible refine (slices_Equal_Header _ _ _ _ _ _ l l' Hl.out Hl'.out _ (by first | (with_reducible assumption) | exact RowAt.rd (by repeat' (first | (with_reducible assumption) | (with_reducible refine RowAt.alloc ?_ _) | (with_reducible refine RowAt.drew ?_) | (with_reducible refine RowAt.other ?_ _ _ (by first | omega | (simp; done) | (simp; omega))) | refine RowAt.then ?_ (by with_reducible assumption))) | exact Rd.below (by with_reducible assumption) (by first | (with_reducible exact Below.refl _ _) | ((repeat' (first | (with_reducible exact Below.refl _ _) | (with_reducible assumption) | (with_reducible refine below_alloc ?_ _) | (with_reducible refine Below.drew ?_) | (with_reducible refine below_drewN ?_ _) | (with_reducible refine Below.setCell ?_ ?_ _) | refine below_then ?_ (by with_reducible assumption))) <;> (first | omega | (simp; done) | (simp; omega))))) (by first | (with_reducible assumption) | exact RowAt.rd (by repeat' (first | (with_reducible assumption) | (with_reducible refine RowAt.alloc ?_ _) | (with_reducible refine RowAt.drew ?_) | (with_reducible refine RowAt.other ?_ _ _ (by first | omega | (simp; done) | (simp; omega))) | refine RowAt.then ?_ (by with_reducible assumption))) | exact Rd.below (by with_reducible assumption) (by first | (with_reducible exact Below.refl _ _) | ((repeat' (first | (with_reducible exact Below.refl _ _) | (with_reducible assumption) | (with_reducible refine below_alloc ?_ _) | (with_reducible refine Below.drew ?_) | (with_reducible refine below_drewN ?_ _) | (with_reducible refine Below.setCell ?_ ?_ _) | refine below_then ?_ (by with_reducible assumption))) <;> (first | omega | (simp; done) | (simp; omega))))) hn hn').mono ?_); rintro e w' ⟨rfl, hb⟩; obtain ⟨hc, hf⟩ := bcell hb; have hz := hb.size; (try simp only [World.size_alloc, World.size_setCell, World.size_drew] at hz); obtain ⟨hlt, hle, hn1, hn2, hn3, hn4⟩ := bsize hb; (try simp only [World.size_alloc, World.size_setCell, World.size_drew] at hlt hle hn1 hn2 hn3 hn4); (try have hr0 : w.heap.size < w'.heap.size := by omega); (try have hr1 : w.heap.size + 1 < w'.heap.size := by omega); (try have hs0 : wS.heap.size < w'.heap.size := by omega); (try have hs1 : wG.heap.size < w'.heap.size := by omega); have hcv := conv_rd w' ab nb cb lb Hlb.out (by first | (with_reducible assumption) | exact RowAt.rd (by repeat' (first | (with_reducible assumption) | (with_reducible refine RowAt.alloc ?_ _) | (with_reducible refine RowAt.drew ?_) | (with_reducible refine RowAt.other ?_ _ _ (by first | omega | (simp; done) | (simp; omega))) | refine RowAt.then ?_ (by with_reducible assumption))) | exact Rd.below (by with_reducible assumption) (by first | (with_reducible exact Below.refl _ _) | ((repeat' (first | (with_reducible exact Below.refl _ _) | (with_reducible assumption) | (with_reducible refine below_alloc ?_ _) | (with_reducible refine Below.drew ?_) | (with_reducible refine below_drewN ?_ _) | (with_reducible refine Below.setCell ?_ ?_ _) | refine below_then ?_ (by with_reducible assumption))) <;> (first | omega | (simp; done) | (simp; omega))))); have hcv' := conv_rd w' ab' nb' cb' lb' Hlb'.out (by first | (with_reducible assumption) | exact RowAt.rd (by repeat' (first | (with_reducible assumption) | (with_reducible refine RowAt.alloc ?_ _) | (with_reducible refine RowAt.drew ?_) | (with_reducible refine RowAt.other ?_ _ _ (by first | omega | (simp; done) | (simp; omega))) | refine RowAt.then ?_ (by with_reducible assumption))) | exact Rd.below (by with_reducible assumption) (by first | (with_reducible exact Below.refl _ _) | ((repeat' (first | (with_reducible exact Below.refl _ _) | (with_reducible assumption) | (with_reducible refine below_alloc ?_ _) | (with_reducible refine Below.drew ?_) | (with_reducible refine below_drewN ?_ _) | (with_reducible refine Below.setCell ?_ ?_ _) | refine below_then ?_ (by with_reducible assumption))) <;> (first | omega | (simp; done) | (simp; omega))))))) | (go_at_call 91; ((with_reducible refine (Tryz.bytes_Equal_strs _ _ _ _ _ hcv hcv').mono ?_); rintro e w'' ⟨rfl, rfl⟩)))
  all_goals
    go_ret
    exact ⟨ret_bool (by simp_all [sameRsp]), (by first | (with_reducible exact Below.refl _ _) | ((repeat' (first | (with_reducible exact Below.refl _ _) | (with_reducible assumption) | (with_reducible refine below_alloc ?_ _) | (with_reducible refine Below.drew ?_) | (with_reducible refine below_drewN ?_ _) | (with_reducible refine Below.setCell ?_ ?_ _) | refine below_then ?_ (by with_reducible assumption))) <;> (first | omega | (simp; done) | (simp; omega))))⟩
end Go.Proofs.YthiogijicknoiaaGreatDoor

/- The values of the head lines of one name. -/
namespace Go.Proofs.YthiogijicknoiaaGreatDoor
open Go.RowKit
set_option linter.unusedSimpArgs false
set_option linter.unusedVariables false

def vals (nm : ByteArray) (l : List Hd) : List ByteArray := (l.filter fun h => alikeB h.1 nm).map (·.2)
theorem vals_yes (nm : ByteArray) (l : List Hd) (k : Nat) (h : k < l.length) (ha : alikeB l[k].1 nm = true) : vals nm (l.take (k + 1)) = vals nm (l.take k) ++ [l[k].2] := by
  unfold vals; rw [List.take_succ_eq_append_getElem h, List.filter_append, List.map_append]
  simp [ha]
theorem vals_no (nm : ByteArray) (l : List Hd) (k : Nat) (h : k < l.length) (ha : alikeB l[k].1 nm = false) : vals nm (l.take (k + 1)) = vals nm (l.take k) := by
  unfold vals; rw [List.take_succ_eq_append_getElem h, List.filter_append, List.map_append]
  simp [ha]
theorem vals_len (nm : ByteArray) (l : List Hd) : (vals nm l).length ≤ l.length := by unfold vals; rw [List.length_map]; exact List.length_filter_le _ _
theorem vals_take_len (nm : ByteArray) (l : List Hd) (k : Nat) : (vals nm (l.take k)).length ≤ k := by
  have h1 := vals_len nm (l.take k)
  have h2 := List.length_take_le k l
  omega
theorem vals_mem {nm : ByteArray} {l : List Hd} {x : ByteArray} (h : x ∈ vals nm l) : ∃ y ∈ l, y.2 = x := by
  obtain ⟨y, hy, e⟩ := List.mem_map.1 h
  exact ⟨y, (List.mem_filter.1 hy).1, e⟩
theorem strV_snoc (l : List ByteArray) (x : ByteArray) : strV l ++ [.string x] = strV (l ++ [x]) := by simp [strV]
set_option maxHeartbeats 1600000 in
theorem impl_valuesOf (nm : ByteArray) (hnm : nm.size ≤ 9223372036854775807) (a : Option Addr) (n c : Nat) (l : List Hd) (hl : l.length = n) (w : World) (hr : Rd w a (hV l)) (hn : n ≤ 100000) (hs : ∀ h ∈ l, h.1.size ≤ 9223372036854775807 ∧ h.2.size ≤ 9223372036854775807) :
    Calls Tryz.prog 75 #[.slice a n c, .string nm] w fun e w' => ∃ g cap, e = .returned (.slice (some ⟨g, 0, none⟩) (vals nm l).length cap) ∧ w'.ownsRow w.heap.size 9 1 (.slice (some ⟨g, 0, none⟩) (vals nm l).length cap) (vals nm l).length (strV (vals nm l)) ∧ Below w.heap.size w w' := by
  have Hl := Lib.hid hl
  have Hs := Lib.hid hs
  clear hl hs
  go_enter Tryz.func75, Tryz.ntmps75
  go_wp2
  go_loopw [5, 11] (fun v i wr => ∃ (k g cap : Nat), k ≤ n ∧ i = .int .i64 k ∧ v = .slice (some ⟨g, 0, none⟩) (vals nm (l.take k)).length cap ∧ wr.ownsRow w.heap.size 9 1 v (vals nm (l.take k)).length (strV (vals nm (l.take k))) ∧ Below w.heap.size w wr) (fun _ i _ => n - (intOf i).toNat)
  case atStart => exact ⟨0, _, _, Nat.zero_le _, rfl, rfl, World.ownsRow_lit (size := 1) (e := 9) w #[] 0 (Nat.le_refl _) (by unfold maxLen; omega) rfl, below_alloc (Below.refl _ _) _⟩
  case round =>
    obtain ⟨k, g, cap, hk, rfl, rfl, hown, hb⟩ := hrel
    have hvl := vals_take_len nm l k
    have hbr := hb
    obtain ⟨hc, hf⟩ := bcell hb
    have hz := hb.size
    by_cases hlt : k < n
    · have hlk : k < l.length := by rw [Hl.out]; exact hlt
      obtain ⟨b, off, rfl, hbl, hc0, hc1⟩ := (hr.below hb).hdr k hlk
      have hsx := (Hs.out l[k] (List.getElem_mem hlk)).1
      have hcon := fun W => impl_alike l[k].1 nm hsx hnm W
      by_cases hp : alikeB l[k].1 nm = true
      · rw [hp] at hcon
        have Hcon := Lib.hid hcon
        have Hv := Lib.hid (vals_yes nm l k hlk hp)
        clear hcon hp
        go_wp2_with (first | (go_at_call 133; ((with_reducible refine (Hcon.out _).mono ?_); rintro e w' ⟨rfl, hb⟩; obtain ⟨hc, hf⟩ := bcell hb; have hz := hb.size; (try simp only [World.size_alloc, World.size_setCell, World.size_drew] at hz); obtain ⟨hlt, hle, hn1, hn2, hn3, hn4⟩ := bsize hb; (try simp only [World.size_alloc, World.size_setCell, World.size_drew] at hlt hle hn1 hn2 hn3 hn4); (try have hr0 : w.heap.size < w'.heap.size := by omega); (try have hr1 : w.heap.size + 1 < w'.heap.size := by omega); (try have hs0 : wS.heap.size < w'.heap.size := by omega); (try have hs1 : wG.heap.size < w'.heap.size := by omega))) | (at_builtin; refine app1 rfl _ _ 27 rfl Tryz.underlying27 infoStr rfl (by decide) (own_below hown (by exact (by first | (with_reducible exact Below.refl _ _) | ((repeat' (first | (with_reducible exact Below.refl _ _) | (with_reducible assumption) | (with_reducible refine below_alloc ?_ _) | (with_reducible refine Below.drew ?_) | (with_reducible refine below_drewN ?_ _) | (with_reducible refine Below.setCell ?_ ?_ _) | refine below_then ?_ (by with_reducible assumption))) <;> (first | omega | (simp; done) | (simp; omega))))) (Nat.le_refl _)) (by exact (by first | (with_reducible exact Below.refl _ _) | ((repeat' (first | (with_reducible exact Below.refl _ _) | (with_reducible assumption) | (with_reducible refine below_alloc ?_ _) | (with_reducible refine Below.drew ?_) | (with_reducible refine below_drewN ?_ _) | (with_reducible refine Below.setCell ?_ ?_ _) | refine below_then ?_ (by with_reducible assumption))) <;> (first | omega | (simp; done) | (simp; omega))))) rfl rfl rfl (by intro u hu; simp at hu; subst hu; rfl) (by omega) (by unfold maxLen; omega) ?_; intro v1 w1 hown1 hb1 _ _; obtain ⟨g1, cap1, rfl, hg1, hrow1⟩ := own_shape hown1))
        go_roundw
        case rel => exact ⟨k + 1, g1, cap1, by omega, by go_num, by rw [Hv.out, List.length_append, List.length_singleton], own_cast hown1 (by rw [Hv.out, List.length_append, List.length_singleton]) (by rw [Hv.out, strV_snoc]), hb1⟩
        case measure => simp [intOf]; omega
      · simp only [Bool.not_eq_true] at hp
        rw [hp] at hcon
        have Hcon := Lib.hid hcon
        have Hv := Lib.hid (vals_no nm l k hlk hp)
        clear hcon hp
        go_wp2_with (go_at_call 133; ((with_reducible refine (Hcon.out _).mono ?_); rintro e w' ⟨rfl, hb⟩; obtain ⟨hc, hf⟩ := bcell hb; have hz := hb.size; (try simp only [World.size_alloc, World.size_setCell, World.size_drew] at hz); obtain ⟨hlt, hle, hn1, hn2, hn3, hn4⟩ := bsize hb; (try simp only [World.size_alloc, World.size_setCell, World.size_drew] at hlt hle hn1 hn2 hn3 hn4); (try have hr0 : w.heap.size < w'.heap.size := by omega); (try have hr1 : w.heap.size + 1 < w'.heap.size := by omega); (try have hs0 : wS.heap.size < w'.heap.size := by omega); (try have hs1 : wG.heap.size < w'.heap.size := by omega)))
        go_roundw
        case rel => exact ⟨k + 1, g, cap, by omega, by go_num, by rw [Hv.out], by rw [Hv.out]; exact own_below hown (by exact (by first | (with_reducible exact Below.refl _ _) | ((repeat' (first | (with_reducible exact Below.refl _ _) | (with_reducible assumption) | (with_reducible refine below_alloc ?_ _) | (with_reducible refine Below.drew ?_) | (with_reducible refine below_drewN ?_ _) | (with_reducible refine Below.setCell ?_ ?_ _) | refine below_then ?_ (by with_reducible assumption))) <;> (first | omega | (simp; done) | (simp; omega))))) (Nat.le_refl _), by exact (by first | (with_reducible exact Below.refl _ _) | ((repeat' (first | (with_reducible exact Below.refl _ _) | (with_reducible assumption) | (with_reducible refine below_alloc ?_ _) | (with_reducible refine Below.drew ?_) | (with_reducible refine below_drewN ?_ _) | (with_reducible refine Below.setCell ?_ ?_ _) | refine below_then ?_ (by with_reducible assumption))) <;> (first | omega | (simp; done) | (simp; omega))))⟩
        case measure => simp [intOf]; omega
    · have hk' : k = n := by omega
      have et : l.take k = l := List.take_of_length_le (by have := Hl.out; omega)
      have Et := Lib.hid et
      clear et
      rw [Et.out] at hown
      go_wp2
      go_ret
      exact ⟨g, cap, by rw [Et.out]; rfl, hown, hb⟩
theorem vals_size {nm : ByteArray} {l : List Hd} (k : Nat) (hl : l.length ≤ 20) (hs : ∀ h ∈ l, h.2.size ≤ 200) : (joinB commaS (vals nm (l.take k))).size ≤ 5000 := by
  have h1 := joinB_size commaS 200 (vals nm (l.take k)) (fun x hx => by
    obtain ⟨y, hy, rfl⟩ := vals_mem hx
    exact hs y (List.mem_of_mem_take hy))
  have h2 := vals_len nm (l.take k)
  have h3 := List.length_take_le' k l
  have e : commaS.size = 2 := rfl
  have h4 := Nat.mul_le_mul_right (200 + 2) (show (vals nm (l.take k)).length ≤ 20 by omega)
  rw [e] at h1
  omega
set_option maxHeartbeats 1600000 in
theorem spec_l4Join (nm : ByteArray) (hnm : nm.size ≤ 9223372036854775807) (a : Option Addr) (n c : Nat) (l : List Hd) (hl : l.length = n) (w : World) (hr : Rd w a (hV l)) (hn : n ≤ 20) (hs : ∀ h ∈ l, h.1.size ≤ 9223372036854775807 ∧ h.2.size ≤ 200) :
    Calls Tryz.prog 65 #[.slice a n c, .string nm] w fun e w' => e = .returned (.tuple #[.string (joinB commaS (vals nm l)), .bool (!(vals nm l).isEmpty)]) ∧ Below w.heap.size w w' := by
  have Hl := Lib.hid hl
  have Hs := Lib.hid hs
  clear hl hs
  go_enter Tryz.func65, Tryz.ntmps65
  go_wp2
  go_loopw [6, 7, 8] (fun s f i wr => ∃ k : Nat, k ≤ n ∧ i = .int .i64 k ∧ s = .string (joinB commaS (vals nm (l.take k))) ∧ f = .bool (!(vals nm (l.take k)).isEmpty) ∧ Below w.heap.size w wr) (fun _ _ i _ => n - (intOf i).toNat)
  case atStart => exact ⟨0, Nat.zero_le _, rfl, rfl, rfl, Below.refl _ _⟩
  case round =>
    obtain ⟨k, hk, rfl, rfl, rfl, hb⟩ := hrel
    have hsz := vals_size (nm := nm) k (by have := Hl.out; omega) (fun h hh => (Hs.out h hh).2)
    by_cases hlt : k < n
    · have hlk : k < l.length := by rw [Hl.out]; exact hlt
      obtain ⟨b, off, rfl, hbl, hc0, hc1⟩ := (hr.below hb).hdr k hlk
      have hsx := (Hs.out l[k] (List.getElem_mem hlk)).1
      have hsy := (Hs.out l[k] (List.getElem_mem hlk)).2
      have hcon := fun W => spec_l4Alike l[k].1 nm hsx hnm W
      by_cases hp : alikeB l[k].1 nm = true
      · rw [hp] at hcon
        have Hcon := Lib.hid hcon
        have hv := vals_yes nm l k hlk hp
        have hne : (!(vals nm (l.take (k + 1))).isEmpty) = true := by rw [hv]; simp
        have Hne := Lib.hid hne
        have Hv := Lib.hid hv
        clear hcon hp hv hne
        by_cases he : vals nm (l.take k) = []
        · have e1 : (!(vals nm (l.take k)).isEmpty) = false := by rw [he]; rfl
          have e2 : joinB commaS (vals nm (l.take k)) ++ l[k].2 = joinB commaS (vals nm (l.take (k + 1))) := by
            rw [Hv.out, he, List.nil_append, joinB_one, joinB_nil]
            apply ByteArray.ext; simp
          have E2 := Lib.hid e2
          clear he e2
          go_wp2_with (go_at_call 126; ((with_reducible refine (Hcon.out _).mono ?_); rintro e w' ⟨rfl, hb⟩; obtain ⟨hc, hf⟩ := bcell hb; have hz := hb.size; (try simp only [World.size_alloc, World.size_setCell, World.size_drew] at hz); obtain ⟨hlt, hle, hn1, hn2, hn3, hn4⟩ := bsize hb; (try simp only [World.size_alloc, World.size_setCell, World.size_drew] at hlt hle hn1 hn2 hn3 hn4); (try have hr0 : w.heap.size < w'.heap.size := by omega); (try have hr1 : w.heap.size + 1 < w'.heap.size := by omega); (try have hs0 : wS.heap.size < w'.heap.size := by omega); (try have hs1 : wG.heap.size < w'.heap.size := by omega)))
          go_roundw
          case rel => exact ⟨k + 1, by omega, by go_num, by rw [E2.out], by rw [Hne.out], by exact (by first | (with_reducible exact Below.refl _ _) | ((repeat' (first | (with_reducible exact Below.refl _ _) | (with_reducible assumption) | (with_reducible refine below_alloc ?_ _) | (with_reducible refine Below.drew ?_) | (with_reducible refine below_drewN ?_ _) | (with_reducible refine Below.setCell ?_ ?_ _) | refine below_then ?_ (by with_reducible assumption))) <;> (first | omega | (simp; done) | (simp; omega))))⟩
          case measure => simp [intOf]; omega
        · have e1 : (!(vals nm (l.take k)).isEmpty) = true := by cases h : vals nm (l.take k) with | nil => exact absurd h he | cons x t => rfl
          have e2 : joinB commaS (vals nm (l.take k)) ++ ⟨#[44, 32]⟩ ++ l[k].2 = joinB commaS (vals nm (l.take (k + 1))) := by
            rw [Hv.out, joinB_snoc _ _ _ he]; rfl
          have E2 := Lib.hid e2
          clear he e2
          go_wp2_with (go_at_call 126; ((with_reducible refine (Hcon.out _).mono ?_); rintro e w' ⟨rfl, hb⟩; obtain ⟨hc, hf⟩ := bcell hb; have hz := hb.size; (try simp only [World.size_alloc, World.size_setCell, World.size_drew] at hz); obtain ⟨hlt, hle, hn1, hn2, hn3, hn4⟩ := bsize hb; (try simp only [World.size_alloc, World.size_setCell, World.size_drew] at hlt hle hn1 hn2 hn3 hn4); (try have hr0 : w.heap.size < w'.heap.size := by omega); (try have hr1 : w.heap.size + 1 < w'.heap.size := by omega); (try have hs0 : wS.heap.size < w'.heap.size := by omega); (try have hs1 : wG.heap.size < w'.heap.size := by omega)))
          go_roundw
          case rel => exact ⟨k + 1, by omega, by go_num, by rw [E2.out], by rw [Hne.out], by exact (by first | (with_reducible exact Below.refl _ _) | ((repeat' (first | (with_reducible exact Below.refl _ _) | (with_reducible assumption) | (with_reducible refine below_alloc ?_ _) | (with_reducible refine Below.drew ?_) | (with_reducible refine below_drewN ?_ _) | (with_reducible refine Below.setCell ?_ ?_ _) | refine below_then ?_ (by with_reducible assumption))) <;> (first | omega | (simp; done) | (simp; omega))))⟩
          case measure => simp [intOf]; omega
      · simp only [Bool.not_eq_true] at hp
        rw [hp] at hcon
        have Hcon := Lib.hid hcon
        have Hv := Lib.hid (vals_no nm l k hlk hp)
        clear hcon hp
        go_wp2_with (go_at_call 126; ((with_reducible refine (Hcon.out _).mono ?_); rintro e w' ⟨rfl, hb⟩; obtain ⟨hc, hf⟩ := bcell hb; have hz := hb.size; (try simp only [World.size_alloc, World.size_setCell, World.size_drew] at hz); obtain ⟨hlt, hle, hn1, hn2, hn3, hn4⟩ := bsize hb; (try simp only [World.size_alloc, World.size_setCell, World.size_drew] at hlt hle hn1 hn2 hn3 hn4); (try have hr0 : w.heap.size < w'.heap.size := by omega); (try have hr1 : w.heap.size + 1 < w'.heap.size := by omega); (try have hs0 : wS.heap.size < w'.heap.size := by omega); (try have hs1 : wG.heap.size < w'.heap.size := by omega)))
        go_roundw
        case rel => exact ⟨k + 1, by omega, by go_num, by rw [Hv.out], by rw [Hv.out], by exact (by first | (with_reducible exact Below.refl _ _) | ((repeat' (first | (with_reducible exact Below.refl _ _) | (with_reducible assumption) | (with_reducible refine below_alloc ?_ _) | (with_reducible refine Below.drew ?_) | (with_reducible refine below_drewN ?_ _) | (with_reducible refine Below.setCell ?_ ?_ _) | refine below_then ?_ (by with_reducible assumption))) <;> (first | omega | (simp; done) | (simp; omega))))⟩
        case measure => simp [intOf]; omega
    · have et : l.take k = l := List.take_of_length_le (by have := Hl.out; omega)
      have Et := Lib.hid et
      clear et
      go_wp2
      go_ret2
      exact ⟨by rw [Et.out]; rfl, hb⟩
end Go.Proofs.YthiogijicknoiaaGreatDoor
