/- Joined: Mark. -/
import Derived.Test.YtklnccoknldkcaaDoorJRowExactReadRequest0
import Derived.Deep.DeepCutAuto
import Derived.Deep.RegionHeld3
/- Marks: what is written into rows, and read again. -/
namespace Go.Proofs.YtklnccoknldkcaaDoor
open Go.RowKit
set_option linter.unusedSimpArgs false
set_option linter.unusedVariables false

def markS (k : Nat) : ByteArray := if k = 0 then ⟨#[109, 48]⟩ else ⟨#[109]⟩ ++ decS (k : Int)
theorem mark_step {j k0 : Nat} {s : ByteArray} (h : decS (j : Int) ++ s = decS (k0 : Int)) (hj : ¬ j < 10) : decS ((j / 10 : Nat) : Int) ++ (⟨#[48 + UInt8.ofNat (j % 10)]⟩ ++ s) = decS (k0 : Int) := by
  have e8 : (48 : UInt8) + UInt8.ofNat (j % 10) = UInt8.ofNat (48 + j % 10) := by rw [UInt8.ofNat_add]; rfl
  rw [e8, ← h, decS_big hj]
  apply ByteArray.ext
  simp
theorem mark_last {j k0 : Nat} {s : ByteArray} (h : decS (j : Int) ++ s = decS (k0 : Int)) (hj : j < 10) : ⟨#[48 + UInt8.ofNat (j % 10)]⟩ ++ s = decS (k0 : Int) := by
  have e8 : (48 : UInt8) + UInt8.ofNat (j % 10) = UInt8.ofNat (48 + j % 10) := by rw [UInt8.ofNat_add]; rfl
  rw [e8, ← h, decS_small hj, Nat.mod_eq_of_lt hj]
theorem mark_size {j k0 : Nat} {s : ByteArray} (h : decS (j : Int) ++ s = decS (k0 : Int)) (hk : k0 ≤ 1000000000) : s.size ≤ 21 := by
  have h1 := decS_len (k0 : Int) (by omega) (by omega)
  rw [← h, ByteArray.size_append] at h1
  omega
set_option maxHeartbeats 1600000 in
theorem laws_markText (ki : Int) (k0 : Nat) (hki : ki = (k0 : Int)) (hk : k0 ≤ 1000000000) (w : World) : Calls Tryd.prog 87 #[.int .i64 ki] w fun e w' => e = .returned (.string (markS k0)) ∧ Below w.heap.size w w' := by
  subst hki
  by_cases h0 : k0 = 0
  · subst h0
    go_enter Tryd.func87, Tryd.ntmps87
    go_wp2
    go_ret
    exact ⟨rfl, (by first | (with_reducible exact Below.refl _ _) | ((repeat' (first | (with_reducible exact Below.refl _ _) | (with_reducible assumption) | (with_reducible refine below_alloc ?_ _) | (with_reducible refine Below.drew ?_) | (with_reducible refine below_drewN ?_ _) | (with_reducible refine Below.setCell ?_ ?_ _) | refine below_then ?_ (by with_reducible assumption))) <;> (first | omega | (simp; done) | (simp; omega))))⟩
  · have hp : 0 < k0 := by omega
    have e0 : Ending.returned (.string (⟨#[109]⟩ ++ decS (k0 : Int))) = .returned (.string (markS k0)) := by rw [markS, if_neg h0]
    have E0 := Lib.hid e0
    clear e0 h0
    go_enter Tryd.func87, Tryd.ntmps87
    go_wp2
    go_loopw [0, 3] (fun i v wr => ∃ (j : Nat) (s : ByteArray), i = .int .i64 (j : Int) ∧ v = .string s ∧ j ≤ k0 ∧ (0 < j → decS (j : Int) ++ s = decS (k0 : Int)) ∧ (j = 0 → s = decS (k0 : Int)) ∧ Below w.heap.size w wr) (fun i _ _ => (intOf i).toNat)
    case atStart => exact ⟨k0, _, rfl, rfl, Nat.le_refl _, fun _ => by apply ByteArray.ext; simp, fun h => by omega, Below.refl _ _⟩
    case round =>
      obtain ⟨j, s, rfl, rfl, hj, h1, h2, hb⟩ := hrel
      by_cases hlt : 0 < j
      · have h1 := h1 hlt
        have hsz := mark_size h1 hk
        have H1 := Lib.hid h1
        have hcv := conv_one (48 + (j : Int) % 10)
        have hw1 : IntKind.i64.wrap ((j : Int) / 10) = (j : Int) / 10 := wrapi _ (by omega) (by omega)
        have hw2 : IntKind.i64.wrap ((j : Int) % 10) = (j : Int) % 10 := wrapi _ (by omega) (by omega)
        have hw3 : IntKind.i64.wrap (48 + (j : Int) % 10) = 48 + (j : Int) % 10 := wrapi _ (by omega) (by omega)
        have hw4 : IntKind.u8.wrap (48 + (j : Int) % 10) = 48 + (j : Int) % 10 := wrapb _ (by omega) (by omega)
        clear h1 h2
        go_wp2
        go_roundw
        case rel =>
          refine ⟨j / 10, _, by go_num, rfl, by omega, fun h => ?_, fun h => ?_, by exact (by first | (with_reducible exact Below.refl _ _) | ((repeat' (first | (with_reducible exact Below.refl _ _) | (with_reducible assumption) | (with_reducible refine below_alloc ?_ _) | (with_reducible refine Below.drew ?_) | (with_reducible refine below_drewN ?_ _) | (with_reducible refine Below.setCell ?_ ?_ _) | refine below_then ?_ (by with_reducible assumption))) <;> (first | omega | (simp; done) | (simp; omega))))⟩
          · exact mark_step H1.out (by omega)
          · exact mark_last H1.out (by omega)
        case measure => simp [intOf]; omega
      · obtain rfl : j = 0 := by omega
        have H2 := Lib.hid (h2 rfl)
        have hsz := decS_len (k0 : Int) (by omega) (by omega)
        clear h1 h2
        rw [H2.out]
        go_wp2
        go_ret
        exact ⟨E0.out, hb⟩

def marksH (k n : Nat) : List Hd := (List.range n).map fun i => (markS (k + 2 * i), markS (k + 2 * i + 1))
theorem marksH_len (k n : Nat) : (marksH k n).length = n := by simp [marksH]
theorem marksH_succ (k n : Nat) : marksH k (n + 1) = marksH k n ++ [(markS (k + 2 * n), markS (k + 2 * n + 1))] := by simp [marksH, List.range_succ]
theorem marksH_at (k n i : Nat) (h : i < (marksH k n).length) : (marksH k n)[i] = (markS (k + 2 * i), markS (k + 2 * i + 1)) := by simp [marksH]
theorem hV_snoc (l : List Hd) (x y : ByteArray) : hV l ++ [.string x, .string y] = hV (l ++ [(x, y)]) := by simp [hV, cellsOf, hEnc]
theorem put_cell {w : World} {g p : Nat} {A D : List Value} (h : RowAt w g (A ++ D)) (hA : A.length = p) (hD : 1 ≤ D.length) : (∃ v, w.cell? ⟨g, p, none⟩ = some v) ∧ w.frozen? ⟨g, p, none⟩ = false :=
  ⟨⟨_, h.cell p ((A ++ D)[p]'(by rw [List.length_append]; omega)) (List.getElem?_eq_getElem _)⟩, h.free p (by rw [List.length_append]; omega)⟩
set_option maxHeartbeats 1600000 in
theorem laws_markHeaderS (lo hi : Nat) (a : Option Addr) (n c : Nat) (l : List Hd) (hl : l.length = n) (ki : Int) (k : Nat) (hki : ki = (k : Int)) (hk : k ≤ 1000000) (w : World) (hs : SlAt w lo hi a n (hV l)) (hn : n ≤ 10000000) :
    Calls Tryd.prog 25 #[.slice a n c, .int .i64 ki] w fun e w' => e = .returned (.int .i64 (ki + 2 * (n : Int))) ∧ SlAt w' lo hi a n (hV (marksH k n)) ∧ Chg w w' lo hi := by
  subst hki
  rcases hs with ⟨rfl, hnil⟩ | ⟨g, rfl, hlo, hhi, hrow⟩
  · clear hl hnil
    go_enter Tryd.func25, Tryd.ntmps25
    go_wp2
    go_loopw [1, 5] (fun v i wr => v = .int .i64 (k : Int) ∧ i = .int .i64 0 ∧ Below w.heap.size w wr) (fun _ _ _ => 0)
    case atStart => exact ⟨rfl, rfl, Below.refl _ _⟩
    case round =>
      obtain ⟨rfl, rfl, hb⟩ := hrel
      go_wp2
      go_ret
      exact ⟨rfl, .inl ⟨rfl, rfl⟩, .of_below hb _ _⟩
  · have Hrow := Lib.hid hrow
    have Hl := Lib.hid hl
    have hgl := hrow.lt
    clear hrow hl
    go_enter Tryd.func25, Tryd.ntmps25
    go_wp2
    go_loopw [1, 5] (fun v i wr => ∃ j : Nat, j ≤ n ∧ i = .int .i64 (j : Int) ∧ v = .int .i64 ((k : Int) + 2 * (j : Int)) ∧ RowAt wr g (hV (marksH k j) ++ (hV l).drop (j * 2)) ∧ Chg w wr lo hi) (fun _ i _ => n - (intOf i).toNat)
    case atStart => exact ⟨0, Nat.zero_le _, rfl, rfl, by simpa [marksH, hV, cellsOf] using Hrow.out, Chg.refl _ _ _⟩
    case round =>
      obtain ⟨j, hj, rfl, rfl, hrow, hch⟩ := hrel
      by_cases hlt : j < n
      · have hA : (hV (marksH k j)).length = j * 2 := by rw [hV_len, marksH_len]
        have hD : ((hV l).drop (j * 2)).length = n * 2 - j * 2 := by rw [List.length_drop, hV_len, Hl.out]
        have hgr := hrow.lt
        have Hr := Lib.hid hrow
        have HA := Lib.hid hA
        have HD := Lib.hid hD
        clear hrow hA hD
        go_wp2_with (first
          | (go_at_call 87; ((with_reducible refine (laws_markText _ (k + 2 * j) (by omega) (by omega) wr).mono ?_); rintro e w2 ⟨rfl, hb2⟩; have Hr2 := Lib.hid (Hr.out.then hb2); have hg2 := Hr2.out.lt; obtain ⟨⟨v0, hv0⟩, hf0⟩ := put_cell Hr2.out HA.out (by rw [HD.out]; omega); have Hr3 := Lib.hid (Hr2.out.put1 HA.out (by rw [HD.out]; omega) (.string (markS (k + 2 * j))))))
          | (go_at_call 87; ((with_reducible refine (laws_markText _ (k + 2 * j + 1) (by omega) (by omega) _).mono ?_); rintro e w3 ⟨rfl, hb3⟩; have Hr4 := Lib.hid (Hr3.out.then hb3); have hg3 := Hr4.out.lt; obtain ⟨⟨v1, hv1⟩, hf1⟩ := put_cell (p := j * 2 + 1) Hr4.out (by rw [List.length_append, HA.out]; rfl) (by rw [List.length_drop, HD.out]; omega); have Hr5 := Lib.hid (Hr4.out.put1 (p := j * 2 + 1) (by rw [List.length_append, HA.out]; rfl) (by rw [List.length_drop, HD.out]; omega) (.string (markS (k + 2 * j + 1)))))))
        go_roundw
        case rel =>
          refine ⟨j + 1, by omega, by go_num, by go_num, ?_, ?_⟩
          · have h := Hr5.out
            rw [marksH_succ, ← hV_snoc, show (j + 1) * 2 = j * 2 + 1 + 1 from by omega]
            simp only [List.append_assoc, List.drop_drop, List.singleton_append, List.cons_append, List.nil_append] at h ⊢
            exact h
          · exact (((hch.then hb2).set g _ _ hlo hhi).then hb3).set g _ _ hlo hhi
        case measure => simp [intOf]; omega
      · obtain rfl : j = n := by omega
        have Hr := Lib.hid hrow
        clear hrow
        go_wp2
        go_ret
        refine ⟨rfl, .inr ⟨g, rfl, hlo, hhi, ?_⟩, hch⟩
        have h := Hr.out
        rw [List.drop_of_length_le (by rw [hV_len, Hl.out]; exact Nat.le_refl _), List.append_nil] at h
        exact h
theorem gb_row {w : World} {g : Nat} {xs : List Value} (h : RowAt w g xs) (i : Nat) (v : Value) (hv : xs[i]? = some v) (p : Gb w) : p.w.cell? ⟨g, i, none⟩ = some v := (h.then p.h).cell i v hv
set_option maxHeartbeats 1600000 in
theorem laws_heldHeaderS (lo hi : Nat) (a : Option Addr) (n c : Nat) (ki : Int) (k : Nat) (hki : ki = (k : Int)) (hk : k ≤ 1000000) (w : World) (hs : SlAt w lo hi a n (hV (marksH k n))) (hn : n ≤ 10000000) :
    Calls Tryd.prog 88 #[.slice a n c, .int .i64 ki] w fun e w' => e = .returned (.int .i64 (ki + 2 * (n : Int))) ∧ Below w.heap.size w w' := by
  subst hki
  rcases hs with ⟨rfl, hnil⟩ | ⟨g, rfl, hlo, hhi, hrow⟩
  · clear hnil
    go_enter Tryd.func88, Tryd.ntmps88
    go_wp2
    go_loopw [1, 5] (fun v i wr => v = .int .i64 (k : Int) ∧ i = .int .i64 0 ∧ Below w.heap.size w wr) (fun _ _ _ => 0)
    case atStart => exact ⟨rfl, rfl, Below.refl _ _⟩
    case round =>
      obtain ⟨rfl, rfl, hb⟩ := hrel
      go_wp2
      go_ret
      exact ⟨rfl, hb⟩
  · have Hrow := Lib.hid hrow
    clear hrow
    go_enter Tryd.func88, Tryd.ntmps88
    go_wp2
    go_loopw [1, 5] (fun v i wr => ∃ j : Nat, j ≤ n ∧ i = .int .i64 (j : Int) ∧ v = .int .i64 ((k : Int) + 2 * (j : Int)) ∧ Below w.heap.size w wr) (fun _ i _ => n - (intOf i).toNat)
    case atStart => exact ⟨0, Nat.zero_le _, rfl, rfl, Below.refl _ _⟩
    case round =>
      obtain ⟨j, hj, rfl, rfl, hb⟩ := hrel
      by_cases hlt : j < n
      · have hlj : j < (marksH k n).length := by rw [marksH_len]; exact hlt
        have hrw := Hrow.out.then hb
        have g0 := gb_row hrw (j * 2) _ (by have := hV_at0 (marksH k n) j hlj; rw [marksH_at] at this; exact this)
        have g1 : ∀ q : Gb wr, ∀ p : Gb q.w, p.w.cell? ⟨g, j * 2 + 1, none⟩ = some (.string (markS (k + 2 * j + 1))) := fun q p => gb_row (hrw.then q.h) (j * 2 + 1) _ (by have := hV_at1 (marksH k n) j hlj; rw [marksH_at] at this; exact this) p
        clear hrw
        go_wp2
        refine wp_region_below (by kernel_rfl) (by kernel_rfl) ?_
        repeat (quiet_step ((go_at_call 87; exact gb_call (laws_markText _ (k + 2 * j) (by omega) (by omega) _))))
        refine wpQuiet_nil ?_
        intro _ hw'
        obtain ⟨p1, rfl⟩ := hw'
        have g2 := g1 p1
        clear g0 g1
        go_wp2
        refine wp_region_below (by kernel_rfl) (by kernel_rfl) ?_
        repeat (quiet_step ((go_at_call 87; exact gb_call (laws_markText _ (k + 2 * j + 1) (by omega) (by omega) _))))
        refine wpQuiet_nil ?_
        intro _ hw'
        obtain ⟨p2, rfl⟩ := hw'
        have hb2 := hb.trans (p1.h.mono hb.size)
        have hb3 := hb2.trans (p2.h.mono hb2.size)
        go_wp2
        go_roundw
        case rel => exact ⟨j + 1, by omega, by go_num, by go_num, hb3⟩
        case measure => simp [intOf]; omega
      · obtain rfl : j = n := by omega
        go_wp2
        go_ret
        exact ⟨rfl, hb⟩
theorem laws_markHeadersResult (code : Int) (lo hi : Nat) (a : Option Addr) (n c : Nat) (l : List Hd) (hl : l.length = n) (ki : Int) (k : Nat) (hki : ki = (k : Int)) (hk : k ≤ 1000000) (w : World) (hs : SlAt w lo hi a n (hV l)) (hn : n ≤ 10000000) :
    Calls Tryd.prog 26 #[.agg #[.int .i64 code, .slice a n c], .int .i64 ki] w fun e w' => e = .returned (.int .i64 (ki + 2 * (n : Int))) ∧ SlAt w' lo hi a n (hV (marksH k n)) ∧ Chg w w' lo hi := by
  subst hki
  have Hl := Lib.hid hl
  have Hs := Lib.hid hs
  clear hl hs
  go_enter Tryd.func26, Tryd.ntmps26
  go_wp2_with (go_at_call 25; ((with_reducible refine (laws_markHeaderS lo hi a n c l Hl.out _ k rfl hk _ (Hs.out.alloc _) hn).mono ?_); rintro e w2 ⟨rfl, hs2, hch⟩))
  go_ret
  exact ⟨rfl, hs2, ((Chg.refl _ _ _).alloc _).trans hch⟩
theorem laws_heldHeadersResult (code : Int) (lo hi : Nat) (a : Option Addr) (n c : Nat) (ki : Int) (k : Nat) (hki : ki = (k : Int)) (hk : k ≤ 1000000) (w : World) (hs : SlAt w lo hi a n (hV (marksH k n))) (hn : n ≤ 10000000) :
    Calls Tryd.prog 27 #[.agg #[.int .i64 code, .slice a n c], .int .i64 ki] w fun e w' => e = .returned (.int .i64 (ki + 2 * (n : Int))) ∧ Below w.heap.size w w' := by
  subst hki
  have Hs := Lib.hid hs
  clear hs
  go_enter Tryd.func27, Tryd.ntmps27
  go_wp2_with (go_at_call 88; ((with_reducible refine (laws_heldHeaderS lo hi a n c _ k rfl hk _ (Hs.out.alloc _) hn).mono ?_); rintro e w' ⟨rfl, hb⟩))
  go_ret
  exact ⟨rfl, (by first | (with_reducible exact Below.refl _ _) | ((repeat' (first | (with_reducible exact Below.refl _ _) | (with_reducible assumption) | (with_reducible refine below_alloc ?_ _) | (with_reducible refine Below.drew ?_) | (with_reducible refine below_drewN ?_ _) | (with_reducible refine Below.setCell ?_ ?_ _) | refine below_then ?_ (by with_reducible assumption))) <;> (first | omega | (simp; done) | (simp; omega))))⟩
theorem laws_eqHeadersResult (code : Int) (a a' : Option Addr) (n c c' : Nat) (l : List Hd) (hl : l.length = n) (w : World) (hr : Rd w a (hV l)) (hr' : Rd w a' (hV l)) (hn : n ≤ 9223372036854775807) :
    Calls Tryd.prog 23 #[.agg #[.int .i64 code, .slice a n c], .agg #[.int .i64 code, .slice a' n c']] w fun e w' => e = .returned (.bool true) ∧ Below w.heap.size w w' := by
  have Hl := Lib.hid hl
  clear hl
  go_enter Tryd.func23, Tryd.ntmps23
  go_wp2_with (go_at_call 24; ((with_reducible refine (eqHeaderS a a' n c c' l Hl.out _ ((hr.alloc _).alloc _) ((hr'.alloc _).alloc _) hn).mono ?_); rintro e w' ⟨rfl, hb⟩))
  go_ret
  exact ⟨rfl, (by first | (with_reducible exact Below.refl _ _) | ((repeat' (first | (with_reducible exact Below.refl _ _) | (with_reducible assumption) | (with_reducible refine below_alloc ?_ _) | (with_reducible refine Below.drew ?_) | (with_reducible refine below_drewN ?_ _) | (with_reducible refine Below.setCell ?_ ?_ _) | refine below_then ?_ (by with_reducible assumption))) <;> (first | omega | (simp; done) | (simp; omega))))⟩
end Go.Proofs.YtklnccoknldkcaaDoor
