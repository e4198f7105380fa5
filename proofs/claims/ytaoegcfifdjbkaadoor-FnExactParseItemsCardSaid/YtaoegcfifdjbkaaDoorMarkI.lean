/- Marks in rows of items. -/
import Derived.Test.YtaoegcfifdjbkaaDoorMark
import Derived.Test.YtaoegcfifdjbkaaDoorItems
namespace Go.Proofs.YtaoegcfifdjbkaaDoor
open Go.RowKit
set_option linter.unusedSimpArgs false
set_option linter.unusedVariables false

def m3 (k : Nat) : Bool := ((k : Int) % 3 == 0)
def marksI (k n : Nat) : List It := (List.range n).map fun i => (markS (k + 3 * i), m3 (k + 3 * i + 1), markS (k + 3 * i + 2))
theorem marksI_len (k n : Nat) : (marksI k n).length = n := by simp [marksI]
theorem marksI_succ (k n : Nat) : marksI k (n + 1) = marksI k n ++ [(markS (k + 3 * n), m3 (k + 3 * n + 1), markS (k + 3 * n + 2))] := by simp [marksI, List.range_succ]
theorem marksI_at (k n i : Nat) (h : i < (marksI k n).length) : (marksI k n)[i] = (markS (k + 3 * i), m3 (k + 3 * i + 1), markS (k + 3 * i + 2)) := by simp [marksI]
theorem iV_snoc (l : List It) (x : ByteArray) (p : Bool) (y : ByteArray) : iV l ++ [.string x, .bool p, .string y] = iV (l ++ [(x, p, y)]) := by simp [iV, cellsOf, iEnc]
theorem m3_eq (k : Nat) (c : Int) (h : c = ((k : Nat) : Int)) : (c % 3 == 0) = m3 k := by rw [h]; rfl
set_option maxHeartbeats 3200000 in
theorem laws_markItemS (lo hi : Nat) (a : Option Addr) (n c : Nat) (l : List It) (hl : l.length = n) (ki : Int) (k : Nat) (hki : ki = (k : Int)) (hk : k ≤ 1000000) (w : World) (hs : SlAt w lo hi a n (iV l)) (hn : n ≤ 10000000) :
    Calls Tryd.prog 118 #[.slice a n c, .int .i64 ki] w fun e w' => e = .returned (.int .i64 (ki + 3 * (n : Int))) ∧ SlAt w' lo hi a n (iV (marksI k n)) ∧ Chg w w' lo hi := by
  subst hki
  rcases hs with ⟨rfl, hnil⟩ | ⟨g, rfl, hlo, hhi, hrow⟩
  · clear hl hnil
    go_enter Tryd.func118, Tryd.ntmps118
    go_wp2
    go_loopw [1, 5] (fun v i wr => v = .int .i64 (k : Int) ∧ i = .int .i64 0 ∧ Below w.heap.size w wr) (fun _ _ _ => 0)
    case atStart => exact ⟨rfl, rfl, Below.refl _ _⟩
    case round =>
      obtain ⟨rfl, rfl, hb⟩ := hrel
      go_wp2
      go_ret
      exact ⟨rfl, .inl ⟨rfl, rfl⟩, .of_below hb _ _⟩
  · have Hrow := Lib.hid hrow
    have Hl := Lib.hid hl
    have hgl := hrow.lt
    clear hrow hl
    go_enter Tryd.func118, Tryd.ntmps118
    go_wp2
    go_loopw [1, 5] (fun v i wr => ∃ j : Nat, j ≤ n ∧ i = .int .i64 (j : Int) ∧ v = .int .i64 ((k : Int) + 3 * (j : Int)) ∧ RowAt wr g (iV (marksI k j) ++ (iV l).drop (j * 3)) ∧ Chg w wr lo hi) (fun _ i _ => n - (intOf i).toNat)
    case atStart => exact ⟨0, Nat.zero_le _, rfl, rfl, by simpa [marksI, iV, cellsOf] using Hrow.out, Chg.refl _ _ _⟩
    case round =>
      obtain ⟨j, hj, rfl, rfl, hrow, hch⟩ := hrel
      by_cases hlt : j < n
      · have hA : (iV (marksI k j)).length = j * 3 := by rw [iV_len, marksI_len]
        have hD : ((iV l).drop (j * 3)).length = n * 3 - j * 3 := by rw [List.length_drop, iV_len, Hl.out]
        have hgr := hrow.lt
        have Hr := Lib.hid hrow
        have HA := Lib.hid hA
        have HD := Lib.hid hD
        clear hrow hA hD
        go_wp2_with (first
          | (go_at_call 86; ((with_reducible refine (laws_markText _ (k + 3 * j) (by omega) (by omega) wr).mono ?_); rintro e w2 ⟨rfl, hb2⟩; have Hr2 := Lib.hid (Hr.out.then hb2); have hg2 := Hr2.out.lt; obtain ⟨⟨v0, hv0⟩, hf0⟩ := put_cell Hr2.out HA.out (by rw [HD.out]; omega); have Hr3 := Lib.hid (Hr2.out.put1 HA.out (by rw [HD.out]; omega) (.string (markS (k + 3 * j)))); obtain ⟨⟨vb, hvb⟩, hfb⟩ := put_cell (p := j * 3 + 1) Hr3.out (by rw [List.length_append, HA.out]; rfl) (by rw [List.length_drop, HD.out]; omega); have Hr4 := Lib.hid (Hr3.out.put1 (p := j * 3 + 1) (by rw [List.length_append, HA.out]; rfl) (by rw [List.length_drop, HD.out]; omega) (.bool (m3 (k + 3 * j + 1)))); have hm3 := m3_eq (k + 3 * j + 1) ((k : Int) + 3 * (j : Int) + 1) (by omega)))
          | (go_at_call 86; ((with_reducible refine (laws_markText _ (k + 3 * j + 2) (by omega) (by omega) _).mono ?_); rintro e w3 ⟨rfl, hb3⟩; have Hr5 := Lib.hid (Hr4.out.then hb3); have hg3 := Hr5.out.lt; obtain ⟨⟨v1, hv1⟩, hf1⟩ := put_cell (p := j * 3 + 2) Hr5.out (by rw [List.length_append, List.length_append, HA.out]; rfl) (by rw [List.length_drop, List.length_drop, HD.out]; omega); have Hr6 := Lib.hid (Hr5.out.put1 (p := j * 3 + 2) (by rw [List.length_append, List.length_append, HA.out]; rfl) (by rw [List.length_drop, List.length_drop, HD.out]; omega) (.string (markS (k + 3 * j + 2)))))))
        go_roundw
        case rel =>
          refine ⟨j + 1, by omega, by go_num, by go_num, ?_, ?_⟩
          · have h := Hr6.out
            rw [marksI_succ, ← iV_snoc, show (j + 1) * 3 = j * 3 + 1 + 1 + 1 from by omega]
            simp only [List.append_assoc, List.drop_drop, List.singleton_append, List.cons_append, List.nil_append] at h ⊢
            exact h
          · exact ((((hch.then hb2).set g _ _ hlo hhi).set g _ _ hlo hhi).then hb3).set g _ _ hlo hhi
        case measure => simp [intOf]; omega
      · obtain rfl : j = n := by omega
        have Hr := Lib.hid hrow
        clear hrow
        go_wp2
        go_ret
        refine ⟨rfl, .inr ⟨g, rfl, hlo, hhi, ?_⟩, hch⟩
        have h := Hr.out
        rw [List.drop_of_length_le (by rw [iV_len, Hl.out]; exact Nat.le_refl _), List.append_nil] at h
        exact h
set_option maxHeartbeats 3200000 in
theorem laws_heldItemS (lo hi : Nat) (a : Option Addr) (n c : Nat) (ki : Int) (k : Nat) (hki : ki = (k : Int)) (hk : k ≤ 1000000) (w : World) (hs : SlAt w lo hi a n (iV (marksI k n))) (hn : n ≤ 10000000) :
    Calls Tryd.prog 119 #[.slice a n c, .int .i64 ki] w fun e w' => e = .returned (.int .i64 (ki + 3 * (n : Int))) ∧ Below w.heap.size w w' := by
  subst hki
  rcases hs with ⟨rfl, hnil⟩ | ⟨g, rfl, hlo, hhi, hrow⟩
  · clear hnil
    go_enter Tryd.func119, Tryd.ntmps119
    go_wp2
    go_loopw [1, 5] (fun v i wr => v = .int .i64 (k : Int) ∧ i = .int .i64 0 ∧ Below w.heap.size w wr) (fun _ _ _ => 0)
    case atStart => exact ⟨rfl, rfl, Below.refl _ _⟩
    case round =>
      obtain ⟨rfl, rfl, hb⟩ := hrel
      go_wp2
      go_ret
      exact ⟨rfl, hb⟩
  · have Hrow := Lib.hid hrow
    clear hrow
    go_enter Tryd.func119, Tryd.ntmps119
    go_wp2
    go_loopw [1, 5] (fun v i wr => ∃ j : Nat, j ≤ n ∧ i = .int .i64 (j : Int) ∧ v = .int .i64 ((k : Int) + 3 * (j : Int)) ∧ Below w.heap.size w wr) (fun _ i _ => n - (intOf i).toNat)
    case atStart => exact ⟨0, Nat.zero_le _, rfl, rfl, Below.refl _ _⟩
    case round =>
      obtain ⟨j, hj, rfl, rfl, hb⟩ := hrel
      by_cases hlt : j < n
      · have hlj : j < (marksI k n).length := by rw [marksI_len]; exact hlt
        have hrw := Hrow.out.then hb
        have g0 := gb_row hrw (j * 3) _ (by have := iV_at0 (marksI k n) j hlj; rw [marksI_at] at this; exact this)
        have hm3 := m3_eq (k + 3 * j + 1) ((k : Int) + 3 * (j : Int) + 1) (by omega)
        have g1 : ∀ q : Gb wr, q.w.cell? ⟨g, j * 3 + 1, none⟩ = some (.bool (((k : Int) + 3 * (j : Int) + 1) % 3 == 0)) := fun q => gb_row hrw (j * 3 + 1) _ (by have := iV_at1 (marksI k n) j hlj; rw [marksI_at] at this; rw [hm3]; exact this) q
        have g2 : ∀ q : Gb wr, ∀ p : Gb q.w, p.w.cell? ⟨g, j * 3 + 2, none⟩ = some (.string (markS (k + 3 * j + 2))) := fun q p => gb_row (hrw.then q.h) (j * 3 + 2) _ (by have := iV_at2 (marksI k n) j hlj; rw [marksI_at] at this; exact this) p
        clear hrw hm3
        go_wp2
        refine wp_region_below (by kernel_rfl) (by kernel_rfl) ?_
        repeat (quiet_step ((go_at_call 86; exact gb_call (laws_markText _ (k + 3 * j) (by omega) (by omega) _))))
        refine wpQuiet_nil ?_
        intro _ hw'
        obtain ⟨p1, rfl⟩ := hw'
        have g3 := g2 p1
        have g4 := g1 p1
        clear g0 g1 g2
        go_wp2
        refine wp_region_below (by kernel_rfl) (by kernel_rfl) ?_
        repeat (quiet_step ((go_at_call 86; exact gb_call (laws_markText _ (k + 3 * j + 2) (by omega) (by omega) _))))
        refine wpQuiet_nil ?_
        intro _ hw'
        obtain ⟨p2, rfl⟩ := hw'
        have hb2 := hb.trans (p1.h.mono hb.size)
        have hb3 := hb2.trans (p2.h.mono hb2.size)
        go_wp2
        go_roundw
        case rel => exact ⟨j + 1, by omega, by go_num, by go_num, hb3⟩
        case measure => simp [intOf]; omega
      · obtain rfl : j = n := by omega
        go_wp2
        go_ret
        exact ⟨rfl, hb⟩
theorem laws_markItemsResult (code : Int) (lo hi : Nat) (a : Option Addr) (n c : Nat) (l : List It) (hl : l.length = n) (ki : Int) (k : Nat) (hki : ki = (k : Int)) (hk : k ≤ 1000000) (w : World) (hs : SlAt w lo hi a n (iV l)) (hn : n ≤ 10000000) :
    Calls Tryd.prog 60 #[.agg #[.int .i64 code, .slice a n c], .int .i64 ki] w fun e w' => e = .returned (.int .i64 (ki + 3 * (n : Int))) ∧ SlAt w' lo hi a n (iV (marksI k n)) ∧ Chg w w' lo hi := by
  subst hki
  have Hl := Lib.hid hl
  have Hs := Lib.hid hs
  clear hl hs
  go_enter Tryd.func60, Tryd.ntmps60
  go_wp2_with (go_at_call 118; ((with_reducible refine (laws_markItemS lo hi a n c l Hl.out _ k rfl hk _ (Hs.out.alloc _) hn).mono ?_); rintro e w2 ⟨rfl, hs2, hch⟩))
  go_ret
  exact ⟨rfl, hs2, ((Chg.refl _ _ _).alloc _).trans hch⟩
theorem laws_heldItemsResult (code : Int) (lo hi : Nat) (a : Option Addr) (n c : Nat) (ki : Int) (k : Nat) (hki : ki = (k : Int)) (hk : k ≤ 1000000) (w : World) (hs : SlAt w lo hi a n (iV (marksI k n))) (hn : n ≤ 10000000) :
    Calls Tryd.prog 61 #[.agg #[.int .i64 code, .slice a n c], .int .i64 ki] w fun e w' => e = .returned (.int .i64 (ki + 3 * (n : Int))) ∧ Below w.heap.size w w' := by
  subst hki
  have Hs := Lib.hid hs
  clear hs
  have hge : 0 ≤ (k : Int) := by omega
  go_enter Tryd.func61, Tryd.ntmps61
  go_wp2_with (go_at_call 119; ((with_reducible refine (laws_heldItemS lo hi a n c _ k rfl hk _ (Hs.out.alloc _) hn).mono ?_); rintro e w' ⟨rfl, hb⟩))
  go_ret
  exact ⟨rfl, (by first | (with_reducible exact Below.refl _ _) | ((repeat' (first | (with_reducible exact Below.refl _ _) | (with_reducible assumption) | (with_reducible refine below_alloc ?_ _) | (with_reducible refine Below.drew ?_) | (with_reducible refine below_drewN ?_ _) | (with_reducible refine Below.setCell ?_ ?_ _) | refine below_then ?_ (by with_reducible assumption))) <;> (first | omega | (simp; done) | (simp; omega))))⟩
theorem laws_eqItemsResult (code : Int) (a a' : Option Addr) (n c c' : Nat) (l : List It) (hl : l.length = n) (w : World) (hr : Rd w a (iV l)) (hr' : Rd w a' (iV l)) (hn : n ≤ 9223372036854775807) :
    Calls Tryd.prog 59 #[.agg #[.int .i64 code, .slice a n c], .agg #[.int .i64 code, .slice a' n c']] w fun e w' => e = .returned (.bool true) ∧ Below w.heap.size w w' := by
  have Hl := Lib.hid hl
  clear hl
  go_enter Tryd.func59, Tryd.ntmps59
  go_wp2_with (go_at_call 117; ((with_reducible refine (eqItemS a a' n c c' l Hl.out _ ((hr.alloc _).alloc _) ((hr'.alloc _).alloc _) hn).mono ?_); rintro e w' ⟨rfl, hb⟩))
  go_ret
  exact ⟨rfl, (by first | (with_reducible exact Below.refl _ _) | ((repeat' (first | (with_reducible exact Below.refl _ _) | (with_reducible assumption) | (with_reducible refine below_alloc ?_ _) | (with_reducible refine Below.drew ?_) | (with_reducible refine below_drewN ?_ _) | (with_reducible refine Below.setCell ?_ ?_ _) | refine below_then ?_ (by with_reducible assumption))) <;> (first | omega | (simp; done) | (simp; omega))))⟩
end Go.Proofs.YtaoegcfifdjbkaaDoor
