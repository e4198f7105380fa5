/- Marks in bytes, in requests, and what a result of bytes says. -/
import Derived.Test.YtaoegcfifdjbkaaDoorMark
import Derived.Test.YtaoegcfifdjbkaaDoorBytes
namespace Go.Proofs.YtaoegcfifdjbkaaDoor
open Go.RowKit
set_option linter.unusedSimpArgs false
set_option linter.unusedVariables false

def marksB (k n : Nat) : List UInt8 := (List.range n).map fun i => UInt8.ofNat (k + i)
theorem marksB_len (k n : Nat) : (marksB k n).length = n := by simp [marksB]
theorem marksB_succ (k n : Nat) : marksB k (n + 1) = marksB k n ++ [UInt8.ofNat (k + n)] := by simp [marksB, List.range_succ]
theorem marksB_at (k n i : Nat) (h : i < (marksB k n).length) : (marksB k n)[i] = UInt8.ofNat (k + i) := by simp [marksB]
theorem bV_snoc (l : List UInt8) (x : UInt8) : bV l ++ [.int .u8 (x.toNat : Int)] = bV (l ++ [x]) := by simp [bV, byteV]
theorem wrap8 (m : Nat) : IntKind.u8.wrap (m : Int) = ((UInt8.ofNat m).toNat : Int) := by
  rw [UInt8.toNat_ofNat']
  simp [IntKind.wrap, IntKind.bits, IntKind.signed]
set_option maxHeartbeats 1600000 in
theorem laws_markByteS (lo hi : Nat) (a : Option Addr) (n c : Nat) (l : List UInt8) (hl : l.length = n) (ki : Int) (k : Nat) (hki : ki = (k : Int)) (hk : k ≤ 1000000000) (w : World) (hs : SlAt w lo hi a n (bV l)) (hn : n ≤ 281474976710656) :
    Calls Tryd.prog 106 #[.slice a n c, .int .i64 ki] w fun e w' => e = .returned (.int .i64 (ki + (n : Int))) ∧ SlAt w' lo hi a n (bV (marksB k n)) ∧ Chg w w' lo hi := by
  subst hki
  rcases hs with ⟨rfl, hnil⟩ | ⟨g, rfl, hlo, hhi, hrow⟩
  · clear hl hnil
    go_enter Tryd.func106, Tryd.ntmps106
    go_wp2
    go_loopw [1, 5] (fun v i wr => v = .int .i64 (k : Int) ∧ i = .int .i64 0 ∧ Below w.heap.size w wr) (fun _ _ _ => 0)
    case atStart => exact ⟨rfl, rfl, Below.refl _ _⟩
    case round =>
      obtain ⟨rfl, rfl, hb⟩ := hrel
      go_wp2
      go_ret
      exact ⟨rfl, .inl ⟨rfl, rfl⟩, .of_below hb _ _⟩
  · have Hrow := Lib.hid hrow
    have Hl := Lib.hid hl
    have hgl := hrow.lt
    clear hrow hl
    go_enter Tryd.func106, Tryd.ntmps106
    go_wp2
    go_loopw [1, 5] (fun v i wr => ∃ j : Nat, j ≤ n ∧ i = .int .i64 (j : Int) ∧ v = .int .i64 ((k : Int) + (j : Int)) ∧ RowAt wr g (bV (marksB k j) ++ (bV l).drop j) ∧ Chg w wr lo hi) (fun _ i _ => n - (intOf i).toNat)
    case atStart => exact ⟨0, Nat.zero_le _, rfl, rfl, by simpa [marksB, bV] using Hrow.out, Chg.refl _ _ _⟩
    case round =>
      obtain ⟨j, hj, rfl, rfl, hrow, hch⟩ := hrel
      by_cases hlt : j < n
      · have hA : (bV (marksB k j)).length = j := by rw [bV_len, marksB_len]
        have hD : ((bV l).drop j).length = n - j := by rw [List.length_drop, bV_len, Hl.out]
        have hgr := hrow.lt
        obtain ⟨⟨v0, hv0⟩, hf0⟩ := put_cell hrow hA (by rw [hD]; omega)
        obtain ⟨u, hu⟩ : ∃ u, UInt8.ofNat (k + j) = u := ⟨_, rfl⟩
        have hwr : IntKind.u8.wrap ((k : Int) + (j : Int)) = (u.toNat : Int) := by
          rw [← hu, ← wrap8 (k + j)]
          congr 1
        have Hr3 := Lib.hid (hrow.put1 hA (by rw [hD]; omega) (.int .u8 (u.toNat : Int)))
        have Hu := Lib.hid hu
        clear hrow hA hD hu
        go_wp2
        go_roundw
        case rel =>
          refine ⟨j + 1, by omega, by go_num, by go_num, ?_, hch.set g _ _ hlo hhi⟩
          have h := Hr3.out
          rw [marksB_succ, Hu.out, ← bV_snoc]
          simp only [List.append_assoc, List.drop_drop, List.singleton_append, List.cons_append, List.nil_append] at h ⊢
          exact h
        case measure => simp [intOf]; omega
      · obtain rfl : j = n := by omega
        have Hr := Lib.hid hrow
        clear hrow
        go_wp2
        go_ret
        refine ⟨rfl, .inr ⟨g, rfl, hlo, hhi, ?_⟩, hch⟩
        have h := Hr.out
        rw [List.drop_of_length_le (by rw [bV_len, Hl.out]; exact Nat.le_refl _), List.append_nil] at h
        exact h
set_option maxHeartbeats 1600000 in
theorem laws_heldByteS (lo hi : Nat) (a : Option Addr) (n c : Nat) (ki : Int) (k : Nat) (hki : ki = (k : Int)) (hk : k ≤ 1000000) (w : World) (hs : SlAt w lo hi a n (bV (marksB k n))) (hn : n ≤ 281474976710656) :
    Calls Tryd.prog 107 #[.slice a n c, .int .i64 ki] w fun e w' => e = .returned (.int .i64 (ki + (n : Int))) ∧ Below w.heap.size w w' := by
  subst hki
  rcases hs with ⟨rfl, hnil⟩ | ⟨g, rfl, hlo, hhi, hrow⟩
  · clear hnil
    go_enter Tryd.func107, Tryd.ntmps107
    go_wp2
    go_loopw [1, 5] (fun v i wr => v = .int .i64 (k : Int) ∧ i = .int .i64 0 ∧ Below w.heap.size w wr) (fun _ _ _ => 0)
    case atStart => exact ⟨rfl, rfl, Below.refl _ _⟩
    case round =>
      obtain ⟨rfl, rfl, hb⟩ := hrel
      go_wp2
      go_ret
      exact ⟨rfl, hb⟩
  · have Hrow := Lib.hid hrow
    clear hrow
    go_enter Tryd.func107, Tryd.ntmps107
    go_wp2
    go_loopw [1, 5] (fun v i wr => ∃ j : Nat, j ≤ n ∧ i = .int .i64 (j : Int) ∧ v = .int .i64 ((k : Int) + (j : Int)) ∧ Below w.heap.size w wr) (fun _ i _ => n - (intOf i).toNat)
    case atStart => exact ⟨0, Nat.zero_le _, rfl, rfl, Below.refl _ _⟩
    case round =>
      obtain ⟨j, hj, rfl, rfl, hb⟩ := hrel
      by_cases hlt : j < n
      · have hlj : j < (marksB k n).length := by rw [marksB_len]; exact hlt
        obtain ⟨u, hu⟩ : ∃ u, UInt8.ofNat (k + j) = u := ⟨_, rfl⟩
        have hwr : IntKind.u8.wrap ((k : Int) + (j : Int)) = (u.toNat : Int) := by
          rw [← hu, ← wrap8 (k + j)]
          congr 1
        have g0 : wr.cell? ⟨g, j, none⟩ = some (.int .u8 (u.toNat : Int)) := (Hrow.out.then hb).cell j _ (by have := bV_at (marksB k n) j hlj; rw [marksB_at, hu] at this; exact this)
        clear hlj hu
        go_wp2
        go_roundw
        case rel => exact ⟨j + 1, by omega, by go_num, by go_num, hb⟩
        case measure => simp [intOf]; omega
      · obtain rfl : j = n := by omega
        go_wp2
        go_ret
        exact ⟨rfl, hb⟩
theorem laws_markBytesResult (code : Int) (lo hi : Nat) (a : Option Addr) (n c : Nat) (l : List UInt8) (hl : l.length = n) (ki : Int) (k : Nat) (hki : ki = (k : Int)) (hk : k ≤ 1000000) (w : World) (hs : SlAt w lo hi a n (bV l)) (hn : n ≤ 281474976710656) :
    Calls Tryd.prog 49 #[.agg #[.int .i64 code, .slice a n c], .int .i64 ki] w fun e w' => e = .returned (.int .i64 (ki + (n : Int))) ∧ SlAt w' lo hi a n (bV (marksB k n)) ∧ Chg w w' lo hi := by
  subst hki
  have Hl := Lib.hid hl
  have Hs := Lib.hid hs
  clear hl hs
  go_enter Tryd.func49, Tryd.ntmps49
  go_wp2_with (go_at_call 106; ((with_reducible refine (laws_markByteS lo hi a n c l Hl.out _ k rfl (by omega) _ (Hs.out.alloc _) hn).mono ?_); rintro e w2 ⟨rfl, hs2, hch⟩))
  go_ret
  exact ⟨rfl, hs2, ((Chg.refl _ _ _).alloc _).trans hch⟩
theorem laws_heldBytesResult (code : Int) (lo hi : Nat) (a : Option Addr) (n c : Nat) (ki : Int) (k : Nat) (hki : ki = (k : Int)) (hk : k ≤ 1000000) (w : World) (hs : SlAt w lo hi a n (bV (marksB k n))) (hn : n ≤ 281474976710656) :
    Calls Tryd.prog 50 #[.agg #[.int .i64 code, .slice a n c], .int .i64 ki] w fun e w' => e = .returned (.int .i64 (ki + (n : Int))) ∧ Below w.heap.size w w' := by
  subst hki
  have Hs := Lib.hid hs
  clear hs
  go_enter Tryd.func50, Tryd.ntmps50
  go_wp2_with (go_at_call 107; ((with_reducible refine (laws_heldByteS lo hi a n c _ k rfl hk _ (Hs.out.alloc _) hn).mono ?_); rintro e w' ⟨rfl, hb⟩))
  go_ret
  exact ⟨rfl, (by first | (with_reducible exact Below.refl _ _) | ((repeat' (first | (with_reducible exact Below.refl _ _) | (with_reducible assumption) | (with_reducible refine below_alloc ?_ _) | (with_reducible refine Below.drew ?_) | (with_reducible refine below_drewN ?_ _) | (with_reducible refine Below.setCell ?_ ?_ _) | refine below_then ?_ (by with_reducible assumption))) <;> (first | omega | (simp; done) | (simp; omega))))⟩
theorem laws_eqBytesResult (code : Int) (a a' : Option Addr) (n c c' : Nat) (l : List UInt8) (hl : l.length = n) (w : World) (hr : Rd w a (bV l)) (hr' : Rd w a' (bV l)) (hn : n ≤ 9223372036854775807) :
    Calls Tryd.prog 46 #[.agg #[.int .i64 code, .slice a n c], .agg #[.int .i64 code, .slice a' n c']] w fun e w' => e = .returned (.bool true) ∧ Below w.heap.size w w' := by
  have Hl := Lib.hid hl
  clear hl
  go_enter Tryd.func46, Tryd.ntmps46
  go_wp2_with (go_at_call 105; ((with_reducible refine (eqByteS a a' n c c' l Hl.out _ ((hr.alloc _).alloc _) ((hr'.alloc _).alloc _) hn).mono ?_); rintro e w' ⟨rfl, hb⟩))
  go_ret
  exact ⟨rfl, (by first | (with_reducible exact Below.refl _ _) | ((repeat' (first | (with_reducible exact Below.refl _ _) | (with_reducible assumption) | (with_reducible refine below_alloc ?_ _) | (with_reducible refine Below.drew ?_) | (with_reducible refine below_drewN ?_ _) | (with_reducible refine Below.setCell ?_ ?_ _) | refine below_then ?_ (by with_reducible assumption))) <;> (first | omega | (simp; done) | (simp; omega))))⟩
theorem laws_markRequest (m h p : ByteArray) (lo hi : Nat) (a : Option Addr) (n c : Nat) (l : List Hd) (hl : l.length = n) (ki : Int) (k : Nat) (hki : ki = (k : Int)) (hk : k ≤ 1000000) (w : World) (hs : SlAt w lo hi a n (hV l)) (hn : n ≤ 10000000) :
    Calls Tryd.prog 48 #[.agg #[.string m, .string h, .string p, .slice a n c], .int .i64 ki] w fun e w' => e = .returned (.int .i64 (ki + 2 * (n : Int))) ∧ SlAt w' lo hi a n (hV (marksH k n)) ∧ Chg w w' lo hi := by
  subst hki
  have Hl := Lib.hid hl
  have Hs := Lib.hid hs
  clear hl hs
  go_enter Tryd.func48, Tryd.ntmps48
  go_wp2_with (go_at_call 31; ((with_reducible refine (laws_markHeaderS lo hi a n c l Hl.out _ k rfl hk _ (Hs.out.alloc _) hn).mono ?_); rintro e w2 ⟨rfl, hs2, hch⟩))
  go_ret
  exact ⟨rfl, hs2, ((Chg.refl _ _ _).alloc _).trans hch⟩
end Go.Proofs.YtaoegcfifdjbkaaDoor
