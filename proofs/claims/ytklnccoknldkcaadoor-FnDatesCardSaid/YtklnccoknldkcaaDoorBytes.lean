/- Slices of bytes: copied, measured, compared, as strings. -/
import Derived.Test.YtklnccoknldkcaaDoorBV
import Derived.Test.YtklnccoknldkcaaDoorSlice
namespace Go.Proofs.YtklnccoknldkcaaDoor
open Go.RowKit
set_option linter.unusedSimpArgs false
set_option linter.unusedVariables false

theorem blk_other {w : World} {g : Nat} {o : Obj} (h : w.heap[g]? = some o) (b k : Nat) (v : Value) (hne : b ≠ g) : (w.setCell ⟨b, k, none⟩ v).heap[g]? = some o := by
  simp [World.setCell, Array.getElem?_modify, h, hne]
theorem blk_new' (w : World) (o : Obj) (g : Nat) (hg : g = w.heap.size) : (w.alloc o).heap[g]? = some o := by subst hg; exact heap_alloc_new w o
/-- 'string(b)' of a slice that can be read. -/
theorem conv_rd (w : World) (a : Option Addr) (n c : Nat) (l : List UInt8) (hl : l.length = n) (h : Rd w a (bV l)) :
    (convert 22 9 (.slice a n c)).run Tryd.prog w = .ok (.string ⟨l.toArray⟩) w := by
  cases l with
  | nil =>
    subst hl
    cases a with
    | none => exact run_convert_bytes_nil (P := Tryd.prog) w 22 5 Tryd.underlying22 Tryd.underlying5 0 c 9 Tryd.underlying9
    | some a =>
      show (convert 22 9 (.slice (some a) 0 c)).run Tryd.prog w = _
      rw [run_convert_bytes_string w 22 9 5 (some a) 0 c Tryd.underlying22 Tryd.underlying5 Tryd.underlying9]
      exact run_bytesToString w a 0 c [] (by simp [loadCells, loadCellsFrom])
  | cons x l =>
    obtain ⟨b, off, rfl, _, _⟩ := h 0 _ (bV_at (x :: l) 0 (by simp))
    have := run_convert_bytes_arg (P := Tryd.prog) w 22 5 Tryd.underlying22 Tryd.underlying5 b off n c ((x :: l).map fun b => (b.toNat : Int)) (by rw [List.length_map]; exact hl) (fun i hi => by
      obtain ⟨b', off', e, _, hc⟩ := h i _ (bV_at (x :: l) i (by omega))
      cases e
      rw [hc]
      have hi' : i < (x :: l).length := by omega
      rw [List.getD_eq_getElem?_getD, List.getElem?_map, List.getElem?_eq_getElem hi']
      rfl) 9 Tryd.underlying9
    rw [this]
    have e : ((x :: l).map fun b => (b.toNat : Int)).map (fun n => UInt8.ofNat n.toNat) = x :: l := by
      rw [List.map_map]
      exact (List.map_congr_left fun b _ => by simp).trans (List.map_id _)
    have e2 : strOfNums ((x :: l).map fun b => (b.toNat : Int)) = ⟨(x :: l).toArray⟩ := by
      unfold strOfNums
      rw [e]
    rw [e2]

theorem toByteS (a : Option Addr) (n cap : Nat) (l : List UInt8) (hl : l.length = n) (w : World) (hr : Rd w a (bV l)) (hn : n ≤ 281474976710656) :
    Calls Tryd.prog 53 #[.slice a n cap] w fun e w' => ∃ g, e = .returned (.slice (some ⟨g, 0, none⟩) n n) ∧ w.heap.size ≤ g ∧ RowAt w' g (bV l) ∧ Below w.heap.size w w' := by
  obtain ⟨W, D, hmk, hDl, hrow, hbel, hlt0⟩ := make_there w 22 5 Tryd.underlying22 infoByte n (by omega) (by unfold maxLen; omega)
  have Hrow := Lib.hid hrow
  have Hl := Lib.hid hl
  have HD := Lib.hid hDl
  clear hrow hl hDl
  go_enter Tryd.func53, Tryd.ntmps53
  go_wp2
  go_loopw [4] (fun i wr => ∃ k : Nat, k ≤ n ∧ i = .int .i64 k ∧ RowAt wr w.heap.size (bV (l.take k) ++ D.drop k) ∧ Below w.heap.size w wr) (fun i _ => n - (intOf i).toNat)
  case atStart => exact ⟨0, Nat.zero_le _, rfl, Hrow.out, hbel⟩
  case round =>
    clear hmk
    obtain ⟨k, hk, rfl, hrow, hb⟩ := hrel
    have Hr := Lib.hid hrow
    clear hrow
    by_cases hlt : k < n
    · have hlk : k < l.length := by rw [Hl.out]; exact hlt
      have hDk : k < D.length := by rw [HD.out]; omega
      obtain ⟨b, off, rfl, hbl, hcell⟩ := (hr.below hb) k _ (bV_at l k hlk)
      have hby := (l[k]).toNat_lt
      have hd := Hr.out.cell k D[k] (by rw [List.getElem?_append_right (by rw [bV_len, List.length_take]; omega), bV_len, List.length_take, show k - min k l.length = 0 from by omega, List.getElem?_drop]; simp [hDk])
      have hf := Hr.out.free k (by rw [List.length_append, bV_len, List.length_take, List.length_drop]; omega)
      go_wp2
      go_roundw
      case rel =>
        refine ⟨k + 1, by omega, by go_num, ?_, hb.setCell (Nat.le_refl _) _⟩
        have h := Hr.out.put1 (p := k) (by rw [bV_len, List.length_take]; omega) (by rw [List.length_drop]; omega) (.int .u8 (l[k].toNat : Int))
        rw [List.drop_drop] at h
        rw [bV_take l k hlk]
        exact h
      case measure => simp [intOf]; omega
    · have hk' : k = n := by omega
      have Hk := Lib.hid hk'
      clear hk'
      go_wp2
      go_ret
      refine ⟨_, rfl, Nat.le_refl _, ?_, hb⟩
      have h := Hr.out
      rw [Hk.out, List.take_of_length_le (by rw [Hl.out]; exact Nat.le_refl _), List.drop_of_length_le (by rw [HD.out]; omega), List.append_nil] at h
      exact h

set_option maxHeartbeats 800000 in
theorem eqByteS (a a' : Option Addr) (n c c' : Nat) (l : List UInt8) (hl : l.length = n) (w : World) (hr : Rd w a (bV l)) (hr' : Rd w a' (bV l)) (hn : n ≤ 9223372036854775807) : Calls Tryd.prog 56 #[.slice a n c, .slice a' n c'] w fun e w' => e = .returned (.bool true) ∧ Below w.heap.size w w' := by
  have Hl := Lib.hid hl
  clear hl
  go_enter Tryd.func56, Tryd.ntmps56
  go_wp2
  go_loopw [5] (fun i wr => ∃ k : Nat, k ≤ n ∧ i = .int .i64 k ∧ Below w.heap.size w wr) (fun i _ => n - (intOf i).toNat)
  case atStart => exact ⟨0, Nat.zero_le _, rfl, Below.refl _ _⟩
  case round =>
    obtain ⟨k, hk, rfl, hb⟩ := hrel
    by_cases hlt : k < n
    · have hlk : k < l.length := by rw [Hl.out]; exact hlt
      obtain ⟨b, off, rfl, hbl, hcell⟩ := (hr.below hb) k _ (bV_at l k hlk)
      obtain ⟨b', off', rfl, hbl', hcell'⟩ := (hr'.below hb) k _ (bV_at l k hlk)
      go_wp2
      go_quiet (fail)
      go_wp2
      go_roundw
      case rel => exact ⟨k + 1, by omega, by go_num, below_drewN hb _⟩
      case measure => simp [intOf]; omega
    · go_wp2
      go_ret
      exact ⟨rfl, hb⟩
end Go.Proofs.YtklnccoknldkcaaDoor
