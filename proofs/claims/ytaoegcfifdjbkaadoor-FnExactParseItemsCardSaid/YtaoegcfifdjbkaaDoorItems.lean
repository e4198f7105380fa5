/- Slices of items: copied, measured, compared. -/
import Derived.Test.YtaoegcfifdjbkaaDoorSlice
namespace Go.Proofs.YtaoegcfifdjbkaaDoor
open Go.RowKit
set_option linter.unusedSimpArgs false
set_option linter.unusedVariables false

abbrev It := ByteArray × Bool × ByteArray
def iEnc (h : It) : List Value := [.string h.1, .bool h.2.1, .string h.2.2]
def iV (l : List It) : List Value := cellsOf iEnc l
theorem iEnc_len (h : It) : (iEnc h).length = 3 := rfl
theorem iV_len (l : List It) : (iV l).length = l.length * 3 := cellsOf_len iEnc_len l
theorem iV_at0 (l : List It) (k : Nat) (h : k < l.length) : (iV l)[k * 3]? = some (.string l[k].1) := cellsOf_at iEnc_len l k h 0 (by omega)
theorem iV_at1 (l : List It) (k : Nat) (h : k < l.length) : (iV l)[k * 3 + 1]? = some (.bool l[k].2.1) := cellsOf_at iEnc_len l k h 1 (by omega)
theorem iV_at2 (l : List It) (k : Nat) (h : k < l.length) : (iV l)[k * 3 + 2]? = some (.string l[k].2.2) := cellsOf_at iEnc_len l k h 2 (by omega)
theorem infoItem : (Tryd.prog.info? 126).map (fun i => (i.zero, i.size, i.bytes)) = some (some (.agg #[.string ⟨#[]⟩, .bool false, .string ⟨#[]⟩]), 3, 40) := by kernel_rfl
theorem Rd.item {w : World} {a : Option Addr} {l : List It} (h : Rd w a (iV l)) (k : Nat) (hk : k < l.length) : ∃ b off, a = some ⟨b, off, none⟩ ∧ b < w.heap.size ∧ w.cell? ⟨b, off + k * 3, none⟩ = some (.string l[k].1) ∧ w.cell? ⟨b, off + k * 3 + 1, none⟩ = some (.bool l[k].2.1) ∧ w.cell? ⟨b, off + k * 3 + 2, none⟩ = some (.string l[k].2.2) := by
  obtain ⟨b, off, ha, hb, h0⟩ := h _ _ (iV_at0 l k hk)
  obtain ⟨b', off', ha', hb', h1⟩ := h _ _ (iV_at1 l k hk)
  obtain ⟨b'', off'', ha'', hb'', h2⟩ := h _ _ (iV_at2 l k hk)
  rw [ha] at ha' ha''
  cases ha'
  cases ha''
  exact ⟨b, off, ha, hb, h0, by rw [Nat.add_assoc]; exact h1, by rw [Nat.add_assoc]; exact h2⟩

theorem eqItem (x : ByteArray) (p : Bool) (y : ByteArray) (w : World) : Calls Tryd.prog 168 #[.agg #[.string x, .bool p, .string y], .agg #[.string x, .bool p, .string y]] w fun e w' => e = .returned (.bool true) ∧ Below w.heap.size w w' := by
  go_enter Tryd.func168, Tryd.ntmps168
  go_wp2
  all_goals (go_ret; exact ⟨by first | rfl | (simp [*]; done) | (simp [*]; omega), by first | (with_reducible rfl) | exact (by first | (with_reducible exact Below.refl _ _) | ((repeat' (first | (with_reducible exact Below.refl _ _) | (with_reducible assumption) | (with_reducible refine below_alloc ?_ _) | (with_reducible refine Below.drew ?_) | (with_reducible refine below_drewN ?_ _) | (with_reducible refine Below.setCell ?_ ?_ _) | refine below_then ?_ (by with_reducible assumption))) <;> (first | omega | (simp; done) | (simp; omega))))⟩)

set_option maxRecDepth 100000 in
set_option maxHeartbeats 800000 in
theorem eqItemS (a a' : Option Addr) (n c c' : Nat) (l : List It) (hl : l.length = n) (w : World) (hr : Rd w a (iV l)) (hr' : Rd w a' (iV l)) (hn : n ≤ 9223372036854775807) : Calls Tryd.prog 117 #[.slice a n c, .slice a' n c'] w fun e w' => e = .returned (.bool true) ∧ Below w.heap.size w w' := by
  have Hl := Lib.hid hl
  clear hl
  go_enter Tryd.func117, Tryd.ntmps117
  go_wp2
  go_loopw [5] (fun i wr => ∃ k : Nat, k ≤ n ∧ i = .int .i64 k ∧ Below w.heap.size w wr) (fun i _ => n - (intOf i).toNat)
  case atStart => exact ⟨0, Nat.zero_le _, rfl, Below.refl _ _⟩
  case round =>
    obtain ⟨k, hk, rfl, hb⟩ := hrel
    by_cases hlt : k < n
    · have hlk : k < l.length := by rw [Hl.out]; exact hlt
      obtain ⟨b, off, rfl, hbl, hc0, hc1, hc2⟩ := (hr.below hb).item k hlk
      obtain ⟨b', off', rfl, hbl', hd0, hd1, hd2⟩ := (hr'.below hb).item k hlk
      go_wp2
      go_still_tail 8, (by kernel_rfl)
      change wpList _ _ _ _ _ wr.drew
      generalize hwd : wr.drew = w2
      have hb2 : Below w.heap.size w w2 := by rw [← hwd]; exact hb.drew
      clear hwd
      go_wp2_with (go_at_call 168; ((with_reducible refine (eqItem _ _ _ _).mono ?_); rintro e w3 ⟨rfl, hb3⟩))
      go_roundw
      case rel => exact ⟨k + 1, by omega, by go_num, below_then hb2 hb3⟩
      case measure => simp [intOf]; omega
    · go_wp2
      go_ret
      exact ⟨rfl, hb⟩

def itNe (x y : It) : Bool := !(x.1.toList == y.1.toList && (x.2.1 == y.2.1 && x.2.2.toList == y.2.2.toList))
theorem itNe_true {x y : It} (h : x ≠ y) : itNe x y = true := by
  unfold itNe
  rw [Bool.not_eq_true', Bool.and_eq_false_iff, Bool.and_eq_false_iff]
  by_cases h1 : x.1 = y.1
  · by_cases h2 : x.2.1 = y.2.1
    · exact .inr (.inr (bytes_ne fun h3 => h (Prod.ext h1 (Prod.ext h2 h3))))
    · exact .inr (.inl (by simpa using h2))
  · exact .inl (bytes_ne h1)
theorem itNe_false (x : It) : itNe x x = false := by simp [itNe]
theorem neq_item (x y : It) (w : World) : (binOp .neq 126 (.agg #[.string x.1, .bool x.2.1, .string x.2.2]) (.agg #[.string y.1, .bool y.2.1, .string y.2.2])).run Tryd.prog w = .ok (.bool (itNe x y)) w := by
  have u9 := Tryd.underlying9
  have a9 := Tryd.isAgg9
  have z9 := Tryd.sizeOf9
  have u4 := Tryd.underlying4
  have a4 := Tryd.isAgg4
  have z4 := Tryd.sizeOf4
  have hS : Tryd.prog.underlying 126 = some (.struct (Tryd.prog.fieldsOf 126)) := by kernel_rfl
  have hp : Tryd.prog.stoodInHeld 126 = false := by kernel_rfl
  rw [run_neq_struct, show (10000 : Nat) = 9999 + 1 from rfl, run_equalIn_agg w 9999 126 _ _ hS hp]
  simp only [Program.fieldsOf, Tryd.underlying126]
  go_simp
  unfold itNe
  cases h1 : (x.1.toList == y.1.toList) <;> cases h2 : (x.2.1 == y.2.1) <;> cases h3 : (x.2.2.toList == y.2.2.toList) <;> simp_all

end Go.Proofs.YtaoegcfifdjbkaaDoor
