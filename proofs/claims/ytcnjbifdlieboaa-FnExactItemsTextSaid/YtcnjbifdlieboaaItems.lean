/- Slices of items: copied, measured, compared. -/
import Derived.Test.YtcnjbifdlieboaaSlice
namespace Go.Proofs.Ytcnjbifdlieboaa
open Go.RowKit
set_option linter.unusedSimpArgs false
set_option linter.unusedVariables false

abbrev It := ByteArray × Bool × ByteArray
def iEnc (h : It) : List Value := [.string h.1, .bool h.2.1, .string h.2.2]
def iV (l : List It) : List Value := cellsOf iEnc l
theorem iEnc_len (h : It) : (iEnc h).length = 3 := rfl
theorem iV_len (l : List It) : (iV l).length = l.length * 3 := cellsOf_len iEnc_len l
theorem iV_at0 (l : List It) (k : Nat) (h : k < l.length) : (iV l)[k * 3]? = some (.string l[k].1) := cellsOf_at iEnc_len l k h 0 (by omega)
theorem iV_at1 (l : List It) (k : Nat) (h : k < l.length) : (iV l)[k * 3 + 1]? = some (.bool l[k].2.1) := cellsOf_at iEnc_len l k h 1 (by omega)
theorem iV_at2 (l : List It) (k : Nat) (h : k < l.length) : (iV l)[k * 3 + 2]? = some (.string l[k].2.2) := cellsOf_at iEnc_len l k h 2 (by omega)
theorem infoItem : (Try.prog.info? 61).map (fun i => (i.zero, i.size, i.bytes)) = some (some (.agg #[.string ⟨#[]⟩, .bool false, .string ⟨#[]⟩]), 3, 40) := by kernel_rfl
theorem Rd.item {w : World} {a : Option Addr} {l : List It} (h : Rd w a (iV l)) (k : Nat) (hk : k < l.length) : ∃ b off, a = some ⟨b, off, none⟩ ∧ b < w.heap.size ∧ w.cell? ⟨b, off + k * 3, none⟩ = some (.string l[k].1) ∧ w.cell? ⟨b, off + k * 3 + 1, none⟩ = some (.bool l[k].2.1) ∧ w.cell? ⟨b, off + k * 3 + 2, none⟩ = some (.string l[k].2.2) := by
  obtain ⟨b, off, ha, hb, h0⟩ := h _ _ (iV_at0 l k hk)
  obtain ⟨b', off', ha', hb', h1⟩ := h _ _ (iV_at1 l k hk)
  obtain ⟨b'', off'', ha'', hb'', h2⟩ := h _ _ (iV_at2 l k hk)
  rw [ha] at ha' ha''
  cases ha'
  cases ha''
  exact ⟨b, off, ha, hb, h0, by rw [Nat.add_assoc]; exact h1, by rw [Nat.add_assoc]; exact h2⟩

theorem toItem (x : ByteArray) (p : Bool) (y : ByteArray) (w : World) : Calls Try.prog 41 #[.agg #[.string x, .bool p, .string y]] w fun e w' => e = .returned (.agg #[.string x, .bool p, .string y]) ∧ Below w.heap.size w w' := by
  go_enter Try.func41, Try.ntmps41
  go_wp2
  all_goals exact bodyPost_ret (by first | ((simp [results, Try.results41, go_sem]; try rfl); done) | ((simp [results, Try.results41, go_sem, *]; try rfl); done) | ((simp (maxDischargeDepth := 8) [results, Try.results41, go_sem, *]; try rfl); done)) rfl ⟨rfl, by first | (with_reducible rfl) | exact (by first | (with_reducible exact Below.refl _ _) | ((repeat' (first | (with_reducible exact Below.refl _ _) | (with_reducible assumption) | (with_reducible refine below_alloc ?_ _) | (with_reducible refine Below.drew ?_) | (with_reducible refine below_drewN ?_ _) | (with_reducible refine Below.setCell ?_ ?_ _) | refine below_then ?_ (by with_reducible assumption))) <;> (first | omega | (simp; done) | (simp; omega))))⟩

theorem toItemS (a : Option Addr) (n cap : Nat) (l : List It) (hl : l.length = n) (w : World) (hr : Rd w a (iV l)) (hn : n * 40 ≤ 281474976710656) :
    Calls Try.prog 18 #[.slice a n cap] w fun e w' => ∃ g, e = .returned (.slice (some ⟨g, 0, none⟩) n n) ∧ w.heap.size ≤ g ∧ RowAt w' g (iV l) ∧ Below w.heap.size w w' := by
  obtain ⟨W, D, hmk, hDl, hrow, hbel, hlt0⟩ := make_there w 36 61 Try.underlying36 infoItem n (by omega) (by unfold maxLen; omega)
  have Hrow := Lib.hid hrow
  have Hl := Lib.hid hl
  have HD := Lib.hid hDl
  clear hrow hl hDl
  go_enter Try.func18, Try.ntmps18
  go_wp2
  go_loopw [4] (fun i wr => ∃ k : Nat, k ≤ n ∧ i = .int .i64 k ∧ RowAt wr w.heap.size (iV (l.take k) ++ D.drop (k * 3)) ∧ Below w.heap.size w wr) (fun i _ => n - (intOf i).toNat)
  case atStart => exact ⟨0, Nat.zero_le _, rfl, by simpa [iV, cellsOf] using Hrow.out, hbel⟩
  case round =>
    clear hmk
    obtain ⟨k, hk, rfl, hrow, hb⟩ := hrel
    have Hr := Lib.hid hrow
    clear hrow
    by_cases hlt : k < n
    · have hlk : k < l.length := by rw [Hl.out]; exact hlt
      obtain ⟨b, off, rfl, hbl, hc0, hc1, hc2⟩ := (hr.below hb).item k hlk
      have hA : (iV (l.take k)).length = k * 3 := by rw [iV_len, List.length_take]; omega
      have hD2 : (D.drop (k * 3)).length = n * 3 - k * 3 := by rw [List.length_drop, HD.out]
      have HA := Lib.hid hA
      have HD2 := Lib.hid hD2
      clear hA hD2
      go_wp2_with (go_at_call 41; ((with_reducible refine (toItem _ _ _ _).mono ?_); rintro e w2 ⟨rfl, hb2⟩; have Hr2 := Lib.hid (Hr.out.then hb2); have hbb := below_then hb hb2; obtain ⟨v0, hv0⟩ : ∃ v, w2.cell? ⟨w.heap.size, k * 3, none⟩ = some v := ⟨_, Hr2.out.cell (k * 3) ((iV (l.take k) ++ D.drop (k * 3))[k * 3]'(by rw [List.length_append, HA.out, HD2.out]; omega)) (List.getElem?_eq_getElem _)⟩; obtain ⟨v1, hv1⟩ : ∃ v, w2.cell? ⟨w.heap.size, k * 3 + 1, none⟩ = some v := ⟨_, Hr2.out.cell (k * 3 + 1) ((iV (l.take k) ++ D.drop (k * 3))[k * 3 + 1]'(by rw [List.length_append, HA.out, HD2.out]; omega)) (List.getElem?_eq_getElem _)⟩; obtain ⟨v2, hv2⟩ : ∃ v, w2.cell? ⟨w.heap.size, k * 3 + 2, none⟩ = some v := ⟨_, Hr2.out.cell (k * 3 + 2) ((iV (l.take k) ++ D.drop (k * 3))[k * 3 + 2]'(by rw [List.length_append, HA.out, HD2.out]; omega)) (List.getElem?_eq_getElem _)⟩; have hf2 := Hr2.out.free (k * 3 + 2) (by rw [List.length_append, HA.out, HD2.out]; omega); have hf0 := Hr2.out.free (k * 3) (by rw [List.length_append, HA.out, HD2.out]; omega); have hf1 := Hr2.out.free (k * 3 + 1) (by rw [List.length_append, HA.out, HD2.out]; omega)))
      go_roundw
      case rel =>
        refine ⟨k + 1, by omega, by go_num, ?_, ((hbb.setCell (Nat.le_refl _) _).setCell (Nat.le_refl _) _).setCell (Nat.le_refl _) _⟩
        have h := Hr2.out.put3 HA.out (by rw [HD2.out]; omega) (.string l[k].1) (.bool l[k].2.1) (.string l[k].2.2)
        rw [List.drop_drop] at h
        have e : iV (l.take (k + 1)) = iV (l.take k) ++ [.string l[k].1, .bool l[k].2.1, .string l[k].2.2] := cellsOf_take l k hlk
        rw [e, show (k + 1) * 3 = k * 3 + 3 from by omega]
        exact h
      case measure => simp [intOf]; omega
    · have hk' : k = n := by omega
      have Hk := Lib.hid hk'
      clear hk'
      go_wp2
      go_ret
      refine ⟨_, rfl, Nat.le_refl _, ?_, hb⟩
      have h := Hr.out
      rw [Hk.out, List.take_of_length_le (by rw [Hl.out]; exact Nat.le_refl _), List.drop_of_length_le (by rw [HD.out]; exact Nat.le_refl _), List.append_nil] at h
      exact h

theorem szItem (x : ByteArray) (p : Bool) (y : ByteArray) (left : Int) (h0 : 0 ≤ left) (h1 : left ≤ 1048576) (hx : x.size ≤ 9223372036854775807) (hy : y.size ≤ 9223372036854775807) (w : World) :
    Calls Try.prog 38 #[.agg #[.string x, .bool p, .string y], .int .i64 left] w fun e w' => ∃ r : Int, e = .returned (.int .i64 r) ∧ (-1 ≤ r ∧ r ≤ 1048576) ∧ Below w.heap.size w w' := by
  by_cases g1 : left < x.size
  · go_enter Try.func38, Try.ntmps38
    go_wp2
    go_ret
    exact ⟨_, rfl, by omega, (by first | (with_reducible exact Below.refl _ _) | ((repeat' (first | (with_reducible exact Below.refl _ _) | (with_reducible assumption) | (with_reducible refine below_alloc ?_ _) | (with_reducible refine Below.drew ?_) | (with_reducible refine below_drewN ?_ _) | (with_reducible refine Below.setCell ?_ ?_ _) | refine below_then ?_ (by with_reducible assumption))) <;> (first | omega | (simp; done) | (simp; omega))))⟩
  · by_cases g2 : left - x.size < y.size
    · go_enter Try.func38, Try.ntmps38
      go_wp2
      go_ret
      exact ⟨_, rfl, by omega, (by first | (with_reducible exact Below.refl _ _) | ((repeat' (first | (with_reducible exact Below.refl _ _) | (with_reducible assumption) | (with_reducible refine below_alloc ?_ _) | (with_reducible refine Below.drew ?_) | (with_reducible refine below_drewN ?_ _) | (with_reducible refine Below.setCell ?_ ?_ _) | refine below_then ?_ (by with_reducible assumption))) <;> (first | omega | (simp; done) | (simp; omega))))⟩
    · go_enter Try.func38, Try.ntmps38
      go_wp2
      go_ret
      exact ⟨_, rfl, by omega, (by first | (with_reducible exact Below.refl _ _) | ((repeat' (first | (with_reducible exact Below.refl _ _) | (with_reducible assumption) | (with_reducible refine below_alloc ?_ _) | (with_reducible refine Below.drew ?_) | (with_reducible refine below_drewN ?_ _) | (with_reducible refine Below.setCell ?_ ?_ _) | refine below_then ?_ (by with_reducible assumption))) <;> (first | omega | (simp; done) | (simp; omega))))⟩

theorem szItemS (a : Option Addr) (n cap : Nat) (l : List It) (hl : l.length = n) (left : Int) (h0 : 0 ≤ left) (h1 : left ≤ 1048576) (w : World) (hr : Rd w a (iV l)) (hn : n ≤ 9223372036854775807) (hs : ∀ h ∈ l, h.1.size ≤ 9223372036854775807 ∧ h.2.2.size ≤ 9223372036854775807) :
    Calls Try.prog 16 #[.slice a n cap, .int .i64 left] w fun e w' => ∃ r : Int, e = .returned (.int .i64 r) ∧ SzR n left r ∧ Below w.heap.size w w' := by
  have Hl := Lib.hid hl
  have Hs := Lib.hid hs
  clear hl hs
  by_cases hneg : left < n
  · go_enter Try.func16, Try.ntmps16
    go_wp2
    go_ret
    exact ⟨_, rfl, SzR.of (by omega) (by omega) (by omega), (by first | (with_reducible exact Below.refl _ _) | ((repeat' (first | (with_reducible exact Below.refl _ _) | (with_reducible assumption) | (with_reducible refine below_alloc ?_ _) | (with_reducible refine Below.drew ?_) | (with_reducible refine below_drewN ?_ _) | (with_reducible refine Below.setCell ?_ ?_ _) | refine below_then ?_ (by with_reducible assumption))) <;> (first | omega | (simp; done) | (simp; omega))))⟩
  · go_enter Try.func16, Try.ntmps16
    go_wp2
    go_loopw [1, 5] (fun v i wr => ∃ (k : Nat) (r : Int), k ≤ n ∧ i = .int .i64 k ∧ v = .int .i64 r ∧ 0 ≤ r ∧ r ≤ 1048576 ∧ Below w.heap.size w wr) (fun _ i _ => n - (intOf i).toNat)
    case atStart => exact ⟨0, _, Nat.zero_le _, rfl, rfl, by omega, by omega, Below.refl _ _⟩
    case round =>
      obtain ⟨k, r, hk, rfl, rfl, hr0, hr1, hb⟩ := hrel
      by_cases hlt : k < n
      · have hlk : k < l.length := by rw [Hl.out]; exact hlt
        obtain ⟨b, off, rfl, hbl, hc0, hc1, hc2⟩ := (hr.below hb).item k hlk
        have hsz := Hs.out l[k] (List.getElem_mem hlk)
        go_wp2_with (go_at_call 38; ((with_reducible refine (szItem _ _ _ _ hr0 hr1 hsz.1 hsz.2 _).mono ?_); rintro e w2 ⟨r2, rfl, ⟨hr2, hr3⟩, hb2⟩))
        · go_ret
          exact ⟨_, rfl, SzR.of (by omega) (by omega) (by omega), below_then hb hb2⟩
        · go_roundw
          case rel => exact ⟨k + 1, _, by omega, by go_num, rfl, by omega, by omega, below_then hb hb2⟩
          case measure => simp [intOf]; omega
      · go_wp2
        go_ret
        exact ⟨_, rfl, SzR.of (by omega) (by omega) (by omega), hb⟩

theorem eqItem (x : ByteArray) (p : Bool) (y : ByteArray) (w : World) : Calls Try.prog 45 #[.agg #[.string x, .bool p, .string y], .agg #[.string x, .bool p, .string y]] w fun e w' => e = .returned (.bool true) ∧ Below w.heap.size w w' := by
  go_enter Try.func45, Try.ntmps45
  go_wp2
  all_goals (go_ret; exact ⟨by first | rfl | (simp [*]; done) | (simp [*]; omega), by first | (with_reducible rfl) | exact (by first | (with_reducible exact Below.refl _ _) | ((repeat' (first | (with_reducible exact Below.refl _ _) | (with_reducible assumption) | (with_reducible refine below_alloc ?_ _) | (with_reducible refine Below.drew ?_) | (with_reducible refine below_drewN ?_ _) | (with_reducible refine Below.setCell ?_ ?_ _) | refine below_then ?_ (by with_reducible assumption))) <;> (first | omega | (simp; done) | (simp; omega))))⟩)

set_option maxRecDepth 100000 in
set_option maxHeartbeats 800000 in
theorem eqItemS (a a' : Option Addr) (n c c' : Nat) (l : List It) (hl : l.length = n) (w : World) (hr : Rd w a (iV l)) (hr' : Rd w a' (iV l)) (hn : n ≤ 9223372036854775807) : Calls Try.prog 21 #[.slice a n c, .slice a' n c'] w fun e w' => e = .returned (.bool true) ∧ Below w.heap.size w w' := by
  have Hl := Lib.hid hl
  clear hl
  go_enter Try.func21, Try.ntmps21
  go_wp2
  go_loopw [5] (fun i wr => ∃ k : Nat, k ≤ n ∧ i = .int .i64 k ∧ Below w.heap.size w wr) (fun i _ => n - (intOf i).toNat)
  case atStart => exact ⟨0, Nat.zero_le _, rfl, Below.refl _ _⟩
  case round =>
    obtain ⟨k, hk, rfl, hb⟩ := hrel
    by_cases hlt : k < n
    · have hlk : k < l.length := by rw [Hl.out]; exact hlt
      obtain ⟨b, off, rfl, hbl, hc0, hc1, hc2⟩ := (hr.below hb).item k hlk
      obtain ⟨b', off', rfl, hbl', hd0, hd1, hd2⟩ := (hr'.below hb).item k hlk
      go_wp2
      go_still_tail 8, (by kernel_rfl)
      change wpList _ _ _ _ _ wr.drew
      generalize hwd : wr.drew = w2
      have hb2 : Below w.heap.size w w2 := by rw [← hwd]; exact hb.drew
      clear hwd
      go_wp2_with (go_at_call 45; ((with_reducible refine (eqItem _ _ _ _).mono ?_); rintro e w3 ⟨rfl, hb3⟩))
      go_roundw
      case rel => exact ⟨k + 1, by omega, by go_num, below_then hb2 hb3⟩
      case measure => simp [intOf]; omega
    · go_wp2
      go_ret
      exact ⟨rfl, hb⟩

def itNe (x y : It) : Bool := !(x.1.toList == y.1.toList && (x.2.1 == y.2.1 && x.2.2.toList == y.2.2.toList))
theorem itNe_true {x y : It} (h : x ≠ y) : itNe x y = true := by
  unfold itNe
  rw [Bool.not_eq_true', Bool.and_eq_false_iff, Bool.and_eq_false_iff]
  by_cases h1 : x.1 = y.1
  · by_cases h2 : x.2.1 = y.2.1
    · exact .inr (.inr (bytes_ne fun h3 => h (Prod.ext h1 (Prod.ext h2 h3))))
    · exact .inr (.inl (by simpa using h2))
  · exact .inl (bytes_ne h1)
theorem itNe_false (x : It) : itNe x x = false := by simp [itNe]
theorem neq_item (x y : It) (w : World) : (binOp .neq 61 (.agg #[.string x.1, .bool x.2.1, .string x.2.2]) (.agg #[.string y.1, .bool y.2.1, .string y.2.2])).run Try.prog w = .ok (.bool (itNe x y)) w := by
  have u9 := Try.underlying9
  have a9 := Try.isAgg9
  have z9 := Try.sizeOf9
  have u4 := Try.underlying4
  have a4 := Try.isAgg4
  have z4 := Try.sizeOf4
  have hS : Try.prog.underlying 61 = some (.struct (Try.prog.fieldsOf 61)) := by kernel_rfl
  have hp : Try.prog.stoodInHeld 61 = false := by kernel_rfl
  rw [run_neq_struct, show (10000 : Nat) = 9999 + 1 from rfl, run_equalIn_agg w 9999 61 _ _ hS hp]
  simp only [Program.fieldsOf, Try.underlying61]
  go_simp
  unfold itNe
  cases h1 : (x.1.toList == y.1.toList) <;> cases h2 : (x.2.1 == y.2.1) <;> cases h3 : (x.2.2.toList == y.2.2.toList) <;> simp_all

end Go.Proofs.Ytcnjbifdlieboaa
