/- Joined: Hdrs. -/
import Derived.Test.YthiogijicknoiaaGreatDoorJB0
/- Slices of head lines: copied, measured, compared. -/
namespace Go.Proofs.YthiogijicknoiaaGreatDoor
open Go.RowKit
set_option linter.unusedSimpArgs false
set_option linter.unusedVariables false

abbrev Hd := ByteArray × ByteArray
def hEnc (h : Hd) : List Value := [.string h.1, .string h.2]
def hV (l : List Hd) : List Value := cellsOf hEnc l
theorem hEnc_len (h : Hd) : (hEnc h).length = 2 := rfl
theorem hV_len (l : List Hd) : (hV l).length = l.length * 2 := cellsOf_len hEnc_len l
theorem hV_at0 (l : List Hd) (k : Nat) (h : k < l.length) : (hV l)[k * 2]? = some (.string l[k].1) := cellsOf_at hEnc_len l k h 0 (by omega)
theorem hV_at1 (l : List Hd) (k : Nat) (h : k < l.length) : (hV l)[k * 2 + 1]? = some (.string l[k].2) := cellsOf_at hEnc_len l k h 1 (by omega)
theorem infoHdr : (Tryz.prog.info? 112).map (fun i => (i.zero, i.size, i.bytes)) = some (some (.agg #[.string ⟨#[]⟩, .string ⟨#[]⟩]), 2, 32) := by kernel_rfl
theorem Rd.hdr {w : World} {a : Option Addr} {l : List Hd} (h : Rd w a (hV l)) (k : Nat) (hk : k < l.length) : ∃ b off, a = some ⟨b, off, none⟩ ∧ b < w.heap.size ∧ w.cell? ⟨b, off + k * 2, none⟩ = some (.string l[k].1) ∧ w.cell? ⟨b, off + k * 2 + 1, none⟩ = some (.string l[k].2) := by
  obtain ⟨b, off, ha, hb, h0⟩ := h _ _ (hV_at0 l k hk)
  obtain ⟨b', off', ha', hb', h1⟩ := h _ _ (hV_at1 l k hk)
  rw [ha] at ha'
  cases ha'
  exact ⟨b, off, ha, hb, h0, by rw [Nat.add_assoc]; exact h1⟩

theorem toHeader (x y : ByteArray) (w : World) : Calls Tryz.prog 128 #[.agg #[.string x, .string y]] w fun e w' => e = .returned (.agg #[.string x, .string y]) ∧ Below w.heap.size w w' := by
  go_enter Tryz.func128, Tryz.ntmps128
  go_wp2
  all_goals exact bodyPost_ret (by first | ((simp [results, Tryz.results128, go_sem]; try rfl); done) | ((simp [results, Tryz.results128, go_sem, *]; try rfl); done) | ((simp (maxDischargeDepth := 8) [results, Tryz.results128, go_sem, *]; try rfl); done)) rfl ⟨rfl, by first | (with_reducible rfl) | exact (by first | (with_reducible exact Below.refl _ _) | ((repeat' (first | (with_reducible exact Below.refl _ _) | (with_reducible assumption) | (with_reducible refine below_alloc ?_ _) | (with_reducible refine Below.drew ?_) | (with_reducible refine below_drewN ?_ _) | (with_reducible refine Below.setCell ?_ ?_ _) | refine below_then ?_ (by with_reducible assumption))) <;> (first | omega | (simp; done) | (simp; omega))))⟩

theorem toHeaderS (a : Option Addr) (n cap : Nat) (l : List Hd) (hl : l.length = n) (w : World) (hr : Rd w a (hV l)) (hn : n * 32 ≤ 281474976710656) :
    Calls Tryz.prog 68 #[.slice a n cap] w fun e w' => ∃ g, e = .returned (.slice (some ⟨g, 0, none⟩) n n) ∧ w.heap.size ≤ g ∧ RowAt w' g (hV l) ∧ Below w.heap.size w w' := by
  obtain ⟨W, D, hmk, hDl, hrow, hbel, hlt0⟩ := make_there w 24 112 Tryz.underlying24 infoHdr n (by omega) (by unfold maxLen; omega)
  have Hrow := Lib.hid hrow
  have Hl := Lib.hid hl
  have HD := Lib.hid hDl
  clear hrow hl hDl
  go_enter Tryz.func68, Tryz.ntmps68
  go_wp2
  go_loopw [4] (fun i wr => ∃ k : Nat, k ≤ n ∧ i = .int .i64 k ∧ RowAt wr w.heap.size (hV (l.take k) ++ D.drop (k * 2)) ∧ Below w.heap.size w wr) (fun i _ => n - (intOf i).toNat)
  case atStart => exact ⟨0, Nat.zero_le _, rfl, by simpa [hV, cellsOf] using Hrow.out, hbel⟩
  case round =>
    clear hmk
    obtain ⟨k, hk, rfl, hrow, hb⟩ := hrel
    have Hr := Lib.hid hrow
    clear hrow
    by_cases hlt : k < n
    · have hlk : k < l.length := by rw [Hl.out]; exact hlt
      obtain ⟨b, off, rfl, hbl, hc0, hc1⟩ := (hr.below hb).hdr k hlk
      have hA : (hV (l.take k)).length = k * 2 := by rw [hV_len, List.length_take]; omega
      have hD2 : (D.drop (k * 2)).length = n * 2 - k * 2 := by rw [List.length_drop, HD.out]
      have HA := Lib.hid hA
      have HD2 := Lib.hid hD2
      clear hA hD2
      go_wp2_with (go_at_call 128; ((with_reducible refine (toHeader _ _ _).mono ?_); rintro e w2 ⟨rfl, hb2⟩; have Hr2 := Lib.hid (Hr.out.then hb2); have hbb := below_then hb hb2; obtain ⟨v0, hv0⟩ : ∃ v, w2.cell? ⟨w.heap.size, k * 2, none⟩ = some v := ⟨_, Hr2.out.cell (k * 2) ((hV (l.take k) ++ D.drop (k * 2))[k * 2]'(by rw [List.length_append, HA.out, HD2.out]; omega)) (List.getElem?_eq_getElem _)⟩; obtain ⟨v1, hv1⟩ : ∃ v, w2.cell? ⟨w.heap.size, k * 2 + 1, none⟩ = some v := ⟨_, Hr2.out.cell (k * 2 + 1) ((hV (l.take k) ++ D.drop (k * 2))[k * 2 + 1]'(by rw [List.length_append, HA.out, HD2.out]; omega)) (List.getElem?_eq_getElem _)⟩; have hf0 := Hr2.out.free (k * 2) (by rw [List.length_append, HA.out, HD2.out]; omega); have hf1 := Hr2.out.free (k * 2 + 1) (by rw [List.length_append, HA.out, HD2.out]; omega)))
      go_roundw
      case rel =>
        refine ⟨k + 1, by omega, by go_num, ?_, (hbb.setCell (Nat.le_refl _) _).setCell (Nat.le_refl _) _⟩
        have h := Hr2.out.put2 HA.out (by rw [HD2.out]; omega) (.string l[k].1) (.string l[k].2)
        rw [List.drop_drop] at h
        have e : hV (l.take (k + 1)) = hV (l.take k) ++ [.string l[k].1, .string l[k].2] := cellsOf_take l k hlk
        rw [e, show (k + 1) * 2 = k * 2 + 2 from by omega]
        exact h
      case measure => simp [intOf]; omega
    · have hk' : k = n := by omega
      have Hk := Lib.hid hk'
      clear hk'
      go_wp2
      go_ret
      refine ⟨_, rfl, Nat.le_refl _, ?_, hb⟩
      have h := Hr.out
      rw [Hk.out, List.take_of_length_le (by rw [Hl.out]; exact Nat.le_refl _), List.drop_of_length_le (by rw [HD.out]; exact Nat.le_refl _), List.append_nil] at h
      exact h

theorem szHeader (x y : ByteArray) (left : Int) (h0 : 0 ≤ left) (h1 : left ≤ 1048576) (hx : x.size ≤ 9223372036854775807) (hy : y.size ≤ 9223372036854775807) (w : World) :
    Calls Tryz.prog 127 #[.agg #[.string x, .string y], .int .i64 left] w fun e w' => ∃ r : Int, e = .returned (.int .i64 r) ∧ (-1 ≤ r ∧ r ≤ 1048576) ∧ Below w.heap.size w w' := by
  by_cases g1 : left < x.size
  · go_enter Tryz.func127, Tryz.ntmps127
    go_wp2
    go_ret
    exact ⟨_, rfl, by omega, (by first | (with_reducible exact Below.refl _ _) | ((repeat' (first | (with_reducible exact Below.refl _ _) | (with_reducible assumption) | (with_reducible refine below_alloc ?_ _) | (with_reducible refine Below.drew ?_) | (with_reducible refine below_drewN ?_ _) | (with_reducible refine Below.setCell ?_ ?_ _) | refine below_then ?_ (by with_reducible assumption))) <;> (first | omega | (simp; done) | (simp; omega))))⟩
  · by_cases g2 : left - x.size < y.size
    · go_enter Tryz.func127, Tryz.ntmps127
      go_wp2
      go_ret
      exact ⟨_, rfl, by omega, (by first | (with_reducible exact Below.refl _ _) | ((repeat' (first | (with_reducible exact Below.refl _ _) | (with_reducible assumption) | (with_reducible refine below_alloc ?_ _) | (with_reducible refine Below.drew ?_) | (with_reducible refine below_drewN ?_ _) | (with_reducible refine Below.setCell ?_ ?_ _) | refine below_then ?_ (by with_reducible assumption))) <;> (first | omega | (simp; done) | (simp; omega))))⟩
    · go_enter Tryz.func127, Tryz.ntmps127
      go_wp2
      go_ret
      exact ⟨_, rfl, by omega, (by first | (with_reducible exact Below.refl _ _) | ((repeat' (first | (with_reducible exact Below.refl _ _) | (with_reducible assumption) | (with_reducible refine below_alloc ?_ _) | (with_reducible refine Below.drew ?_) | (with_reducible refine below_drewN ?_ _) | (with_reducible refine Below.setCell ?_ ?_ _) | refine below_then ?_ (by with_reducible assumption))) <;> (first | omega | (simp; done) | (simp; omega))))⟩

theorem szHeaderS (a : Option Addr) (n cap : Nat) (l : List Hd) (hl : l.length = n) (left : Int) (h0 : 0 ≤ left) (h1 : left ≤ 1048576) (w : World) (hr : Rd w a (hV l)) (hn : n ≤ 9223372036854775807) (hs : ∀ h ∈ l, h.1.size ≤ 9223372036854775807 ∧ h.2.size ≤ 9223372036854775807) :
    Calls Tryz.prog 67 #[.slice a n cap, .int .i64 left] w fun e w' => ∃ r : Int, e = .returned (.int .i64 r) ∧ SzR n left r ∧ Below w.heap.size w w' := by
  have Hl := Lib.hid hl
  have Hs := Lib.hid hs
  clear hl hs
  by_cases hneg : left < n
  · go_enter Tryz.func67, Tryz.ntmps67
    go_wp2
    go_ret
    exact ⟨_, rfl, SzR.of (by omega) (by omega) (by omega), (by first | (with_reducible exact Below.refl _ _) | ((repeat' (first | (with_reducible exact Below.refl _ _) | (with_reducible assumption) | (with_reducible refine below_alloc ?_ _) | (with_reducible refine Below.drew ?_) | (with_reducible refine below_drewN ?_ _) | (with_reducible refine Below.setCell ?_ ?_ _) | refine below_then ?_ (by with_reducible assumption))) <;> (first | omega | (simp; done) | (simp; omega))))⟩
  · go_enter Tryz.func67, Tryz.ntmps67
    go_wp2
    go_loopw [1, 5] (fun v i wr => ∃ (k : Nat) (r : Int), k ≤ n ∧ i = .int .i64 k ∧ v = .int .i64 r ∧ 0 ≤ r ∧ r ≤ 1048576 ∧ Below w.heap.size w wr) (fun _ i _ => n - (intOf i).toNat)
    case atStart => exact ⟨0, _, Nat.zero_le _, rfl, rfl, by omega, by omega, Below.refl _ _⟩
    case round =>
      obtain ⟨k, r, hk, rfl, rfl, hr0, hr1, hb⟩ := hrel
      by_cases hlt : k < n
      · have hlk : k < l.length := by rw [Hl.out]; exact hlt
        obtain ⟨b, off, rfl, hbl, hc0, hc1⟩ := (hr.below hb).hdr k hlk
        have hsz := Hs.out l[k] (List.getElem_mem hlk)
        go_wp2_with (go_at_call 127; ((with_reducible refine (szHeader _ _ _ hr0 hr1 hsz.1 hsz.2 _).mono ?_); rintro e w2 ⟨r2, rfl, ⟨hr2, hr3⟩, hb2⟩))
        · go_ret
          exact ⟨_, rfl, SzR.of (by omega) (by omega) (by omega), below_then hb hb2⟩
        · go_roundw
          case rel => exact ⟨k + 1, _, by omega, by go_num, rfl, by omega, by omega, below_then hb hb2⟩
          case measure => simp [intOf]; omega
      · go_wp2
        go_ret
        exact ⟨_, rfl, SzR.of (by omega) (by omega) (by omega), hb⟩

theorem eqHeader (x y : ByteArray) (w : World) : Calls Tryz.prog 129 #[.agg #[.string x, .string y], .agg #[.string x, .string y]] w fun e w' => e = .returned (.bool true) ∧ Below w.heap.size w w' := by
  go_enter Tryz.func129, Tryz.ntmps129
  go_wp2
  all_goals (go_ret; exact ⟨by first | rfl | (simp [*]; done) | (simp [*]; omega), by first | (with_reducible rfl) | exact (by first | (with_reducible exact Below.refl _ _) | ((repeat' (first | (with_reducible exact Below.refl _ _) | (with_reducible assumption) | (with_reducible refine below_alloc ?_ _) | (with_reducible refine Below.drew ?_) | (with_reducible refine below_drewN ?_ _) | (with_reducible refine Below.setCell ?_ ?_ _) | refine below_then ?_ (by with_reducible assumption))) <;> (first | omega | (simp; done) | (simp; omega))))⟩)

set_option maxRecDepth 100000 in
set_option maxHeartbeats 800000 in
theorem eqHeaderS (a a' : Option Addr) (n c c' : Nat) (l : List Hd) (hl : l.length = n) (w : World) (hr : Rd w a (hV l)) (hr' : Rd w a' (hV l)) (hn : n ≤ 9223372036854775807) : Calls Tryz.prog 69 #[.slice a n c, .slice a' n c'] w fun e w' => e = .returned (.bool true) ∧ Below w.heap.size w w' := by
  have Hl := Lib.hid hl
  clear hl
  go_enter Tryz.func69, Tryz.ntmps69
  go_wp2
  go_loopw [5] (fun i wr => ∃ k : Nat, k ≤ n ∧ i = .int .i64 k ∧ Below w.heap.size w wr) (fun i _ => n - (intOf i).toNat)
  case atStart => exact ⟨0, Nat.zero_le _, rfl, Below.refl _ _⟩
  case round =>
    obtain ⟨k, hk, rfl, hb⟩ := hrel
    by_cases hlt : k < n
    · have hlk : k < l.length := by rw [Hl.out]; exact hlt
      obtain ⟨b, off, rfl, hbl, hc0, hc1⟩ := (hr.below hb).hdr k hlk
      obtain ⟨b', off', rfl, hbl', hd0, hd1⟩ := (hr'.below hb).hdr k hlk
      go_wp2
      go_still_tail 8, (by kernel_rfl)
      change wpList _ _ _ _ _ wr.drew
      generalize hwd : wr.drew = w2
      have hb2 : Below w.heap.size w w2 := by rw [← hwd]; exact hb.drew
      clear hwd
      go_wp2_with (go_at_call 129; ((with_reducible refine (eqHeader _ _ _).mono ?_); rintro e w3 ⟨rfl, hb3⟩))
      go_roundw
      case rel => exact ⟨k + 1, by omega, by go_num, below_then hb2 hb3⟩
      case measure => simp [intOf]; omega
    · go_wp2
      go_ret
      exact ⟨rfl, hb⟩

def hdNe (x y : Hd) : Bool := !(x.1.toList == y.1.toList && x.2.toList == y.2.toList)
theorem hdNe_true {x y : Hd} (h : x ≠ y) : hdNe x y = true := by
  unfold hdNe
  rw [Bool.not_eq_true', Bool.and_eq_false_iff]
  by_cases h1 : x.1 = y.1
  · refine .inr ?_
    exact bytes_ne fun h2 => h (Prod.ext h1 h2)
  · refine .inl ?_
    exact bytes_ne h1
theorem hdNe_false (x : Hd) : hdNe x x = false := by simp [hdNe]
theorem neq_hdr (x y : Hd) (w : World) : (binOp .neq 112 (.agg #[.string x.1, .string x.2]) (.agg #[.string y.1, .string y.2])).run Tryz.prog w = .ok (.bool (hdNe x y)) w := by
  have u9 := Tryz.underlying9
  have a9 := Tryz.isAgg9
  have z9 := Tryz.sizeOf9
  have hS : Tryz.prog.underlying 112 = some (.struct (Tryz.prog.fieldsOf 112)) := by kernel_rfl
  have hp : Tryz.prog.stoodInHeld 112 = false := by kernel_rfl
  rw [run_neq_struct, show (10000 : Nat) = 9999 + 1 from rfl, run_equalIn_agg w 9999 112 _ _ hS hp]
  simp only [Program.fieldsOf, Tryz.underlying112]
  go_simp
  unfold hdNe
  cases h1 : (x.1.toList == y.1.toList) <;> cases h2 : (x.2.toList == y.2.toList) <;> simp_all

set_option maxRecDepth 100000 in
set_option maxHeartbeats 800000 in
theorem spec_SameHeaders (a a' : Option Addr) (n m c c' : Nat) (l l' : List Hd) (hl : l.length = n) (hl' : l'.length = m) (w : World) (hr : Rd w a (hV l)) (hr' : Rd w a' (hV l')) (hn : n ≤ 9223372036854775807) (hm : m ≤ 9223372036854775807) :
    Calls Tryz.prog 47 #[.slice a n c, .slice a' m c'] w fun e w' => e = .returned (.bool (decide (l = l'))) ∧ Below w.heap.size w w' := by
  by_cases hnm : n = m
  · subst hnm
    have hgd : Tryz.prog.eqGuardType Tryz.prog.depth 112 = false := by kernel_rfl
    have Hl := Lib.hid hl
    have Hl' := Lib.hid hl'
    clear hl hl'
    have hyes : l = l' → Ending.returned (.bool true) = .returned (.bool (decide (l = l'))) := fun h => by rw [decide_eq_true h]
    have hno : l ≠ l' → Ending.returned (.bool false) = .returned (.bool (decide (l = l'))) := fun h => by rw [decide_eq_false h]
    have Hyes := Lib.hid hyes
    have Hno := Lib.hid hno
    clear hyes hno
    go_enter Tryz.func47, Tryz.ntmps47
    go_wp2
    go_loopw [5] (fun i wr => ∃ k : Nat, k ≤ n ∧ i = .int .i64 k ∧ l.take k = l'.take k ∧ Below w.heap.size w wr) (fun i _ => n - (intOf i).toNat)
    case atStart => exact ⟨0, Nat.zero_le _, rfl, rfl, Below.refl _ _⟩
    case round =>
      obtain ⟨k, hk, rfl, htk, hb⟩ := hrel
      have Htk := Lib.hid htk
      clear htk
      by_cases hlt : k < n
      · have hlk : k < l.length := by rw [Hl.out]; exact hlt
        have hlk' : k < l'.length := by rw [Hl'.out]; exact hlt
        obtain ⟨b, off, rfl, hbl, hc0, hc1⟩ := (hr.below hb).hdr k hlk
        obtain ⟨b', off', rfl, hbl', hd0, hd1⟩ := (hr'.below hb).hdr k hlk'
        have hne := neq_hdr l[k] l'[k]
        by_cases he : l[k] = l'[k]
        · have hq : hdNe l[k] l'[k] = false := by rw [he]; exact hdNe_false _
          have He := Lib.hid he
          clear he
          go_wp2
          go_quiet (fail)
          go_wp2
          go_roundw
          case rel => exact ⟨k + 1, by omega, by go_num, take_eq_succ hlk hlk' He.out Htk.out, below_drewN hb _⟩
          case measure => simp [intOf]; omega
        · have hq : hdNe l[k] l'[k] = true := hdNe_true he
          have He := Lib.hid he
          clear he
          go_wp2
          go_quiet (fail)
          go_wp2
          go_ret
          exact ⟨Hno.out (take_ne hlk hlk' He.out), below_drewN hb _⟩
      · have hk' : k = n := by omega
        have Hk := Lib.hid hk'
        clear hk'
        go_wp2
        go_ret
        refine ⟨Hyes.out ?_, hb⟩
        have h := Htk.out
        rw [Hk.out, List.take_of_length_le (by rw [Hl.out]; exact Nat.le_refl _), List.take_of_length_le (by rw [Hl'.out]; exact Nat.le_refl _)] at h
        exact h
  · have g1 : ((n : Int) != (m : Int)) = true := by simp; omega
    have hfin : Ending.returned (.bool false) = .returned (.bool (decide (l = l'))) := by rw [decide_eq_false (fun h => hnm (by rw [← hl, ← hl', h]))]
    have Hfin := Lib.hid hfin
    clear hfin hl hl'
    go_enter Tryz.func47, Tryz.ntmps47
    go_wp2
    go_ret
    exact ⟨Hfin.out, Below.refl _ _⟩
set_option maxRecDepth 100000 in
set_option maxHeartbeats 800000 in
theorem slices_Equal_Header (a a' : Option Addr) (n m c c' : Nat) (l l' : List Hd) (hl : l.length = n) (hl' : l'.length = m) (w : World) (hr : Rd w a (hV l)) (hr' : Rd w a' (hV l')) (hn : n ≤ 9223372036854775807) (hm : m ≤ 9223372036854775807) :
    Calls Tryz.prog 89 #[.slice a n c, .slice a' m c'] w fun e w' => e = .returned (.bool (decide (l = l'))) ∧ Below w.heap.size w w' := by
  by_cases hnm : n = m
  · subst hnm
    have hgd : Tryz.prog.eqGuardType Tryz.prog.depth 112 = false := by kernel_rfl
    have Hl := Lib.hid hl
    have Hl' := Lib.hid hl'
    clear hl hl'
    have hyes : l = l' → Ending.returned (.bool true) = .returned (.bool (decide (l = l'))) := fun h => by rw [decide_eq_true h]
    have hno : l ≠ l' → Ending.returned (.bool false) = .returned (.bool (decide (l = l'))) := fun h => by rw [decide_eq_false h]
    have Hyes := Lib.hid hyes
    have Hno := Lib.hid hno
    clear hyes hno
    go_enter Tryz.func89, Tryz.ntmps89
    go_wp2
    go_loopw [13] (fun i wr => ∃ k : Nat, k ≤ n ∧ i = .int .i64 k ∧ l.take k = l'.take k ∧ Below w.heap.size w wr) (fun i _ => n - (intOf i).toNat)
    case atStart => exact ⟨0, Nat.zero_le _, rfl, rfl, Below.refl _ _⟩
    case round =>
      obtain ⟨k, hk, rfl, htk, hb⟩ := hrel
      have Htk := Lib.hid htk
      clear htk
      by_cases hlt : k < n
      · have hlk : k < l.length := by rw [Hl.out]; exact hlt
        have hlk' : k < l'.length := by rw [Hl'.out]; exact hlt
        obtain ⟨b, off, rfl, hbl, hc0, hc1⟩ := (hr.below hb).hdr k hlk
        obtain ⟨b', off', rfl, hbl', hd0, hd1⟩ := (hr'.below hb).hdr k hlk'
        have hne := neq_hdr l[k] l'[k]
        by_cases he : l[k] = l'[k]
        · have hq : hdNe l[k] l'[k] = false := by rw [he]; exact hdNe_false _
          have He := Lib.hid he
          clear he
          go_wp2
          go_quiet (fail)
          go_wp2
          go_roundw
          case rel => exact ⟨k + 1, by omega, by go_num, take_eq_succ hlk hlk' He.out Htk.out, below_drewN hb _⟩
          case measure => simp [intOf]; omega
        · have hq : hdNe l[k] l'[k] = true := hdNe_true he
          have He := Lib.hid he
          clear he
          go_wp2
          go_quiet (fail)
          go_wp2
          go_ret
          exact ⟨Hno.out (take_ne hlk hlk' He.out), below_drewN hb _⟩
      · have hk' : k = n := by omega
        have Hk := Lib.hid hk'
        clear hk'
        go_wp2
        go_ret
        refine ⟨Hyes.out ?_, hb⟩
        have h := Htk.out
        rw [Hk.out, List.take_of_length_le (by rw [Hl.out]; exact Nat.le_refl _), List.take_of_length_le (by rw [Hl'.out]; exact Nat.le_refl _)] at h
        exact h
  · have g1 : ((n : Int) != (m : Int)) = true := by simp; omega
    have hfin : Ending.returned (.bool false) = .returned (.bool (decide (l = l'))) := by rw [decide_eq_false (fun h => hnm (by rw [← hl, ← hl', h]))]
    have Hfin := Lib.hid hfin
    clear hfin hl hl'
    go_enter Tryz.func89, Tryz.ntmps89
    go_wp2
    go_ret
    exact ⟨Hfin.out, Below.refl _ _⟩
theorem impl_SameHeaders (a a' : Option Addr) (n m c c' : Nat) (l l' : List Hd) (hl : l.length = n) (hl' : l'.length = m) (w : World) (hr : Rd w a (hV l)) (hr' : Rd w a' (hV l')) (hn : n ≤ 9223372036854775807) (hm : m ≤ 9223372036854775807) :
    Calls Tryz.prog 45 #[.slice a n c, .slice a' m c'] w fun e w' => e = .returned (.bool (decide (l = l'))) ∧ Below w.heap.size w w' := by
  have H := fun W => slices_Equal_Header a a' n m c c' l l' hl hl' W
  have HH := Lib.hid H
  have Hr := Lib.hid hr
  have Hr' := Lib.hid hr'
  clear H hl hl' hr hr'
  go_enter Tryz.func45, Tryz.ntmps45
  go_wp2_with (go_at_call 89; ((with_reducible refine (HH.out _ Hr.out Hr'.out hn hm).mono ?_); rintro e w2 ⟨rfl, hb⟩))
  go_ret
  exact ⟨rfl, hb⟩

end Go.Proofs.YthiogijicknoiaaGreatDoor
