/- Slices of strings: copied, measured, compared, searched. -/
import Derived.Test.YtapcoknmfcdicaaSlice
namespace Go.Proofs.Ytapcoknmfcdicaa
open Go.RowKit
set_option linter.unusedSimpArgs false
set_option linter.unusedVariables false

def strV (l : List ByteArray) : List Value := l.map Value.string
theorem strV_len (l : List ByteArray) : (strV l).length = l.length := List.length_map _
theorem strV_at (l : List ByteArray) (k : Nat) (h : k < l.length) : (strV l)[k]? = some (.string l[k]) := by simp [strV, h]
theorem strV_take (l : List ByteArray) (k : Nat) (h : k < l.length) : strV (l.take (k + 1)) = strV (l.take k) ++ [.string l[k]] := by
  unfold strV; rw [List.take_succ_eq_append_getElem h, List.map_append]; rfl
theorem infoStr : (Try.prog.info? 9).map (fun i => (i.zero, i.size, i.bytes)) = some (some (.string ⟨#[]⟩), 1, 16) := by kernel_rfl

theorem toStringS (a : Option Addr) (n cap : Nat) (l : List ByteArray) (hl : l.length = n) (w : World) (hr : Rd w a (strV l)) (hn : n * 16 ≤ 281474976710656) :
    Calls Try.prog 32 #[.slice a n cap] w fun e w' => ∃ g, e = .returned (.slice (some ⟨g, 0, none⟩) n n) ∧ w.heap.size ≤ g ∧ RowAt w' g (strV l) ∧ Below w.heap.size w w' := by
  obtain ⟨W, D, hmk, hDl, hrow, hbel, hlt0⟩ := make_there w 41 9 Try.underlying41 infoStr n (by omega) (by unfold maxLen; omega)
  have Hrow := Lib.hid hrow
  have Hl := Lib.hid hl
  have HD := Lib.hid hDl
  clear hrow hl hDl
  go_enter Try.func32, Try.ntmps32
  go_wp2
  go_loopw [4] (fun i wr => ∃ k : Nat, k ≤ n ∧ i = .int .i64 k ∧ RowAt wr w.heap.size (strV (l.take k) ++ D.drop k) ∧ Below w.heap.size w wr) (fun i _ => n - (intOf i).toNat)
  case atStart => exact ⟨0, Nat.zero_le _, rfl, Hrow.out, hbel⟩
  case round =>
    clear hmk
    obtain ⟨k, hk, rfl, hrow, hb⟩ := hrel
    have Hr := Lib.hid hrow
    clear hrow
    by_cases hlt : k < n
    · have hlk : k < l.length := by rw [Hl.out]; exact hlt
      have hDk : k < D.length := by rw [HD.out]; omega
      obtain ⟨b, off, rfl, hbl, hcell⟩ := (hr.below hb) k (.string l[k]) (strV_at l k hlk)
      have hd := Hr.out.cell k D[k] (by rw [List.getElem?_append_right (by rw [strV_len, List.length_take]; omega), strV_len, List.length_take, show k - min k l.length = 0 from by omega, List.getElem?_drop]; simp [hDk])
      have hf := Hr.out.free k (by rw [List.length_append, strV_len, List.length_take, List.length_drop]; omega)
      go_wp2
      go_roundw
      case rel =>
        refine ⟨k + 1, by omega, by go_num, ?_, hb.setCell (Nat.le_refl _) _⟩
        have h := Hr.out.put1 (p := k) (by rw [strV_len, List.length_take]; omega) (by rw [List.length_drop]; omega) (.string l[k])
        rw [List.drop_drop] at h
        have e := strV_take l k hlk
        rw [e]
        exact h
      case measure => simp [intOf]; omega
    · have hk' : k = n := by omega
      have Hk := Lib.hid hk'
      clear hk'
      go_wp2
      go_ret
      refine ⟨_, rfl, Nat.le_refl _, ?_, hb⟩
      have h := Hr.out
      rw [Hk.out, List.take_of_length_le (by rw [Hl.out]; exact Nat.le_refl _), List.drop_of_length_le (by rw [HD.out]; omega), List.append_nil] at h
      exact h

theorem szStringS (a : Option Addr) (n cap : Nat) (l : List ByteArray) (hl : l.length = n) (left : Int) (h0 : 0 ≤ left) (h1 : left ≤ 1048576) (w : World) (hr : Rd w a (strV l)) (hn : n ≤ 9223372036854775807) (hs : ∀ s ∈ l, s.size ≤ 9223372036854775807) :
    Calls Try.prog 30 #[.slice a n cap, .int .i64 left] w fun e w' => ∃ r : Int, e = .returned (.int .i64 r) ∧ SzR n left r ∧ Below w.heap.size w w' := by
  have Hl := Lib.hid hl
  have Hs := Lib.hid hs
  clear hl hs
  by_cases hneg : left < n
  · go_enter Try.func30, Try.ntmps30
    go_wp2
    go_ret
    exact ⟨_, rfl, SzR.of (by omega) (by omega) (by omega), Below.refl _ _⟩
  · go_enter Try.func30, Try.ntmps30
    go_wp2
    go_loop [1, 5] (fun v i => ∃ (k : Nat) (r : Int), k ≤ n ∧ i = .int .i64 k ∧ v = .int .i64 r ∧ 0 ≤ r ∧ r ≤ 1048576) (fun _ i => n - (intOf i).toNat)
    case atStart => exact ⟨0, _, Nat.zero_le _, rfl, rfl, by omega, by omega⟩
    case round =>
      obtain ⟨k, r, hk, rfl, rfl, hr0, hr1⟩ := hrel
      by_cases hlt : k < n
      · have hlk : k < l.length := by rw [Hl.out]; exact hlt
        obtain ⟨b, off, rfl, hbl, hcell⟩ := hr k (.string l[k]) (strV_at l k hlk)
        have hsz := Hs.out l[k] (List.getElem_mem hlk)
        by_cases hng : r < l[k].size
        · go_wp2
          go_ret
          exact ⟨_, rfl, SzR.of (by omega) (by omega) (by omega), Below.refl _ _⟩
        · go_wp2
          go_round
          case rel => exact ⟨k + 1, _, by omega, by go_num, rfl, by omega, by omega⟩
          case measure => simp [intOf]; omega
      · go_wp2
        go_ret
        exact ⟨_, rfl, SzR.of (by omega) (by omega) (by omega), Below.refl _ _⟩

theorem eqStringS (a a' : Option Addr) (n c c' : Nat) (l : List ByteArray) (hl : l.length = n) (w : World) (hr : Rd w a (strV l)) (hr' : Rd w a' (strV l)) (hn : n ≤ 9223372036854775807) : Calls Try.prog 34 #[.slice a n c, .slice a' n c'] w fun e w' => e = .returned (.bool true) ∧ Below w.heap.size w w' := by
  have Hl := Lib.hid hl
  clear hl
  go_enter Try.func34, Try.ntmps34
  go_wp2
  go_loopw [5] (fun i wr => ∃ k : Nat, k ≤ n ∧ i = .int .i64 k ∧ Below w.heap.size w wr) (fun i _ => n - (intOf i).toNat)
  case atStart => exact ⟨0, Nat.zero_le _, rfl, Below.refl _ _⟩
  case round =>
    obtain ⟨k, hk, rfl, hb⟩ := hrel
    by_cases hlt : k < n
    · have hlk : k < l.length := by rw [Hl.out]; exact hlt
      obtain ⟨b, off, rfl, hbl, hcell⟩ := (hr.below hb) k (.string l[k]) (strV_at l k hlk)
      obtain ⟨b', off', rfl, hbl', hcell'⟩ := (hr'.below hb) k (.string l[k]) (strV_at l k hlk)
      go_wp2
      go_quiet (fail)
      go_wp2
      go_roundw
      case rel => exact ⟨k + 1, by omega, by go_num, below_drewN hb _⟩
      case measure => simp [intOf]; omega
    · go_wp2
      go_ret
      exact ⟨rfl, hb⟩

def isS (t : ByteArray) (s : ByteArray) : Bool := decide (s = t)
theorem isS_true {t s : ByteArray} (h : isS t s = true) : (t.toList == s.toList) = true ∧ (s.toList == t.toList) = true := by
  have := of_decide_eq_true h; subst this; simp
theorem isS_false {t s : ByteArray} (h : isS t s = false) : (t.toList == s.toList) = false ∧ (s.toList == t.toList) = false := by
  have := of_decide_eq_false h
  exact ⟨bytes_ne fun e => this e.symm, bytes_ne this⟩
theorem slices_Index_str (a : Option Addr) (n c : Nat) (l : List ByteArray) (t : ByteArray) (hl : l.length = n) (w : World) (hr : Rd w a (strV l)) (hn : n ≤ 9223372036854775807) :
    Calls Try.prog 80 #[.slice a n c, .string t] w fun e w' => e = .returned (.int .i64 (idxI (isS t) l)) ∧ w = w' := by
  have Hl := Lib.hid hl
  clear hl
  go_enter Try.func80, Try.ntmps80
  go_wp2
  go_loop [8] (fun i => ∃ k : Nat, k ≤ n ∧ i = .int .i64 k ∧ ∀ j (hj : j < l.length), j < k → isS t l[j] = false) (fun i => n - (intOf i).toNat)
  case atStart => exact ⟨0, Nat.zero_le _, rfl, fun j hj h => by omega⟩
  case round =>
    obtain ⟨k, hk, rfl, hno⟩ := hrel
    have Hno := Lib.hid hno
    clear hno
    by_cases hlt : k < n
    · have hlk : k < l.length := by rw [Hl.out]; exact hlt
      obtain ⟨b, off, rfl, hbl, hcell⟩ := hr k (.string l[k]) (strV_at l k hlk)
      by_cases hp : isS t l[k] = true
      · have hfin : Ending.returned (.int .i64 (k : Int)) = .returned (.int .i64 (idxI (isS t) l)) := by rw [idxI_at hlk hp fun j hj => Hno.out j (by omega) hj]
        have Hfin := Lib.hid hfin
        obtain ⟨hq, _⟩ := isS_true hp
        clear hfin hp
        go_wp2
        go_ret
        exact ⟨Hfin.out, rfl⟩
      · simp only [Bool.not_eq_true] at hp
        obtain ⟨hq, _⟩ := isS_false hp
        have Hp := Lib.hid hp
        clear hp
        go_wp2
        go_round
        case rel =>
          refine ⟨k + 1, by omega, by go_num, fun j hj hjk => ?_⟩
          by_cases e : j = k
          · subst e; exact Hp.out
          · exact Hno.out j hj (by omega)
        case measure => simp [intOf]; omega
    · have hfin : Ending.returned (.int .i64 (-1)) = .returned (.int .i64 (idxI (isS t) l)) := by rw [idxI_none fun j hj => Hno.out j hj (by have := Hl.out; omega)]
      have Hfin := Lib.hid hfin
      clear hfin
      go_wp2
      go_ret
      exact ⟨Hfin.out, rfl⟩
def hasS (t : ByteArray) (l : List ByteArray) : Bool := decide (0 ≤ idxI (isS t) l)
theorem slices_Contains_str (a : Option Addr) (n c : Nat) (l : List ByteArray) (t : ByteArray) (hl : l.length = n) (w : World) (hr : Rd w a (strV l)) (hn : n ≤ 9223372036854775807) :
    Calls Try.prog 60 #[.slice a n c, .string t] w fun e w' => e = .returned (.bool (hasS t l)) ∧ w = w' := by
  unfold hasS
  have Hl := Lib.hid hl
  have Hr := Lib.hid hr
  clear hl hr
  go_enter Try.func60, Try.ntmps60
  go_wp2_with (go_at_call 80; ((with_reducible refine (slices_Index_str _ _ _ l _ Hl.out _ Hr.out hn).mono ?_); rintro e w' ⟨rfl, rfl⟩))
  go_ret
  exact ⟨rfl, rfl⟩
theorem impl_IsTagged (a : Option Addr) (n c : Nat) (l : List ByteArray) (t : ByteArray) (hl : l.length = n) (w : World) (hr : Rd w a (strV l)) (hn : n ≤ 9223372036854775807) :
    Calls Try.prog 33 #[.slice a n c, .string t] w fun e w' => e = .returned (.bool (hasS t l)) ∧ w = w' := by
  have Hl := Lib.hid hl
  have Hr := Lib.hid hr
  clear hl hr
  go_enter Try.func33, Try.ntmps33
  go_wp2_with (go_at_call 60; ((with_reducible refine (slices_Contains_str _ _ _ l _ Hl.out _ Hr.out hn).mono ?_); rintro e w' ⟨rfl, rfl⟩))
  go_ret
  exact ⟨rfl, rfl⟩
theorem spec_IsTagged (a : Option Addr) (n c : Nat) (l : List ByteArray) (t : ByteArray) (hl : l.length = n) (w : World) (hr : Rd w a (strV l)) (hn : n ≤ 9223372036854775807) :
    Calls Try.prog 31 #[.slice a n c, .string t] w fun e w' => e = .returned (.bool (hasS t l)) ∧ w = w' := by
  have Hl := Lib.hid hl
  clear hl
  go_enter Try.func31, Try.ntmps31
  go_wp2
  go_loop [5] (fun i => ∃ k : Nat, k ≤ n ∧ i = .int .i64 k ∧ ∀ j (hj : j < l.length), j < k → isS t l[j] = false) (fun i => n - (intOf i).toNat)
  case atStart => exact ⟨0, Nat.zero_le _, rfl, fun j hj h => by omega⟩
  case round =>
    obtain ⟨k, hk, rfl, hno⟩ := hrel
    have Hno := Lib.hid hno
    clear hno
    by_cases hlt : k < n
    · have hlk : k < l.length := by rw [Hl.out]; exact hlt
      obtain ⟨b, off, rfl, hbl, hcell⟩ := hr k (.string l[k]) (strV_at l k hlk)
      by_cases hp : isS t l[k] = true
      · have hfin : Ending.returned (.bool true) = .returned (.bool (hasS t l)) := by rw [hasS, idxI_at hlk hp fun j hj => Hno.out j (by omega) hj, decide_eq_true (by omega)]
        have Hfin := Lib.hid hfin
        obtain ⟨_, hq⟩ := isS_true hp
        clear hfin hp
        go_wp2
        go_ret
        exact ⟨Hfin.out, rfl⟩
      · simp only [Bool.not_eq_true] at hp
        obtain ⟨_, hq⟩ := isS_false hp
        have Hp := Lib.hid hp
        clear hp
        go_wp2
        go_round
        case rel =>
          refine ⟨k + 1, by omega, by go_num, fun j hj hjk => ?_⟩
          by_cases e : j = k
          · subst e; exact Hp.out
          · exact Hno.out j hj (by omega)
        case measure => simp [intOf]; omega
    · have hfin : Ending.returned (.bool false) = .returned (.bool (hasS t l)) := by rw [hasS, idxI_none fun j hj => Hno.out j hj (by have := Hl.out; omega)]; rfl
      have Hfin := Lib.hid hfin
      clear hfin
      go_wp2
      go_ret
      exact ⟨Hfin.out, rfl⟩

set_option maxHeartbeats 1600000 in
theorem FnExactIsTagged_walk (a : Option Addr) (n c : Nat) (l : List ByteArray) (hl : l.length = n) (t : ByteArray) (ht : t.size ≤ 9223372036854775807) (w : World) (hr : Rd w a (strV l))
    (hn : n ≤ 9223372036854775807) (hs : ∀ s ∈ l, s.size ≤ 9223372036854775807) :
    Calls Try.prog 10 #[.slice a n c, .string t] w fun e w' => e = .returned (.bool true) ∧ Below w.heap.size w w' := by
  have Hl := Lib.hid hl
  have Hs := Lib.hid hs
  clear hl hs
  by_cases h : t.size ≤ 1048576
  · go_enter Try.func10, Try.ntmps10
    go_wp2_with (first
      | (go_at_call 30; ((with_reducible refine (szStringS a n c l Hl.out _ (by omega) (by omega) _ (by first | (with_reducible assumption) | exact RowAt.rd (by repeat' (first | (with_reducible assumption) | (with_reducible refine RowAt.alloc ?_ _) | (with_reducible refine RowAt.drew ?_) | refine RowAt.then ?_ (by with_reducible assumption))) | exact Rd.below (by with_reducible assumption) (by first | exact Below.refl _ _ | ((repeat' (first | exact Below.refl _ _ | (with_reducible assumption) | (with_reducible refine below_alloc ?_ _) | (with_reducible refine Below.drew ?_) | (with_reducible refine below_drewN ?_ _) | (with_reducible refine Below.setCell ?_ ?_ _) | refine below_then ?_ (by with_reducible assumption))) <;> (first | omega | (simp; done) | (simp; omega))))) hn Hs.out).mono ?_); rintro e w' ⟨r, rfl, ⟨⟨hr1, hr2⟩, hr3⟩, hb⟩))
      | (go_at_call 32; ((with_reducible refine (toStringS a n c l Hl.out _ (by first | (with_reducible assumption) | exact RowAt.rd (by repeat' (first | (with_reducible assumption) | (with_reducible refine RowAt.alloc ?_ _) | (with_reducible refine RowAt.drew ?_) | refine RowAt.then ?_ (by with_reducible assumption))) | exact Rd.below (by with_reducible assumption) (by first | exact Below.refl _ _ | ((repeat' (first | exact Below.refl _ _ | (with_reducible assumption) | (with_reducible refine below_alloc ?_ _) | (with_reducible refine Below.drew ?_) | (with_reducible refine below_drewN ?_ _) | (with_reducible refine Below.setCell ?_ ?_ _) | refine below_then ?_ (by with_reducible assumption))) <;> (first | omega | (simp; done) | (simp; omega))))) (by omega)).mono ?_); rintro e w' ⟨g, rfl, hg, hrow, hb⟩))
      | (go_at_call 31; ((with_reducible refine (spec_IsTagged _ _ _ l t Hl.out _ (by first | (with_reducible assumption) | exact RowAt.rd (by repeat' (first | (with_reducible assumption) | (with_reducible refine RowAt.alloc ?_ _) | (with_reducible refine RowAt.drew ?_) | refine RowAt.then ?_ (by with_reducible assumption))) | exact Rd.below (by with_reducible assumption) (by first | exact Below.refl _ _ | ((repeat' (first | exact Below.refl _ _ | (with_reducible assumption) | (with_reducible refine below_alloc ?_ _) | (with_reducible refine Below.drew ?_) | (with_reducible refine below_drewN ?_ _) | (with_reducible refine Below.setCell ?_ ?_ _) | refine below_then ?_ (by with_reducible assumption))) <;> (first | omega | (simp; done) | (simp; omega))))) hn).mono ?_); rintro e w' ⟨rfl, rfl⟩))
      | (go_at_call 33; ((with_reducible refine (impl_IsTagged _ _ _ l t Hl.out _ (by first | (with_reducible assumption) | exact RowAt.rd (by repeat' (first | (with_reducible assumption) | (with_reducible refine RowAt.alloc ?_ _) | (with_reducible refine RowAt.drew ?_) | refine RowAt.then ?_ (by with_reducible assumption))) | exact Rd.below (by with_reducible assumption) (by first | exact Below.refl _ _ | ((repeat' (first | exact Below.refl _ _ | (with_reducible assumption) | (with_reducible refine below_alloc ?_ _) | (with_reducible refine Below.drew ?_) | (with_reducible refine below_drewN ?_ _) | (with_reducible refine Below.setCell ?_ ?_ _) | refine below_then ?_ (by with_reducible assumption))) <;> (first | omega | (simp; done) | (simp; omega))))) hn).mono ?_); rintro e w' ⟨rfl, rfl⟩))
      | (go_at_call 34; ((with_reducible refine (eqStringS _ _ _ _ _ l Hl.out _ (by first | (with_reducible assumption) | exact RowAt.rd (by repeat' (first | (with_reducible assumption) | (with_reducible refine RowAt.alloc ?_ _) | (with_reducible refine RowAt.drew ?_) | refine RowAt.then ?_ (by with_reducible assumption))) | exact Rd.below (by with_reducible assumption) (by first | exact Below.refl _ _ | ((repeat' (first | exact Below.refl _ _ | (with_reducible assumption) | (with_reducible refine below_alloc ?_ _) | (with_reducible refine Below.drew ?_) | (with_reducible refine below_drewN ?_ _) | (with_reducible refine Below.setCell ?_ ?_ _) | refine below_then ?_ (by with_reducible assumption))) <;> (first | omega | (simp; done) | (simp; omega))))) (by first | (with_reducible assumption) | exact RowAt.rd (by repeat' (first | (with_reducible assumption) | (with_reducible refine RowAt.alloc ?_ _) | (with_reducible refine RowAt.drew ?_) | refine RowAt.then ?_ (by with_reducible assumption))) | exact Rd.below (by with_reducible assumption) (by first | exact Below.refl _ _ | ((repeat' (first | exact Below.refl _ _ | (with_reducible assumption) | (with_reducible refine below_alloc ?_ _) | (with_reducible refine Below.drew ?_) | (with_reducible refine below_drewN ?_ _) | (with_reducible refine Below.setCell ?_ ?_ _) | refine below_then ?_ (by with_reducible assumption))) <;> (first | omega | (simp; done) | (simp; omega))))) hn).mono ?_); rintro e w' ⟨rfl, hb⟩)))
    all_goals (go_ret; exact ⟨by first | rfl | (simp [*]; done) | (simp [*]; omega), by first | rfl | exact (by first | exact Below.refl _ _ | ((repeat' (first | exact Below.refl _ _ | (with_reducible assumption) | (with_reducible refine below_alloc ?_ _) | (with_reducible refine Below.drew ?_) | (with_reducible refine below_drewN ?_ _) | (with_reducible refine Below.setCell ?_ ?_ _) | refine below_then ?_ (by with_reducible assumption))) <;> (first | omega | (simp; done) | (simp; omega))))⟩)
  · go_enter Try.func10, Try.ntmps10
    go_wp2
    all_goals (go_ret; exact ⟨by first | rfl | (simp [*]; done) | (simp [*]; omega), by first | rfl | exact (by first | exact Below.refl _ _ | ((repeat' (first | exact Below.refl _ _ | (with_reducible assumption) | (with_reducible refine below_alloc ?_ _) | (with_reducible refine Below.drew ?_) | (with_reducible refine below_drewN ?_ _) | (with_reducible refine Below.setCell ?_ ?_ _) | refine below_then ?_ (by with_reducible assumption))) <;> (first | omega | (simp; done) | (simp; omega))))⟩)
end Go.Proofs.Ytapcoknmfcdicaa
