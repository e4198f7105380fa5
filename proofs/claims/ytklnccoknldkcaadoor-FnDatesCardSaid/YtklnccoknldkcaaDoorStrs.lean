/- Slices of strings: copied, measured, compared, searched. -/
import Derived.Test.YtklnccoknldkcaaDoorSlice
namespace Go.Proofs.YtklnccoknldkcaaDoor
open Go.RowKit
set_option linter.unusedSimpArgs false
set_option linter.unusedVariables false

def strV (l : List ByteArray) : List Value := l.map Value.string
theorem strV_len (l : List ByteArray) : (strV l).length = l.length := List.length_map _
theorem strV_at (l : List ByteArray) (k : Nat) (h : k < l.length) : (strV l)[k]? = some (.string l[k]) := by simp [strV, h]
theorem strV_take (l : List ByteArray) (k : Nat) (h : k < l.length) : strV (l.take (k + 1)) = strV (l.take k) ++ [.string l[k]] := by
  unfold strV; rw [List.take_succ_eq_append_getElem h, List.map_append]; rfl
theorem infoStr : (Tryd.prog.info? 9).map (fun i => (i.zero, i.size, i.bytes)) = some (some (.string ⟨#[]⟩), 1, 16) := by kernel_rfl

def isS (t : ByteArray) (s : ByteArray) : Bool := decide (s = t)
theorem isS_true {t s : ByteArray} (h : isS t s = true) : (t.toList == s.toList) = true ∧ (s.toList == t.toList) = true := by
  have := of_decide_eq_true h; subst this; simp
theorem isS_false {t s : ByteArray} (h : isS t s = false) : (t.toList == s.toList) = false ∧ (s.toList == t.toList) = false := by
  have := of_decide_eq_false h
  exact ⟨bytes_ne fun e => this e.symm, bytes_ne this⟩
theorem slices_Index_str (a : Option Addr) (n c : Nat) (l : List ByteArray) (t : ByteArray) (hl : l.length = n) (w : World) (hr : Rd w a (strV l)) (hn : n ≤ 9223372036854775807) :
    Calls Tryd.prog 90 #[.slice a n c, .string t] w fun e w' => e = .returned (.int .i64 (idxI (isS t) l)) ∧ w = w' := by
  have Hl := Lib.hid hl
  clear hl
  go_enter Tryd.func90, Tryd.ntmps90
  go_wp2
  go_loop [8] (fun i => ∃ k : Nat, k ≤ n ∧ i = .int .i64 k ∧ ∀ j (hj : j < l.length), j < k → isS t l[j] = false) (fun i => n - (intOf i).toNat)
  case atStart => exact ⟨0, Nat.zero_le _, rfl, fun j hj h => by omega⟩
  case round =>
    obtain ⟨k, hk, rfl, hno⟩ := hrel
    have Hno := Lib.hid hno
    clear hno
    by_cases hlt : k < n
    · have hlk : k < l.length := by rw [Hl.out]; exact hlt
      obtain ⟨b, off, rfl, hbl, hcell⟩ := hr k (.string l[k]) (strV_at l k hlk)
      by_cases hp : isS t l[k] = true
      · have hfin : Ending.returned (.int .i64 (k : Int)) = .returned (.int .i64 (idxI (isS t) l)) := by rw [idxI_at hlk hp fun j hj => Hno.out j (by omega) hj]
        have Hfin := Lib.hid hfin
        obtain ⟨hq, _⟩ := isS_true hp
        clear hfin hp
        go_wp2
        go_ret
        exact ⟨Hfin.out, rfl⟩
      · simp only [Bool.not_eq_true] at hp
        obtain ⟨hq, _⟩ := isS_false hp
        have Hp := Lib.hid hp
        clear hp
        go_wp2
        go_round
        case rel =>
          refine ⟨k + 1, by omega, by go_num, fun j hj hjk => ?_⟩
          by_cases e : j = k
          · subst e; exact Hp.out
          · exact Hno.out j hj (by omega)
        case measure => simp [intOf]; omega
    · have hfin : Ending.returned (.int .i64 (-1)) = .returned (.int .i64 (idxI (isS t) l)) := by rw [idxI_none fun j hj => Hno.out j hj (by have := Hl.out; omega)]
      have Hfin := Lib.hid hfin
      clear hfin
      go_wp2
      go_ret
      exact ⟨Hfin.out, rfl⟩
def hasS (t : ByteArray) (l : List ByteArray) : Bool := decide (0 ≤ idxI (isS t) l)

end Go.Proofs.YtklnccoknldkcaaDoor
