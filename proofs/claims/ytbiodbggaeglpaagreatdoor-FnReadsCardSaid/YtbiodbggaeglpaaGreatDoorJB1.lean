/- Joined: Hdrs, Items, RegF, Req, Rsp, SplitP, Strs, Text, Lower, Alike, Digits, Mark, MarkB, Quote, TabOpen, TabMore, Times, Delta, Find, ItemsText, ItemsTextI, TimesP, TrimP, Trim. -/
import Derived.Test.YtbiodbggaeglpaaGreatDoorJB0
import Derived.Test.YtbiodbggaeglpaaGreatDoorShelf
import Derived.Deep.DeepCutAuto
import Derived.Deep.RegionHeld3
import Derived.Lib.Split
import Derived.Lib.IndexAny
import Derived.Lib.ItoaNum
import Derived.Lib.ItoaMem
import Derived.Lib.ItoaLen
import Derived.WalkSmall
import Derived.Lib.LaidTab
import Derived.Test.YtbiodbggaeglpaaGreatDoorRows
import Derived.MakeChecks
import Derived.Lib.SlTrimSet
import Derived.Shelf.Strings.SlTrimAscii
/- Slices of head lines: copied, measured, compared. -/
namespace Go.Proofs.YtbiodbggaeglpaaGreatDoor
open Go.RowKit
set_option linter.unusedSimpArgs false
set_option linter.unusedVariables false

abbrev Hd := ByteArray × ByteArray
def hEnc (h : Hd) : List Value := [.string h.1, .string h.2]
def hV (l : List Hd) : List Value := cellsOf hEnc l
theorem hEnc_len (h : Hd) : (hEnc h).length = 2 := rfl
theorem hV_len (l : List Hd) : (hV l).length = l.length * 2 := cellsOf_len hEnc_len l
theorem hV_at0 (l : List Hd) (k : Nat) (h : k < l.length) : (hV l)[k * 2]? = some (.string l[k].1) := cellsOf_at hEnc_len l k h 0 (by omega)
theorem hV_at1 (l : List Hd) (k : Nat) (h : k < l.length) : (hV l)[k * 2 + 1]? = some (.string l[k].2) := cellsOf_at hEnc_len l k h 1 (by omega)
theorem infoHdr : (Tryz.prog.info? 77).map (fun i => (i.zero, i.size, i.bytes)) = some (some (.agg #[.string ⟨#[]⟩, .string ⟨#[]⟩]), 2, 32) := by kernel_rfl
theorem Rd.hdr {w : World} {a : Option Addr} {l : List Hd} (h : Rd w a (hV l)) (k : Nat) (hk : k < l.length) : ∃ b off, a = some ⟨b, off, none⟩ ∧ b < w.heap.size ∧ w.cell? ⟨b, off + k * 2, none⟩ = some (.string l[k].1) ∧ w.cell? ⟨b, off + k * 2 + 1, none⟩ = some (.string l[k].2) := by
  obtain ⟨b, off, ha, hb, h0⟩ := h _ _ (hV_at0 l k hk)
  obtain ⟨b', off', ha', hb', h1⟩ := h _ _ (hV_at1 l k hk)
  rw [ha] at ha'
  cases ha'
  exact ⟨b, off, ha, hb, h0, by rw [Nat.add_assoc]; exact h1⟩

def hdNe (x y : Hd) : Bool := !(x.1.toList == y.1.toList && x.2.toList == y.2.toList)
theorem hdNe_true {x y : Hd} (h : x ≠ y) : hdNe x y = true := by
  unfold hdNe
  rw [Bool.not_eq_true', Bool.and_eq_false_iff]
  by_cases h1 : x.1 = y.1
  · refine .inr ?_
    exact bytes_ne fun h2 => h (Prod.ext h1 h2)
  · refine .inl ?_
    exact bytes_ne h1
theorem hdNe_false (x : Hd) : hdNe x x = false := by simp [hdNe]
theorem neq_hdr (x y : Hd) (w : World) : (binOp .neq 77 (.agg #[.string x.1, .string x.2]) (.agg #[.string y.1, .string y.2])).run Tryz.prog w = .ok (.bool (hdNe x y)) w := by
  have u9 := Tryz.underlying9
  have a9 := Tryz.isAgg9
  have z9 := Tryz.sizeOf9
  have hS : Tryz.prog.underlying 77 = some (.struct (Tryz.prog.fieldsOf 77)) := by kernel_rfl
  have hp : Tryz.prog.stoodInHeld 77 = false := by kernel_rfl
  rw [run_neq_struct, show (10000 : Nat) = 9999 + 1 from rfl, run_equalIn_agg w 9999 77 _ _ hS hp]
  simp only [Program.fieldsOf, Tryz.underlying77]
  go_simp
  unfold hdNe
  cases h1 : (x.1.toList == y.1.toList) <;> cases h2 : (x.2.toList == y.2.toList) <;> simp_all

set_option maxRecDepth 100000 in
set_option maxHeartbeats 800000 in
theorem spec_SameHeaders (a a' : Option Addr) (n m c c' : Nat) (l l' : List Hd) (hl : l.length = n) (hl' : l'.length = m) (w : World) (hr : Rd w a (hV l)) (hr' : Rd w a' (hV l')) (hn : n ≤ 9223372036854775807) (hm : m ≤ 9223372036854775807) :
    Calls Tryz.prog 62 #[.slice a n c, .slice a' m c'] w fun e w' => e = .returned (.bool (decide (l = l'))) ∧ Below w.heap.size w w' := by
  by_cases hnm : n = m
  · subst hnm
    have hgd : Tryz.prog.eqGuardType Tryz.prog.depth 77 = false := by kernel_rfl
    have Hl := Lib.hid hl
    have Hl' := Lib.hid hl'
    clear hl hl'
    have hyes : l = l' → Ending.returned (.bool true) = .returned (.bool (decide (l = l'))) := fun h => by rw [decide_eq_true h]
    have hno : l ≠ l' → Ending.returned (.bool false) = .returned (.bool (decide (l = l'))) := fun h => by rw [decide_eq_false h]
    have Hyes := Lib.hid hyes
    have Hno := Lib.hid hno
    clear hyes hno
    go_enter Tryz.func62, Tryz.ntmps62
    go_wp2
    go_loopw [5] (fun i wr => ∃ k : Nat, k ≤ n ∧ i = .int .i64 k ∧ l.take k = l'.take k ∧ Below w.heap.size w wr) (fun i _ => n - (intOf i).toNat)
    case atStart => exact ⟨0, Nat.zero_le _, rfl, rfl, Below.refl _ _⟩
    case round =>
      obtain ⟨k, hk, rfl, htk, hb⟩ := hrel
      have Htk := Lib.hid htk
      clear htk
      by_cases hlt : k < n
      · have hlk : k < l.length := by rw [Hl.out]; exact hlt
        have hlk' : k < l'.length := by rw [Hl'.out]; exact hlt
        obtain ⟨b, off, rfl, hbl, hc0, hc1⟩ := (hr.below hb).hdr k hlk
        obtain ⟨b', off', rfl, hbl', hd0, hd1⟩ := (hr'.below hb).hdr k hlk'
        have hne := neq_hdr l[k] l'[k]
        by_cases he : l[k] = l'[k]
        · have hq : hdNe l[k] l'[k] = false := by rw [he]; exact hdNe_false _
          have He := Lib.hid he
          clear he
          go_wp2
          go_quiet (fail)
          go_wp2
          go_roundw
          case rel => exact ⟨k + 1, by omega, by go_num, take_eq_succ hlk hlk' He.out Htk.out, below_drewN hb _⟩
          case measure => simp [intOf]; omega
        · have hq : hdNe l[k] l'[k] = true := hdNe_true he
          have He := Lib.hid he
          clear he
          go_wp2
          go_quiet (fail)
          go_wp2
          go_ret
          exact ⟨Hno.out (take_ne hlk hlk' He.out), below_drewN hb _⟩
      · have hk' : k = n := by omega
        have Hk := Lib.hid hk'
        clear hk'
        go_wp2
        go_ret
        refine ⟨Hyes.out ?_, hb⟩
        have h := Htk.out
        rw [Hk.out, List.take_of_length_le (by rw [Hl.out]; exact Nat.le_refl _), List.take_of_length_le (by rw [Hl'.out]; exact Nat.le_refl _)] at h
        exact h
  · have g1 : ((n : Int) != (m : Int)) = true := by simp; omega
    have hfin : Ending.returned (.bool false) = .returned (.bool (decide (l = l'))) := by rw [decide_eq_false (fun h => hnm (by rw [← hl, ← hl', h]))]
    have Hfin := Lib.hid hfin
    clear hfin hl hl'
    go_enter Tryz.func62, Tryz.ntmps62
    go_wp2
    go_ret
    exact ⟨Hfin.out, Below.refl _ _⟩
set_option maxRecDepth 100000 in
set_option maxHeartbeats 800000 in
theorem slices_Equal_Header (a a' : Option Addr) (n m c c' : Nat) (l l' : List Hd) (hl : l.length = n) (hl' : l'.length = m) (w : World) (hr : Rd w a (hV l)) (hr' : Rd w a' (hV l')) (hn : n ≤ 9223372036854775807) (hm : m ≤ 9223372036854775807) :
    Calls Tryz.prog 49 #[.slice a n c, .slice a' m c'] w fun e w' => e = .returned (.bool (decide (l = l'))) ∧ Below w.heap.size w w' := by
  by_cases hnm : n = m
  · subst hnm
    have hgd : Tryz.prog.eqGuardType Tryz.prog.depth 77 = false := by kernel_rfl
    have Hl := Lib.hid hl
    have Hl' := Lib.hid hl'
    clear hl hl'
    have hyes : l = l' → Ending.returned (.bool true) = .returned (.bool (decide (l = l'))) := fun h => by rw [decide_eq_true h]
    have hno : l ≠ l' → Ending.returned (.bool false) = .returned (.bool (decide (l = l'))) := fun h => by rw [decide_eq_false h]
    have Hyes := Lib.hid hyes
    have Hno := Lib.hid hno
    clear hyes hno
    go_enter Tryz.func49, Tryz.ntmps49
    go_wp2
    go_loopw [13] (fun i wr => ∃ k : Nat, k ≤ n ∧ i = .int .i64 k ∧ l.take k = l'.take k ∧ Below w.heap.size w wr) (fun i _ => n - (intOf i).toNat)
    case atStart => exact ⟨0, Nat.zero_le _, rfl, rfl, Below.refl _ _⟩
    case round =>
      obtain ⟨k, hk, rfl, htk, hb⟩ := hrel
      have Htk := Lib.hid htk
      clear htk
      by_cases hlt : k < n
      · have hlk : k < l.length := by rw [Hl.out]; exact hlt
        have hlk' : k < l'.length := by rw [Hl'.out]; exact hlt
        obtain ⟨b, off, rfl, hbl, hc0, hc1⟩ := (hr.below hb).hdr k hlk
        obtain ⟨b', off', rfl, hbl', hd0, hd1⟩ := (hr'.below hb).hdr k hlk'
        have hne := neq_hdr l[k] l'[k]
        by_cases he : l[k] = l'[k]
        · have hq : hdNe l[k] l'[k] = false := by rw [he]; exact hdNe_false _
          have He := Lib.hid he
          clear he
          go_wp2
          go_quiet (fail)
          go_wp2
          go_roundw
          case rel => exact ⟨k + 1, by omega, by go_num, take_eq_succ hlk hlk' He.out Htk.out, below_drewN hb _⟩
          case measure => simp [intOf]; omega
        · have hq : hdNe l[k] l'[k] = true := hdNe_true he
          have He := Lib.hid he
          clear he
          go_wp2
          go_quiet (fail)
          go_wp2
          go_ret
          exact ⟨Hno.out (take_ne hlk hlk' He.out), below_drewN hb _⟩
      · have hk' : k = n := by omega
        have Hk := Lib.hid hk'
        clear hk'
        go_wp2
        go_ret
        refine ⟨Hyes.out ?_, hb⟩
        have h := Htk.out
        rw [Hk.out, List.take_of_length_le (by rw [Hl.out]; exact Nat.le_refl _), List.take_of_length_le (by rw [Hl'.out]; exact Nat.le_refl _)] at h
        exact h
  · have g1 : ((n : Int) != (m : Int)) = true := by simp; omega
    have hfin : Ending.returned (.bool false) = .returned (.bool (decide (l = l'))) := by rw [decide_eq_false (fun h => hnm (by rw [← hl, ← hl', h]))]
    have Hfin := Lib.hid hfin
    clear hfin hl hl'
    go_enter Tryz.func49, Tryz.ntmps49
    go_wp2
    go_ret
    exact ⟨Hfin.out, Below.refl _ _⟩
end Go.Proofs.YtbiodbggaeglpaaGreatDoor

/- Slices of items: copied, measured, compared. -/
namespace Go.Proofs.YtbiodbggaeglpaaGreatDoor
open Go.RowKit
set_option linter.unusedSimpArgs false
set_option linter.unusedVariables false

abbrev It := ByteArray × Bool × ByteArray
def iEnc (h : It) : List Value := [.string h.1, .bool h.2.1, .string h.2.2]
def iV (l : List It) : List Value := cellsOf iEnc l
theorem iEnc_len (h : It) : (iEnc h).length = 3 := rfl
theorem iV_len (l : List It) : (iV l).length = l.length * 3 := cellsOf_len iEnc_len l
theorem iV_at0 (l : List It) (k : Nat) (h : k < l.length) : (iV l)[k * 3]? = some (.string l[k].1) := cellsOf_at iEnc_len l k h 0 (by omega)
theorem iV_at1 (l : List It) (k : Nat) (h : k < l.length) : (iV l)[k * 3 + 1]? = some (.bool l[k].2.1) := cellsOf_at iEnc_len l k h 1 (by omega)
theorem iV_at2 (l : List It) (k : Nat) (h : k < l.length) : (iV l)[k * 3 + 2]? = some (.string l[k].2.2) := cellsOf_at iEnc_len l k h 2 (by omega)
theorem Rd.item {w : World} {a : Option Addr} {l : List It} (h : Rd w a (iV l)) (k : Nat) (hk : k < l.length) : ∃ b off, a = some ⟨b, off, none⟩ ∧ b < w.heap.size ∧ w.cell? ⟨b, off + k * 3, none⟩ = some (.string l[k].1) ∧ w.cell? ⟨b, off + k * 3 + 1, none⟩ = some (.bool l[k].2.1) ∧ w.cell? ⟨b, off + k * 3 + 2, none⟩ = some (.string l[k].2.2) := by
  obtain ⟨b, off, ha, hb, h0⟩ := h _ _ (iV_at0 l k hk)
  obtain ⟨b', off', ha', hb', h1⟩ := h _ _ (iV_at1 l k hk)
  obtain ⟨b'', off'', ha'', hb'', h2⟩ := h _ _ (iV_at2 l k hk)
  rw [ha] at ha' ha''
  cases ha'
  cases ha''
  exact ⟨b, off, ha, hb, h0, by rw [Nat.add_assoc]; exact h1, by rw [Nat.add_assoc]; exact h2⟩

def itNe (x y : It) : Bool := !(x.1.toList == y.1.toList && (x.2.1 == y.2.1 && x.2.2.toList == y.2.2.toList))
theorem itNe_true {x y : It} (h : x ≠ y) : itNe x y = true := by
  unfold itNe
  rw [Bool.not_eq_true', Bool.and_eq_false_iff, Bool.and_eq_false_iff]
  by_cases h1 : x.1 = y.1
  · by_cases h2 : x.2.1 = y.2.1
    · exact .inr (.inr (bytes_ne fun h3 => h (Prod.ext h1 (Prod.ext h2 h3))))
    · exact .inr (.inl (by simpa using h2))
  · exact .inl (bytes_ne h1)
theorem itNe_false (x : It) : itNe x x = false := by simp [itNe]
end Go.Proofs.YtbiodbggaeglpaaGreatDoor

/- A region that draws its order and bears guards, where some operations yield what lies in a block of its own: what each yields is a list, and some of it is told by a property. -/
namespace Go.Proofs.YtbiodbggaeglpaaGreatDoor
set_option linter.unusedVariables false
open Go.RowKit

def FF (vals : List Value) (sp : List (Nat × (Value → World → Prop))) (k : Nat) (v : Value) (w : World) : Prop :=
  match sp.find? (fun p => p.1 == k) with
  | some p => p.2 v w
  | none => vals[k]? = some v
theorem FF.keep {vals : List Value} {sp : List (Nat × (Value → World → Prop))} (h : ∀ p ∈ sp, ∀ v w w', Below w.heap.size w w' → p.2 v w → p.2 v w') (k : Nat) (v : Value) (w w' : World) (hb : Below w.heap.size w w') (hF : FF vals sp k v w) : FF vals sp k v w' := by
  unfold FF at *
  cases hf : sp.find? (fun p => p.1 == k) with
  | none => rw [hf] at hF; exact hF
  | some p =>
    rw [hf] at hF
    exact h p (List.mem_of_find?_eq_some hf) v w w' hb hF
def gsB (ops : Array Oper) (ks : List Nat) : Bool := (List.range ops.size).all fun i => match ops[i]? with
  | some o => (match o.guard with | none => true | some (j, _) => ks.all fun k => k != j)
  | none => true
theorem guard_FF {ops : Array Oper} {I : World → Prop} {vals : List Value} {sp : List (Nat × (Value → World → Prop))} {live : Nat → Bool} (hs : gsB ops (sp.map (·.1)) = true) (h : guardB ops vals live = true) : GuardOK ops I (FF vals sp) live := by
  intro i o hi
  have hlt : i < ops.size := (Array.getElem?_eq_some_iff.1 hi).1
  have h1 := List.all_eq_true.1 h i (List.mem_range.2 hlt)
  have h2 := List.all_eq_true.1 hs i (List.mem_range.2 hlt)
  simp only [hi] at h1 h2
  constructor
  · intro hg
    simp only [hg] at h1
    exact h1
  · intro j want hg v w _ hv
    simp only [hg] at h1 h2
    have hn : sp.find? (fun p => p.1 == j) = none := by
      rw [List.find?_eq_none]
      intro p hp e
      have h3 := List.all_eq_true.1 h2 p.1 (List.mem_map.2 ⟨p, hp, rfl⟩)
      rw [beq_iff_eq] at e
      rw [e] at h3
      simp at h3
    unfold FF at hv
    rw [hn] at hv
    simp only at hv
    rw [hv] at h1
    simpa using h1
/-- A code and a slice of cells xs. -/
def SpR (cd : Int) (n : Nat) (xs : List Value) (v : Value) (w : World) : Prop := ∃ a c, v = .agg #[.int .i64 cd, .slice a n c] ∧ Rd w a xs
/-- A slice of cells xs. -/
def SpV (n : Nat) (xs : List Value) (v : Value) (w : World) : Prop := ∃ a c, v = .slice a n c ∧ Rd w a xs
theorem SpR.keep {cd : Int} {n : Nat} {xs : List Value} (v : Value) (w w' : World) (hb : Below w.heap.size w w') (h : SpR cd n xs v w) : SpR cd n xs v w' := by
  obtain ⟨a, c, e, hr⟩ := h
  exact ⟨a, c, e, hr.below hb⟩
theorem SpV.keep {n : Nat} {xs : List Value} (v : Value) (w w' : World) (hb : Below w.heap.size w w') (h : SpV n xs v w) : SpV n xs v w' := by
  obtain ⟨a, c, e, hr⟩ := h
  exact ⟨a, c, e, hr.below hb⟩
/-- A code, three texts and a slice. -/
def SpQ (cd : Int) (m h p : ByteArray) (n : Nat) (xs : List Value) (v : Value) (w : World) : Prop := ∃ a c, v = .agg #[.int .i64 cd, .string m, .string h, .string p, .slice a n c] ∧ Rd w a xs
def SpQ1 (m h p : ByteArray) (n : Nat) (xs : List Value) (v : Value) (w : World) : Prop := ∃ a c, v = .agg #[.string m, .string h, .string p, .slice a n c] ∧ Rd w a xs
theorem SpQ.keep {cd : Int} {m h p : ByteArray} {n : Nat} {xs : List Value} (v : Value) (w w' : World) (hb : Below w.heap.size w w') (hs : SpQ cd m h p n xs v w) : SpQ cd m h p n xs v w' := by
  obtain ⟨a, c, e, hr⟩ := hs
  exact ⟨a, c, e, hr.below hb⟩
theorem SpQ1.keep {m h p : ByteArray} {n : Nat} {xs : List Value} (v : Value) (w w' : World) (hb : Below w.heap.size w w') (hs : SpQ1 m h p n xs v w) : SpQ1 m h p n xs v w' := by
  obtain ⟨a, c, e, hr⟩ := hs
  exact ⟨a, c, e, hr.below hb⟩
/-- A code, a status and two slices. -/
def SpT (cd t : Int) (n : Nat) (xs : List Value) (nb : Nat) (ys : List Value) (v : Value) (w : World) : Prop := ∃ a c ab cb, v = .agg #[.int .i64 cd, .int .i64 t, .slice a n c, .slice ab nb cb] ∧ Rd w a xs ∧ Rd w ab ys
def SpT1 (t : Int) (n : Nat) (xs : List Value) (nb : Nat) (ys : List Value) (v : Value) (w : World) : Prop := ∃ a c ab cb, v = .agg #[.int .i64 t, .slice a n c, .slice ab nb cb] ∧ Rd w a xs ∧ Rd w ab ys
theorem SpT.keep {cd t : Int} {n : Nat} {xs : List Value} {nb : Nat} {ys : List Value} (v : Value) (w w' : World) (hb : Below w.heap.size w w') (h : SpT cd t n xs nb ys v w) : SpT cd t n xs nb ys v w' := by
  obtain ⟨a, c, ab, cb, e, hr, hr2⟩ := h
  exact ⟨a, c, ab, cb, e, hr.below hb, hr2.below hb⟩
theorem SpT1.keep {t : Int} {n : Nat} {xs : List Value} {nb : Nat} {ys : List Value} (v : Value) (w w' : World) (hb : Below w.heap.size w w') (h : SpT1 t n xs nb ys v w) : SpT1 t n xs nb ys v w' := by
  obtain ⟨a, c, ab, cb, e, hr, hr2⟩ := h
  exact ⟨a, c, ab, cb, e, hr.below hb, hr2.below hb⟩
end Go.Proofs.YtbiodbggaeglpaaGreatDoor

/- Requests and responses: copied, measured, compared. -/
namespace Go.Proofs.YtbiodbggaeglpaaGreatDoor
open Go.RowKit
set_option linter.unusedSimpArgs false
set_option linter.unusedVariables false

def sameReq (m h p : ByteArray) (l : List Hd) (m' h' p' : ByteArray) (l' : List Hd) : Bool := m.toList == m'.toList && h.toList == h'.toList && p.toList == p'.toList && decide (l = l')
set_option maxHeartbeats 1600000 in
theorem impl_SameRequests (m h p : ByteArray) (a : Option Addr) (n c : Nat) (l : List Hd) (hl : l.length = n) (m' h' p' : ByteArray) (a' : Option Addr) (n' c' : Nat) (l' : List Hd) (hl' : l'.length = n') (w : World) (hr : Rd w a (hV l)) (hr' : Rd w a' (hV l')) (hn : n ≤ 9223372036854775807) (hn' : n' ≤ 9223372036854775807) :
    Calls Tryz.prog 12 #[.agg #[.string m, .string h, .string p, .slice a n c], .agg #[.string m', .string h', .string p', .slice a' n' c']] w fun e w' => e = .returned (.bool (sameReq m h p l m' h' p' l')) ∧ Below w.heap.size w w' := by
  have Hl := Lib.hid hl
  have Hl' := Lib.hid hl'
  clear hl hl'
  go_enter Tryz.func12, Tryz.ntmps12
  go_wp2_with (go_at_call 49; ((with_reducible refine (slices_Equal_Header _ _ _ _ _ _ l l' Hl.out Hl'.out _ (by first | (with_reducible assumption) | exact RowAt.rd (by repeat' (first | (with_reducible assumption) | (with_reducible refine RowAt.alloc ?_ _) | (with_reducible refine RowAt.drew ?_) | (with_reducible refine RowAt.other ?_ _ _ (by first | omega | (simp; done) | (simp; omega))) | refine RowAt.then ?_ (by with_reducible assumption))) | exact Rd.below (by with_reducible assumption) (by first | (with_reducible exact Below.refl _ _) | ((repeat' (first | (with_reducible exact Below.refl _ _) | (with_reducible assumption) | (with_reducible refine below_alloc ?_ _) | (with_reducible refine Below.drew ?_) | (with_reducible refine below_drewN ?_ _) | (with_reducible refine Below.setCell ?_ ?_ _) | refine below_then ?_ (by with_reducible assumption))) <;> (first | omega | (simp; done) | (simp; omega))))) (by first | (with_reducible assumption) | exact RowAt.rd (by repeat' (first | (with_reducible assumption) | (with_reducible refine RowAt.alloc ?_ _) | (with_reducible refine RowAt.drew ?_) | (with_reducible refine RowAt.other ?_ _ _ (by first | omega | (simp; done) | (simp; omega))) | refine RowAt.then ?_ (by with_reducible assumption))) | exact Rd.below (by with_reducible assumption) (by first | (with_reducible exact Below.refl _ _) | ((repeat' (first | (with_reducible exact Below.refl _ _) | (with_reducible assumption) | (with_reducible refine below_alloc ?_ _) | (with_reducible refine Below.drew ?_) | (with_reducible refine below_drewN ?_ _) | (with_reducible refine Below.setCell ?_ ?_ _) | refine below_then ?_ (by with_reducible assumption))) <;> (first | omega | (simp; done) | (simp; omega))))) hn hn').mono ?_); rintro e w' ⟨rfl, hb⟩))
  all_goals
    go_ret
    exact ⟨ret_bool (by simp_all [sameReq]), (by first | (with_reducible exact Below.refl _ _) | ((repeat' (first | (with_reducible exact Below.refl _ _) | (with_reducible assumption) | (with_reducible refine below_alloc ?_ _) | (with_reducible refine Below.drew ?_) | (with_reducible refine below_drewN ?_ _) | (with_reducible refine Below.setCell ?_ ?_ _) | refine below_then ?_ (by with_reducible assumption))) <;> (first | omega | (simp; done) | (simp; omega))))⟩

end Go.Proofs.YtbiodbggaeglpaaGreatDoor

/- Responses: copied, measured, compared. -/
namespace Go.Proofs.YtbiodbggaeglpaaGreatDoor
open Go.RowKit
set_option linter.unusedSimpArgs false
set_option linter.unusedVariables false

/-- What a measure of two slices tells. -/
def SzR2 (n m : Nat) (left r : Int) : Prop := (-1 ≤ r ∧ r ≤ 1048576) ∧ (0 ≤ r → (n : Int) ≤ left ∧ (m : Int) ≤ 1048576)
theorem SzR2.of {n m : Nat} {left r : Int} (h1 : -1 ≤ r) (h2 : r ≤ 1048576) (h3 : 0 ≤ r → (n : Int) ≤ left) (h4 : 0 ≤ r → (m : Int) ≤ 1048576) : SzR2 n m left r := ⟨⟨h1, h2⟩, fun h => ⟨h3 h, h4 h⟩⟩
def sameRsp (t : Int) (l : List Hd) (lb : List UInt8) (t' : Int) (l' : List Hd) (lb' : List UInt8) : Bool := t == t' && decide (l = l') && lb == lb'
set_option maxRecDepth 100000 in
set_option maxHeartbeats 1600000 in
theorem spec_SameResponses (t : Int) (a : Option Addr) (n c : Nat) (l : List Hd) (hl : l.length = n) (ab : Option Addr) (nb cb : Nat) (lb : List UInt8) (hlb : lb.length = nb)
    (t' : Int) (a' : Option Addr) (n' c' : Nat) (l' : List Hd) (hl' : l'.length = n') (ab' : Option Addr) (nb' cb' : Nat) (lb' : List UInt8) (hlb' : lb'.length = nb') (w : World)
    (hr : Rd w a (hV l)) (hr' : Rd w a' (hV l')) (hrb : Rd w ab (bV lb)) (hrb' : Rd w ab' (bV lb')) (hn : n ≤ 9223372036854775807) (hn' : n' ≤ 9223372036854775807) :
    Calls Tryz.prog 22 #[.agg #[.int .i64 t, .slice a n c, .slice ab nb cb], .agg #[.int .i64 t', .slice a' n' c', .slice ab' nb' cb']] w fun e w' => e = .returned (.bool (sameRsp t l lb t' l' lb')) ∧ Below w.heap.size w w' := by
  have Hl := Lib.hid hl
  have Hl' := Lib.hid hl'
  have Hlb := Lib.hid hlb
  have Hlb' := Lib.hid hlb'
  clear hl hl' hlb hlb'
  go_enter Tryz.func22, Tryz.ntmps22
  go_wp2_with (go_at_call 62; ((with_reducible refine (spec_SameHeaders _ _ _ _ _ _ l l' Hl.out Hl'.out _ (by first | (with_reducible assumption) | exact RowAt.rd (by repeat' (first | (with_reducible assumption) | (with_reducible refine RowAt.alloc ?_ _) | (with_reducible refine RowAt.drew ?_) | (with_reducible refine RowAt.other ?_ _ _ (by first | omega | (simp; done) | (simp; omega))) | refine RowAt.then ?_ (by with_reducible assumption))) | exact Rd.below (by with_reducible assumption) (by first | (with_reducible exact Below.refl _ _) | ((repeat' (first | (with_reducible exact Below.refl _ _) | (with_reducible assumption) | (with_reducible refine below_alloc ?_ _) | (with_reducible refine Below.drew ?_) | (with_reducible refine below_drewN ?_ _) | (with_reducible refine Below.setCell ?_ ?_ _) | refine below_then ?_ (by with_reducible assumption))) <;> (first | omega | (simp; done) | (simp; omega))))) (by first | (with_reducible assumption) | exact RowAt.rd (by repeat' (first | (with_reducible assumption) | (with_reducible refine RowAt.alloc ?_ _) | (with_reducible refine RowAt.drew ?_) | (with_reducible refine RowAt.other ?_ _ _ (by first | omega | (simp; done) | (simp; omega))) | refine RowAt.then ?_ (by with_reducible assumption))) | exact Rd.below (by with_reducible assumption) (by first | (with_reducible exact Below.refl _ _) | ((repeat' (first | (with_reducible exact Below.refl _ _) | (with_reducible assumption) | (with_reducible refine below_alloc ?_ _) | (with_reducible refine Below.drew ?_) | (with_reducible refine below_drewN ?_ _) | (with_reducible refine Below.setCell ?_ ?_ _) | refine below_then ?_ (by with_reducible assumption))) <;> (first | omega | (simp; done) | (simp; omega))))) hn hn').mono ?_); rintro e w' ⟨rfl, hb⟩; obtain ⟨hc, hf⟩ := bcell hb; have hz := hb.size; (try simp only [World.size_alloc, World.size_setCell, World.size_drew] at hz); obtain ⟨hlt, hle, hn1, hn2, hn3, hn4⟩ := bsize hb; (try simp only [World.size_alloc, World.size_setCell, World.size_drew] at hlt hle hn1 hn2 hn3 hn4); (try have hr0 : w.heap.size < w'.heap.size := by omega); (try have hr1 : w.heap.size + 1 < w'.heap.size := by omega); (try have hs0 : wS.heap.size < w'.heap.size := by omega); (try have hs1 : wG.heap.size < w'.heap.size := by omega); have hcv := conv_rd w' ab nb cb lb Hlb.out (by first | (with_reducible assumption) | exact RowAt.rd (by repeat' (first | (with_reducible assumption) | (with_reducible refine RowAt.alloc ?_ _) | (with_reducible refine RowAt.drew ?_) | (with_reducible refine RowAt.other ?_ _ _ (by first | omega | (simp; done) | (simp; omega))) | refine RowAt.then ?_ (by with_reducible assumption))) | exact Rd.below (by with_reducible assumption) (by first | (with_reducible exact Below.refl _ _) | ((repeat' (first | (with_reducible exact Below.refl _ _) | (with_reducible assumption) | (with_reducible refine below_alloc ?_ _) | (with_reducible refine Below.drew ?_) | (with_reducible refine below_drewN ?_ _) | (with_reducible refine Below.setCell ?_ ?_ _) | refine below_then ?_ (by with_reducible assumption))) <;> (first | omega | (simp; done) | (simp; omega))))); have hcv' := conv_rd w' ab' nb' cb' lb' Hlb'.out (by first | (with_reducible assumption) | exact RowAt.rd (by repeat' (first | (with_reducible assumption) | (with_reducible refine RowAt.alloc ?_ _) | (with_reducible refine RowAt.drew ?_) | (with_reducible refine RowAt.other ?_ _ _ (by first | omega | (simp; done) | (simp; omega))) | refine RowAt.then ?_ (by with_reducible assumption))) | exact Rd.below (by with_reducible assumption) (by first | (with_reducible exact Below.refl _ _) | ((repeat' (first | (with_reducible exact Below.refl _ _) | (with_reducible assumption) | (with_reducible refine below_alloc ?_ _) | (with_reducible refine Below.drew ?_) | (with_reducible refine below_drewN ?_ _) | (with_reducible refine Below.setCell ?_ ?_ _) | refine below_then ?_ (by with_reducible assumption))) <;> (first | omega | (simp; done) | (simp; omega)))))))
  all_goals
    go_ret
    exact ⟨ret_bool (by simp_all [sameRsp]), (by first | (with_reducible exact Below.refl _ _) | ((repeat' (first | (with_reducible exact Below.refl _ _) | (with_reducible assumption) | (with_reducible refine below_alloc ?_ _) | (with_reducible refine Below.drew ?_) | (with_reducible refine below_drewN ?_ _) | (with_reducible refine Below.setCell ?_ ?_ _) | refine below_then ?_ (by with_reducible assumption))) <;> (first | omega | (simp; done) | (simp; omega))))⟩
set_option maxRecDepth 100000 in
set_option maxHeartbeats 1600000 in
theorem impl_SameResponses (t : Int) (a : Option Addr) (n c : Nat) (l : List Hd) (hl : l.length = n) (ab : Option Addr) (nb cb : Nat) (lb : List UInt8) (hlb : lb.length = nb)
    (t' : Int) (a' : Option Addr) (n' c' : Nat) (l' : List Hd) (hl' : l'.length = n') (ab' : Option Addr) (nb' cb' : Nat) (lb' : List UInt8) (hlb' : lb'.length = nb') (w : World)
    (hr : Rd w a (hV l)) (hr' : Rd w a' (hV l')) (hrb : Rd w ab (bV lb)) (hrb' : Rd w ab' (bV lb')) (hn : n ≤ 9223372036854775807) (hn' : n' ≤ 9223372036854775807) :
    Calls Tryz.prog 14 #[.agg #[.int .i64 t, .slice a n c, .slice ab nb cb], .agg #[.int .i64 t', .slice a' n' c', .slice ab' nb' cb']] w fun e w' => e = .returned (.bool (sameRsp t l lb t' l' lb')) ∧ Below w.heap.size w w' := by
  have Hl := Lib.hid hl
  have Hl' := Lib.hid hl'
  have Hlb := Lib.hid hlb
  have Hlb' := Lib.hid hlb'
  clear hl hl' hlb hlb'
  go_enter Tryz.func14, Tryz.ntmps14
  go_wp2_with (first | (go_at_call 49; ((with_reducible refine (slices_Equal_Header _ _ _ _ _ _ l l' Hl.out Hl'.out _ (by first | (with_reducible assumption) | exact RowAt.rd (by repeat' (first | (with_reducible assumption) | (with_reducible refine RowAt.alloc ?_ _) | (with_reducible refine RowAt.drew ?_) | (with_reducible refine RowAt.other ?_ _ _ (by first | omega | (simp; done) | (simp; omega))) | refine RowAt.then ?_ (by with_reducible assumption))) | exact Rd.below (by with_reducible assumption) (by first | (with_reducible exact Below.refl _ _) | ((repeat' (first | (with_reducible exact Below.refl _ _) | (with_reducible assumption) | (with_reducible refine below_alloc ?_ _) | (with_reducible refine Below.drew ?_) | (with_reducible refine below_drewN ?_ _) | (with_reducible refine Below.setCell ?_ ?_ _) | refine below_then ?_ (by with_reducible assumption))) <;> (first | omega | (simp; done) | (simp; omega))))) (by first | (with_reducible assumption) | exact RowAt.rd (by repeat' (first | (with_reducible assumption) | (with_reducible refine RowAt.alloc ?_ _) | (with_reducible refine RowAt.drew ?_) | (with_reducible refine RowAt.other ?_ _ _ (by first | omega | (simp; done) | (simp; omega))) | refine RowAt.then ?_ (by with_reducible assumption))) | exact Rd.below (by with_reducible assumption) (by first | (with_reducible exact Below.refl _ _) | ((repeat' (first | (with_reducible exact Below.refl _ _) | (with_reducible assumption) | (with_reducible refine below_alloc ?_ _) | (with_reducible refine Below.drew ?_) | (with_reducible refine below_drewN ?_ _) | (with_reducible refine Below.setCell ?_ ?_ _) | refine below_then ?_ (by with_reducible assumption))) <;> (first | omega | (simp; done) | (simp; omega))))) hn hn').mono ?_); rintro e w' ⟨rfl, hb⟩; obtain ⟨hc, hf⟩ := bcell hb; have hz := hb.size; (try simp only [World.size_alloc, World.size_setCell, World.size_drew] at hz); obtain ⟨hlt, hle, hn1, hn2, hn3, hn4⟩ := bsize hb; (try simp only [World.size_alloc, World.size_setCell, World.size_drew] at hlt hle hn1 hn2 hn3 hn4); (try have hr0 : w.heap.size < w'.heap.size := by omega); (try have hr1 : w.heap.size + 1 < w'.heap.size := by omega); (try have hs0 : wS.heap.size < w'.heap.size := by omega); (try have hs1 : wG.heap.size < w'.heap.size := by omega); have hcv := conv_rd w' ab nb cb lb Hlb.out (by first | (with_reducible assumption) | exact RowAt.rd (by repeat' (first | (with_reducible assumption) | (with_reducible refine RowAt.alloc ?_ _) | (with_reducible refine RowAt.drew ?_) | (with_reducible refine RowAt.other ?_ _ _ (by first | omega | (simp; done) | (simp; omega))) | refine RowAt.then ?_ (by with_reducible assumption))) | exact Rd.below (by with_reducible assumption) (by first | (with_reducible exact Below.refl _ _) | ((repeat' (first | (with_reducible exact Below.refl _ _) | (with_reducible assumption) | (with_reducible refine below_alloc ?_ _) | (with_reducible refine Below.drew ?_) | (with_reducible refine below_drewN ?_ _) | (with_reducible refine Below.setCell ?_ ?_ _) | refine below_then ?_ (by with_reducible assumption))) <;> (first | omega | (simp; done) | (simp; omega))))); have hcv' := conv_rd w' ab' nb' cb' lb' Hlb'.out (by first | (with_reducible assumption) | exact RowAt.rd (by repeat' (first | (with_reducible assumption) | (with_reducible refine RowAt.alloc ?_ _) | (with_reducible refine RowAt.drew ?_) | (with_reducible refine RowAt.other ?_ _ _ (by first | omega | (simp; done) | (simp; omega))) | refine RowAt.then ?_ (by with_reducible assumption))) | exact Rd.below (by with_reducible assumption) (by first | (with_reducible exact Below.refl _ _) | ((repeat' (first | (with_reducible exact Below.refl _ _) | (with_reducible assumption) | (with_reducible refine below_alloc ?_ _) | (with_reducible refine Below.drew ?_) | (with_reducible refine below_drewN ?_ _) | (with_reducible refine Below.setCell ?_ ?_ _) | refine below_then ?_ (by with_reducible assumption))) <;> (first | omega | (simp; done) | (simp; omega))))))) | (go_at_call 51; ((with_reducible refine (Tryz.bytes_Equal_strs _ _ _ _ _ hcv hcv').mono ?_); rintro e w'' ⟨rfl, rfl⟩)))
  all_goals
    go_ret
    exact ⟨ret_bool (by simp_all [sameRsp]), (by first | (with_reducible exact Below.refl _ _) | ((repeat' (first | (with_reducible exact Below.refl _ _) | (with_reducible assumption) | (with_reducible refine below_alloc ?_ _) | (with_reducible refine Below.drew ?_) | (with_reducible refine below_drewN ?_ _) | (with_reducible refine Below.setCell ?_ ?_ _) | refine below_then ?_ (by with_reducible assumption))) <;> (first | omega | (simp; done) | (simp; omega))))⟩
end Go.Proofs.YtbiodbggaeglpaaGreatDoor

/- Plain words: a text split at a separator, and read byte by byte. No program in sight. -/
namespace Go.Proofs.YtbiodbggaeglpaaGreatDoor
open Go.RowKit

theorem split_hit {s sep : List UInt8} (hsep : sep ≠ []) {i : Nat} (h : Lib.index s sep = i) : Lib.split s sep = s.take i :: Lib.split (s.drop (i + sep.length)) sep := by
  unfold Lib.split
  rw [Lib.count_hit hsep h, Nat.add_comm 1, Lib.splitK]
  have e : (Lib.index s sep == -1) = false := by rw [h, beq_eq_false_iff_ne]; omega
  rw [e]
  simp [h]
theorem split_miss {s sep : List UInt8} (h : Lib.index s sep = -1) : Lib.split s sep = [s] := by
  unfold Lib.split
  rw [Lib.count_miss h]
  rfl
theorem index_front {s sep : List UInt8} (h : sep.isPrefixOf s = true) : Lib.index s sep = 0 := by
  cases s with
  | nil => cases sep with
    | nil => rfl
    | cons a t => cases h
  | cons b r => unfold Lib.index; rw [if_pos h]
theorem split_front {s sep : List UInt8} (hsep : sep ≠ []) (h : sep.isPrefixOf s = true) : Lib.split s sep = [] :: Lib.split (s.drop sep.length) sep := by
  rw [split_hit hsep (i := 0) (index_front h)]
  simp
theorem index_cases (s sep : List UInt8) : Lib.index s sep = -1 ∨ ∃ i : Nat, Lib.index s sep = i := by
  have := Lib.index_ge s sep
  by_cases h : Lib.index s sep = -1
  · exact .inl h
  · exact .inr ⟨(Lib.index s sep).toNat, by omega⟩
theorem split_skip {b : UInt8} {r sep : List UInt8} (hsep : sep ≠ []) (hp : sep.isPrefixOf (b :: r) = false) {h : List UInt8} {t : List (List UInt8)} (e : Lib.split r sep = h :: t) : Lib.split (b :: r) sep = (b :: h) :: t := by
  rcases index_cases r sep with hm | ⟨i, hi⟩
  · have hm' : Lib.index (b :: r) sep = -1 := by unfold Lib.index; rw [if_neg (by rw [hp]; decide), hm]; rfl
    rw [split_miss hm] at e
    rw [split_miss hm']
    cases e; rfl
  · have hi' : Lib.index (b :: r) sep = ((i + 1 : Nat) : Int) := by
      have hne : ¬ ((i : Int) == -1) = true := fun q => by have := beq_iff_eq.1 q; omega
      unfold Lib.index; rw [if_neg (by rw [hp]; decide), hi, if_neg hne]; omega
    rw [split_hit hsep hi] at e
    rw [split_hit hsep hi']
    cases e
    rw [List.take_succ_cons, show i + 1 + sep.length = (i + sep.length) + 1 by omega, List.drop_succ_cons]
theorem split_some (s : List UInt8) {sep : List UInt8} (hsep : sep ≠ []) : ∃ h t, Lib.split s sep = h :: t := by
  rcases index_cases s sep with hm | ⟨i, hi⟩
  · exact ⟨_, _, split_miss hm⟩
  · exact ⟨_, _, split_hit hsep hi⟩

/-- The pieces of bytes between one byte, read byte by byte. -/
def cutGo (c : UInt8) : List UInt8 → List UInt8 → List (List UInt8)
  | cur, [] => [cur]
  | cur, b :: r => if b = c then cur :: cutGo c [] r else cutGo c (cur ++ [b]) r
theorem cutGo_split (c : UInt8) : ∀ (s cur : List UInt8) (h : List UInt8) (t : List (List UInt8)), Lib.split s [c] = h :: t → cutGo c cur s = (cur ++ h) :: t
  | [], cur, h, t, e => by
    rw [split_miss (by rfl)] at e
    cases e
    simp [cutGo]
  | b :: r, cur, h, t, e => by
    obtain ⟨h', t', e'⟩ := split_some r (sep := [c]) (by simp)
    unfold cutGo
    by_cases hb : b = c
    · subst hb
      rw [split_front (by simp) (by simp [List.isPrefixOf])] at e
      cases e
      rw [if_pos rfl, cutGo_split b r [] h' t' e']
      simp only [List.length_singleton, List.drop_one, List.tail_cons, List.append_nil, List.nil_append]
      rw [e']
    · rw [split_skip (by simp) (by simp [List.isPrefixOf]; exact fun q => hb q.symm) e'] at e
      have e1 := List.cons.inj e
      rw [if_neg hb, cutGo_split c r _ h' t' e', ← e1.1, ← e1.2]
      simp
theorem cutGo_eq (c : UInt8) (s : List UInt8) : cutGo c [] s = Lib.split s [c] := by
  obtain ⟨h, t, e⟩ := split_some s (sep := [c]) (by simp)
  rw [cutGo_split c s [] h t e, e]; rfl

/-- Lines that 13 and 10 end, and what stands behind the last of them. -/
def linesGo : List UInt8 → List UInt8 → List (List UInt8) × List UInt8
  | cur, [] => ([], cur)
  | cur, [b] => ([], cur ++ [b])
  | cur, b :: c :: r => if b = 13 ∧ c = 10 then (cur :: (linesGo [] r).1, (linesGo [] r).2) else linesGo (cur ++ [b]) (c :: r)
termination_by _ s => s.length
theorem linesGo_split : ∀ (s cur : List UInt8) (h : List UInt8) (t : List (List UInt8)), Lib.split s [13, 10] = h :: t → (linesGo cur s).1 ++ [(linesGo cur s).2] = (cur ++ h) :: t
  | [], cur, h, t, e => by
    rw [split_miss (by rfl)] at e
    cases e
    simp [linesGo]
  | [b], cur, h, t, e => by
    rw [split_skip (by simp) (by simp [List.isPrefixOf]) (split_miss (s := []) (sep := [13, 10]) (by rfl))] at e
    cases e
    simp [linesGo]
  | b :: c :: r, cur, h, t, e => by
    unfold linesGo
    by_cases hb : b = 13 ∧ c = 10
    · obtain ⟨rfl, rfl⟩ := hb
      obtain ⟨h', t', e'⟩ := split_some r (sep := [13, 10]) (by simp)
      rw [split_front (by simp) (by simp [List.isPrefixOf])] at e
      cases e
      rw [if_pos ⟨rfl, rfl⟩]
      have ih := linesGo_split r [] h' t' e'
      simp only [List.length_cons, List.length_nil, List.drop_succ_cons, List.drop_zero, List.append_nil]
      rw [e', List.cons_append, ih]
      rfl
    · obtain ⟨h', t', e'⟩ := split_some (c :: r) (sep := [13, 10]) (by simp)
      have hp : List.isPrefixOf [13, 10] (b :: c :: r) = false := by
        rw [Bool.eq_false_iff]
        intro q
        simp [List.isPrefixOf] at q
        exact hb ⟨q.1.symm, q.2.symm⟩
      rw [split_skip (by simp) hp e'] at e
      have e1 := List.cons.inj e
      rw [if_neg hb, linesGo_split (c :: r) _ h' t' e', ← e1.1, ← e1.2]
      simp
termination_by s => s.length
theorem linesGo_eq (s : List UInt8) : (linesGo [] s).1 ++ [(linesGo [] s).2] = Lib.split s [13, 10] := by
  obtain ⟨h, t, e⟩ := split_some s (sep := [13, 10]) (by simp)
  rw [linesGo_split s [] h t e, e]; rfl
/-- Nothing stands behind the last line just where the text is empty or ends so. -/
theorem linesGo_end : ∀ (s cur : List UInt8), (linesGo cur s).2 = [] ↔ (cur = [] ∧ s = []) ∨ [13, 10] <:+ s
  | [], cur => by
    simp [linesGo]
  | [b], cur => by
    simp only [linesGo]
    constructor
    · intro h; simp at h
    · rintro (⟨_, h⟩ | h)
      · cases h
      · have := h.length_le; simp at this
  | b :: c :: r, cur => by
    unfold linesGo
    by_cases hb : b = 13 ∧ c = 10
    · obtain ⟨rfl, rfl⟩ := hb
      rw [if_pos ⟨rfl, rfl⟩]
      show (linesGo [] r).2 = [] ↔ _
      rw [linesGo_end r []]
      constructor
      · rintro (⟨_, rfl⟩ | h)
        · exact .inr (List.suffix_refl _)
        · exact .inr (h.trans ⟨[13, 10], rfl⟩)
      · rintro (⟨_, h⟩ | h)
        · cases h
        · by_cases hr : r = []
          · exact .inl ⟨rfl, hr⟩
          · refine .inr ?_
            rcases List.suffix_cons_iff.1 h with h | h
            · exact absurd (by have := congrArg List.length h; simpa using this) (fun q : r.length = 0 => hr (List.length_eq_zero_iff.1 q))
            · rcases List.suffix_cons_iff.1 h with h | h
              · have := congrArg List.head? h; simp at this
              · exact h
    · rw [if_neg hb, linesGo_end (c :: r) _]
      constructor
      · rintro (⟨h, _⟩ | h)
        · simp at h
        · exact .inr (h.trans ⟨[b], rfl⟩)
      · rintro (⟨_, h⟩ | h)
        · cases h
        · refine .inr ?_
          rcases List.suffix_cons_iff.1 h with h | h
          · cases h; exact absurd ⟨rfl, rfl⟩ hb
          · exact h
termination_by s => s.length
/-- Cut at the first of one byte. -/
theorem cut_at {s : List UInt8} {c : UInt8} {i : Nat} (hi : i < s.length) (hc : s[i] = c) (hn : ∀ j (hj : j < i), s[j]'(by omega) ≠ c) : Lib.cut s [c] = (s.take i, s.drop (i + 1), true) := by
  have e : Lib.index s [c] = i := by
    refine Lib.index_first (by omega) ?_ ?_
    · unfold Lib.occAt
      rw [List.drop_eq_getElem_cons hi]
      simp [List.isPrefixOf, hc]
    · intro j hj
      unfold Lib.occAt
      rw [List.drop_eq_getElem_cons (by omega)]
      simp [List.isPrefixOf]
      exact fun q => hn j hj q.symm
  unfold Lib.cut
  rw [e, if_pos (by omega)]
  simp
theorem cut_none {s : List UInt8} {c : UInt8} (hn : ∀ j (hj : j < s.length), s[j] ≠ c) : Lib.cut s [c] = (s, [], false) := by
  have e : Lib.index s [c] = -1 := by
    refine Lib.index_none ?_
    intro j hj
    unfold Lib.occAt
    by_cases h : j < s.length
    · rw [List.drop_eq_getElem_cons h]
      simp [List.isPrefixOf]
      exact fun q => hn j h q.symm
    · rw [List.drop_of_length_le (by omega)]
      rfl
  unfold Lib.cut
  rw [e, if_neg (by omega)]
theorem split_len {sep : List UInt8} (hsep : sep ≠ []) : ∀ (n : Nat) (s : List UInt8), s.length ≤ n → (Lib.split s sep).length = Lib.count s sep + 1 := by
  intro n
  induction n with
  | zero =>
    intro s hs
    obtain rfl : s = [] := List.length_eq_zero_iff.1 (by omega)
    have e : Lib.index [] sep = -1 := by
      unfold Lib.index
      cases sep with
      | nil => exact absurd rfl hsep
      | cons a t => rfl
    rw [split_miss e, Lib.count_miss e]; rfl
  | succ n ih =>
    intro s hs
    rcases index_cases s sep with hm | ⟨i, hi⟩
    · rw [split_miss hm, Lib.count_miss hm]; rfl
    · have hlt := Lib.drop_shorter hsep (s := s) (by rw [hi]; intro q; have := beq_iff_eq.1 q; omega)
      rw [hi, Int.toNat_natCast] at hlt
      rw [split_hit hsep hi, Lib.count_hit hsep hi, List.length_cons, ih _ (by omega)]
      omega
end Go.Proofs.YtbiodbggaeglpaaGreatDoor

/- Slices of strings: copied, measured, compared, searched. -/
namespace Go.Proofs.YtbiodbggaeglpaaGreatDoor
open Go.RowKit
set_option linter.unusedSimpArgs false
set_option linter.unusedVariables false

def strV (l : List ByteArray) : List Value := l.map Value.string
theorem strV_len (l : List ByteArray) : (strV l).length = l.length := List.length_map _
theorem strV_at (l : List ByteArray) (k : Nat) (h : k < l.length) : (strV l)[k]? = some (.string l[k]) := by simp [strV, h]
theorem strV_take (l : List ByteArray) (k : Nat) (h : k < l.length) : strV (l.take (k + 1)) = strV (l.take k) ++ [.string l[k]] := by
  unfold strV; rw [List.take_succ_eq_append_getElem h, List.map_append]; rfl
theorem infoStr : (Tryz.prog.info? 9).map (fun i => (i.zero, i.size, i.bytes)) = some (some (.string ⟨#[]⟩), 1, 16) := by kernel_rfl

def isS (t : ByteArray) (s : ByteArray) : Bool := decide (s = t)
theorem isS_true {t s : ByteArray} (h : isS t s = true) : (t.toList == s.toList) = true ∧ (s.toList == t.toList) = true := by
  have := of_decide_eq_true h; subst this; simp
theorem isS_false {t s : ByteArray} (h : isS t s = false) : (t.toList == s.toList) = false ∧ (s.toList == t.toList) = false := by
  have := of_decide_eq_false h
  exact ⟨bytes_ne fun e => this e.symm, bytes_ne this⟩
def hasS (t : ByteArray) (l : List ByteArray) : Bool := decide (0 ≤ idxI (isS t) l)

end Go.Proofs.YtbiodbggaeglpaaGreatDoor

/- Letters, words, small letters. -/
namespace Go.Proofs.YtbiodbggaeglpaaGreatDoor
open Go.RowKit
set_option linter.unusedSimpArgs false
set_option linter.unusedVariables false

theorem idx_has (l : List UInt8) (c : Int) (h0 : 0 ≤ c) (h1 : c < 256) : decide (0 ≤ Lib.indexByte l (UInt8.ofNat c.toNat)) = (l.map fun b => (b.toNat : Int)).contains c := by
  rw [← Lib.contains_iff_indexByte]
  obtain ⟨n, rfl⟩ := Int.eq_ofNat_of_zero_le h0
  induction l with
  | nil => rfl
  | cons b l ih =>
    rw [List.map_cons, List.contains_cons, List.contains_cons, ih]
    congr 1
    rw [Bool.eq_iff_iff, beq_iff_eq, beq_iff_eq]
    have hb := b.toNat_lt
    constructor
    · intro h; rw [← h]; simp; omega
    · intro h
      apply UInt8.toNat_inj.1
      simp; omega

theorem impl_isLetter (c : Int) (w : World) : Calls Tryz.prog 116 #[.int .u8 c] w fun e w' => e = .returned (.bool (letterB c)) ∧ w = w' := by
  go_enter Tryz.func116, Tryz.ntmps116
  go_wp2
  all_goals (go_ret; exact ⟨ret_bool (by rw [Bool.eq_iff_iff]; simp [letterB]; omega), rfl⟩)
theorem spec_l1Letter (c : Int) (w : World) : Calls Tryz.prog 83 #[.int .u8 c] w fun e w' => e = .returned (.bool (letterB c)) ∧ w = w' := by
  go_enter Tryz.func83, Tryz.ntmps83
  go_wp2
  all_goals (go_ret; exact ⟨ret_bool (by rw [Bool.eq_iff_iff]; simp [letterB]; omega), rfl⟩)
theorem impl_isDigit (c : Int) (w : World) : Calls Tryz.prog 40 #[.int .u8 c] w fun e w' => e = .returned (.bool (digitB c)) ∧ w = w' := by
  go_enter Tryz.func40, Tryz.ntmps40
  go_wp2
  all_goals (go_ret; exact ⟨ret_bool (by rw [Bool.eq_iff_iff]; simp [digitB]; omega), rfl⟩)
theorem spec_l1Digit (c : Int) (w : World) : Calls Tryz.prog 77 #[.int .u8 c] w fun e w' => e = .returned (.bool (digitB c)) ∧ w = w' := by
  go_enter Tryz.func77, Tryz.ntmps77
  go_wp2
  all_goals (go_ret; exact ⟨ret_bool (by rw [Bool.eq_iff_iff]; simp [digitB]; omega), rfl⟩)
set_option maxHeartbeats 1000000 in
theorem spec_l1WordByte (c : Int) (w : World) : Calls Tryz.prog 113 #[.int .u8 c] w fun e w' => e = .returned (.bool (wordB c)) ∧ w = w' := by
  go_enter Tryz.func113, Tryz.ntmps113
  go_wp2_with (first | (go_at_call 83; ((with_reducible refine (spec_l1Letter _ _).mono ?_); rintro e w' ⟨rfl, rfl⟩)) | (go_at_call 77; ((with_reducible refine (spec_l1Digit _ _).mono ?_); rintro e w' ⟨rfl, rfl⟩)))
  all_goals (go_ret; exact ⟨ret_bool (by simp_all [wordB]), rfl⟩)
theorem impl_isWordByte (c : Int) (h0 : 0 ≤ c) (h1 : c < 256) (w : World) : Calls Tryz.prog 117 #[.int .u8 c] w fun e w' => e = .returned (.bool (wordB c)) ∧ w = w' := by
  go_enter Tryz.func117, Tryz.ntmps117
  go_wp2_with (first | (go_at_call 116; ((with_reducible refine (impl_isLetter _ _).mono ?_); rintro e w' ⟨rfl, rfl⟩)) | (go_at_call 40; ((with_reducible refine (impl_isDigit _ _).mono ?_); rintro e w' ⟨rfl, rfl⟩)) | (go_at_call 118; ((with_reducible refine (Tryz.strings_IndexByte _ _ _).mono ?_); rintro e w' ⟨rfl, rfl⟩)))
  · go_ret
    exact ⟨ret_bool (by simp_all [wordB]), rfl⟩
  · go_ret
    exact ⟨ret_bool (by simp_all [wordB]), rfl⟩
  · go_ret
    refine ⟨ret_bool ?_, rfl⟩
    rw [idx_has _ c h0 h1]
    simp_all [wordB]

set_option maxHeartbeats 800000 in
theorem areBytes_word (s : ByteArray) (lo hi : Int) (w : World) (hs : s.size ≤ 9223372036854775807) : Calls Tryz.prog 39 #[.string s, .int .i64 lo, .int .i64 hi, .func (.func 117) #[] #[]] w fun e w' => e = .returned (.bool (inB s.size lo hi && allB wordB s)) ∧ w = w' := by
  by_cases hb : inB s.size lo hi = true
  · obtain ⟨h1, h2⟩ := inB_iff.1 hb
    have hfin : ∀ v, allB wordB s = v → (inB s.size lo hi && allB wordB s) = v := fun v h => by rw [hb, h]; rfl
    have Hfin := Lib.hid hfin
    clear hfin hb
    go_enter Tryz.func39, Tryz.ntmps39
    go_wp2
    go_loop [22] (fun i => ∃ k : Nat, k ≤ s.size ∧ i = .int .i64 k ∧ allTo wordB s k = true) (fun i => s.size - (intOf i).toNat)
    case atStart => exact ⟨0, Nat.zero_le _, rfl, rfl⟩
    case round =>
      obtain ⟨k, hk, rfl, hall⟩ := hrel
      have Hall := Lib.hid hall
      clear hall
      by_cases hlt : k < s.size
      · have hsn := Lib.hid (allTo_succ wordB s k hlt)
        by_cases hp : wordB (s[k].toNat : Int) = true
        · go_wp2_with (go_at_call 117; ((with_reducible refine (impl_isWordByte _ (by omega) (by have := (s[k]).toNat_lt; omega) _).mono ?_); rintro e w' ⟨rfl, rfl⟩))
          go_round
          case rel => exact ⟨k + 1, by omega, by go_num, by rw [hsn.out, Hall.out, hp]; rfl⟩
          case measure => simp [intOf]; omega
        · simp only [Bool.not_eq_true] at hp
          go_wp2_with (go_at_call 117; ((with_reducible refine (impl_isWordByte _ (by omega) (by have := (s[k]).toNat_lt; omega) _).mono ?_); rintro e w' ⟨rfl, rfl⟩))
          go_ret
          exact ⟨ret_bool (Hfin.out _ (allB_false _ _ _ hlt hp)).symm, rfl⟩
      · have hk' : k = s.size := by omega
        have Hk := Lib.hid hk'
        clear hk'
        go_wp2
        go_ret
        refine ⟨ret_bool (Hfin.out _ ?_).symm, rfl⟩
        have h := Hall.out
        rw [Hk.out, allTo_size] at h
        exact h
  · simp only [Bool.not_eq_true] at hb
    have h1 := inB_not.1 hb
    by_cases h2 : (s.size : Int) < lo
    all_goals
      go_enter Tryz.func39, Tryz.ntmps39
      go_wp2
      all_goals
        go_ret
        exact ⟨ret_bool (by first | rfl | (rw [hb]; rfl)), rfl⟩

theorem wordS_of (s : ByteArray) : (inB s.size 1 64 && allB wordB s) = wordS s := by
  unfold wordS inB; congr 1; congr 1 <;> rw [Bool.eq_iff_iff] <;> simp only [decide_eq_true_eq] <;> omega
theorem impl_IsWord (s : ByteArray) (w : World) (hs : s.size ≤ 9223372036854775807) : Calls Tryz.prog 111 #[.string s] w fun e w' => e = .returned (.bool (wordS s)) ∧ w = w' := by
  go_enter Tryz.func111, Tryz.ntmps111
  go_wp2_with (go_at_call 39; ((with_reducible refine (areBytes_word _ _ _ _ hs).mono ?_); rintro e w' ⟨rfl, rfl⟩))
  go_ret
  exact ⟨ret_bool (wordS_of s), rfl⟩
set_option maxHeartbeats 800000 in
theorem spec_IsWord (s : ByteArray) (w : World) (hs : s.size ≤ 9223372036854775807) : Calls Tryz.prog 114 #[.string s] w fun e w' => e = .returned (.bool (wordS s)) ∧ w = w' := by
  by_cases hb : inB s.size 1 64 = true
  · obtain ⟨h1, h2⟩ := inB_iff.1 hb
    have hfin : ∀ v, allB wordB s = v → Ending.returned (.bool v) = .returned (.bool (wordS s)) := fun v h => by rw [← wordS_of, hb, h]; rfl
    have Hfin := Lib.hid hfin
    clear hfin hb
    go_enter Tryz.func114, Tryz.ntmps114
    go_wp2
    go_loop [3] (fun i => ∃ k : Nat, k ≤ s.size ∧ i = .int .i64 k ∧ allTo wordB s k = true) (fun i => s.size - (intOf i).toNat)
    case atStart => exact ⟨0, Nat.zero_le _, rfl, rfl⟩
    case round =>
      obtain ⟨k, hk, rfl, hall⟩ := hrel
      have Hall := Lib.hid hall
      clear hall
      by_cases hlt : k < s.size
      · have hsn := Lib.hid (allTo_succ wordB s k hlt)
        by_cases hp : wordB (s[k].toNat : Int) = true
        · go_wp2_with (go_at_call 113; ((with_reducible refine (spec_l1WordByte _ _).mono ?_); rintro e w' ⟨rfl, rfl⟩))
          go_round
          case rel => exact ⟨k + 1, by omega, by go_num, by rw [hsn.out, Hall.out, hp]; rfl⟩
          case measure => simp [intOf]; omega
        · simp only [Bool.not_eq_true] at hp
          go_wp2_with (go_at_call 113; ((with_reducible refine (spec_l1WordByte _ _).mono ?_); rintro e w' ⟨rfl, rfl⟩))
          go_ret
          exact ⟨Hfin.out _ (allB_false _ _ _ hlt hp), rfl⟩
      · have hk' : k = s.size := by omega
        have Hk := Lib.hid hk'
        clear hk'
        go_wp2
        go_ret
        refine ⟨Hfin.out _ ?_, rfl⟩
        have h := Hall.out
        rw [Hk.out, allTo_size] at h
        exact h
  · simp only [Bool.not_eq_true] at hb
    have h1 := inB_not.1 hb
    have hfin : Ending.returned (.bool false) = .returned (.bool (wordS s)) := by rw [← wordS_of, hb]; rfl
    have Hfin := Lib.hid hfin
    clear hfin hb
    by_cases h2 : (s.size : Int) < 1
    all_goals
      go_enter Tryz.func114, Tryz.ntmps114
      go_wp2
      all_goals
        go_ret
        exact ⟨Hfin.out, rfl⟩
end Go.Proofs.YtbiodbggaeglpaaGreatDoor

/- Small letters: both texts write the same bytes. -/
namespace Go.Proofs.YtbiodbggaeglpaaGreatDoor
open Go.RowKit
set_option linter.unusedSimpArgs false
set_option linter.unusedVariables false

/-- The first k bytes small, the others as they were. -/
def lowVals (s : ByteArray) (k : Nat) : List Value := ((s.data.toList.take k).map lowB ++ s.data.toList.drop k).map byteV
theorem lowVals_zero (s : ByteArray) : lowVals s 0 = s.data.toList.map byteV := by simp [lowVals]
theorem lowVals_len (s : ByteArray) (k : Nat) : (lowVals s k).length = s.size := by
  have : s.data.toList.length = s.size := Array.length_toList
  simp only [lowVals, List.length_map, List.length_append, List.length_take, List.length_drop]; omega
theorem lowVals_at (s : ByteArray) (k : Nat) (h : k < s.size) : (lowVals s k)[k]? = some (byteV s[k]) := by
  have hl : s.data.toList.length = s.size := Array.length_toList
  have e : s.data.toList[k]'(by omega) = s[k] := rfl
  simp only [lowVals, List.getElem?_map]
  rw [List.getElem?_append_right (by simp; omega), List.getElem?_drop]
  simp only [List.length_map, List.length_take]
  rw [show k + (k - min k s.data.toList.length) = k from by omega, List.getElem?_eq_getElem (by omega), e]; rfl
theorem lowVals_keep (s : ByteArray) (k : Nat) (h : k < s.size) (hb : ¬ (65 ≤ s[k].toNat ∧ s[k].toNat ≤ 90)) : lowVals s (k + 1) = lowVals s k := by
  have hl : s.data.toList.length = s.size := Array.length_toList
  unfold lowVals
  rw [take_snoc s k h]
  have hd : s.data.toList.drop k = s[k] :: s.data.toList.drop (k + 1) := by rw [List.drop_eq_getElem_cons (by omega)]; rfl
  rw [hd]
  simp [lowB, hb]
theorem lowVals_set (s : ByteArray) (k : Nat) (h : k < s.size) (hb : 65 ≤ s[k].toNat ∧ s[k].toNat ≤ 90) : (lowVals s k).set k (.int .u8 ((s[k].toNat : Int) + 32)) = lowVals s (k + 1) := by
  have hl : s.data.toList.length = s.size := Array.length_toList
  unfold lowVals
  rw [take_snoc s k h]
  have hd : s.data.toList.drop k = s[k] :: s.data.toList.drop (k + 1) := by rw [List.drop_eq_getElem_cons (by omega)]; rfl
  rw [hd]
  have hm : ((s.data.toList.take k).map lowB).length = k := by simp; omega
  simp only [List.map_append, List.map_cons, List.map_nil, List.append_assoc]
  rw [List.set_append_right _ _ (by simp; omega)]
  simp only [List.length_map, List.length_take]
  rw [show k - min k s.data.toList.length = 0 from by omega]
  congr 1
  have he : (s[k] + 32).toNat = s[k].toNat + 32 := by
    rw [UInt8.toNat_add]; simp; omega
  simp [lowB, hb, byteV, he]
theorem lowVals_end (s : ByteArray) : lowVals s s.size = (s.data.toList.map lowB).map byteV := by
  have hl : s.data.toList.length = s.size := Array.length_toList
  unfold lowVals
  rw [List.take_of_length_le (by omega), List.drop_of_length_le (by omega), List.append_nil]
theorem lowS_eq (s : ByteArray) : (⟨(s.data.toList.map lowB).toArray⟩ : ByteArray) = lowS s := by
  unfold lowS; congr 1; apply Array.ext'; simp

theorem spec_l1Lower (s : ByteArray) (w : World) (hs : s.size ≤ 9223372036854775807) : Calls Tryz.prog 107 #[.string s] w fun e w' => e = .returned (.string (lowS s)) ∧ Below w.heap.size w w' := by
  obtain ⟨cap, W, hconv, hrow, hbel, hlt⟩ := conv_there w s
  have Hrow := Lib.hid hrow
  clear hrow
  go_enter Tryz.func107, Tryz.ntmps107
  go_wp2
  go_loopw [4] (fun i wr => ∃ k : Nat, k ≤ s.size ∧ i = .int .i64 k ∧ RowAt wr w.heap.size (lowVals s k) ∧ Below w.heap.size w wr) (fun i _ => s.size - (intOf i).toNat)
  case atStart => exact ⟨0, Nat.zero_le _, rfl, by rw [lowVals_zero]; exact Hrow.out, hbel⟩
  case round =>
    clear hconv
    obtain ⟨k, hk, rfl, hrow, hb⟩ := hrel
    by_cases hlt' : k < s.size
    · have hcell : wr.cell? ⟨w.heap.size, k, none⟩ = some (.int .u8 (s[k].toNat : Int)) := hrow.cell k _ (lowVals_at s k hlt')
      have hfree : wr.frozen? ⟨w.heap.size, k, none⟩ = false := hrow.free k (by rw [lowVals_len]; exact hlt')
      have hby := (s[k]).toNat_lt
      have Hr := Lib.hid hrow
      clear hrow
      by_cases h1 : 65 ≤ s[k].toNat
      · by_cases h2 : s[k].toNat ≤ 90
        · go_wp2
          go_roundw
          case rel => exact ⟨k + 1, by omega, by go_num, by rw [← lowVals_set s k hlt' ⟨h1, h2⟩, show ((s[k].toNat : Int) + 32) = (s[k].toNat : Int) + 32 from by omega]; exact Hr.out.set k _, hb.setCell (Nat.le_refl _) _⟩
          case measure => simp [intOf]; omega
        · go_wp2
          go_roundw
          case rel => exact ⟨k + 1, by omega, by go_num, by rw [lowVals_keep s k hlt' (fun h => h2 h.2)]; exact Hr.out, hb⟩
          case measure => simp [intOf]; omega
      · go_wp2
        go_roundw
        case rel => exact ⟨k + 1, by omega, by go_num, by rw [lowVals_keep s k hlt' (fun h => h1 h.1)]; exact Hr.out, hb⟩
        case measure => simp [intOf]; omega
    · obtain rfl : k = s.size := by omega
      have hback := conv_back wr w.heap.size cap (s.data.toList.map lowB) s.size (by rw [List.length_map, Array.length_toList]; rfl) (by rw [← lowVals_end]; exact hrow)
      rw [lowS_eq] at hback
      go_wp2
      go_ret
      exact ⟨rfl, hb⟩
theorem impl_lower (s : ByteArray) (w : World) (hs : s.size ≤ 9223372036854775807) : Calls Tryz.prog 102 #[.string s] w fun e w' => e = .returned (.string (lowS s)) ∧ Below w.heap.size w w' := by
  obtain ⟨cap, W, hconv, hrow, hbel, hlt⟩ := conv_there w s
  have Hrow := Lib.hid hrow
  clear hrow
  go_enter Tryz.func102, Tryz.ntmps102
  go_wp2
  go_loopw [10] (fun i wr => ∃ k : Nat, k ≤ s.size ∧ i = .int .i64 k ∧ RowAt wr w.heap.size (lowVals s k) ∧ Below w.heap.size w wr) (fun i _ => s.size - (intOf i).toNat)
  case atStart => exact ⟨0, Nat.zero_le _, rfl, by rw [lowVals_zero]; exact Hrow.out, hbel⟩
  case round =>
    clear hconv
    obtain ⟨k, hk, rfl, hrow, hb⟩ := hrel
    by_cases hlt' : k < s.size
    · have hcell : wr.cell? ⟨w.heap.size, k, none⟩ = some (.int .u8 (s[k].toNat : Int)) := hrow.cell k _ (lowVals_at s k hlt')
      have hfree : wr.frozen? ⟨w.heap.size, k, none⟩ = false := hrow.free k (by rw [lowVals_len]; exact hlt')
      have hby := (s[k]).toNat_lt
      have Hr := Lib.hid hrow
      clear hrow
      by_cases h1 : 65 ≤ s[k].toNat
      · by_cases h2 : s[k].toNat ≤ 90
        · go_wp2
          go_roundw
          case rel => exact ⟨k + 1, by omega, by go_num, by rw [← lowVals_set s k hlt' ⟨h1, h2⟩, show ((s[k].toNat : Int) + 32) = (s[k].toNat : Int) + 97 - 65 from by omega]; exact Hr.out.set k _, hb.setCell (Nat.le_refl _) _⟩
          case measure => simp [intOf]; omega
        · go_wp2
          go_roundw
          case rel => exact ⟨k + 1, by omega, by go_num, by rw [lowVals_keep s k hlt' (fun h => h2 h.2)]; exact Hr.out, hb⟩
          case measure => simp [intOf]; omega
      · go_wp2
        go_roundw
        case rel => exact ⟨k + 1, by omega, by go_num, by rw [lowVals_keep s k hlt' (fun h => h1 h.1)]; exact Hr.out, hb⟩
        case measure => simp [intOf]; omega
    · obtain rfl : k = s.size := by omega
      have hback := conv_back wr w.heap.size cap (s.data.toList.map lowB) s.size (by rw [List.length_map, Array.length_toList]; rfl) (by rw [← lowVals_end]; exact hrow)
      rw [lowS_eq] at hback
      go_wp2
      go_ret
      exact ⟨rfl, hb⟩

def lowerR (s : ByteArray) : Int × ByteArray := if s.size ≤ 1000 then (0, lowS s) else (2, ByteArray.empty)
end Go.Proofs.YtbiodbggaeglpaaGreatDoor

/- Names that are alike. -/
namespace Go.Proofs.YtbiodbggaeglpaaGreatDoor
open Go.RowKit
set_option linter.unusedSimpArgs false
set_option linter.unusedVariables false

def alikeB (a b : ByteArray) : Bool := (lowS a).toList == (lowS b).toList
theorem impl_alike (a b : ByteArray) (hsa : a.size ≤ 9223372036854775807) (hsb : b.size ≤ 9223372036854775807) (w : World) : Calls Tryz.prog 70 #[.string a, .string b] w fun e w' => e = .returned (.bool (alikeB a b)) ∧ Below w.heap.size w w' := by
  go_enter Tryz.func70, Tryz.ntmps70
  go_wp2_with (first | (go_at_call 102; ((with_reducible refine (impl_lower a _ hsa).mono ?_); rintro e w' ⟨rfl, hb⟩; obtain ⟨hc, hf⟩ := bcell hb; have hz := hb.size; (try simp only [World.size_alloc, World.size_setCell, World.size_drew] at hz); obtain ⟨hlt, hle, hn1, hn2, hn3, hn4⟩ := bsize hb; (try simp only [World.size_alloc, World.size_setCell, World.size_drew] at hlt hle hn1 hn2 hn3 hn4); (try have hr0 : w.heap.size < w'.heap.size := by omega); (try have hr1 : w.heap.size + 1 < w'.heap.size := by omega); (try have hs0 : wS.heap.size < w'.heap.size := by omega); (try have hs1 : wG.heap.size < w'.heap.size := by omega))) | (go_at_call 102; ((with_reducible refine (impl_lower b _ hsb).mono ?_); rintro e w' ⟨rfl, hb⟩; obtain ⟨hc, hf⟩ := bcell hb; have hz := hb.size; (try simp only [World.size_alloc, World.size_setCell, World.size_drew] at hz); obtain ⟨hlt, hle, hn1, hn2, hn3, hn4⟩ := bsize hb; (try simp only [World.size_alloc, World.size_setCell, World.size_drew] at hlt hle hn1 hn2 hn3 hn4); (try have hr0 : w.heap.size < w'.heap.size := by omega); (try have hr1 : w.heap.size + 1 < w'.heap.size := by omega); (try have hs0 : wS.heap.size < w'.heap.size := by omega); (try have hs1 : wG.heap.size < w'.heap.size := by omega))))
  go_ret
  exact ⟨rfl, (by first | (with_reducible exact Below.refl _ _) | ((repeat' (first | (with_reducible exact Below.refl _ _) | (with_reducible assumption) | (with_reducible refine below_alloc ?_ _) | (with_reducible refine Below.drew ?_) | (with_reducible refine below_drewN ?_ _) | (with_reducible refine Below.setCell ?_ ?_ _) | refine below_then ?_ (by with_reducible assumption))) <;> (first | omega | (simp; done) | (simp; omega))))⟩
theorem spec_l4Alike (a b : ByteArray) (hsa : a.size ≤ 9223372036854775807) (hsb : b.size ≤ 9223372036854775807) (w : World) : Calls Tryz.prog 76 #[.string a, .string b] w fun e w' => e = .returned (.bool (alikeB a b)) ∧ Below w.heap.size w w' := by
  go_enter Tryz.func76, Tryz.ntmps76
  go_wp2_with (first | (go_at_call 107; ((with_reducible refine (spec_l1Lower a _ hsa).mono ?_); rintro e w' ⟨rfl, hb⟩; obtain ⟨hc, hf⟩ := bcell hb; have hz := hb.size; (try simp only [World.size_alloc, World.size_setCell, World.size_drew] at hz); obtain ⟨hlt, hle, hn1, hn2, hn3, hn4⟩ := bsize hb; (try simp only [World.size_alloc, World.size_setCell, World.size_drew] at hlt hle hn1 hn2 hn3 hn4); (try have hr0 : w.heap.size < w'.heap.size := by omega); (try have hr1 : w.heap.size + 1 < w'.heap.size := by omega); (try have hs0 : wS.heap.size < w'.heap.size := by omega); (try have hs1 : wG.heap.size < w'.heap.size := by omega))) | (go_at_call 107; ((with_reducible refine (spec_l1Lower b _ hsb).mono ?_); rintro e w' ⟨rfl, hb⟩; obtain ⟨hc, hf⟩ := bcell hb; have hz := hb.size; (try simp only [World.size_alloc, World.size_setCell, World.size_drew] at hz); obtain ⟨hlt, hle, hn1, hn2, hn3, hn4⟩ := bsize hb; (try simp only [World.size_alloc, World.size_setCell, World.size_drew] at hlt hle hn1 hn2 hn3 hn4); (try have hr0 : w.heap.size < w'.heap.size := by omega); (try have hr1 : w.heap.size + 1 < w'.heap.size := by omega); (try have hs0 : wS.heap.size < w'.heap.size := by omega); (try have hs1 : wG.heap.size < w'.heap.size := by omega))))
  go_ret
  exact ⟨rfl, (by first | (with_reducible exact Below.refl _ _) | ((repeat' (first | (with_reducible exact Below.refl _ _) | (with_reducible assumption) | (with_reducible refine below_alloc ?_ _) | (with_reducible refine Below.drew ?_) | (with_reducible refine below_drewN ?_ _) | (with_reducible refine Below.setCell ?_ ?_ _) | refine below_then ?_ (by with_reducible assumption))) <;> (first | omega | (simp; done) | (simp; omega))))⟩
end Go.Proofs.YtbiodbggaeglpaaGreatDoor

/- A number's decimal digits: both texts write the same. -/
namespace Go.Proofs.YtbiodbggaeglpaaGreatDoor
open Go.RowKit
set_option linter.unusedSimpArgs false
set_option linter.unusedVariables false

theorem conv_one (c : Int) (w : World) (g : Nat) (h : w.cell? ⟨g, 0, none⟩ = some (.int .u8 c)) : (convert 22 9 (.slice (some ⟨g, 0, none⟩) 1 1)).run Tryz.prog w = .ok (.string ⟨#[UInt8.ofNat c.toNat]⟩) w := by
  have := run_convert_bytes_arg (P := Tryz.prog) w 22 5 Tryz.underlying22 Tryz.underlying5 g 0 1 1 [c] rfl (fun i hi => by
    obtain rfl : i = 0 := by omega
    simpa using h) 9 Tryz.underlying9
  rw [this]; rfl
theorem wrapi (n : Int) (h0 : -9223372036854775808 ≤ n) (h1 : n ≤ 9223372036854775807) : IntKind.i64.wrap n = n := by
  simp only [IntKind.wrap, IntKind.bits, IntKind.signed]
  simp
  omega
theorem wrapb (n : Int) (h0 : 0 ≤ n) (h1 : n < 256) : IntKind.u8.wrap n = n := by
  simp only [IntKind.wrap, IntKind.bits, IntKind.signed]
  simp
  omega
def decS (n : Int) : ByteArray := ⟨(Lib.decDigits n.toNat).toArray⟩
theorem decS_small {k : Nat} (h : k < 10) : decS (k : Int) = ⟨#[UInt8.ofNat (48 + k)]⟩ := by
  unfold decS; rw [Int.toNat_natCast, Lib.decDigits_one h]
theorem decS_big {k : Nat} (h : ¬ k < 10) : decS (k : Int) = decS ((k / 10 : Nat) : Int) ++ ⟨#[UInt8.ofNat (48 + k % 10)]⟩ := by
  unfold decS
  rw [Int.toNat_natCast, Int.toNat_natCast, Lib.decDigits, dif_neg h]
  apply ByteArray.ext
  simp
theorem decS_len (n : Int) (h0 : 0 ≤ n) (h1 : n ≤ 9223372036854775807) : (decS n).size ≤ 21 := by
  obtain ⟨k, rfl⟩ := Int.eq_ofNat_of_zero_le h0
  have := Lib.itoa_length_le (k : Int) (by omega) h1
  rw [Lib.itoa_nonneg] at this
  exact this
set_option maxHeartbeats 1600000 in
set_option maxRecDepth 100000 in
theorem spec_l1Digits : ∀ k : Nat, k ≤ 1000000000000000000 → ∀ w, Calls Tryz.prog 71 #[.int .i64 (k : Int)] w fun e w' => e = .returned (.string (decS (k : Int))) ∧ Below w.heap.size w w' := by
  intro k
  induction k using Nat.strongRecOn with
  | ind k ih =>
    intro hk w
    have hcv := conv_one
    by_cases h : k < 10
    · have E := Lib.hid (ret_str (decS_small h).symm)
      clear ih
      go_enter Tryz.func71, Tryz.ntmps71
      go_wp2
      go_ret
      exact ⟨E.out, (by first | (with_reducible exact Below.refl _ _) | ((repeat' (first | (with_reducible exact Below.refl _ _) | (with_reducible assumption) | (with_reducible refine below_alloc ?_ _) | (with_reducible refine Below.drew ?_) | (with_reducible refine below_drewN ?_ _) | (with_reducible refine Below.setCell ?_ ?_ _) | refine below_then ?_ (by with_reducible assumption))) <;> (first | omega | (simp; done) | (simp; omega))))⟩
    · have hc : ∀ w, Calls Tryz.prog 71 #[.int .i64 ((k : Int) / 10)] w fun e w' => e = .returned (.string (decS ((k : Int) / 10))) ∧ Below w.heap.size w w' := by
        rw [show (k : Int) / 10 = ((k / 10 : Nat) : Int) from by omega]
        exact ih (k / 10) (by omega) (by omega)
      have Hc := Lib.hid hc
      have e : decS ((k : Int) / 10) ++ ⟨#[48 + UInt8.ofNat (k % 10)]⟩ = decS (k : Int) := by
        rw [decS_big h, show (k : Int) / 10 = ((k / 10 : Nat) : Int) from by omega]
        have e8 : (48 : UInt8) + UInt8.ofNat (k % 10) = UInt8.ofNat (48 + k % 10) := by rw [UInt8.ofNat_add]; rfl
        rw [e8]
      have E := Lib.hid (ret_str e)
      have hsz := decS_len ((k : Int) / 10) (by omega) (by omega)
      have hcv := conv_one (48 + (k : Int) % 10)
      have hw1 : IntKind.i64.wrap ((k : Int) / 10) = (k : Int) / 10 := wrapi _ (by omega) (by omega)
      have hw2 : IntKind.i64.wrap ((k : Int) % 10) = (k : Int) % 10 := wrapi _ (by omega) (by omega)
      have hw3 : IntKind.i64.wrap (48 + (k : Int) % 10) = 48 + (k : Int) % 10 := wrapi _ (by omega) (by omega)
      have hw4 : IntKind.u8.wrap (48 + (k : Int) % 10) = 48 + (k : Int) % 10 := wrapb _ (by omega) (by omega)
      clear e ih hc
      go_enter Tryz.func71, Tryz.ntmps71
      go_upto_region 3 with fail
      go_cut [2] (fun s2 wx => s2 = .string (decS ((k : Int) / 10) ++ ⟨#[48 + UInt8.ofNat (k % 10)]⟩) ∧ Below w.heap.size w wx)
      case first =>
        go_region_with (first | (go_at_call 71; ((with_reducible refine (Hc.out _).mono ?_); rintro e w' ⟨rfl, hb⟩; obtain ⟨hc, hf⟩ := bcell hb; have hz := hb.size; (try simp only [World.size_alloc, World.size_setCell, World.size_drew] at hz); obtain ⟨hlt, hle, hn1, hn2, hn3, hn4⟩ := bsize hb; (try simp only [World.size_alloc, World.size_setCell, World.size_drew] at hlt hle hn1 hn2 hn3 hn4); (try have hr0 : w.heap.size < w'.heap.size := by omega); (try have hr1 : w.heap.size + 1 < w'.heap.size := by omega); (try have hs0 : wS.heap.size < w'.heap.size := by omega); (try have hs1 : wG.heap.size < w'.heap.size := by omega); (try (have hk1 := hc w.heap.size 0 (by simp); simp at hk1; have hk2 := conv_one _ w' _ hk1)))))
        all_goals (go_wp2_with fail; go_meet; exact ⟨rfl, (by first | (with_reducible exact Below.refl _ _) | ((repeat' (first | (with_reducible exact Below.refl _ _) | (with_reducible assumption) | (with_reducible refine below_alloc ?_ _) | (with_reducible refine Below.drew ?_) | (with_reducible refine below_drewN ?_ _) | (with_reducible refine Below.setCell ?_ ?_ _) | refine below_then ?_ (by with_reducible assumption))) <;> (first | omega | (simp; done) | (simp; omega))))⟩)
      case rest =>
        obtain ⟨rfl, hb⟩ := hcut
        go_wp2
        go_ret
        exact ⟨E.out, hb⟩
/-- The table of the library's that the fast road reads. -/
def Tab (w : World) : Prop := ∃ g, Tryz.prog.globalNamed "internal/strconv.uint64pow10" = some g ∧ g < w.heap.size ∧ Lib.TabIs Tryz.prog w "internal/strconv.uint64pow10" .u64 Lib.pow10Tab
theorem Tab.below {B : Nat} {w w' : World} (h : Tab w) (hb : Below B w w') (hB : w.heap.size ≤ B) : Tab w' := by
  obtain ⟨g, hg, hlt, ht⟩ := h
  exact ⟨g, hg, Nat.lt_of_lt_of_le hlt hb.size, var?_below hb hg (by omega) ht⟩
theorem Tab.then {w w' : World} (h : Tab w) (hb : Below w.heap.size w w') : Tab w' := h.below hb (Nat.le_refl _)
theorem Tab.alloc {w : World} (h : Tab w) (o : Obj) : Tab (w.alloc o) := h.then (below_alloc (Below.refl _ _) o)
theorem Tab.drew {w : World} (h : Tab w) : Tab w.drew := h.then (Below.refl _ _).drew
theorem below_growN (w : World) (k : Nat) (os : Array Obj) : Below w.heap.size w (Sort.grow (w.drewN k) os) :=
  ⟨rfl, rfl, rfl, by show w.heap.size ≤ (w.heap ++ os).size; rw [Array.size_append]; omega, fun j hj => by
    show (w.heap ++ os)[j]? = _
    rw [Array.getElem?_append_left hj]⟩
theorem impl_decimal (n : Int) (h0 : 0 ≤ n) (h1 : n ≤ 9223372036854775807) (w : World) (ht : Tab w) : Calls Tryz.prog 80 #[.int .i64 n] w fun e w' => e = .returned (.string (decS n)) ∧ Below w.heap.size w w' := by
  have hF : ∀ w, Tab w → Calls Tryz.prog 110 #[.int .i64 n, .int .i64 10] w fun e w' => e = .returned (.string (decS n)) ∧ Below w.heap.size w w' := fun w ht => by
    obtain ⟨g, hg, hlt, ht⟩ := ht
    refine (Tryz.strconv_FormatInt_10 n (by omega) h1 w ht).mono ?_
    rintro e w' ⟨rfl, k, os, rfl⟩
    refine ⟨?_, below_growN _ _ _⟩
    obtain ⟨k, rfl⟩ := Int.eq_ofNat_of_zero_le h0
    rw [Lib.itoa_nonneg]; rfl
  have HF := Lib.hid hF
  clear hF
  go_enter Tryz.func80, Tryz.ntmps80
  go_wp2_with (go_at_call 110; ((with_reducible refine (HF.out _ ht).mono ?_); rintro e w' ⟨rfl, hb⟩; obtain ⟨hc, hf⟩ := bcell hb; have hz := hb.size; (try simp only [World.size_alloc, World.size_setCell, World.size_drew] at hz); obtain ⟨hlt, hle, hn1, hn2, hn3, hn4⟩ := bsize hb; (try simp only [World.size_alloc, World.size_setCell, World.size_drew] at hlt hle hn1 hn2 hn3 hn4); (try have hr0 : w.heap.size < w'.heap.size := by omega); (try have hr1 : w.heap.size + 1 < w'.heap.size := by omega); (try have hs0 : wS.heap.size < w'.heap.size := by omega); (try have hs1 : wG.heap.size < w'.heap.size := by omega)))
  go_ret
  exact ⟨rfl, (by first | (with_reducible exact Below.refl _ _) | ((repeat' (first | (with_reducible exact Below.refl _ _) | (with_reducible assumption) | (with_reducible refine below_alloc ?_ _) | (with_reducible refine Below.drew ?_) | (with_reducible refine below_drewN ?_ _) | (with_reducible refine Below.setCell ?_ ?_ _) | refine below_then ?_ (by with_reducible assumption))) <;> (first | omega | (simp; done) | (simp; omega))))⟩
def numR (n : Int) : Int × ByteArray := if inB n 0 1000000000000000 then (0, decS n) else (3, ByteArray.empty)
theorem numR_yes {n : Int} (h : inB n 0 1000000000000000 = true) : numR n = (0, decS n) := by simp [numR, h]
theorem numR_no {n : Int} (h : inB n 0 1000000000000000 = false) : numR n = (3, ByteArray.empty) := by simp [numR, h]
end Go.Proofs.YtbiodbggaeglpaaGreatDoor

/- Marks: what is written into rows, and read again. -/
namespace Go.Proofs.YtbiodbggaeglpaaGreatDoor
open Go.RowKit
set_option linter.unusedSimpArgs false
set_option linter.unusedVariables false

def markS (k : Nat) : ByteArray := if k = 0 then ⟨#[109, 48]⟩ else ⟨#[109]⟩ ++ decS (k : Int)
theorem mark_step {j k0 : Nat} {s : ByteArray} (h : decS (j : Int) ++ s = decS (k0 : Int)) (hj : ¬ j < 10) : decS ((j / 10 : Nat) : Int) ++ (⟨#[48 + UInt8.ofNat (j % 10)]⟩ ++ s) = decS (k0 : Int) := by
  have e8 : (48 : UInt8) + UInt8.ofNat (j % 10) = UInt8.ofNat (48 + j % 10) := by rw [UInt8.ofNat_add]; rfl
  rw [e8, ← h, decS_big hj]
  apply ByteArray.ext
  simp
theorem mark_last {j k0 : Nat} {s : ByteArray} (h : decS (j : Int) ++ s = decS (k0 : Int)) (hj : j < 10) : ⟨#[48 + UInt8.ofNat (j % 10)]⟩ ++ s = decS (k0 : Int) := by
  have e8 : (48 : UInt8) + UInt8.ofNat (j % 10) = UInt8.ofNat (48 + j % 10) := by rw [UInt8.ofNat_add]; rfl
  rw [e8, ← h, decS_small hj, Nat.mod_eq_of_lt hj]
theorem mark_size {j k0 : Nat} {s : ByteArray} (h : decS (j : Int) ++ s = decS (k0 : Int)) (hk : k0 ≤ 1000000000) : s.size ≤ 21 := by
  have h1 := decS_len (k0 : Int) (by omega) (by omega)
  rw [← h, ByteArray.size_append] at h1
  omega
def marksH (k n : Nat) : List Hd := (List.range n).map fun i => (markS (k + 2 * i), markS (k + 2 * i + 1))
theorem marksH_len (k n : Nat) : (marksH k n).length = n := by simp [marksH]
theorem marksH_succ (k n : Nat) : marksH k (n + 1) = marksH k n ++ [(markS (k + 2 * n), markS (k + 2 * n + 1))] := by simp [marksH, List.range_succ]
theorem marksH_at (k n i : Nat) (h : i < (marksH k n).length) : (marksH k n)[i] = (markS (k + 2 * i), markS (k + 2 * i + 1)) := by simp [marksH]
theorem hV_snoc (l : List Hd) (x y : ByteArray) : hV l ++ [.string x, .string y] = hV (l ++ [(x, y)]) := by simp [hV, cellsOf, hEnc]
theorem put_cell {w : World} {g p : Nat} {A D : List Value} (h : RowAt w g (A ++ D)) (hA : A.length = p) (hD : 1 ≤ D.length) : (∃ v, w.cell? ⟨g, p, none⟩ = some v) ∧ w.frozen? ⟨g, p, none⟩ = false :=
  ⟨⟨_, h.cell p ((A ++ D)[p]'(by rw [List.length_append]; omega)) (List.getElem?_eq_getElem _)⟩, h.free p (by rw [List.length_append]; omega)⟩
theorem gb_row {w : World} {g : Nat} {xs : List Value} (h : RowAt w g xs) (i : Nat) (v : Value) (hv : xs[i]? = some v) (p : Gb w) : p.w.cell? ⟨g, i, none⟩ = some v := (h.then p.h).cell i v hv
end Go.Proofs.YtbiodbggaeglpaaGreatDoor

/- Marks in bytes, in requests, and what a result of bytes says. -/
namespace Go.Proofs.YtbiodbggaeglpaaGreatDoor
open Go.RowKit
set_option linter.unusedSimpArgs false
set_option linter.unusedVariables false

def marksB (k n : Nat) : List UInt8 := (List.range n).map fun i => UInt8.ofNat (k + i)
theorem marksB_len (k n : Nat) : (marksB k n).length = n := by simp [marksB]
theorem marksB_succ (k n : Nat) : marksB k (n + 1) = marksB k n ++ [UInt8.ofNat (k + n)] := by simp [marksB, List.range_succ]
theorem marksB_at (k n i : Nat) (h : i < (marksB k n).length) : (marksB k n)[i] = UInt8.ofNat (k + i) := by simp [marksB]
theorem bV_snoc (l : List UInt8) (x : UInt8) : bV l ++ [.int .u8 (x.toNat : Int)] = bV (l ++ [x]) := by simp [bV, byteV]
theorem wrap8 (m : Nat) : IntKind.u8.wrap (m : Int) = ((UInt8.ofNat m).toNat : Int) := by
  rw [UInt8.toNat_ofNat']
  simp [IntKind.wrap, IntKind.bits, IntKind.signed]
end Go.Proofs.YtbiodbggaeglpaaGreatDoor

/- Quotes: both texts write the same bytes. -/
namespace Go.Proofs.YtbiodbggaeglpaaGreatDoor
open Go.RowKit
set_option linter.unusedSimpArgs false
set_option linter.unusedVariables false

theorem quoteTo_esc (s : ByteArray) (k : Nat) (h : k < s.size) (hb : s[k].toNat = 34 ∨ s[k].toNat = 92) : (quoteTo s k).map byteV ++ [.int .u8 92] ++ [.int .u8 (s[k].toNat : Int)] = (quoteTo s (k + 1)).map byteV := by
  rw [quoteTo_succ s k h, escB, if_pos hb]; simp [byteV]
theorem quoteTo_plain (s : ByteArray) (k : Nat) (h : k < s.size) (hb : ¬ (s[k].toNat = 34 ∨ s[k].toNat = 92)) : (quoteTo s k).map byteV ++ [.int .u8 (s[k].toNat : Int)] = (quoteTo s (k + 1)).map byteV := by
  rw [quoteTo_succ s k h, escB, if_neg hb]; simp [byteV]
theorem quoteTo_esc_len (s : ByteArray) (k : Nat) (h : k < s.size) (hb : s[k].toNat = 34 ∨ s[k].toNat = 92) : (quoteTo s k).length + 1 + 1 = (quoteTo s (k + 1)).length := by
  rw [quoteTo_succ s k h, escB, if_pos hb]; simp
theorem quoteTo_plain_len (s : ByteArray) (k : Nat) (h : k < s.size) (hb : ¬ (s[k].toNat = 34 ∨ s[k].toNat = 92)) : (quoteTo s k).length + 1 = (quoteTo s (k + 1)).length := by
  rw [quoteTo_succ s k h, escB, if_neg hb]; simp

theorem impl_isPlain (c : Int) (w : World) : Calls Tryz.prog 132 #[.int .u8 c] w fun e w' => e = .returned (.bool (plainB c)) ∧ w = w' := by
  go_enter Tryz.func132, Tryz.ntmps132
  go_wp2
  all_goals (go_ret; exact ⟨ret_bool (by first | (simp_all [plainB]; done) | (rw [Bool.eq_iff_iff]; simp_all [plainB]; omega)), rfl⟩)
theorem spec_l2Plain (c : Int) (w : World) : Calls Tryz.prog 133 #[.int .u8 c] w fun e w' => e = .returned (.bool (plainB c)) ∧ w = w' := by
  go_enter Tryz.func133, Tryz.ntmps133
  go_wp2
  all_goals (go_ret; exact ⟨ret_bool (by first | (simp_all [plainB]; done) | (rw [Bool.eq_iff_iff]; simp_all [plainB]; omega)), rfl⟩)
set_option maxHeartbeats 800000 in
theorem areBytes_plain (s : ByteArray) (lo hi : Int) (w : World) (hs : s.size ≤ 9223372036854775807) : Calls Tryz.prog 39 #[.string s, .int .i64 lo, .int .i64 hi, .func (.func 132) #[] #[]] w fun e w' => e = .returned (.bool (inB s.size lo hi && allB plainB s)) ∧ w = w' := by
  by_cases hb : inB s.size lo hi = true
  · obtain ⟨h1, h2⟩ := inB_iff.1 hb
    have hfin : ∀ v, allB plainB s = v → (inB s.size lo hi && allB plainB s) = v := fun v h => by rw [hb, h]; rfl
    have Hfin := Lib.hid hfin
    clear hfin hb
    go_enter Tryz.func39, Tryz.ntmps39
    go_wp2
    go_loop [22] (fun i => ∃ k : Nat, k ≤ s.size ∧ i = .int .i64 k ∧ allTo plainB s k = true) (fun i => s.size - (intOf i).toNat)
    case atStart => exact ⟨0, Nat.zero_le _, rfl, rfl⟩
    case round =>
      obtain ⟨k, hk, rfl, hall⟩ := hrel
      have Hall := Lib.hid hall
      clear hall
      by_cases hlt : k < s.size
      · have hsn := Lib.hid (allTo_succ plainB s k hlt)
        by_cases hp : plainB (s[k].toNat : Int) = true
        · go_wp2_with (go_at_call 132; ((with_reducible refine (impl_isPlain _ _).mono ?_); rintro e w' ⟨rfl, rfl⟩))
          go_round
          case rel => exact ⟨k + 1, by omega, by go_num, by rw [hsn.out, Hall.out, hp]; rfl⟩
          case measure => simp [intOf]; omega
        · simp only [Bool.not_eq_true] at hp
          go_wp2_with (go_at_call 132; ((with_reducible refine (impl_isPlain _ _).mono ?_); rintro e w' ⟨rfl, rfl⟩))
          go_ret
          exact ⟨ret_bool (Hfin.out _ (allB_false _ _ _ hlt hp)).symm, rfl⟩
      · have hk' : k = s.size := by omega
        have Hk := Lib.hid hk'
        clear hk'
        go_wp2
        go_ret
        refine ⟨ret_bool (Hfin.out _ ?_).symm, rfl⟩
        have h := Hall.out
        rw [Hk.out, allTo_size] at h
        exact h
  · simp only [Bool.not_eq_true] at hb
    have h1 := inB_not.1 hb
    by_cases h2 : (s.size : Int) < lo
    all_goals
      go_enter Tryz.func39, Tryz.ntmps39
      go_wp2
      all_goals
        go_ret
        exact ⟨ret_bool (by first | rfl | (rw [hb]; rfl)), rfl⟩
theorem impl_arePlain (s : ByteArray) (w : World) (hs : s.size ≤ 9223372036854775807) : Calls Tryz.prog 112 #[.string s] w fun e w' => e = .returned (.bool (allB plainB s)) ∧ w = w' := by
  go_enter Tryz.func112, Tryz.ntmps112
  go_wp2_with (go_at_call 39; ((with_reducible refine (areBytes_plain _ _ _ _ hs).mono ?_); rintro e w' ⟨rfl, rfl⟩))
  go_ret
  exact ⟨ret_bool (by simp [inB]), rfl⟩
theorem spec_l2PlainText (s : ByteArray) (w : World) (hs : s.size ≤ 9223372036854775807) : Calls Tryz.prog 115 #[.string s] w fun e w' => e = .returned (.bool (allB plainB s)) ∧ w = w' := by
  have hfin : ∀ v, allB plainB s = v → Ending.returned (.bool v) = .returned (.bool (allB plainB s)) := fun v h => by rw [h]
  have Hfin := Lib.hid hfin
  clear hfin
  go_enter Tryz.func115, Tryz.ntmps115
  go_wp2
  go_loop [3] (fun i => ∃ k : Nat, k ≤ s.size ∧ i = .int .i64 k ∧ allTo plainB s k = true) (fun i => s.size - (intOf i).toNat)
  case atStart => exact ⟨0, Nat.zero_le _, rfl, rfl⟩
  case round =>
    obtain ⟨k, hk, rfl, hall⟩ := hrel
    have Hall := Lib.hid hall
    clear hall
    by_cases hlt : k < s.size
    · have hsn := Lib.hid (allTo_succ plainB s k hlt)
      by_cases hp : plainB (s[k].toNat : Int) = true
      · go_wp2_with (go_at_call 133; ((with_reducible refine (spec_l2Plain _ _).mono ?_); rintro e w' ⟨rfl, rfl⟩))
        go_round
        case rel => exact ⟨k + 1, by omega, by go_num, by rw [hsn.out, Hall.out, hp]; rfl⟩
        case measure => simp [intOf]; omega
      · simp only [Bool.not_eq_true] at hp
        go_wp2_with (go_at_call 133; ((with_reducible refine (spec_l2Plain _ _).mono ?_); rintro e w' ⟨rfl, rfl⟩))
        go_ret
        exact ⟨Hfin.out _ (allB_false _ _ _ hlt hp), rfl⟩
    · have hk' : k = s.size := by omega
      have Hk := Lib.hid hk'
      clear hk'
      go_wp2
      go_ret
      refine ⟨Hfin.out _ ?_, rfl⟩
      have h := Hall.out
      rw [Hk.out, allTo_size] at h
      exact h

def quoteR (s : ByteArray) : Int × ByteArray := if s.size ≤ 1000 then (if allB plainB s = true then (0, quoteS s) else (5, ByteArray.empty)) else (2, ByteArray.empty)
end Go.Proofs.YtbiodbggaeglpaaGreatDoor

/- From the listed variables to the table that the fast road reads. -/
namespace Go.Proofs.YtbiodbggaeglpaaGreatDoor
open Go.RowKit
theorem tab_data : (Rows.laid_internal_strconv_uint64pow10 : DataW Unit) = Lib.tabData .u64 Lib.pow10Tab := by kernel_rfl
theorem tab_of_vars {W : World} {n0 n1 : String} {d0 d1 : DataW Unit} {ps : List MemPlace} (h : DataW.LaidVars Tryz.prog W [(n0, d0), (n1, d1), ("internal/strconv.uint64pow10", Rows.laid_internal_strconv_uint64pow10)] ps) : Tab W := by
  obtain ⟨g0, t0, cs0, f0, p0, q0, _, _, _, _, ⟨g1, t1, cs1, f1, p1, q1, _, _, _, _, ⟨g, t, cs, fuel, p, q, hg, ht, hv, hd, _, _⟩, _⟩, _⟩ := h
  have hgN : Tryz.prog.globalNamed "internal/strconv.uint64pow10" = some 3 := by kernel_rfl
  obtain rfl := Option.some.inj (hgN.symm.trans hg)
  obtain rfl := Option.some.inj ((show (Tryz.prog.globals[3]?).map (·.type) = some 149 by kernel_rfl).symm.trans ht)
  rw [tab_data] at hd
  have hcs := Lib.cells_of_tab Tryz.underlying149 Tryz.underlying138 (by kernel_rfl) (by kernel_rfl) hd
  refine ⟨_, hgN, ?_, ?_⟩
  · unfold World.var? at hv
    rw [hgN] at hv
    simp only [Option.bind_some] at hv
    split at hv
    · rename_i h1; exact (Array.getElem?_eq_some_iff.1 h1).1
    · cases hv
  · unfold Lib.TabIs
    rw [hv, ← hcs]
theorem tab_of_laid {W : World} {n0 n1 : String} {d0 d1 : DataW Unit} (hh : ([(n0, d0), (n1, d1), ("internal/strconv.uint64pow10", Rows.laid_internal_strconv_uint64pow10)].all fun x => x.2.handleName?.isNone) = true)
    (h : laidMetH Tryz.prog [(n0, d0), (n1, d1), ("internal/strconv.uint64pow10", Rows.laid_internal_strconv_uint64pow10)] W) : Tab W := by
  rw [MakeChecks.laidMetH_plain _ _ _ hh] at h
  obtain ⟨ps, h, _⟩ := h
  exact tab_of_vars h
end Go.Proofs.YtbiodbggaeglpaaGreatDoor

/- The same, where more variables are listed behind the table. -/
namespace Go.Proofs.YtbiodbggaeglpaaGreatDoor
open Go.RowKit
theorem tab_of_vars_more {W : World} {n0 n1 : String} {d0 d1 : DataW Unit} {ps : List MemPlace} {r : List (String × DataW Unit)} (h : DataW.LaidVars Tryz.prog W ((n0, d0) :: (n1, d1) :: ("internal/strconv.uint64pow10", Rows.laid_internal_strconv_uint64pow10) :: r) ps) : Tab W := by
  obtain ⟨g0, t0, cs0, f0, p0, q0, _, _, _, _, ⟨g1, t1, cs1, f1, p1, q1, _, _, _, _, ⟨g, t, cs, fuel, p, q, hg, ht, hv, hd, _, _⟩, _⟩, _⟩ := h
  have hgN : Tryz.prog.globalNamed "internal/strconv.uint64pow10" = some 3 := by kernel_rfl
  obtain rfl := Option.some.inj (hgN.symm.trans hg)
  obtain rfl := Option.some.inj ((show (Tryz.prog.globals[3]?).map (·.type) = some 149 by kernel_rfl).symm.trans ht)
  rw [tab_data] at hd
  have hcs := Lib.cells_of_tab Tryz.underlying149 Tryz.underlying138 (by kernel_rfl) (by kernel_rfl) hd
  refine ⟨_, hgN, ?_, ?_⟩
  · unfold World.var? at hv
    rw [hgN] at hv
    simp only [Option.bind_some] at hv
    split at hv
    · rename_i h1; exact (Array.getElem?_eq_some_iff.1 h1).1
    · cases hv
  · unfold Lib.TabIs
    rw [hv, ← hcs]
theorem tab_of_laid_more {W : World} {n0 n1 : String} {d0 d1 : DataW Unit} {r : List (String × DataW Unit)} (hh : (((n0, d0) :: (n1, d1) :: ("internal/strconv.uint64pow10", Rows.laid_internal_strconv_uint64pow10) :: r).all fun x => x.2.handleName?.isNone) = true)
    (h : laidMetH Tryz.prog ((n0, d0) :: (n1, d1) :: ("internal/strconv.uint64pow10", Rows.laid_internal_strconv_uint64pow10) :: r) W) : Tab W := by
  rw [MakeChecks.laidMetH_plain _ _ _ hh] at h
  obtain ⟨ps, h, _⟩ := h
  exact tab_of_vars_more h
end Go.Proofs.YtbiodbggaeglpaaGreatDoor

/- Times: their sums and products; a number or a code. -/
namespace Go.Proofs.YtbiodbggaeglpaaGreatDoor
open Go.RowKit
set_option linter.unusedSimpArgs false
set_option linter.unusedVariables false

def addT (a b : Int) : Int × Int := if inB a 0 1000000000000000 && inB b 0 1000000000000000 then (0, min (a + b) 1000000000000000) else (3, 0)

def mulT (a b : Int) : Int × Int := if inB a 0 1000000000000000 && inB b 0 1000000000000000 then (0, min (a * b) 1000000000000000) else (3, 0)
theorem mul_le {a b : Int} (hb : 0 < b) (h : a * b ≤ 1000000000000000) : a ≤ 1000000000000000 / b := (Int.le_ediv_iff_mul_le hb).2 h
theorem mul_gt {a b : Int} (hb : 0 < b) (h : ¬ a * b ≤ 1000000000000000) : 1000000000000000 / b < a := by
  by_cases h' : 1000000000000000 / b < a
  · exact h'
  · exact absurd ((Int.le_ediv_iff_mul_le hb).1 (by omega)) h

end Go.Proofs.YtbiodbggaeglpaaGreatDoor

/- The number that digits tell. -/
namespace Go.Proofs.YtbiodbggaeglpaaGreatDoor
open Go.RowKit
set_option linter.unusedSimpArgs false
set_option linter.unusedVariables false
theorem deltaOk_of (s : ByteArray) : (inB s.size 1 64 && allB digitB s) = deltaOk s := by
  unfold deltaOk inB; congr 1; congr 1 <;> rw [Bool.eq_iff_iff] <;> simp only [decide_eq_true_eq] <;> omega
theorem allTo_of {p : Int → Bool} {s : ByteArray} (h : allB p s = true) (k : Nat) : allTo p s k = true := by
  unfold allTo
  rw [List.all_eq_true]
  intro b hb
  exact List.all_eq_true.1 h b (List.mem_of_mem_take hb)
theorem digit_at {s : ByteArray} (h : allB digitB s = true) (k : Nat) (hk : k < s.size) : 48 ≤ s[k].toNat ∧ s[k].toNat ≤ 57 := by
  have := List.all_eq_true.1 h s[k] (List.getElem_mem (l := s.data.toList) (by rw [Array.length_toList]; exact hk))
  simp only [digitB, Bool.and_eq_true, decide_eq_true_eq] at this
  omega
set_option maxHeartbeats 800000 in
theorem areBytes_digit (s : ByteArray) (lo hi : Int) (w : World) (hs : s.size ≤ 9223372036854775807) : Calls Tryz.prog 39 #[.string s, .int .i64 lo, .int .i64 hi, .func (.func 40) #[] #[]] w fun e w' => e = .returned (.bool (inB s.size lo hi && allB digitB s)) ∧ w = w' := by
  by_cases hb : inB s.size lo hi = true
  · obtain ⟨h1, h2⟩ := inB_iff.1 hb
    have hfin : ∀ v, allB digitB s = v → (inB s.size lo hi && allB digitB s) = v := fun v h => by rw [hb, h]; rfl
    have Hfin := Lib.hid hfin
    clear hfin hb
    go_enter Tryz.func39, Tryz.ntmps39
    go_wp2
    go_loop [22] (fun i => ∃ k : Nat, k ≤ s.size ∧ i = .int .i64 k ∧ allTo digitB s k = true) (fun i => s.size - (intOf i).toNat)
    case atStart => exact ⟨0, Nat.zero_le _, rfl, rfl⟩
    case round =>
      obtain ⟨k, hk, rfl, hall⟩ := hrel
      have Hall := Lib.hid hall
      clear hall
      by_cases hlt : k < s.size
      · have hsn := Lib.hid (allTo_succ digitB s k hlt)
        by_cases hp : digitB (s[k].toNat : Int) = true
        · go_wp2_with (go_at_call 40; ((with_reducible refine (impl_isDigit _ _).mono ?_); rintro e w' ⟨rfl, rfl⟩))
          go_round
          case rel => exact ⟨k + 1, by omega, by go_num, by rw [hsn.out, Hall.out, hp]; rfl⟩
          case measure => simp [intOf]; omega
        · simp only [Bool.not_eq_true] at hp
          go_wp2_with (go_at_call 40; ((with_reducible refine (impl_isDigit _ _).mono ?_); rintro e w' ⟨rfl, rfl⟩))
          go_ret
          exact ⟨ret_bool (Hfin.out _ (allB_false _ _ _ hlt hp)).symm, rfl⟩
      · have hk' : k = s.size := by omega
        have Hk := Lib.hid hk'
        clear hk'
        go_wp2
        go_ret
        refine ⟨ret_bool (Hfin.out _ ?_).symm, rfl⟩
        have h := Hall.out
        rw [Hk.out, allTo_size] at h
        exact h
  · simp only [Bool.not_eq_true] at hb
    have h1 := inB_not.1 hb
    by_cases h2 : (s.size : Int) < lo
    all_goals
      go_enter Tryz.func39, Tryz.ntmps39
      go_wp2
      all_goals
        go_ret
        exact ⟨ret_bool (by first | rfl | (rw [hb]; rfl)), rfl⟩

/-- spec.l1Delta: the number, or -1. -/
def deltaI (s : ByteArray) : Int := if deltaOk s then deltaTo s s.size else -1
set_option maxHeartbeats 800000 in
theorem spec_l1Delta (s : ByteArray) (w : World) (hs : s.size ≤ 9223372036854775807) : Calls Tryz.prog 47 #[.string s] w fun e w' => e = .returned (.int .i64 (deltaI s)) ∧ w = w' := by
  by_cases hb : inB s.size 1 64 = true
  · obtain ⟨h1, h2⟩ := inB_iff.1 hb
    have hyes : allB digitB s = true → Ending.returned (.int .i64 (deltaTo s s.size)) = .returned (.int .i64 (deltaI s)) := fun h => by rw [deltaI, ← deltaOk_of, hb, h]; rfl
    have hno : allB digitB s = false → Ending.returned (.int .i64 (-1)) = .returned (.int .i64 (deltaI s)) := fun h => by rw [deltaI, ← deltaOk_of, hb, h]; rfl
    have Hyes := Lib.hid hyes
    have Hno := Lib.hid hno
    clear hyes hno hb
    go_enter Tryz.func47, Tryz.ntmps47
    go_wp2
    go_loop [3, 4] (fun n i => ∃ k : Nat, k ≤ s.size ∧ i = .int .i64 k ∧ n = .int .i64 (deltaTo s k) ∧ allTo digitB s k = true) (fun _ i => s.size - (intOf i).toNat)
    case atStart => exact ⟨0, Nat.zero_le _, rfl, rfl, rfl⟩
    case round =>
      obtain ⟨k, hk, rfl, rfl, hall⟩ := hrel
      obtain ⟨hd1, hd2⟩ := deltaTo_bd s k hall
      have Hall := Lib.hid hall
      clear hall
      by_cases hlt : k < s.size
      · have hsn := Lib.hid (allTo_succ digitB s k hlt)
        have hdn := Lib.hid (deltaTo_succ s k hlt)
        by_cases hp : digitB (s[k].toNat : Int) = true
        · have hdig : 48 ≤ (s[k].toNat : Int) ∧ (s[k].toNat : Int) ≤ 57 := by simpa [digitB] using hp
          obtain ⟨hg1, hg2⟩ := hdig
          go_wp2_with (first | (go_at_call 77; ((with_reducible refine (spec_l1Digit _ _).mono ?_); rintro e w' ⟨rfl, rfl⟩)) | (go_at_call 37; ((with_reducible refine (spec_l1Min _ _ _).mono ?_); rintro e w' ⟨rfl, rfl⟩)))
          go_round
          case rel => exact ⟨k + 1, by omega, by go_num, by rw [hdn.out, Int.mul_comm 10], by rw [hsn.out, Hall.out, hp]; rfl⟩
          case measure => simp [intOf]; omega
        · simp only [Bool.not_eq_true] at hp
          go_wp2_with (go_at_call 77; ((with_reducible refine (spec_l1Digit _ _).mono ?_); rintro e w' ⟨rfl, rfl⟩))
          go_ret
          exact ⟨Hno.out (allB_false _ _ _ hlt hp), rfl⟩
      · have hk' : k = s.size := by omega
        have Hk := Lib.hid hk'
        clear hk'
        go_wp2
        go_ret
        have h := Hall.out
        rw [Hk.out, allTo_size] at h
        exact ⟨by rw [← Hyes.out h]; exact ret_int (by rw [Hk.out]), rfl⟩
  · simp only [Bool.not_eq_true] at hb
    have h1 := inB_not.1 hb
    have hfin : Ending.returned (.int .i64 (-1)) = .returned (.int .i64 (deltaI s)) := by rw [deltaI, ← deltaOk_of, hb]; rfl
    have Hfin := Lib.hid hfin
    clear hfin hb
    by_cases h2 : (s.size : Int) < 1
    all_goals
      go_enter Tryz.func47, Tryz.ntmps47
      go_wp2
      all_goals
        go_ret
        exact ⟨Hfin.out, rfl⟩
theorem deltaOk_bd {s : ByteArray} (h : deltaOk s = true) : 0 ≤ deltaTo s s.size ∧ deltaTo s s.size ≤ 2147483648 := by
  refine deltaTo_bd s s.size ?_
  rw [allTo_size]
  unfold deltaOk at h
  simp only [Bool.and_eq_true] at h
  exact h.2
set_option maxHeartbeats 800000 in
theorem impl_DeltaOf (s : ByteArray) (w : World) (hs : s.size ≤ 9223372036854775807) : Calls Tryz.prog 41 #[.string s] w fun e w' => e = .returned (.agg #[.int .i64 (deltaR s).1, .int .i64 (deltaR s).2]) ∧ Below w.heap.size w w' := by
  have hc := fun W => areBytes_digit s 1 64 W hs
  rw [deltaOk_of] at hc
  have Hc := Lib.hid hc
  clear hc
  by_cases h : deltaOk s = true
  · have e : deltaR s = (0, deltaTo s s.size) := by simp [deltaR, h]
    rw [e]
    have hall : allB digitB s = true := by unfold deltaOk at h; simp only [Bool.and_eq_true] at h; exact h.2
    clear e
    have Hall := Lib.hid hall
    clear hall
    go_enter Tryz.func41, Tryz.ntmps41
    go_wp2_with (go_at_call 39; ((with_reducible refine (Hc.out _).mono ?_); rintro e w' ⟨rfl, rfl⟩))
    go_loop [3, 11] (fun n i => ∃ k : Nat, k ≤ s.size ∧ i = .int .i64 k ∧ n = .int .i64 (deltaTo s k)) (fun _ i => s.size - (intOf i).toNat)
    case atStart => exact ⟨0, Nat.zero_le _, rfl, rfl⟩
    case round =>
      obtain ⟨k, hk, rfl, rfl⟩ := hrel
      obtain ⟨hd1, hd2⟩ := deltaTo_bd s k (allTo_of Hall.out k)
      by_cases hlt : k < s.size
      · have hdn := Lib.hid (deltaTo_succ s k hlt)
        obtain ⟨hg1, hg2⟩ := digit_at Hall.out k hlt
        go_wp2
        all_goals
          go_round
          case rel => exact ⟨k + 1, by omega, by go_num, by first | (rw [hdn.out]; done) | (rw [hdn.out]; exact congrArg (Value.int .i64) (by omega))⟩
          case measure => simp [intOf]; omega
      · obtain rfl : k = s.size := by omega
        go_wp2
        all_goals exact bodyPost_ret (by first | ((simp [results, Tryz.results41, go_sem]; try rfl); done) | ((simp [results, Tryz.results41, go_sem, *]; try rfl); done) | ((simp (maxDischargeDepth := 8) [results, Tryz.results41, go_sem, *]; try rfl); done)) rfl ⟨rfl, by first | (with_reducible rfl) | exact (by first | (with_reducible exact Below.refl _ _) | ((repeat' (first | (with_reducible exact Below.refl _ _) | (with_reducible assumption) | (with_reducible refine below_alloc ?_ _) | (with_reducible refine Below.drew ?_) | (with_reducible refine below_drewN ?_ _) | (with_reducible refine Below.setCell ?_ ?_ _) | refine below_then ?_ (by with_reducible assumption))) <;> (first | omega | (simp; done) | (simp; omega))))⟩
  · have e : deltaR s = (5, 0) := by simp [deltaR, h]
    rw [e]
    clear e
    simp only [Bool.not_eq_true] at h
    go_enter Tryz.func41, Tryz.ntmps41
    go_wp2_with (go_at_call 39; ((with_reducible refine (Hc.out _).mono ?_); rintro e w' ⟨rfl, rfl⟩))
    all_goals exact bodyPost_ret (by first | ((simp [results, Tryz.results41, go_sem]; try rfl); done) | ((simp [results, Tryz.results41, go_sem, *]; try rfl); done) | ((simp (maxDischargeDepth := 8) [results, Tryz.results41, go_sem, *]; try rfl); done)) rfl ⟨rfl, by first | (with_reducible rfl) | exact (by first | (with_reducible exact Below.refl _ _) | ((repeat' (first | (with_reducible exact Below.refl _ _) | (with_reducible assumption) | (with_reducible refine below_alloc ?_ _) | (with_reducible refine Below.drew ?_) | (with_reducible refine below_drewN ?_ _) | (with_reducible refine Below.setCell ?_ ?_ _) | refine below_then ?_ (by with_reducible assumption))) <;> (first | omega | (simp; done) | (simp; omega))))⟩
end Go.Proofs.YtbiodbggaeglpaaGreatDoor

/- Items: the code of one; the place of the first with a name. -/
namespace Go.Proofs.YtbiodbggaeglpaaGreatDoor
open Go.RowKit
set_option linter.unusedSimpArgs false
set_option linter.unusedVariables false

def itemFault (i : It) : Int := if wordS i.1 = false then 5 else if (!i.2.1 && !i.2.2.toList.isEmpty) = true then 1 else if 1000 < i.2.2.size then 2 else if allB plainB i.2.2 = false then 5 else 0
def alikeI (name : ByteArray) (i : It) : Bool := alikeB i.1 name
def findR (l : List It) (name : ByteArray) : Int × Int := if 20 < l.length then (2, 0) else if wordS name = false then (5, 0) else if idxI (alikeI name) l < 0 then (4, 0) else (0, idxI (alikeI name) l)
end Go.Proofs.YtbiodbggaeglpaaGreatDoor

/- The text of items: both texts write the same. -/
namespace Go.Proofs.YtbiodbggaeglpaaGreatDoor
open Go.RowKit
set_option linter.unusedSimpArgs false
set_option linter.unusedVariables false

def itT (i : It) : ByteArray := itText i.1 i.2.1 i.2.2
theorem itemFault_0 {i : It} (h : itemFault i = 0) : i.1.size ≤ 64 ∧ i.2.2.size ≤ 1000 := by
  unfold itemFault at h
  split at h
  · cases h
  · rename_i h1
    split at h
    · cases h
    · split at h
      · cases h
      · rename_i h3
        refine ⟨?_, by omega⟩
        simp only [Bool.not_eq_false] at h1
        simp only [wordS, Bool.and_eq_true, decide_eq_true_eq] at h1
        exact h1.1.2
theorem itT_size {i : It} (h : itemFault i = 0) : (itT i).size ≤ 2100 := by
  have ⟨h1, h2⟩ := itemFault_0 h
  have h3 := quoteS_size i.2.2
  have e1 : (⟨#[61]⟩ : ByteArray).size = 1 := rfl
  unfold itT itText
  split
  · split
    · rw [ByteArray.size_append, ByteArray.size_append, e1]; omega
    · rw [ByteArray.size_append, ByteArray.size_append, e1]; omega
  · omega
theorem items_size {l : List It} (k : Nat) (hk : k ≤ l.length) (hl : l.length ≤ 20) (h : ∀ j (hj : j < l.length), j < k → itemFault l[j] = 0) : (joinB commaS ((l.map itT).take k)).size ≤ 45000 := by
  rw [← List.map_take]
  have := joinB_size commaS 2100 ((l.take k).map itT) (fun x hx => by
    obtain ⟨i, hi, rfl⟩ := List.mem_map.1 hx
    obtain ⟨j, hj, rfl⟩ := List.getElem_of_mem hi
    have hj' : j < k := by rw [List.length_take] at hj; omega
    have hjl : j < l.length := by omega
    rw [List.getElem_take]
    exact itT_size (h j hjl hj'))
  have e : commaS.size = 2 := rfl
  have hlen : ((l.take k).map itT).length ≤ 20 := by rw [List.length_map, List.length_take]; omega
  have h2 := Nat.mul_le_mul_right (2100 + 2) hlen
  rw [e] at this
  omega
theorem take_map (l : List It) (k : Nat) (h : k < l.length) : (l.map itT).take (k + 1) = (l.map itT).take k ++ [itT l[k]] := by
  rw [List.take_succ_eq_append_getElem (by rw [List.length_map]; exact h), List.getElem_map]
theorem items_step0 (l : List It) (k : Nat) (h : k < l.length) (h0 : k = 0) : joinB commaS ((l.map itT).take k) ++ itT l[k] = joinB commaS ((l.map itT).take (k + 1)) := by
  subst h0
  rw [take_map l 0 h, List.take_zero, List.nil_append, joinB_one, joinB_nil]
  apply ByteArray.ext; simp
theorem items_step (l : List It) (k : Nat) (h : k < l.length) (h0 : 0 < k) : joinB commaS ((l.map itT).take k) ++ ⟨#[44, 32]⟩ ++ itT l[k] = joinB commaS ((l.map itT).take (k + 1)) := by
  rw [take_map l k h]
  refine (joinB_snoc _ _ _ fun e => ?_).symm
  have := congrArg List.length e
  rw [List.length_take, List.length_map, List.length_nil] at this
  omega
theorem itT_no (i : It) (h : i.2.1 = false) : itT i = i.1 := by simp [itT, itText, h]
theorem itT_word (i : It) (h : i.2.1 = true) (h2 : wordS i.2.2 = true) : itT i = i.1 ++ (⟨#[61]⟩ ++ i.2.2) := by simp [itT, itText, h, h2]
theorem itT_quote (i : It) (h : i.2.1 = true) (h2 : wordS i.2.2 = false) : itT i = i.1 ++ (⟨#[61]⟩ ++ quoteS i.2.2) := by simp [itT, itText, h, h2]
theorem app4 (a b c d e : ByteArray) (h : a ++ (b ++ (c ++ d)) = e) : a ++ b ++ c ++ d = e := by rw [← h]; simp only [ByteArray.append_assoc]
def itemsR (l : List It) : Int × ByteArray := if 20 < l.length then (2, ⟨#[]⟩) else if faultG itemFault l ≠ 0 then (faultG itemFault l, ⟨#[]⟩) else
  if 1000 < (joinB commaS (l.map itT)).size then (2, ⟨#[]⟩) else (0, joinB commaS (l.map itT))
theorem itemsR_many {l : List It} (h : 20 < l.length) : itemsR l = (2, ⟨#[]⟩) := by simp [itemsR, h]
theorem itemsR_bad {l : List It} (h : ¬ 20 < l.length) (h2 : faultG itemFault l ≠ 0) : itemsR l = (faultG itemFault l, ⟨#[]⟩) := by simp [itemsR, h, h2]
theorem itemsR_long {l : List It} (h : ¬ 20 < l.length) (h2 : faultG itemFault l = 0) (h3 : 1000 < (joinB commaS (l.map itT)).size) : itemsR l = (2, ⟨#[]⟩) := by simp [itemsR, h, h2, h3]
theorem itemsR_ok {l : List It} (h : ¬ 20 < l.length) (h2 : faultG itemFault l = 0) (h3 : ¬ 1000 < (joinB commaS (l.map itT)).size) : itemsR l = (0, joinB commaS (l.map itT)) := by simp [itemsR, h, h2, h3]
theorem ret_items (l : List It) : ∀ c t, itemsR l = (c, t) → Ending.returned (.agg #[.int .i64 c, .string t]) = .returned (.agg #[.int .i64 (itemsR l).1, .string (itemsR l).2]) := fun c t h => by rw [h]
end Go.Proofs.YtbiodbggaeglpaaGreatDoor

/- The text of items: the program's own, and the law. -/
namespace Go.Proofs.YtbiodbggaeglpaaGreatDoor
open Go.RowKit
set_option linter.unusedSimpArgs false
set_option linter.unusedVariables false

theorem strV_snoc2 (l : List ByteArray) (x : ByteArray) : strV l ++ [.string x] = strV (l ++ [x]) := by simp [strV]
end Go.Proofs.YtbiodbggaeglpaaGreatDoor

/- Plain laws: a number's digits are read as the number. No program in sight. -/
namespace Go.Proofs.YtbiodbggaeglpaaGreatDoor
theorem dig_at (j : Nat) (h : j < 10) : (UInt8.ofNat (48 + j)).toNat = 48 + j := by simp; omega
theorem dec_fold : ∀ k : Nat, k ≤ 2147483648 → (Lib.decDigits k).foldl (fun (n : Int) b => min (10 * n + ((b.toNat : Int) - 48)) 2147483648) 0 = (k : Int) := by
  intro k
  induction k using Nat.strongRecOn with
  | ind k ih =>
    intro hk
    by_cases h : k < 10
    · rw [Lib.decDigits, dif_pos h, List.foldl_cons, List.foldl_nil, dig_at k h]
      omega
    · rw [Lib.decDigits, dif_neg h, List.foldl_append, ih (k / 10) (by omega) (by omega), List.foldl_cons, List.foldl_nil, dig_at (k % 10) (by omega)]
      omega
theorem dec_digit : ∀ k : Nat, ∀ b ∈ Lib.decDigits k, digitB (b.toNat : Int) = true := by
  intro k
  induction k using Nat.strongRecOn with
  | ind k ih =>
    intro b hb
    by_cases h : k < 10
    · rw [Lib.decDigits, dif_pos h, List.mem_singleton] at hb
      subst hb
      rw [dig_at k h]
      simp only [digitB, Bool.and_eq_true, decide_eq_true_eq]; omega
    · rw [Lib.decDigits, dif_neg h, List.mem_append, List.mem_singleton] at hb
      rcases hb with hb | rfl
      · exact ih (k / 10) (by omega) b hb
      · rw [dig_at (k % 10) (by omega)]
        simp only [digitB, Bool.and_eq_true, decide_eq_true_eq]; omega
theorem dec_len (k : Nat) : 1 ≤ (Lib.decDigits k).length := by
  rw [Lib.decDigits]
  split
  · simp
  · rw [List.length_append, List.length_singleton]; omega
theorem delta_dec (k : Nat) (h : k ≤ 2147483648) (h64 : (Lib.decDigits k).length ≤ 64) : deltaR ⟨(Lib.decDigits k).toArray⟩ = (0, (k : Int)) := by
  have hsz : (⟨(Lib.decDigits k).toArray⟩ : ByteArray).size = (Lib.decDigits k).length := rfl
  have h1 := dec_len k
  have hok : deltaOk ⟨(Lib.decDigits k).toArray⟩ = true := by
    unfold deltaOk
    rw [hsz, Bool.and_eq_true, Bool.and_eq_true, decide_eq_true_eq, decide_eq_true_eq]
    exact ⟨⟨h1, h64⟩, List.all_eq_true.2 (dec_digit k)⟩
  unfold deltaR
  rw [if_pos hok]
  unfold deltaTo
  rw [hsz]
  show (0, ((Lib.decDigits k).take (Lib.decDigits k).length).foldl _ 0) = _
  rw [List.take_length, dec_fold k h]
end Go.Proofs.YtbiodbggaeglpaaGreatDoor

/- Plain law: what stands between the first and the last byte that is no blank. No program in sight. -/
namespace Go.Proofs.YtbiodbggaeglpaaGreatDoor
open Go.RowKit

def blankB (c : Int) : Bool := decide (c = 32) || decide (c = 9)
def trimL (l : List UInt8) : List UInt8 := Lib.trimS l [32, 9]
def trimT (s : ByteArray) : ByteArray := ⟨(trimL s.data.toList).toArray⟩
theorem blank_has (b : UInt8) : ([32, 9] : List UInt8).contains b = blankB (b.toNat : Int) := by
  simp only [List.contains_cons, List.contains_nil, Bool.or_false, blankB]
  rw [Bool.eq_iff_iff]
  simp only [Bool.or_eq_true, beq_iff_eq, decide_eq_true_eq]
  constructor
  · rintro (h | h)
    · left; subst h; rfl
    · right; subst h; rfl
  · rintro (h | h)
    · left; apply UInt8.toNat_inj.1; show b.toNat = 32; omega
    · right; apply UInt8.toNat_inj.1; show b.toNat = 9; omega
theorem at_byte (s : ByteArray) (j : Nat) (b : UInt8) (h : s.data.toList[j]? = some b) : ∃ hj : j < s.size, b = s[j] := by
  have hj : j < s.data.toList.length := (List.getElem?_eq_some_iff.1 h).1
  have hj' : j < s.size := by rw [Array.length_toList] at hj; exact hj
  refine ⟨hj', ?_⟩
  obtain ⟨_, e⟩ := List.getElem?_eq_some_iff.1 h
  rw [← e]; rfl
/-- What the two loops end with. -/
theorem trim_of (s : ByteArray) (f e : Nat) (hfe : f ≤ e) (he : e ≤ s.size) (h1 : ∀ j (h : j < s.size), j < f → blankB (s[j].toNat : Int) = true)
    (h2 : ∀ h : f < s.size, blankB (s[f].toNat : Int) = false) (h3 : ∀ j (h : j < s.size), e ≤ j → blankB (s[j].toNat : Int) = true)
    (h4 : f < e → ∀ h : e - 1 < s.size, blankB (s[e - 1].toNat : Int) = false) : trimL s.data.toList = (s.data.toList.take e).drop f := by
  have hl : s.data.toList.length = s.size := Array.length_toList
  unfold trimL Lib.trimS
  by_cases hlt : f < e
  · rw [Lib.trimRightS_take _ _ e (by omega) (fun j b hj hb => by
      obtain ⟨hj', rfl⟩ := at_byte s j b hb
      rw [blank_has]; exact h3 j hj' hj) (fun b h0 hb => by
      obtain ⟨hj', rfl⟩ := at_byte s _ b hb
      rw [blank_has]; exact h4 hlt hj')]
    exact Lib.trimLeftS_drop _ _ f (by rw [List.length_take]; omega) (fun j b hj hb => by
      rw [List.getElem?_take, if_pos (by omega)] at hb
      obtain ⟨hj', rfl⟩ := at_byte s j b hb
      rw [blank_has]; exact h1 j hj' hj) (fun b hb => by
      rw [List.getElem?_take, if_pos hlt] at hb
      obtain ⟨hj', rfl⟩ := at_byte s _ b hb
      rw [blank_has]; exact h2 hj')
  · have e' : e = f := by omega
    subst e'
    have hall : ¬ e < s.size := fun h => by
      have a := h2 h
      have b := h3 e h (Nat.le_refl _)
      rw [a] at b; cases b
    rw [Lib.trimRightS_take _ _ 0 (by omega) (fun j b hj hb => by
      obtain ⟨hj', rfl⟩ := at_byte s j b hb
      rw [blank_has]; exact h1 j hj' (by omega)) (fun b h0 hb => by omega)]
    rw [List.drop_of_length_le (by rw [List.length_take]; omega)]
    rfl
/-- It is no longer; and twice is once. -/
theorem trimL_len (l : List UInt8) : (trimL l).length ≤ l.length := by
  unfold trimL Lib.trimS Lib.trimLeftS Lib.trimRightS
  refine Nat.le_trans ((List.dropWhile_sublist _).length_le) ?_
  rw [List.length_reverse]
  refine Nat.le_trans ((List.dropWhile_sublist _).length_le) ?_
  rw [List.length_reverse]
  exact Nat.le_refl _
theorem trimT_size (s : ByteArray) : (trimT s).size ≤ s.size := by
  have h := trimL_len s.data.toList
  rw [Array.length_toList] at h
  have e : (trimT s).size = (trimL s.data.toList).length := rfl
  rw [e]; exact h
def trimR (s : ByteArray) : Int × ByteArray := if s.size ≤ 1000 then (0, trimT s) else (2, ByteArray.empty)
end Go.Proofs.YtbiodbggaeglpaaGreatDoor

/- What is trimmed: both texts find the same. -/
namespace Go.Proofs.YtbiodbggaeglpaaGreatDoor
open Go.RowKit
set_option linter.unusedSimpArgs false
set_option linter.unusedVariables false

theorem strings_Trim (s : ByteArray) (w : World) (hs : s.size ≤ 9223372036854775807) : Calls Tryz.prog 68 #[.string s, .string ⟨#[32, 9]⟩] w fun e w' => e = .returned (.string (trimT s)) ∧ Below w.heap.size w w' :=
  Any.strings_Trim_laid Tryz.lays160 (by kernel_rfl) s ⟨#[32, 9]⟩ w hs (by decide) (ascii_of_all (by decide))
theorem spec_l1Blank (c : Int) (w : World) : Calls Tryz.prog 129 #[.int .u8 c] w fun e w' => e = .returned (.bool (blankB c)) ∧ w = w' := by
  go_enter Tryz.func129, Tryz.ntmps129
  go_wp2
  all_goals (go_ret; exact ⟨ret_bool (by first | (simp_all [blankB]; done) | (rw [Bool.eq_iff_iff]; simp_all [blankB])), rfl⟩)
theorem extract_eq (s : ByteArray) (f e : Nat) : s.extract f e = ⟨((s.data.toList.take e).drop f).toArray⟩ := by
  apply ByteArray.ext
  apply Array.toList_inj.1
  simp [ByteArray.data_extract, List.extract_eq_take_drop]
  rw [List.drop_take]
set_option maxHeartbeats 1600000 in
theorem spec_l1Trim (s : ByteArray) (w : World) (hs : s.size ≤ 9223372036854775807) : Calls Tryz.prog 106 #[.string s] w fun e w' => e = .returned (.string (trimT s)) ∧ w = w' := by
  go_enter Tryz.func106, Tryz.ntmps106
  go_wp2
  go_loop [3] (fun i => ∃ k : Nat, k ≤ s.size ∧ i = .int .i64 k ∧ ∀ j (h : j < s.size), j < k → blankB (s[j].toNat : Int) = true) (fun i => s.size - (intOf i).toNat)
  case atStart => exact ⟨0, Nat.zero_le _, rfl, fun j _ h => by omega⟩
  case round =>
    obtain ⟨f, hf, rfl, hall⟩ := hrel
    have Hall := Lib.hid hall
    clear hall
    by_cases hlt : f < s.size
    · by_cases hp : blankB (s[f].toNat : Int) = true
      · have Hp := Lib.hid hp
        go_wp2_with (go_at_call 129; ((with_reducible refine (spec_l1Blank _ _).mono ?_); rintro e w' ⟨rfl, rfl⟩))
        go_round
        case rel =>
          refine ⟨f + 1, by omega, by go_num, fun j h hj => ?_⟩
          by_cases e : j = f
          · subst e; exact Hp.out
          · exact Hall.out j h (by omega)
        case measure => (simp [intOf] <;> omega)
      · simp only [Bool.not_eq_true] at hp
        have hend : ∀ h : f < s.size, blankB (s[f].toNat : Int) = false := fun _ => hp
        have Hend := Lib.hid hend
        clear hend
        go_wp2_with (go_at_call 129; ((with_reducible refine (spec_l1Blank _ _).mono ?_); rintro e w' ⟨rfl, rfl⟩))
        go_loop [4] (fun i => ∃ k : Nat, f ≤ k ∧ k ≤ s.size ∧ i = .int .i64 k ∧ ∀ j (h : j < s.size), k ≤ j → blankB (s[j].toNat : Int) = true) (fun i => (intOf i).toNat)
        case atStart => exact ⟨s.size, hf, Nat.le_refl _, rfl, fun j h hj => by omega⟩
        case round =>
          obtain ⟨e, hfe, he, rfl, hall2⟩ := hrel
          have Hall2 := Lib.hid hall2
          clear hall2
          have hfin : (f < e → ∀ h : e - 1 < s.size, blankB (s[e - 1].toNat : Int) = false) → Ending.returned (.string (s.extract f e)) = .returned (.string (trimT s)) := fun h4 => by
            rw [extract_eq, trimT, trim_of s f e hfe he Hall.out Hend.out Hall2.out h4]
          have Hfin := Lib.hid hfin
          clear hfin
          by_cases hlt2 : f < e
          · obtain ⟨e', rfl⟩ : ∃ e', e = e' + 1 := ⟨e - 1, by omega⟩
            have he' : e' < s.size := by omega
            by_cases hp2 : blankB (s[e'].toNat : Int) = true
            · have Hp2 := Lib.hid hp2
              go_wp2_with (go_at_call 129; ((with_reducible refine (spec_l1Blank _ _).mono ?_); rintro e w' ⟨rfl, rfl⟩))
              go_round
              case rel =>
                refine ⟨e', by omega, by omega, by go_num, fun j h hj => ?_⟩
                by_cases e0 : j = e'
                · subst e0; exact Hp2.out
                · exact Hall2.out j h (by omega)
              case measure => (simp [intOf] <;> omega)
            · simp only [Bool.not_eq_true] at hp2
              have h5 : f < e' + 1 → ∀ h : e' + 1 - 1 < s.size, blankB (s[e' + 1 - 1].toNat : Int) = false := fun _ _ => hp2
              have H5 := Lib.hid h5
              clear h5
              go_wp2_with (go_at_call 129; ((with_reducible refine (spec_l1Blank _ _).mono ?_); rintro e w' ⟨rfl, rfl⟩))
              go_ret
              exact ⟨Hfin.out H5.out, rfl⟩
          · have e0 : e = f := by omega
            subst e0
            have e1 : s.extract e e = ByteArray.empty := by apply ByteArray.ext; simp
            have h6 : Ending.returned (.string ByteArray.empty) = .returned (.string (trimT s)) := by rw [← e1]; exact Hfin.out (fun h => absurd h (Nat.lt_irrefl _))
            have H6 := Lib.hid h6
            clear e1 h6
            go_wp2_with (go_at_call 129; ((with_reducible refine (spec_l1Blank _ _).mono ?_); rintro e w' ⟨rfl, rfl⟩))
            go_ret
            exact ⟨H6.out, rfl⟩
    · have hend : ∀ h : f < s.size, blankB (s[f].toNat : Int) = false := fun h => absurd h hlt
      have Hend := Lib.hid hend
      clear hend
      go_wp2_with (go_at_call 129; ((with_reducible refine (spec_l1Blank _ _).mono ?_); rintro e w' ⟨rfl, rfl⟩))
      go_loop [4] (fun i => ∃ k : Nat, f ≤ k ∧ k ≤ s.size ∧ i = .int .i64 k) (fun i => (intOf i).toNat)
      case atStart => exact ⟨s.size, hf, Nat.le_refl _, rfl⟩
      case round =>
        obtain ⟨e, hfe, he, rfl⟩ := hrel
        obtain rfl : e = f := by omega
        have e1 : s.extract e e = ByteArray.empty := by apply ByteArray.ext; simp
        have h6 : Ending.returned (.string ByteArray.empty) = .returned (.string (trimT s)) := by
          rw [← e1, extract_eq, trimT, trim_of s e e (Nat.le_refl _) hf Hall.out Hend.out (fun j h hj => by omega) (fun h => absurd h (Nat.lt_irrefl _))]
        have H6 := Lib.hid h6
        clear e1 h6
        go_wp2_with (go_at_call 129; ((with_reducible refine (spec_l1Blank _ _).mono ?_); rintro e w' ⟨rfl, rfl⟩))
        go_ret
        exact ⟨H6.out, rfl⟩
theorem trimR_yes {s : ByteArray} (h : s.size ≤ 1000) : trimR s = (0, trimT s) := by simp [trimR, h]
theorem trimR_no {s : ByteArray} (h : ¬ s.size ≤ 1000) : trimR s = (2, ByteArray.empty) := by simp [trimR, h]
end Go.Proofs.YtbiodbggaeglpaaGreatDoor
