/- Joined: Find. -/
import Derived.Test.YthiogijicknoiaaDoorJRowItems0
/- Items: the code of one; the place of the first with a name. -/
namespace Go.Proofs.YthiogijicknoiaaDoor
open Go.RowKit
set_option linter.unusedSimpArgs false
set_option linter.unusedVariables false

def itemFault (i : It) : Int := if wordS i.1 = false then 5 else if (!i.2.1 && !i.2.2.toList.isEmpty) = true then 1 else if 1000 < i.2.2.size then 2 else if allB plainB i.2.2 = false then 5 else 0
set_option maxHeartbeats 1600000 in
theorem spec_ItemFault (x : ByteArray) (b : Bool) (y : ByteArray) (hx : x.size ≤ 9223372036854775807) (hy : y.size ≤ 9223372036854775807) (w : World) : Calls Tryd.prog 56 #[.agg #[.string x, .bool b, .string y]] w fun e w' => e = .returned (.int .i64 (itemFault (x, b, y))) ∧ Below w.heap.size w w' := by
  cases b
  all_goals
    go_enter Tryd.func56, Tryd.ntmps56
    go_wp2_with (first | (go_at_call 57; ((with_reducible refine (spec_IsWord _ _ hx).mono ?_); rintro e w' ⟨rfl, rfl⟩)) | (go_at_call 94; ((with_reducible refine (spec_l2PlainText _ _ hy).mono ?_); rintro e w' ⟨rfl, rfl⟩)))
    all_goals (go_ret; exact ⟨ret_int (by first | (simp_all [itemFault]; done) | (simp_all [itemFault]; omega)), (by first | (with_reducible exact Below.refl _ _) | ((repeat' (first | (with_reducible exact Below.refl _ _) | (with_reducible assumption) | (with_reducible refine below_alloc ?_ _) | (with_reducible refine Below.drew ?_) | (with_reducible refine below_drewN ?_ _) | (with_reducible refine Below.setCell ?_ ?_ _) | refine below_then ?_ (by with_reducible assumption))) <;> (first | omega | (simp; done) | (simp; omega))))⟩)
set_option maxHeartbeats 1600000 in
theorem impl_ItemFault (x : ByteArray) (b : Bool) (y : ByteArray) (hx : x.size ≤ 9223372036854775807) (hy : y.size ≤ 9223372036854775807) (w : World) : Calls Tryd.prog 47 #[.agg #[.string x, .bool b, .string y]] w fun e w' => e = .returned (.int .i64 (itemFault (x, b, y))) ∧ Below w.heap.size w w' := by
  cases b
  all_goals
    go_enter Tryd.func47, Tryd.ntmps47
    go_wp2_with (first | (go_at_call 48; ((with_reducible refine (impl_IsWord _ _ hx).mono ?_); rintro e w' ⟨rfl, rfl⟩)) | (go_at_call 78; ((with_reducible refine (impl_arePlain _ _ hy).mono ?_); rintro e w' ⟨rfl, rfl⟩)))
    all_goals (go_ret; exact ⟨ret_int (by first | (simp_all [itemFault]; done) | (simp_all [itemFault]; omega)), (by first | (with_reducible exact Below.refl _ _) | ((repeat' (first | (with_reducible exact Below.refl _ _) | (with_reducible assumption) | (with_reducible refine below_alloc ?_ _) | (with_reducible refine Below.drew ?_) | (with_reducible refine below_drewN ?_ _) | (with_reducible refine Below.setCell ?_ ?_ _) | refine below_then ?_ (by with_reducible assumption))) <;> (first | omega | (simp; done) | (simp; omega))))⟩)

def alikeI (name : ByteArray) (i : It) : Bool := alikeB i.1 name
theorem impl_findItem_1 (B : Nat) (name : ByteArray) (hnm : name.size ≤ 9223372036854775807) (x : ByteArray) (b : Bool) (y : ByteArray) (hx : x.size ≤ 9223372036854775807) (w : World) (hB : B < w.heap.size) (hcell : w.cell? ⟨B, 0, none⟩ = some (.string name)) :
    Calls Tryd.prog 92 #[.agg #[.string x, .bool b, .string y], .pointer (some ⟨B, 0, none⟩)] w fun e w' => e = .returned (.bool (alikeI name (x, b, y))) ∧ Below w.heap.size w w' := by
  go_enter Tryd.func92, Tryd.ntmps92
  go_wp2_with (go_at_call 93; ((with_reducible refine (impl_alike x name hx hnm _).mono ?_); rintro e w' ⟨rfl, hb⟩; obtain ⟨hc, hf⟩ := bcell hb; have hz := hb.size; (try simp only [World.size_alloc, World.size_setCell, World.size_drew] at hz); obtain ⟨hlt, hle, hn1, hn2, hn3, hn4⟩ := bsize hb; (try simp only [World.size_alloc, World.size_setCell, World.size_drew] at hlt hle hn1 hn2 hn3 hn4); (try have hr0 : w.heap.size < w'.heap.size := by omega); (try have hr1 : w.heap.size + 1 < w'.heap.size := by omega); (try have hs0 : wS.heap.size < w'.heap.size := by omega); (try have hs1 : wG.heap.size < w'.heap.size := by omega)))
  go_ret
  exact ⟨rfl, (by first | (with_reducible exact Below.refl _ _) | ((repeat' (first | (with_reducible exact Below.refl _ _) | (with_reducible assumption) | (with_reducible refine below_alloc ?_ _) | (with_reducible refine Below.drew ?_) | (with_reducible refine below_drewN ?_ _) | (with_reducible refine Below.setCell ?_ ?_ _) | refine below_then ?_ (by with_reducible assumption))) <;> (first | omega | (simp; done) | (simp; omega))))⟩
set_option maxHeartbeats 1600000 in
theorem slices_IndexFunc_item (B : Nat) (name : ByteArray) (hnm : name.size ≤ 9223372036854775807) (a : Option Addr) (n c : Nat) (l : List It) (hl : l.length = n) (w : World) (hr : Rd w a (iV l)) (hn : n ≤ 9223372036854775807) (hs : ∀ h ∈ l, h.1.size ≤ 9223372036854775807 ∧ h.2.2.size ≤ 9223372036854775807)
    (hB : B < w.heap.size) (hcell : w.cell? ⟨B, 0, none⟩ = some (.string name)) :
    Calls Tryd.prog 91 #[.slice a n c, .func (.func 92) #[] #[.pointer (some ⟨B, 0, none⟩)]] w fun e w' => e = .returned (.int .i64 (idxI (alikeI name) l)) ∧ Below w.heap.size w w' := by
  have Hl := Lib.hid hl
  have Hs := Lib.hid hs
  have Hcell := Lib.hid hcell
  clear hl hs hcell
  go_enter Tryd.func91, Tryd.ntmps91
  go_wp2
  go_loopw [8] (fun i wr => ∃ k : Nat, k ≤ n ∧ i = .int .i64 k ∧ (∀ j (hj : j < l.length), j < k → alikeI name l[j] = false) ∧ Below w.heap.size w wr) (fun i _ => n - (intOf i).toNat)
  case atStart => exact ⟨0, Nat.zero_le _, rfl, fun j hj h => by omega, Below.refl _ _⟩
  case round =>
    obtain ⟨k, hk, rfl, hno, hb⟩ := hrel
    have Hno := Lib.hid hno
    clear hno
    by_cases hlt : k < n
    · have hlk : k < l.length := by rw [Hl.out]; exact hlt
      obtain ⟨b, off, rfl, hbl, hc0, hc1, hc2⟩ := (hr.below hb).item k hlk
      have hsz := (Hs.out l[k] (List.getElem_mem hlk)).1
      have hcellr : wr.cell? ⟨B, 0, none⟩ = some (.string name) := (hb.cell (p := ⟨B, 0, none⟩) hB).trans Hcell.out
      have hBr : B < wr.heap.size := Nat.lt_of_lt_of_le hB hb.size
      have Hc := Lib.hid hcellr
      clear hcellr
      by_cases hp : alikeI name l[k] = true
      · have hfin : Ending.returned (.int .i64 (k : Int)) = .returned (.int .i64 (idxI (alikeI name) l)) := by rw [idxI_at hlk hp fun j hj => Hno.out j (by omega) hj]
        have Hfin := Lib.hid hfin
        have hcon := fun W h1 h2 => impl_findItem_1 B name hnm l[k].1 l[k].2.1 l[k].2.2 hsz W h1 h2
        rw [show alikeI name (l[k].1, l[k].2.1, l[k].2.2) = true from hp] at hcon
        have Hcon := Lib.hid hcon
        clear hfin hp hcon
        go_wp2_with (go_at_call 92; ((with_reducible refine (Hcon.out _ hBr Hc.out).mono ?_); rintro e w' ⟨rfl, hb2⟩))
        go_ret
        exact ⟨Hfin.out, below_then hb hb2⟩
      · simp only [Bool.not_eq_true] at hp
        have Hp := Lib.hid hp
        have hcon := fun W h1 h2 => impl_findItem_1 B name hnm l[k].1 l[k].2.1 l[k].2.2 hsz W h1 h2
        rw [show alikeI name (l[k].1, l[k].2.1, l[k].2.2) = false from hp] at hcon
        have Hcon := Lib.hid hcon
        clear hp hcon
        go_wp2_with (go_at_call 92; ((with_reducible refine (Hcon.out _ hBr Hc.out).mono ?_); rintro e w' ⟨rfl, hb2⟩))
        go_roundw
        case rel =>
          refine ⟨k + 1, by omega, by go_num, fun j hj hjk => ?_, below_then hb hb2⟩
          by_cases e : j = k
          · subst e; exact Hp.out
          · exact Hno.out j hj (by omega)
        case measure => simp [intOf]; omega
    · have hfin : Ending.returned (.int .i64 (-1)) = .returned (.int .i64 (idxI (alikeI name) l)) := by rw [idxI_none fun j hj => Hno.out j hj (by have := Hl.out; omega)]
      have Hfin := Lib.hid hfin
      clear hfin
      go_wp2
      go_ret
      exact ⟨Hfin.out, hb⟩
theorem impl_findItem (name : ByteArray) (hnm : name.size ≤ 9223372036854775807) (a : Option Addr) (n c : Nat) (l : List It) (hl : l.length = n) (w : World) (hr : Rd w a (iV l)) (hn : n ≤ 9223372036854775807) (hs : ∀ h ∈ l, h.1.size ≤ 9223372036854775807 ∧ h.2.2.size ≤ 9223372036854775807) :
    Calls Tryd.prog 55 #[.slice a n c, .string name] w fun e w' => e = .returned (.int .i64 (idxI (alikeI name) l)) ∧ Below w.heap.size w w' := by
  have hmf : ∀ (fn : Fn) (first cap : Array Value) (w : World), (Instr.makeFunc fn first cap).run Tryd.prog w = .ok (.func fn first cap) w := fun _ _ _ _ => rfl
  have Hl := Lib.hid hl
  have Hs := Lib.hid hs
  clear hl hs
  go_enter Tryd.func55, Tryd.ntmps55
  go_wp2_with (go_at_call 91; ((with_reducible refine (slices_IndexFunc_item _ name hnm a n c l Hl.out _ (by first | (with_reducible assumption) | exact RowAt.rd (by repeat' (first | (with_reducible assumption) | (with_reducible refine RowAt.alloc ?_ _) | (with_reducible refine RowAt.drew ?_) | (with_reducible refine RowAt.other ?_ _ _ (by first | omega | (simp; done) | (simp; omega))) | refine RowAt.then ?_ (by with_reducible assumption))) | exact Rd.below (by with_reducible assumption) (by first | (with_reducible exact Below.refl _ _) | ((repeat' (first | (with_reducible exact Below.refl _ _) | (with_reducible assumption) | (with_reducible refine below_alloc ?_ _) | (with_reducible refine Below.drew ?_) | (with_reducible refine below_drewN ?_ _) | (with_reducible refine Below.setCell ?_ ?_ _) | refine below_then ?_ (by with_reducible assumption))) <;> (first | omega | (simp; done) | (simp; omega))))) hn Hs.out (by simp) (by simp)).mono ?_); rintro e w' ⟨rfl, hb⟩))
  go_ret
  exact ⟨rfl, (by first | (with_reducible exact Below.refl _ _) | ((repeat' (first | (with_reducible exact Below.refl _ _) | (with_reducible assumption) | (with_reducible refine below_alloc ?_ _) | (with_reducible refine Below.drew ?_) | (with_reducible refine below_drewN ?_ _) | (with_reducible refine Below.setCell ?_ ?_ _) | refine below_then ?_ (by with_reducible assumption))) <;> (first | omega | (simp; done) | (simp; omega))))⟩
set_option maxHeartbeats 1600000 in
theorem spec_l2Find (name : ByteArray) (hnm : name.size ≤ 9223372036854775807) (a : Option Addr) (n c : Nat) (l : List It) (hl : l.length = n) (w : World) (hr : Rd w a (iV l)) (hn : n ≤ 9223372036854775807) (hs : ∀ h ∈ l, h.1.size ≤ 9223372036854775807 ∧ h.2.2.size ≤ 9223372036854775807) :
    Calls Tryd.prog 60 #[.slice a n c, .string name] w fun e w' => e = .returned (.int .i64 (idxI (alikeI name) l)) ∧ Below w.heap.size w w' := by
  have Hl := Lib.hid hl
  have Hs := Lib.hid hs
  clear hl hs
  go_enter Tryd.func60, Tryd.ntmps60
  go_wp2
  go_loopw [5] (fun i wr => ∃ k : Nat, k ≤ n ∧ i = .int .i64 k ∧ (∀ j (hj : j < l.length), j < k → alikeI name l[j] = false) ∧ Below w.heap.size w wr) (fun i _ => n - (intOf i).toNat)
  case atStart => exact ⟨0, Nat.zero_le _, rfl, fun j hj h => by omega, Below.refl _ _⟩
  case round =>
    obtain ⟨k, hk, rfl, hno, hb⟩ := hrel
    have Hno := Lib.hid hno
    clear hno
    by_cases hlt : k < n
    · have hlk : k < l.length := by rw [Hl.out]; exact hlt
      obtain ⟨b, off, rfl, hbl, hc0, hc1, hc2⟩ := (hr.below hb).item k hlk
      have hsz := (Hs.out l[k] (List.getElem_mem hlk)).1
      by_cases hp : alikeI name l[k] = true
      · have hfin : Ending.returned (.int .i64 (k : Int)) = .returned (.int .i64 (idxI (alikeI name) l)) := by rw [idxI_at hlk hp fun j hj => Hno.out j (by omega) hj]
        have Hfin := Lib.hid hfin
        have hq : ((lowS l[k].1).toList == (lowS name).toList) = true := hp
        clear hfin hp
        go_wp2_with (first | (go_at_call 99; ((with_reducible refine (spec_l1Lower l[k].1 _ hsz).mono ?_); rintro e w' ⟨rfl, hb2⟩)) | (go_at_call 99; ((with_reducible refine (spec_l1Lower name _ hnm).mono ?_); rintro e w' ⟨rfl, hb3⟩)))
        go_ret
        exact ⟨Hfin.out, below_then (below_then hb hb2) hb3⟩
      · simp only [Bool.not_eq_true] at hp
        have Hp := Lib.hid hp
        have hq : ((lowS l[k].1).toList == (lowS name).toList) = false := hp
        clear hp
        go_wp2_with (first | (go_at_call 99; ((with_reducible refine (spec_l1Lower l[k].1 _ hsz).mono ?_); rintro e w' ⟨rfl, hb2⟩)) | (go_at_call 99; ((with_reducible refine (spec_l1Lower name _ hnm).mono ?_); rintro e w' ⟨rfl, hb3⟩)))
        go_roundw
        case rel =>
          refine ⟨k + 1, by omega, by go_num, fun j hj hjk => ?_, below_then (below_then hb hb2) hb3⟩
          by_cases e : j = k
          · subst e; exact Hp.out
          · exact Hno.out j hj (by omega)
        case measure => simp [intOf]; omega
    · have hfin : Ending.returned (.int .i64 (-1)) = .returned (.int .i64 (idxI (alikeI name) l)) := by rw [idxI_none fun j hj => Hno.out j hj (by have := Hl.out; omega)]
      have Hfin := Lib.hid hfin
      clear hfin
      go_wp2
      go_ret
      exact ⟨Hfin.out, hb⟩
def findR (l : List It) (name : ByteArray) : Int × Int := if 20 < l.length then (2, 0) else if wordS name = false then (5, 0) else if idxI (alikeI name) l < 0 then (4, 0) else (0, idxI (alikeI name) l)
set_option maxHeartbeats 1600000 in
theorem spec_FindItem (name : ByteArray) (hnm : name.size ≤ 9223372036854775807) (a : Option Addr) (n c : Nat) (l : List It) (hl : l.length = n) (w : World) (hr : Rd w a (iV l)) (hn : n ≤ 9223372036854775807) (hs : ∀ h ∈ l, h.1.size ≤ 9223372036854775807 ∧ h.2.2.size ≤ 9223372036854775807) :
    Calls Tryd.prog 22 #[.slice a n c, .string name] w fun e w' => e = .returned (.agg #[.int .i64 (findR l name).1, .int .i64 (findR l name).2]) ∧ Below w.heap.size w w' := by
  have Hs := Lib.hid hs
  clear hs
  by_cases h1 : 20 < n
  · have e : findR l name = (2, 0) := by simp [findR, hl, h1]
    rw [e]
    clear e hl
    go_enter Tryd.func22, Tryd.ntmps22
    go_wp2
    all_goals exact bodyPost_ret (by first | ((simp [results, Tryd.results22, go_sem]; try rfl); done) | ((simp [results, Tryd.results22, go_sem, *]; try rfl); done) | ((simp (maxDischargeDepth := 8) [results, Tryd.results22, go_sem, *]; try rfl); done)) rfl ⟨rfl, by first | (with_reducible rfl) | exact (by first | (with_reducible exact Below.refl _ _) | ((repeat' (first | (with_reducible exact Below.refl _ _) | (with_reducible assumption) | (with_reducible refine below_alloc ?_ _) | (with_reducible refine Below.drew ?_) | (with_reducible refine below_drewN ?_ _) | (with_reducible refine Below.setCell ?_ ?_ _) | refine below_then ?_ (by with_reducible assumption))) <;> (first | omega | (simp; done) | (simp; omega))))⟩
  · have hc := fun W => spec_IsWord name W hnm
    by_cases h2 : wordS name = false
    · have e : findR l name = (5, 0) := by simp [findR, hl, h1, h2]
      rw [e]
      rw [h2] at hc
      have Hc := Lib.hid hc
      clear e hl hc
      go_enter Tryd.func22, Tryd.ntmps22
      go_wp2_with (go_at_call 57; ((with_reducible refine (Hc.out _).mono ?_); rintro e w' ⟨rfl, rfl⟩))
      all_goals exact bodyPost_ret (by first | ((simp [results, Tryd.results22, go_sem]; try rfl); done) | ((simp [results, Tryd.results22, go_sem, *]; try rfl); done) | ((simp (maxDischargeDepth := 8) [results, Tryd.results22, go_sem, *]; try rfl); done)) rfl ⟨rfl, by first | (with_reducible rfl) | exact (by first | (with_reducible exact Below.refl _ _) | ((repeat' (first | (with_reducible exact Below.refl _ _) | (with_reducible assumption) | (with_reducible refine below_alloc ?_ _) | (with_reducible refine Below.drew ?_) | (with_reducible refine below_drewN ?_ _) | (with_reducible refine Below.setCell ?_ ?_ _) | refine below_then ?_ (by with_reducible assumption))) <;> (first | omega | (simp; done) | (simp; omega))))⟩
    · simp only [Bool.not_eq_false] at h2
      rw [h2] at hc
      have Hc := Lib.hid hc
      clear hc
      have hlo : -1 ≤ idxI (alikeI name) l ∧ idxI (alikeI name) l < 9223372036854775807 := by
        have := idxI_range (alikeI name) l
        omega
      obtain ⟨hlo, hhi⟩ := hlo
      by_cases h3 : idxI (alikeI name) l < 0
      · have e : findR l name = (4, 0) := by simp [findR, hl, h1, h2, h3]
        rw [e]
        have Hl := Lib.hid hl
        clear e hl
        go_enter Tryd.func22, Tryd.ntmps22
        go_wp2_with (first | (go_at_call 57; ((with_reducible refine (Hc.out _).mono ?_); rintro e w' ⟨rfl, rfl⟩)) | (go_at_call 60; ((with_reducible refine (spec_l2Find name hnm a n c l Hl.out _ (by first | (with_reducible assumption) | exact RowAt.rd (by repeat' (first | (with_reducible assumption) | (with_reducible refine RowAt.alloc ?_ _) | (with_reducible refine RowAt.drew ?_) | (with_reducible refine RowAt.other ?_ _ _ (by first | omega | (simp; done) | (simp; omega))) | refine RowAt.then ?_ (by with_reducible assumption))) | exact Rd.below (by with_reducible assumption) (by first | (with_reducible exact Below.refl _ _) | ((repeat' (first | (with_reducible exact Below.refl _ _) | (with_reducible assumption) | (with_reducible refine below_alloc ?_ _) | (with_reducible refine Below.drew ?_) | (with_reducible refine below_drewN ?_ _) | (with_reducible refine Below.setCell ?_ ?_ _) | refine below_then ?_ (by with_reducible assumption))) <;> (first | omega | (simp; done) | (simp; omega))))) hn Hs.out).mono ?_); rintro e w' ⟨rfl, hb⟩; obtain ⟨hc, hf⟩ := bcell hb; have hz := hb.size; (try simp only [World.size_alloc, World.size_setCell, World.size_drew] at hz); obtain ⟨hlt, hle, hn1, hn2, hn3, hn4⟩ := bsize hb; (try simp only [World.size_alloc, World.size_setCell, World.size_drew] at hlt hle hn1 hn2 hn3 hn4); (try have hr0 : w.heap.size < w'.heap.size := by omega); (try have hr1 : w.heap.size + 1 < w'.heap.size := by omega); (try have hs0 : wS.heap.size < w'.heap.size := by omega); (try have hs1 : wG.heap.size < w'.heap.size := by omega))))
        all_goals exact bodyPost_ret (by first | ((simp [results, Tryd.results22, go_sem]; try rfl); done) | ((simp [results, Tryd.results22, go_sem, *]; try rfl); done) | ((simp (maxDischargeDepth := 8) [results, Tryd.results22, go_sem, *]; try rfl); done)) rfl ⟨rfl, by first | (with_reducible rfl) | exact (by first | (with_reducible exact Below.refl _ _) | ((repeat' (first | (with_reducible exact Below.refl _ _) | (with_reducible assumption) | (with_reducible refine below_alloc ?_ _) | (with_reducible refine Below.drew ?_) | (with_reducible refine below_drewN ?_ _) | (with_reducible refine Below.setCell ?_ ?_ _) | refine below_then ?_ (by with_reducible assumption))) <;> (first | omega | (simp; done) | (simp; omega))))⟩
      · have e : findR l name = (0, idxI (alikeI name) l) := by simp [findR, hl, h1, h2, h3]
        rw [e]
        have Hl := Lib.hid hl
        clear e hl
        go_enter Tryd.func22, Tryd.ntmps22
        go_wp2_with (first | (go_at_call 57; ((with_reducible refine (Hc.out _).mono ?_); rintro e w' ⟨rfl, rfl⟩)) | (go_at_call 60; ((with_reducible refine (spec_l2Find name hnm a n c l Hl.out _ (by first | (with_reducible assumption) | exact RowAt.rd (by repeat' (first | (with_reducible assumption) | (with_reducible refine RowAt.alloc ?_ _) | (with_reducible refine RowAt.drew ?_) | (with_reducible refine RowAt.other ?_ _ _ (by first | omega | (simp; done) | (simp; omega))) | refine RowAt.then ?_ (by with_reducible assumption))) | exact Rd.below (by with_reducible assumption) (by first | (with_reducible exact Below.refl _ _) | ((repeat' (first | (with_reducible exact Below.refl _ _) | (with_reducible assumption) | (with_reducible refine below_alloc ?_ _) | (with_reducible refine Below.drew ?_) | (with_reducible refine below_drewN ?_ _) | (with_reducible refine Below.setCell ?_ ?_ _) | refine below_then ?_ (by with_reducible assumption))) <;> (first | omega | (simp; done) | (simp; omega))))) hn Hs.out).mono ?_); rintro e w' ⟨rfl, hb⟩; obtain ⟨hc, hf⟩ := bcell hb; have hz := hb.size; (try simp only [World.size_alloc, World.size_setCell, World.size_drew] at hz); obtain ⟨hlt, hle, hn1, hn2, hn3, hn4⟩ := bsize hb; (try simp only [World.size_alloc, World.size_setCell, World.size_drew] at hlt hle hn1 hn2 hn3 hn4); (try have hr0 : w.heap.size < w'.heap.size := by omega); (try have hr1 : w.heap.size + 1 < w'.heap.size := by omega); (try have hs0 : wS.heap.size < w'.heap.size := by omega); (try have hs1 : wG.heap.size < w'.heap.size := by omega))))
        all_goals exact bodyPost_ret (by first | ((simp [results, Tryd.results22, go_sem]; try rfl); done) | ((simp [results, Tryd.results22, go_sem, *]; try rfl); done) | ((simp (maxDischargeDepth := 8) [results, Tryd.results22, go_sem, *]; try rfl); done)) rfl ⟨rfl, by first | (with_reducible rfl) | exact (by first | (with_reducible exact Below.refl _ _) | ((repeat' (first | (with_reducible exact Below.refl _ _) | (with_reducible assumption) | (with_reducible refine below_alloc ?_ _) | (with_reducible refine Below.drew ?_) | (with_reducible refine below_drewN ?_ _) | (with_reducible refine Below.setCell ?_ ?_ _) | refine below_then ?_ (by with_reducible assumption))) <;> (first | omega | (simp; done) | (simp; omega))))⟩
set_option maxHeartbeats 1600000 in
theorem impl_FindItem (name : ByteArray) (hnm : name.size ≤ 9223372036854775807) (a : Option Addr) (n c : Nat) (l : List It) (hl : l.length = n) (w : World) (hr : Rd w a (iV l)) (hn : n ≤ 9223372036854775807) (hs : ∀ h ∈ l, h.1.size ≤ 9223372036854775807 ∧ h.2.2.size ≤ 9223372036854775807) :
    Calls Tryd.prog 19 #[.slice a n c, .string name] w fun e w' => e = .returned (.agg #[.int .i64 (findR l name).1, .int .i64 (findR l name).2]) ∧ Below w.heap.size w w' := by
  have Hs := Lib.hid hs
  clear hs
  by_cases h1 : 20 < n
  · have e : findR l name = (2, 0) := by simp [findR, hl, h1]
    rw [e]
    clear e hl
    go_enter Tryd.func19, Tryd.ntmps19
    go_wp2
    all_goals exact bodyPost_ret (by first | ((simp [results, Tryd.results19, go_sem]; try rfl); done) | ((simp [results, Tryd.results19, go_sem, *]; try rfl); done) | ((simp (maxDischargeDepth := 8) [results, Tryd.results19, go_sem, *]; try rfl); done)) rfl ⟨rfl, by first | (with_reducible rfl) | exact (by first | (with_reducible exact Below.refl _ _) | ((repeat' (first | (with_reducible exact Below.refl _ _) | (with_reducible assumption) | (with_reducible refine below_alloc ?_ _) | (with_reducible refine Below.drew ?_) | (with_reducible refine below_drewN ?_ _) | (with_reducible refine Below.setCell ?_ ?_ _) | refine below_then ?_ (by with_reducible assumption))) <;> (first | omega | (simp; done) | (simp; omega))))⟩
  · have hc := fun W => impl_IsWord name W hnm
    by_cases h2 : wordS name = false
    · have e : findR l name = (5, 0) := by simp [findR, hl, h1, h2]
      rw [e]
      rw [h2] at hc
      have Hc := Lib.hid hc
      clear e hl hc
      go_enter Tryd.func19, Tryd.ntmps19
      go_wp2_with (go_at_call 48; ((with_reducible refine (Hc.out _).mono ?_); rintro e w' ⟨rfl, rfl⟩))
      all_goals exact bodyPost_ret (by first | ((simp [results, Tryd.results19, go_sem]; try rfl); done) | ((simp [results, Tryd.results19, go_sem, *]; try rfl); done) | ((simp (maxDischargeDepth := 8) [results, Tryd.results19, go_sem, *]; try rfl); done)) rfl ⟨rfl, by first | (with_reducible rfl) | exact (by first | (with_reducible exact Below.refl _ _) | ((repeat' (first | (with_reducible exact Below.refl _ _) | (with_reducible assumption) | (with_reducible refine below_alloc ?_ _) | (with_reducible refine Below.drew ?_) | (with_reducible refine below_drewN ?_ _) | (with_reducible refine Below.setCell ?_ ?_ _) | refine below_then ?_ (by with_reducible assumption))) <;> (first | omega | (simp; done) | (simp; omega))))⟩
    · simp only [Bool.not_eq_false] at h2
      rw [h2] at hc
      have Hc := Lib.hid hc
      clear hc
      have hlo : -1 ≤ idxI (alikeI name) l ∧ idxI (alikeI name) l < 9223372036854775807 := by
        have := idxI_range (alikeI name) l
        omega
      obtain ⟨hlo, hhi⟩ := hlo
      by_cases h3 : idxI (alikeI name) l < 0
      · have e : findR l name = (4, 0) := by simp [findR, hl, h1, h2, h3]
        rw [e]
        have Hl := Lib.hid hl
        clear e hl
        go_enter Tryd.func19, Tryd.ntmps19
        go_wp2_with (first | (go_at_call 48; ((with_reducible refine (Hc.out _).mono ?_); rintro e w' ⟨rfl, rfl⟩)) | (go_at_call 55; ((with_reducible refine (impl_findItem name hnm a n c l Hl.out _ (by first | (with_reducible assumption) | exact RowAt.rd (by repeat' (first | (with_reducible assumption) | (with_reducible refine RowAt.alloc ?_ _) | (with_reducible refine RowAt.drew ?_) | (with_reducible refine RowAt.other ?_ _ _ (by first | omega | (simp; done) | (simp; omega))) | refine RowAt.then ?_ (by with_reducible assumption))) | exact Rd.below (by with_reducible assumption) (by first | (with_reducible exact Below.refl _ _) | ((repeat' (first | (with_reducible exact Below.refl _ _) | (with_reducible assumption) | (with_reducible refine below_alloc ?_ _) | (with_reducible refine Below.drew ?_) | (with_reducible refine below_drewN ?_ _) | (with_reducible refine Below.setCell ?_ ?_ _) | refine below_then ?_ (by with_reducible assumption))) <;> (first | omega | (simp; done) | (simp; omega))))) hn Hs.out).mono ?_); rintro e w' ⟨rfl, hb⟩; obtain ⟨hc, hf⟩ := bcell hb; have hz := hb.size; (try simp only [World.size_alloc, World.size_setCell, World.size_drew] at hz); obtain ⟨hlt, hle, hn1, hn2, hn3, hn4⟩ := bsize hb; (try simp only [World.size_alloc, World.size_setCell, World.size_drew] at hlt hle hn1 hn2 hn3 hn4); (try have hr0 : w.heap.size < w'.heap.size := by omega); (try have hr1 : w.heap.size + 1 < w'.heap.size := by omega); (try have hs0 : wS.heap.size < w'.heap.size := by omega); (try have hs1 : wG.heap.size < w'.heap.size := by omega))))
        all_goals exact bodyPost_ret (by first | ((simp [results, Tryd.results19, go_sem]; try rfl); done) | ((simp [results, Tryd.results19, go_sem, *]; try rfl); done) | ((simp (maxDischargeDepth := 8) [results, Tryd.results19, go_sem, *]; try rfl); done)) rfl ⟨rfl, by first | (with_reducible rfl) | exact (by first | (with_reducible exact Below.refl _ _) | ((repeat' (first | (with_reducible exact Below.refl _ _) | (with_reducible assumption) | (with_reducible refine below_alloc ?_ _) | (with_reducible refine Below.drew ?_) | (with_reducible refine below_drewN ?_ _) | (with_reducible refine Below.setCell ?_ ?_ _) | refine below_then ?_ (by with_reducible assumption))) <;> (first | omega | (simp; done) | (simp; omega))))⟩
      · have e : findR l name = (0, idxI (alikeI name) l) := by simp [findR, hl, h1, h2, h3]
        rw [e]
        have Hl := Lib.hid hl
        clear e hl
        go_enter Tryd.func19, Tryd.ntmps19
        go_wp2_with (first | (go_at_call 48; ((with_reducible refine (Hc.out _).mono ?_); rintro e w' ⟨rfl, rfl⟩)) | (go_at_call 55; ((with_reducible refine (impl_findItem name hnm a n c l Hl.out _ (by first | (with_reducible assumption) | exact RowAt.rd (by repeat' (first | (with_reducible assumption) | (with_reducible refine RowAt.alloc ?_ _) | (with_reducible refine RowAt.drew ?_) | (with_reducible refine RowAt.other ?_ _ _ (by first | omega | (simp; done) | (simp; omega))) | refine RowAt.then ?_ (by with_reducible assumption))) | exact Rd.below (by with_reducible assumption) (by first | (with_reducible exact Below.refl _ _) | ((repeat' (first | (with_reducible exact Below.refl _ _) | (with_reducible assumption) | (with_reducible refine below_alloc ?_ _) | (with_reducible refine Below.drew ?_) | (with_reducible refine below_drewN ?_ _) | (with_reducible refine Below.setCell ?_ ?_ _) | refine below_then ?_ (by with_reducible assumption))) <;> (first | omega | (simp; done) | (simp; omega))))) hn Hs.out).mono ?_); rintro e w' ⟨rfl, hb⟩; obtain ⟨hc, hf⟩ := bcell hb; have hz := hb.size; (try simp only [World.size_alloc, World.size_setCell, World.size_drew] at hz); obtain ⟨hlt, hle, hn1, hn2, hn3, hn4⟩ := bsize hb; (try simp only [World.size_alloc, World.size_setCell, World.size_drew] at hlt hle hn1 hn2 hn3 hn4); (try have hr0 : w.heap.size < w'.heap.size := by omega); (try have hr1 : w.heap.size + 1 < w'.heap.size := by omega); (try have hs0 : wS.heap.size < w'.heap.size := by omega); (try have hs1 : wG.heap.size < w'.heap.size := by omega))))
        all_goals exact bodyPost_ret (by first | ((simp [results, Tryd.results19, go_sem]; try rfl); done) | ((simp [results, Tryd.results19, go_sem, *]; try rfl); done) | ((simp (maxDischargeDepth := 8) [results, Tryd.results19, go_sem, *]; try rfl); done)) rfl ⟨rfl, by first | (with_reducible rfl) | exact (by first | (with_reducible exact Below.refl _ _) | ((repeat' (first | (with_reducible exact Below.refl _ _) | (with_reducible assumption) | (with_reducible refine below_alloc ?_ _) | (with_reducible refine Below.drew ?_) | (with_reducible refine below_drewN ?_ _) | (with_reducible refine Below.setCell ?_ ?_ _) | refine below_then ?_ (by with_reducible assumption))) <;> (first | omega | (simp; done) | (simp; omega))))⟩
end Go.Proofs.YthiogijicknoiaaDoor
