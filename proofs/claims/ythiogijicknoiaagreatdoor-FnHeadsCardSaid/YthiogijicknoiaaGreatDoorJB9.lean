/- Joined: InsP. -/
import Derived.Test.YthiogijicknoiaaGreatDoorJB7
/- Plain words: a head line set among others. No program in sight. -/
namespace Go.Proofs.YthiogijicknoiaaGreatDoor
open Go.RowKit

/-- One line of the name, at the place of the first; the others of it left out. -/
def putG {α : Type} (p : α → Bool) (x : α) : List α → List α
  | [] => []
  | h :: t => if p h = true then x :: t.filter (fun h => !p h) else h :: putG p x t
theorem putG_none {α : Type} {p : α → Bool} {x : α} : ∀ {l : List α}, l.any p = false → putG p x l = l
  | [], _ => rfl
  | h :: t, hn => by
    simp only [List.any_cons, Bool.or_eq_false_iff] at hn
    rw [putG, if_neg (by rw [hn.1]; simp), putG_none hn.2]
theorem putG_no {α : Type} {p : α → Bool} {x y : α} (hy : p y = false) : ∀ (l : List α), putG p x (l ++ [y]) = putG p x l ++ [y]
  | [] => by simp [putG, hy]
  | h :: t => by
    by_cases hh : p h = true
    · simp [putG, hh, hy]
    · rw [List.cons_append, putG, putG, if_neg hh, if_neg hh, putG_no hy t, List.cons_append]
theorem putG_first {α : Type} {p : α → Bool} {x y : α} (hy : p y = true) : ∀ (l : List α), l.any p = false → putG p x (l ++ [y]) = putG p x l ++ [x]
  | [], _ => by simp [putG, hy]
  | h :: t, hn => by
    simp only [List.any_cons, Bool.or_eq_false_iff] at hn
    rw [List.cons_append, putG, putG, if_neg (by rw [hn.1]; simp), if_neg (by rw [hn.1]; simp), putG_first hy t hn.2, List.cons_append]
theorem putG_more {α : Type} {p : α → Bool} {x y : α} (hy : p y = true) : ∀ (l : List α), l.any p = true → putG p x (l ++ [y]) = putG p x l
  | [], hn => by simp at hn
  | h :: t, hn => by
    by_cases hh : p h = true
    · simp [putG, hh, hy]
    · simp only [List.any_cons, hh, Bool.false_or] at hn
      rw [List.cons_append, putG, putG, if_neg hh, if_neg hh, putG_more hy t hn]
theorem putG_at {α : Type} {p : α → Bool} {x : α} : ∀ {l : List α} {i : Nat}, l.findIdx? p = some i → i ≤ (l.filter fun h => !p h).length ∧ putG p x l = (l.filter fun h => !p h).take i ++ x :: (l.filter fun h => !p h).drop i
  | [], i, h => by simp at h
  | h :: t, i, hi => by
    rw [List.findIdx?_cons] at hi
    by_cases hh : p h = true
    · rw [if_pos hh] at hi
      obtain rfl := Option.some.inj hi
      refine ⟨Nat.zero_le _, ?_⟩
      simp [putG, hh]
    · rw [if_neg hh] at hi
      cases ht : t.findIdx? p with
      | none => rw [ht] at hi; cases hi
      | some j =>
        rw [ht] at hi
        obtain rfl := Option.some.inj hi
        obtain ⟨h1, h2⟩ := putG_at (x := x) ht
        have e : (h :: t).filter (fun h => !p h) = h :: t.filter (fun h => !p h) := by simp [hh]
        rw [e]
        refine ⟨by simpa using h1, ?_⟩
        rw [putG, if_neg hh, h2]
        simp
def setL (nm vl : ByteArray) (l : List Hd) : List Hd := if l.any (fun h => alikeB h.1 nm) = true then putG (fun h => alikeB h.1 nm) (nm, vl) l else l ++ [(nm, vl)]
/-- As the reader of one line after the other has it. -/
def setGo (nm vl : ByteArray) (l : List Hd) : List Hd := putG (fun h => alikeB h.1 nm) (nm, vl) l
def setAny (nm : ByteArray) (l : List Hd) : Bool := l.any fun h => alikeB h.1 nm
theorem any_snoc {α : Type} (p : α → Bool) (l : List α) (y : α) : (l ++ [y]).any p = (l.any p || p y) := by rw [List.any_append]; simp
theorem setAny_snoc (nm : ByteArray) (l : List Hd) (y : Hd) : setAny nm (l ++ [y]) = (setAny nm l || alikeB y.1 nm) := any_snoc _ l y
theorem setGo_no (nm vl : ByteArray) (l : List Hd) (k : Nat) (h : k < l.length) (ha : alikeB l[k].1 nm = false) : setGo nm vl (l.take (k + 1)) = setGo nm vl (l.take k) ++ [l[k]] ∧ setAny nm (l.take (k + 1)) = setAny nm (l.take k) := by
  rw [List.take_succ_eq_append_getElem h]
  exact ⟨putG_no (p := fun h : Hd => alikeB h.1 nm) ha _, by rw [setAny_snoc, ha, Bool.or_false]⟩
theorem setGo_first (nm vl : ByteArray) (l : List Hd) (k : Nat) (h : k < l.length) (ha : alikeB l[k].1 nm = true) (hn : setAny nm (l.take k) = false) : setGo nm vl (l.take (k + 1)) = setGo nm vl (l.take k) ++ [(nm, vl)] ∧ setAny nm (l.take (k + 1)) = true := by
  rw [List.take_succ_eq_append_getElem h]
  exact ⟨putG_first (p := fun h : Hd => alikeB h.1 nm) ha _ hn, by rw [setAny_snoc, ha, Bool.or_true]⟩
theorem setGo_more (nm vl : ByteArray) (l : List Hd) (k : Nat) (h : k < l.length) (ha : alikeB l[k].1 nm = true) (hn : setAny nm (l.take k) = true) : setGo nm vl (l.take (k + 1)) = setGo nm vl (l.take k) ∧ setAny nm (l.take (k + 1)) = true := by
  rw [List.take_succ_eq_append_getElem h]
  exact ⟨putG_more (p := fun h : Hd => alikeB h.1 nm) ha _ hn, by rw [setAny_snoc, ha, Bool.or_true]⟩
theorem setL_yes {nm vl : ByteArray} {l : List Hd} (h : setAny nm l = true) : setL nm vl l = setGo nm vl l := if_pos h
theorem setL_no {nm vl : ByteArray} {l : List Hd} (h : setAny nm l = false) : setL nm vl l = setGo nm vl l ++ [(nm, vl)] := by
  have e : setGo nm vl l = l := putG_none h
  have hn : ¬ l.any (fun h => alikeB h.1 nm) = true := by
    intro q
    have h' : l.any (fun h => alikeB h.1 nm) = false := h
    rw [h'] at q; cases q
  rw [e, setL, if_neg hn]
theorem setGo_len (nm vl : ByteArray) (l : List Hd) : (setGo nm vl l).length ≤ l.length := by
  unfold setGo
  induction l with
  | nil => exact Nat.le_refl _
  | cons h t ih =>
    unfold putG
    split
    · simp only [List.length_cons]
      have := List.length_filter_le (fun h : Hd => !alikeB h.1 nm) t
      omega
    · simp only [List.length_cons]; omega
theorem setGo_take_len (nm vl : ByteArray) (l : List Hd) (k : Nat) : (setGo nm vl (l.take k)).length ≤ k := by
  have h1 := setGo_len nm vl (l.take k)
  have h2 := List.length_take_le k l
  omega
theorem setL_len (nm vl : ByteArray) (l : List Hd) : (setL nm vl l).length ≤ l.length + 1 := by
  by_cases h : setAny nm l = true
  · rw [setL_yes h]; have := setGo_len nm vl l; omega
  · simp only [Bool.not_eq_true] at h
    rw [setL_no h, List.length_append]
    have := setGo_len nm vl l
    simp only [List.length_cons, List.length_nil]; omega
/-- As the program has it: the place of the first, the others left out, and the line put in. -/
theorem setL_ins {nm vl : ByteArray} {l : List Hd} {i : Nat} (h : idxI (fun h => alikeB h.1 nm) l = (i : Int)) : i ≤ (dropL nm l).length ∧ setL nm vl l = (dropL nm l).take i ++ (nm, vl) :: (dropL nm l).drop i := by
  unfold idxI at h
  cases hf : l.findIdx? (fun h => alikeB h.1 nm) with
  | none => rw [hf] at h; simp only at h; omega
  | some j =>
    rw [hf] at h
    obtain rfl : j = i := by simp only at h; omega
    have ha : setAny nm l = true := by
      obtain ⟨h1, h2, _⟩ := List.findIdx?_eq_some_iff_getElem.1 hf
      exact List.any_eq_true.2 ⟨_, List.getElem_mem h1, h2⟩
    rw [setL_yes ha]
    exact putG_at (x := (nm, vl)) hf
theorem setL_end {nm vl : ByteArray} {l : List Hd} (h : idxI (fun h => alikeB h.1 nm) l < 0) : setL nm vl l = dropL nm l ++ [(nm, vl)] := by
  unfold idxI at h
  cases hf : l.findIdx? (fun h => alikeB h.1 nm) with
  | some j => rw [hf] at h; simp only at h; omega
  | none =>
    have hn := List.findIdx?_eq_none_iff.1 hf
    have ha : setAny nm l = false := by
      unfold setAny
      rw [Bool.eq_false_iff]
      intro q
      obtain ⟨x, hx, hp⟩ := List.any_eq_true.1 q
      rw [hn x hx] at hp; cases hp
    rw [setL_no ha]
    have e : setGo nm vl l = l := putG_none ha
    have e2 : dropL nm l = l := List.filter_eq_self.2 fun x hx => by simp [hn x hx]
    rw [e, e2]
def setR (nm vl : ByteArray) (l : List Hd) : Int × List Hd :=
  if askF nm l = 0 then (if hdFault (nm, vl) = 0 then (if 20 < (setL nm vl l).length then (2, []) else (0, setL nm vl l)) else (hdFault (nm, vl), [])) else (askF nm l, [])
theorem setR_20 (nm vl : ByteArray) (l : List Hd) : (setR nm vl l).2.length ≤ 20 := by
  unfold setR
  split
  · split
    · split
      · exact Nat.zero_le _
      · simp only; omega
    · exact Nat.zero_le _
  · exact Nat.zero_le _
theorem hV_ins (l m : List Hd) (x : Hd) : hV (l ++ x :: m) = hV l ++ ([.string x.1, .string x.2] ++ hV m) := by simp [hV, cellsOf, hEnc]
theorem hV_app (l m : List Hd) : hV (l ++ m) = hV l ++ hV m := by simp [hV, cellsOf]
theorem hV_take (l : List Hd) (i : Nat) : hV (l.take i) = (hV l).take (i * 2) := by
  induction l generalizing i with
  | nil => simp [hV, cellsOf]
  | cons h t ih =>
    cases i with
    | zero => simp [hV, cellsOf]
    | succ i =>
      have e : hV (h :: t) = .string h.1 :: .string h.2 :: hV t := rfl
      have e2 : hV ((h :: t).take (i + 1)) = .string h.1 :: .string h.2 :: hV (t.take i) := rfl
      rw [e2, e, ih, show (i + 1) * 2 = i * 2 + 1 + 1 from by omega, List.take_succ_cons, List.take_succ_cons]
theorem hV_drop (l : List Hd) (i : Nat) : hV (l.drop i) = (hV l).drop (i * 2) := by
  induction l generalizing i with
  | nil => simp [hV, cellsOf]
  | cons h t ih =>
    cases i with
    | zero => simp [hV, cellsOf]
    | succ i =>
      have e : hV (h :: t) = .string h.1 :: .string h.2 :: hV t := rfl
      rw [List.drop_succ_cons, ih, e, show (i + 1) * 2 = i * 2 + 1 + 1 from by omega, List.drop_succ_cons, List.drop_succ_cons]
end Go.Proofs.YthiogijicknoiaaGreatDoor
