/- Slices that are read, rows that are filled: lists of elements as rows of cells. -/
import Derived.Test.YtklnccoknldkcaaDoorMem
import Derived.StillTailTactics
namespace Go.Proofs.YtklnccoknldkcaaDoor
open Go.RowKit

/-- The cells xs can be read from the address on. -/
def Rd (w : World) (a : Option Addr) (xs : List Value) : Prop :=
  ∀ j v, xs[j]? = some v → ∃ b off, a = some ⟨b, off, none⟩ ∧ b < w.heap.size ∧ w.cell? ⟨b, off + j, none⟩ = some v
theorem Rd.below {w w' : World} {a : Option Addr} {xs : List Value} (h : Rd w a xs) (hb : Below w.heap.size w w') : Rd w' a xs := by
  intro j v hv
  obtain ⟨b, off, ha, hlt, hc⟩ := h j v hv
  exact ⟨b, off, ha, Nat.lt_of_lt_of_le hlt hb.size, (hb.cell (p := ⟨b, off + j, none⟩) hlt).trans hc⟩
theorem Rd.nil (w : World) (a : Option Addr) : Rd w a [] := by intro j v hv; simp at hv
theorem RowAt.rd {w : World} {g : Nat} {xs : List Value} (h : RowAt w g xs) : Rd w (some ⟨g, 0, none⟩) xs := fun j v hv => ⟨g, 0, rfl, h.lt, by rw [Nat.zero_add]; exact h.cell j v hv⟩
theorem Rd.alloc {w : World} {a : Option Addr} {xs : List Value} (h : Rd w a xs) (o : Obj) : Rd (w.alloc o) a xs := h.below (below_alloc (Below.refl _ _) o)
theorem Rd.drew {w : World} {a : Option Addr} {xs : List Value} (h : Rd w a xs) : Rd w.drew a xs := h
/-- A part of it. -/
theorem Rd.take {w : World} {a : Option Addr} {xs : List Value} (h : Rd w a xs) (n : Nat) : Rd w a (xs.take n) := by
  intro j v hv
  rw [List.getElem?_take] at hv
  split at hv
  · exact h j v hv
  · cases hv

/-- Elements as cells: each of k cells. -/
def cellsOf {α : Type} (enc : α → List Value) (l : List α) : List Value := l.flatMap enc
theorem cellsOf_len {α : Type} {enc : α → List Value} {k : Nat} (hk : ∀ x, (enc x).length = k) (l : List α) : (cellsOf enc l).length = l.length * k := by
  induction l with
  | nil => simp [cellsOf]
  | cons x l ih => simp only [cellsOf, List.flatMap_cons, List.length_append, List.length_cons] at ih ⊢; rw [ih, hk, Nat.succ_mul]; omega
theorem cellsOf_append {α : Type} (enc : α → List Value) (l m : List α) : cellsOf enc (l ++ m) = cellsOf enc l ++ cellsOf enc m := by simp [cellsOf]
theorem cellsOf_at {α : Type} {enc : α → List Value} {k : Nat} (hk : ∀ x, (enc x).length = k) (l : List α) (i : Nat) (hi : i < l.length) (j : Nat) (hj : j < k) :
    (cellsOf enc l)[i * k + j]? = (enc l[i])[j]? := by
  induction l generalizing i with
  | nil => simp at hi
  | cons x l ih =>
    have e : cellsOf enc (x :: l) = enc x ++ cellsOf enc l := rfl
    rw [e]
    cases i with
    | zero => rw [Nat.zero_mul, Nat.zero_add, List.getElem?_append_left (by rw [hk]; exact hj)]; rfl
    | succ i =>
      have hm : (i + 1) * k + j = k + (i * k + j) := by rw [Nat.succ_mul]; omega
      rw [hm, List.getElem?_append_right (by rw [hk]; omega), hk, show k + (i * k + j) - k = i * k + j from by omega]
      exact ih i (by simpa using hi)
theorem cellsOf_take {α : Type} {enc : α → List Value} (l : List α) (i : Nat) (hi : i < l.length) : cellsOf enc (l.take (i + 1)) = cellsOf enc (l.take i) ++ enc l[i] := by
  rw [List.take_succ_eq_append_getElem hi, cellsOf_append]; simp [cellsOf]

/-- One cell behind A is set. -/
theorem RowAt.put1 {w : World} {g p : Nat} {A D : List Value} (h : RowAt w g (A ++ D)) (hA : A.length = p) (hD : 1 ≤ D.length) (x : Value) :
    RowAt (w.setCell ⟨g, p, none⟩ x) g (A ++ [x] ++ D.drop 1) := by
  have := h.set p x
  subst hA
  match D, hD with
  | d :: D, _ =>
    rw [List.set_append_right _ _ (Nat.le_refl _), Nat.sub_self] at this
    simpa using this
theorem RowAt.put2 {w : World} {g p : Nat} {A D : List Value} (h : RowAt w g (A ++ D)) (hA : A.length = p) (hD : 2 ≤ D.length) (x y : Value) :
    RowAt ((w.setCell ⟨g, p, none⟩ x).setCell ⟨g, p + 1, none⟩ y) g (A ++ [x, y] ++ D.drop 2) := by
  have h1 := h.put1 hA (by omega) x
  have h2 := h1.put1 (p := p + 1) (by simp [hA]) (by simp; omega) y
  simpa using h2
theorem RowAt.put3 {w : World} {g p : Nat} {A D : List Value} (h : RowAt w g (A ++ D)) (hA : A.length = p) (hD : 3 ≤ D.length) (x y z : Value) :
    RowAt (((w.setCell ⟨g, p, none⟩ x).setCell ⟨g, p + 1, none⟩ y).setCell ⟨g, p + 2, none⟩ z) g (A ++ [x, y, z] ++ D.drop 3) := by
  have h1 := h.put2 hA (by omega) x y
  have h2 := h1.put1 (p := p + 2) (by simp [hA]) (by simp; omega) z
  simpa using h2
/-- 'make([]T, n)'. -/
theorem make_there (w : World) (t e : TypeId) {z : Value} {size bytes : Nat} (ht : Tryd.prog.underlying t = some (.slice e)) (hinfo : (Tryd.prog.info? e).map (fun i => (i.zero, i.size, i.bytes)) = some (some z, size, bytes))
    (n : Nat) (hb : bytes * n ≤ 281474976710656) (h63 : n ≤ maxLen) :
    ∃ W D, (Instr.makeSlice t (.int .i64 (n : Int)) (.int .i64 (n : Int))).run Tryd.prog w = .ok (.slice (some ⟨w.heap.size, 0, none⟩) n n) W ∧ D.length = n * size ∧ RowAt W w.heap.size D ∧ Below w.heap.size w W ∧ w.heap.size < W.heap.size := by
  obtain ⟨i, hi, hz0, hz1, hz2⟩ := info_parts hinfo
  obtain ⟨W, hrun, hown, hg⟩ := run_make_full (P := Tryd.prog) w w.heap.size t e i z size ht hi hz0 hz1 .i64 .i64 n (by rw [hz2]; exact hb) h63 (Nat.le_refl _)
  exact ⟨W, _, hrun, hown.1, RowAt.of_own hown, (Below.refl _ _).grown hg (Nat.le_refl _) (fun k hk => by cases hk), (RowAt.of_own hown).lt⟩
/-- What a measure tells: what is left, and that the slice was not too long. -/
def SzR (n : Nat) (left r : Int) : Prop := (-1 ≤ r ∧ r ≤ 1048576) ∧ (0 ≤ r → (n : Int) ≤ left)
theorem SzR.of {n : Nat} {left r : Int} (h1 : -1 ≤ r) (h2 : r ≤ 1048576) (h3 : 0 ≤ r → (n : Int) ≤ left) : SzR n left r := ⟨⟨h1, h2⟩, h3⟩
theorem bytes_ne {x y : ByteArray} (h : x ≠ y) : (x.toList == y.toList) = false := by
  rw [beq_eq_false_iff_ne]
  intro e
  rw [ByteArray.toList_eq, ByteArray.toList_eq] at e
  exact h (ByteArray.ext (Array.toList_inj.1 e))
/-- The place of the first element with a mark, or -1. -/
def idxI {α : Type} (p : α → Bool) (l : List α) : Int := match l.findIdx? p with | some i => (i : Int) | none => -1
theorem idxI_at {α : Type} {p : α → Bool} {l : List α} {k : Nat} (h : k < l.length) (hp : p l[k] = true) (hb : ∀ j (hj : j < k), p (l[j]'(by omega)) = false) : idxI p l = k := by
  unfold idxI
  rw [List.findIdx?_eq_some_iff_getElem.2 ⟨h, hp, fun j hj => by rw [hb j hj]; simp⟩]
theorem idxI_none {α : Type} {p : α → Bool} {l : List α} (h : ∀ j (hj : j < l.length), p l[j] = false) : idxI p l = -1 := by
  unfold idxI
  rw [List.findIdx?_eq_none_iff.2 fun x hx => by obtain ⟨j, hj, rfl⟩ := List.getElem_of_mem hx; exact h j hj]
theorem idxI_range {α : Type} (p : α → Bool) (l : List α) : -1 ≤ idxI p l ∧ idxI p l < l.length := by
  unfold idxI
  split
  · rename_i i h
    obtain ⟨h1, _⟩ := List.findIdx?_eq_some_iff_getElem.1 h
    omega
  · omega
theorem take_ne {α : Type} {l m : List α} {k : Nat} (h1 : k < l.length) (h2 : k < m.length) (h : l[k] ≠ m[k]) : l ≠ m := by
  intro e; subst e; exact h rfl
theorem take_eq_succ {α : Type} {l m : List α} {k : Nat} (h1 : k < l.length) (h2 : k < m.length) (h : l[k] = m[k]) (ht : l.take k = m.take k) : l.take (k + 1) = m.take (k + 1) := by
  rw [List.take_succ_eq_append_getElem h1, List.take_succ_eq_append_getElem h2, h, ht]
end Go.Proofs.YtklnccoknldkcaaDoor
