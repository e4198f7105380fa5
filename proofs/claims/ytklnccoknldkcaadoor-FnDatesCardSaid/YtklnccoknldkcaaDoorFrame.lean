/- Slices of a call's own, and calls that write within bounds: which blocks may have changed. -/
import Derived.Test.YtklnccoknldkcaaDoorSlice
import Derived.Test.YtklnccoknldkcaaDoorBytes
namespace Go.Proofs.YtklnccoknldkcaaDoor
open Go.RowKit
set_option linter.unusedVariables false

/-- What lay in w lies, but for the blocks from lo up to hi. -/
structure Chg (w w' : World) (lo hi : Nat) : Prop where
  os : w'.os = w.os
  tape : w'.tape = w.tape
  output : w'.output = w.output
  size : w.heap.size ≤ w'.heap.size
  block : ∀ b, b < w.heap.size → (b < lo ∨ hi ≤ b) → w'.heap[b]? = w.heap[b]?
theorem Chg.refl (w : World) (lo hi : Nat) : Chg w w lo hi := ⟨rfl, rfl, rfl, Nat.le_refl _, fun _ _ _ => rfl⟩
theorem Chg.of_below {w w' : World} (h : Below w.heap.size w w') (lo hi : Nat) : Chg w w' lo hi := ⟨h.os, h.tape, h.output, h.size, fun b hb _ => h.block b hb⟩
theorem Chg.trans {a w w' : World} {lo hi : Nat} (h : Chg a w lo hi) (h' : Chg w w' lo hi) : Chg a w' lo hi :=
  ⟨h'.os.trans h.os, h'.tape.trans h.tape, h'.output.trans h.output, Nat.le_trans h.size h'.size, fun b hb hne => (h'.block b (Nat.lt_of_lt_of_le hb h.size) hne).trans (h.block b hb hne)⟩
theorem Chg.then {a w w' : World} {lo hi : Nat} (h : Chg a w lo hi) (hb : Below w.heap.size w w') : Chg a w' lo hi := h.trans (.of_below hb lo hi)
theorem Chg.mono {w w' : World} {lo hi lo' hi' : Nat} (h : Chg w w' lo hi) (h1 : lo' ≤ lo) (h2 : hi ≤ hi') : Chg w w' lo' hi' :=
  ⟨h.os, h.tape, h.output, h.size, fun b hb hne => h.block b hb (by omega)⟩
theorem Chg.set {a w : World} {lo hi : Nat} (h : Chg a w lo hi) (g k : Nat) (v : Value) (h1 : lo ≤ g) (h2 : g < hi) : Chg a (w.setCell ⟨g, k, none⟩ v) lo hi :=
  ⟨h.os, h.tape, h.output, Nat.le_trans h.size (by simp [World.setCell]), fun b hb hne => (Below.heap_setCell w _ v b (by show b ≠ g; omega)).trans (h.block b hb hne)⟩
theorem Chg.drew {a w : World} {lo hi : Nat} (h : Chg a w lo hi) : Chg a w.drew lo hi := ⟨h.os, h.tape, h.output, h.size, h.block⟩
theorem Chg.drewN {a w : World} {lo hi : Nat} (h : Chg a w lo hi) (n : Nat) : Chg a (w.drewN n) lo hi := ⟨h.os, h.tape, h.output, h.size, h.block⟩
theorem Chg.alloc {a w : World} {lo hi : Nat} (h : Chg a w lo hi) (o : Obj) : Chg a (w.alloc o) lo hi := h.then (below_alloc (Below.refl _ _) o)
/-- A call that writes only into what lies above a is above a. -/
theorem Chg.below {a w w' : World} {lo hi : Nat} (h : Chg w w' lo hi) (hb : Below a.heap.size a w) (hlo : a.heap.size ≤ lo) : Below a.heap.size a w' :=
  ⟨h.os.trans hb.os, h.tape.trans hb.tape, h.output.trans hb.output, Nat.le_trans hb.size h.size, fun b hlt => (h.block b (Nat.lt_of_lt_of_le hlt hb.size) (.inl (Nat.lt_of_lt_of_le hlt hlo))).trans (hb.block b hlt)⟩
theorem Chg.cell {w w' : World} {lo hi : Nat} (h : Chg w w' lo hi) {b o : Nat} {v : Value} (hc : w.cell? ⟨b, o, none⟩ = some v) (hne : b < lo ∨ hi ≤ b) : w'.cell? ⟨b, o, none⟩ = some v :=
  (World.cell?_of_block (w := w) (a := ⟨b, o, none⟩) (h.block b (World.block_lt_of_cell? w _ hc) hne)).trans hc
theorem Chg.blk {w w' : World} {lo hi : Nat} (h : Chg w w' lo hi) {b : Nat} {o : Obj} (hc : w.heap[b]? = some o) (hne : b < lo ∨ hi ≤ b) : w'.heap[b]? = some o :=
  (h.block b (Array.getElem?_eq_some_iff.1 hc).1 hne).trans hc
/-- What such a call leaves: laid into the walk. -/
theorem ccell {W w1 : World} {lo hi : Nat} (h : Chg W w1 lo hi) (hl : hi ≤ W.heap.size) : (∀ b o, b < lo → w1.cell? ⟨b, o, none⟩ = W.cell? ⟨b, o, none⟩) ∧ (∀ b o, b < lo → w1.frozen? ⟨b, o, none⟩ = W.frozen? ⟨b, o, none⟩) ∨ W.heap.size < lo := by
  by_cases hlo : lo ≤ W.heap.size
  · exact .inl ⟨fun b o hb => World.cell?_of_block (w := W) (a := ⟨b, o, none⟩) (h.block b (by omega) (.inl hb)), fun b o hb => World.frozen?_of_block (w := W) (a := ⟨b, o, none⟩) (h.block b (by omega) (.inl hb))⟩
  · exact .inr (by omega)

/-- A slice of n elements whose cells are xs, in a block between lo and hi (or of no element). -/
def SlAt (w : World) (lo hi : Nat) (a : Option Addr) (n : Nat) (xs : List Value) : Prop := (n = 0 ∧ xs = []) ∨ ∃ g, a = some ⟨g, 0, none⟩ ∧ lo ≤ g ∧ g < hi ∧ RowAt w g xs
theorem SlAt.nil (w : World) (lo hi : Nat) (a : Option Addr) : SlAt w lo hi a 0 [] := .inl ⟨rfl, rfl⟩
theorem SlAt.rd {w : World} {lo hi n : Nat} {a : Option Addr} {xs : List Value} (h : SlAt w lo hi a n xs) : Rd w a xs := by
  rcases h with ⟨_, rfl⟩ | ⟨g, rfl, _, _, hr⟩
  · exact Rd.nil w a
  · exact hr.rd
theorem SlAt.then {w w' : World} {lo hi n : Nat} {a : Option Addr} {xs : List Value} (h : SlAt w lo hi a n xs) (hb : Below w.heap.size w w') : SlAt w' lo hi a n xs := by
  rcases h with h | ⟨g, rfl, h1, h2, hr⟩
  · exact .inl h
  · exact .inr ⟨g, rfl, h1, h2, hr.then hb⟩
theorem SlAt.drew {w : World} {lo hi n : Nat} {a : Option Addr} {xs : List Value} (h : SlAt w lo hi a n xs) : SlAt w.drew lo hi a n xs := h
theorem SlAt.alloc {w : World} {lo hi n : Nat} {a : Option Addr} {xs : List Value} (h : SlAt w lo hi a n xs) (o : Obj) : SlAt (w.alloc o) lo hi a n xs := h.then (below_alloc (Below.refl _ _) o)
theorem SlAt.other {w : World} {lo hi n : Nat} {a : Option Addr} {xs : List Value} (h : SlAt w lo hi a n xs) (p : Addr) (v : Value) (hp : p.block < lo ∨ hi ≤ p.block) : SlAt (w.setCell p v) lo hi a n xs := by
  rcases h with h | ⟨g, rfl, h1, h2, hr⟩
  · exact .inl h
  · exact .inr ⟨g, rfl, h1, h2, hr.other p v (by omega)⟩
theorem SlAt.chg {w w' : World} {lo hi lo' hi' n : Nat} {a : Option Addr} {xs : List Value} (h : SlAt w lo hi a n xs) (hc : Chg w w' lo' hi') (hd : hi ≤ lo' ∨ hi' ≤ lo) : SlAt w' lo hi a n xs := by
  rcases h with h | ⟨g, rfl, h1, h2, hr⟩
  · exact .inl h
  · exact .inr ⟨g, rfl, h1, h2, hr.block (hc.block g hr.lt (by omega))⟩
theorem SlAt.mono {w : World} {lo hi lo' hi' n : Nat} {a : Option Addr} {xs : List Value} (h : SlAt w lo hi a n xs) (h1 : lo' ≤ lo) (h2 : hi ≤ hi') : SlAt w lo' hi' a n xs := by
  rcases h with h | ⟨g, rfl, h3, h4, hr⟩
  · exact .inl h
  · exact .inr ⟨g, rfl, by omega, by omega, hr⟩
theorem RowAt.sl {w : World} {g : Nat} {xs : List Value} (h : RowAt w g xs) (n : Nat) {lo hi : Nat} (h1 : lo ≤ g) (h2 : g < hi) : SlAt w lo hi (some ⟨g, 0, none⟩) n xs := .inr ⟨g, rfl, h1, h2, h⟩
theorem cells2 {w : World} {g : Nat} {x y : Value} {t : TypeId} {f : Nat × Nat} (h : w.heap[g]? = some (.cells #[x, y] t f)) : w.cell? ⟨g, 0, none⟩ = some x ∧ w.cell? ⟨g, 1, none⟩ = some y := by simp [World.cell?, h]
theorem cells3 {w : World} {g : Nat} {x y z : Value} {t : TypeId} {f : Nat × Nat} (h : w.heap[g]? = some (.cells #[x, y, z] t f)) : w.cell? ⟨g, 0, none⟩ = some x ∧ w.cell? ⟨g, 1, none⟩ = some y ∧ w.cell? ⟨g, 2, none⟩ = some z := by simp [World.cell?, h]
theorem cells4 {w : World} {g : Nat} {x y z u : Value} {t : TypeId} {f : Nat × Nat} (h : w.heap[g]? = some (.cells #[x, y, z, u] t f)) : w.cell? ⟨g, 0, none⟩ = some x ∧ w.cell? ⟨g, 1, none⟩ = some y ∧ w.cell? ⟨g, 2, none⟩ = some z ∧ w.cell? ⟨g, 3, none⟩ = some u := by simp [World.cell?, h]
theorem cells5 {w : World} {g : Nat} {x y z u v : Value} {t : TypeId} {f : Nat × Nat} (h : w.heap[g]? = some (.cells #[x, y, z, u, v] t f)) : w.cell? ⟨g, 0, none⟩ = some x ∧ w.cell? ⟨g, 1, none⟩ = some y ∧ w.cell? ⟨g, 2, none⟩ = some z ∧ w.cell? ⟨g, 3, none⟩ = some u ∧ w.cell? ⟨g, 4, none⟩ = some v := by simp [World.cell?, h]
theorem pre_of {W W' : World} {lo hi : Nat} (_ : Chg W W' lo hi) (V : World) (h : Below V.heap.size V W) : Below V.heap.size V W := h
theorem mark_cell {V W W' : World} {lo hi : Nat} (hb : Below V.heap.size V W) (hc : Chg W W' lo hi) {b o : Nat} {v : Value} (h : V.cell? ⟨b, o, none⟩ = some v) (hne : b < lo ∨ hi ≤ b) : W'.cell? ⟨b, o, none⟩ = some v :=
  hc.cell ((hb.cell (p := ⟨b, o, none⟩) (World.block_lt_of_cell? V _ h)).trans h) hne
theorem mark_sl {V W W' : World} {lo hi lo' hi' n : Nat} {a : Option Addr} {xs : List Value} (hb : Below V.heap.size V W) (hc : Chg W W' lo hi) (h : SlAt V lo' hi' a n xs) (hd : hi' ≤ lo ∨ hi ≤ lo') : SlAt W' lo' hi' a n xs :=
  (h.then hb).chg hc hd
theorem mark_row {V W W' : World} {lo hi g : Nat} {xs : List Value} (hb : Below V.heap.size V W) (hc : Chg W W' lo hi) (h : RowAt V g xs) (hd : g < lo ∨ hi ≤ g) : RowAt W' g xs :=
  (h.then hb).block (hc.block g (h.then hb).lt hd)
theorem mark_below {U V W W' : World} {lo hi : Nat} (h0 : Below U.heap.size U V) (hb : Below V.heap.size V W) (hc : Chg W W' lo hi) (hlo : U.heap.size ≤ lo) : Below U.heap.size U W' :=
  hc.below (below_then h0 hb) hlo
theorem chg_rd {w w' : World} {lo hi : Nat} {a : Option Addr} {xs : List Value} (h : Rd w a xs) (hb : ∀ b, (∃ off, a = some ⟨b, off, none⟩) → b < lo ∨ hi ≤ b) (hc : Chg w w' lo hi) : Rd w' a xs := by
  intro j v hv
  obtain ⟨b, off, ha, hlt, hcell⟩ := h j v hv
  exact ⟨b, off, ha, Nat.lt_of_lt_of_le hlt hc.size, hc.cell hcell (hb b ⟨off, ha⟩)⟩
end Go.Proofs.YtklnccoknldkcaaDoor
