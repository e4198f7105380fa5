/- Joined: Open. -/
import Derived.Test.YtbiodbggaeglpaaGreatDoorJB0
import Derived.ProofKit
import Derived.OpenShut
import Derived.Lib.SmallJoins
import Derived.Deep.Slices
import Derived.Deep.Fields
import Derived.Carry
/- Arguments opened: structs by value, slices of strings and of structs, bytes. -/
namespace Go.Proofs.YtbiodbggaeglpaaGreatDoor
open Go.ChangeShapes Go.WideShapes Go.Deep Go.Joins Go.RowKit

theorem list_of {α : Type} {P : Nat → α → Prop} : ∀ n, (∀ i, i < n → ∃ x, P i x) → ∃ l : List α, l.length = n ∧ ∀ i x, l[i]? = some x → P i x := by
  intro n
  induction n with
  | zero => intro _; exact ⟨[], rfl, by simp⟩
  | succ n ih =>
    intro h
    obtain ⟨l, hl, hp⟩ := ih fun i hi => h i (by omega)
    obtain ⟨x, hx⟩ := h n (by omega)
    refine ⟨l ++ [x], by simp [hl], fun i y hy => ?_⟩
    by_cases hi : i < n
    · rw [List.getElem?_append_left (by omega)] at hy; exact hp i y hy
    · by_cases he : i = n
      · subst he; rw [List.getElem?_append_right (by omega)] at hy; simp [hl] at hy; subst hy; exact hx
      · rw [List.getElem?_append_right (by omega)] at hy
        rw [show i - l.length = (i - l.length - 1) + 1 from by omega] at hy; simp at hy

section
variable {H : Type} {enc : TypeId × Value → H} {P : Program} {w : World} {base : Nat} {spare : Nat → Bool} {held : Bool}

theorem spot_of {a : Addr} {v : Value} (h : w.cell? a = some v) : a.spot = none := by
  unfold World.cell? at h
  split at h
  · split at h
    · cases h
    · rename_i hs; simpa using hs
  · cases h
/-- A struct by value, each field of one cell. -/
theorem open_struct_val {t : TypeId} {fs : Array Field} {r : Reach} {b0 : Nat} {v : Value} {d : DataW H} {p : List MemPlace} (hs : P.underlying t = some (.struct fs)) (hone : oneCellFields P fs = true) (hC : P.cellsOf t = fs.size)
    (hv : Value.okWide P w r b0 t v) (h : DataW.Trod enc P w base spare held t v d p) :
    ∃ cs : List Value, v = .agg ⟨cs⟩ ∧ cs.length = fs.size ∧ ∀ (j : Nat) (f : Field), fs[j]? = some f → ∃ (u : Value) (y : DataW H × List MemPlace) (n : Nat), cs[j]? = some u ∧ DataW.trod enc P w base spare held n f.type [u] = some y := by
  obtain ⟨cs, rfl, hsz⟩ := okWide_struct hs hv
  obtain ⟨l⟩ := cs
  have hl : l.length = fs.size := hsz.trans hC
  obtain ⟨fuel, hf⟩ := h
  obtain ⟨xs, n, _, hx, _, hlen, hg⟩ := DataW.trod_struct hs hf
  refine ⟨l, rfl, hl, fun j f hj => ?_⟩
  obtain ⟨o0, k0⟩ := hone_of hone j f hj
  have hjl : j < fs.size := (Array.getElem?_eq_some_iff.1 hj).1
  have h1 := hg j f hj
  rw [o0, k0] at h1
  have e : ((Value.agg ⟨l⟩).cells.toList.drop j).take 1 = [l[j]'(by omega)] := by
    show (l.drop j).take 1 = _
    rw [List.drop_eq_getElem_cons (by omega)]; rfl
  rw [e] at h1
  have hxj : xs[j]? = some (xs[j]'(by omega)) := List.getElem?_eq_getElem (by omega)
  exact ⟨_, _, n, List.getElem?_eq_getElem (by omega), h1.trans hxj⟩
theorem spot0 {a : Addr} {v : Value} (h : w.cell? (a.add 0) = some v) : ∃ b off, a = ⟨b, off, none⟩ := by
  have h' : w.cell? a = some v := by simpa [Addr.add] using h
  have hs := spot_of h'
  obtain ⟨b, o, s⟩ := a
  cases hs
  exact ⟨b, o, rfl⟩
theorem add_lit (b off i : Nat) : (⟨b, off, none⟩ : Addr).add i = ⟨b, off + i, none⟩ := by
  unfold Addr.add; split <;> simp_all
/-- A slice of elements of one cell. -/
theorem open_cells1 {t e : TypeId} {fuel : Nat} {v : Value} {x : DataW H × List MemPlace} (ht : P.underlying t = some (.slice e)) (hC : P.cellsOf e = 1) (h : DataW.trod enc P w base spare held fuel t [v] = some x) :
    ∃ (a : Option Addr) (len cap : Nat), v = .slice a len cap ∧ len ≤ 9223372036854775807 ∧ (len = 0 ∨ ∃ b off, a = some ⟨b, off, none⟩ ∧ b < w.heap.size ∧
      ∀ i, i < len → ∃ (u : Value) (y : DataW H × List MemPlace) (n : Nat), w.cell? ⟨b, off + i, none⟩ = some u ∧ DataW.trod enc P w base spare held n e [u] = some y) := by
  rcases open_slice ht h with ⟨hcs, _⟩ | ⟨a, len, cap, m, n, D, Pl, hcs, hb, hl, hm, hmm, hx, hi⟩
  · cases hcs; exact ⟨none, 0, 0, rfl, by omega, .inl rfl⟩
  · cases hcs
    refine ⟨some a, len, cap, rfl, by unfold maxLen at hm; omega, ?_⟩
    have hlm : len ≤ m := by rw [hmm]; split <;> omega
    have key : ∀ i, i < len → ∃ (u : Value) (y : DataW H × List MemPlace) (n : Nat), w.cell? (a.add i) = some u ∧ DataW.trod enc P w base spare held n e [u] = some y := by
      intro i him
      obtain ⟨cs', hc, ht'⟩ := hi i (by omega)
      rw [hC] at hc
      obtain ⟨_, hcl, hat⟩ := World.cells?_some hc
      match cs', hcl with
      | [u], _ =>
        have := hat 0 (by omega)
        rw [Go.Deep.add_add, Nat.mul_one] at this
        exact ⟨u, _, n, this, ht'⟩
    by_cases h0 : len = 0
    · exact .inl h0
    · obtain ⟨u, _, _, hu, _⟩ := key 0 (by omega)
      obtain ⟨b, off, rfl⟩ := spot0 hu
      refine .inr ⟨b, off, rfl, World.block_lt_of_cell? w _ hu, fun i him => ?_⟩
      obtain ⟨u, y, n, hu, hy⟩ := key i him
      exact ⟨u, y, n, by rw [← add_lit]; exact hu, hy⟩
/-- A slice of structs, each field of one cell. -/
theorem open_cellsK {t e : TypeId} {fs : Array Field} {fuel : Nat} {v : Value} {x : DataW H × List MemPlace} (ht : P.underlying t = some (.slice e)) (he : P.underlying e = some (.struct fs))
    (hone : oneCellFields P fs = true) (hpos : 0 < fs.size) (hC : P.cellsOf e = fs.size) (h : DataW.trod enc P w base spare held fuel t [v] = some x) :
    ∃ (a : Option Addr) (len cap : Nat), v = .slice a len cap ∧ len ≤ 9223372036854775807 ∧ (len = 0 ∨ ∃ b off, a = some ⟨b, off, none⟩ ∧ b < w.heap.size ∧
      ∀ i, i < len → ∀ (j : Nat) (f : Field), fs[j]? = some f → ∃ (u : Value) (y : DataW H × List MemPlace) (n : Nat), w.cell? ⟨b, off + (i * fs.size + j), none⟩ = some u ∧ DataW.trod enc P w base spare held n f.type [u] = some y) := by
  rcases open_slice ht h with ⟨hcs, _⟩ | ⟨a, len, cap, m, n, D, Pl, hcs, hb, hl, hm, hmm, hx, hi⟩
  · cases hcs; exact ⟨none, 0, 0, rfl, by omega, .inl rfl⟩
  · cases hcs
    refine ⟨some a, len, cap, rfl, by unfold maxLen at hm; omega, ?_⟩
    have hlm : len ≤ m := by rw [hmm]; split <;> omega
    have key : ∀ i, i < len → ∀ (j : Nat) (f : Field), fs[j]? = some f → ∃ (u : Value) (y : DataW H × List MemPlace) (n : Nat), w.cell? (a.add (i * fs.size + j)) = some u ∧ DataW.trod enc P w base spare held n f.type [u] = some y := by
      intro i him
      obtain ⟨cs', hc, ht'⟩ := hi i (by omega)
      rw [hC] at hc
      obtain ⟨ys, n', hn', hy, hlen, hyl, hf⟩ := DataW.trod_struct he ht'
      obtain ⟨_, hcl, hat⟩ := World.cells?_some hc
      intro j f hj
      obtain ⟨ho, hk⟩ := hone_of hone j f hj
      have hjl : j < fs.size := (Array.getElem?_eq_some_iff.1 hj).1
      have hcell := hat j hjl
      have hv : cs'[j]? = some (cs'[j]'(by omega)) := List.getElem?_eq_getElem (by omega)
      have h1 := hf j f hj
      rw [ho, hk] at h1
      have hone' : (cs'.drop j).take 1 = [cs'[j]'(by omega)] := by
        rw [List.drop_eq_getElem_cons (by omega)]; rfl
      rw [hone'] at h1
      have hys : ys[j]? = some (ys[j]'(by omega)) := List.getElem?_eq_getElem (by omega)
      refine ⟨_, _, n', ?_, h1.trans hys⟩
      rw [← Go.Deep.add_add, hcell, hv]
    by_cases h0 : len = 0
    · exact .inl h0
    · obtain ⟨u, _, _, hu, _⟩ := key 0 (by omega) 0 _ (Array.getElem?_eq_getElem hpos)
      rw [Nat.zero_mul, Nat.zero_add] at hu
      obtain ⟨b, off, rfl⟩ := spot0 hu
      refine .inr ⟨b, off, rfl, World.block_lt_of_cell? w _ hu, fun i him j f hj => ?_⟩
      obtain ⟨u, y, n, hu, hy⟩ := key i him j f hj
      exact ⟨u, y, n, by rw [← add_lit]; exact hu, hy⟩

/-- A slice of strings. -/
theorem open_strsR {t e : TypeId} {fuel : Nat} {v : Value} {x : DataW H × List MemPlace} (ht : P.underlying t = some (.slice e)) (he : P.underlying e = some .string) (hC : P.cellsOf e = 1) (h : DataW.trod enc P w base spare held fuel t [v] = some x) :
    ∃ (a : Option Addr) (n cap : Nat) (l : List ByteArray), v = .slice a n cap ∧ l.length = n ∧ Rd w a (l.map Value.string) ∧ n ≤ 9223372036854775807 ∧ ∀ s ∈ l, s.size ≤ 9223372036854775807 := by
  obtain ⟨a, n, cap, rfl, hn, hor⟩ := open_cells1 ht hC h
  rcases hor with rfl | ⟨b, off, rfl, hb, hc⟩
  · exact ⟨a, 0, cap, [], rfl, rfl, Rd.nil _ _, hn, by simp⟩
  · obtain ⟨l, hl, hp⟩ := list_of (P := fun i (s : ByteArray) => w.cell? ⟨b, off + i, none⟩ = some (.string s) ∧ s.size ≤ 9223372036854775807) n fun i hi => by
      obtain ⟨u, y, m, hu, hy⟩ := hc i hi
      obtain ⟨s, e1, _, e3⟩ := DataW.trod_string he hy
      cases e1
      exact ⟨s, hu, by unfold maxLen at e3; omega⟩
    refine ⟨_, n, cap, l, rfl, hl, fun j v hv => ?_, hn, fun s hs => ?_⟩
    · rw [List.getElem?_map] at hv
      obtain ⟨s, hs, rfl⟩ := Option.map_eq_some_iff.1 hv
      exact ⟨b, off, rfl, hb, (hp j s hs).1⟩
    · obtain ⟨i, hi, rfl⟩ := List.getElem_of_mem hs
      exact (hp i _ (List.getElem?_eq_getElem hi)).2
/-- A slice of structs of two strings. -/
theorem open_pairsR {t e : TypeId} {f0 f1 : Field} {fuel : Nat} {v : Value} {x : DataW H × List MemPlace} (ht : P.underlying t = some (.slice e)) (he : P.underlying e = some (.struct #[f0, f1]))
    (hone : oneCellFields P #[f0, f1] = true) (hC : P.cellsOf e = 2) (hf0 : P.underlying f0.type = some .string) (hf1 : P.underlying f1.type = some .string) (h : DataW.trod enc P w base spare held fuel t [v] = some x) :
    ∃ (a : Option Addr) (n cap : Nat) (l : List (ByteArray × ByteArray)), v = .slice a n cap ∧ l.length = n ∧ Rd w a (cellsOf (fun h : ByteArray × ByteArray => [.string h.1, .string h.2]) l) ∧ n ≤ 9223372036854775807 ∧
      ∀ h ∈ l, h.1.size ≤ 9223372036854775807 ∧ h.2.size ≤ 9223372036854775807 := by
  obtain ⟨a, n, cap, rfl, hn, hor⟩ := open_cellsK ht he hone (show 0 < 2 by omega) hC h
  rcases hor with rfl | ⟨b, off, rfl, hb, hc⟩
  · exact ⟨a, 0, cap, [], rfl, rfl, Rd.nil _ _, hn, by simp⟩
  · obtain ⟨l, hl, hp⟩ := list_of (P := fun i (s : ByteArray × ByteArray) => (w.cell? ⟨b, off + (i * 2 + 0), none⟩ = some (.string s.1) ∧ s.1.size ≤ 9223372036854775807) ∧ (w.cell? ⟨b, off + (i * 2 + 1), none⟩ = some (.string s.2) ∧ s.2.size ≤ 9223372036854775807)) n fun i hi => by
      obtain ⟨u, y, m, hu, hy⟩ := hc i hi 0 f0 rfl
      obtain ⟨s, e1, _, e3⟩ := DataW.trod_string hf0 hy
      cases e1
      obtain ⟨u', y', m', hu', hy'⟩ := hc i hi 1 f1 rfl
      obtain ⟨s', e1', _, e3'⟩ := DataW.trod_string hf1 hy'
      cases e1'
      exact ⟨(s, s'), ⟨hu, by unfold maxLen at e3; omega⟩, hu', by unfold maxLen at e3'; omega⟩
    refine ⟨_, n, cap, l, rfl, hl, fun j v hv => ?_, hn, fun s hs => ?_⟩
    · have hlen := cellsOf_len (enc := fun h : ByteArray × ByteArray => [Value.string h.1, Value.string h.2]) (k := 2) (fun _ => rfl) l
      have hj := (List.getElem?_eq_some_iff.1 hv).1
      have hi : j / 2 < l.length := by omega
      have hat := cellsOf_at (enc := fun h : ByteArray × ByteArray => [Value.string h.1, Value.string h.2]) (k := 2) (fun _ => rfl) l (j / 2) hi (j % 2) (by omega)
      rw [show j / 2 * 2 + j % 2 = j from by omega, hv] at hat
      have hq := hp (j / 2) l[j / 2] (List.getElem?_eq_getElem hi)
      refine ⟨b, off, rfl, hb, ?_⟩
      rcases (show j % 2 = 0 ∨ j % 2 = 1 by omega) with h0 | h1
      · rw [h0] at hat; cases hat
        rw [show off + j = off + (j / 2 * 2 + 0) from by omega]; exact hq.1.1
      · rw [h1] at hat; cases hat
        rw [show off + j = off + (j / 2 * 2 + 1) from by omega]; exact hq.2.1
    · obtain ⟨i, hi, rfl⟩ := List.getElem_of_mem hs
      have := hp i _ (List.getElem?_eq_getElem hi)
      exact ⟨this.1.2, this.2.2⟩
/-- A slice of structs of a string, a bool and a string. -/
theorem open_itemsR {t e : TypeId} {f0 f1 f2 : Field} {fuel : Nat} {v : Value} {x : DataW H × List MemPlace} (ht : P.underlying t = some (.slice e)) (he : P.underlying e = some (.struct #[f0, f1, f2]))
    (hone : oneCellFields P #[f0, f1, f2] = true) (hC : P.cellsOf e = 3) (hf0 : P.underlying f0.type = some .string) (hf1 : P.underlying f1.type = some .bool) (hf2 : P.underlying f2.type = some .string) (h : DataW.trod enc P w base spare held fuel t [v] = some x) :
    ∃ (a : Option Addr) (n cap : Nat) (l : List (ByteArray × Bool × ByteArray)), v = .slice a n cap ∧ l.length = n ∧ Rd w a (cellsOf (fun h : ByteArray × Bool × ByteArray => [.string h.1, .bool h.2.1, .string h.2.2]) l) ∧ n ≤ 9223372036854775807 ∧
      ∀ h ∈ l, h.1.size ≤ 9223372036854775807 ∧ h.2.2.size ≤ 9223372036854775807 := by
  obtain ⟨a, n, cap, rfl, hn, hor⟩ := open_cellsK ht he hone (show 0 < 3 by omega) hC h
  rcases hor with rfl | ⟨b, off, rfl, hb, hc⟩
  · exact ⟨a, 0, cap, [], rfl, rfl, Rd.nil _ _, hn, by simp⟩
  · obtain ⟨l, hl, hp⟩ := list_of (P := fun i (s : ByteArray × Bool × ByteArray) => (w.cell? ⟨b, off + (i * 3 + 0), none⟩ = some (.string s.1) ∧ s.1.size ≤ 9223372036854775807) ∧ w.cell? ⟨b, off + (i * 3 + 1), none⟩ = some (.bool s.2.1) ∧ (w.cell? ⟨b, off + (i * 3 + 2), none⟩ = some (.string s.2.2) ∧ s.2.2.size ≤ 9223372036854775807)) n fun i hi => by
      obtain ⟨u, y, m, hu, hy⟩ := hc i hi 0 f0 rfl
      obtain ⟨s, e1, _, e3⟩ := DataW.trod_string hf0 hy
      cases e1
      obtain ⟨u', y', m', hu', hy'⟩ := hc i hi 1 f1 rfl
      obtain ⟨s', e1', _⟩ := DataW.trod_bool hf1 hy'
      cases e1'
      obtain ⟨u2, y2, m2, hu2, hy2⟩ := hc i hi 2 f2 rfl
      obtain ⟨s2, e12, _, e32⟩ := DataW.trod_string hf2 hy2
      cases e12
      exact ⟨(s, s', s2), ⟨hu, by unfold maxLen at e3; omega⟩, hu', hu2, by unfold maxLen at e32; omega⟩
    refine ⟨_, n, cap, l, rfl, hl, fun j v hv => ?_, hn, fun s hs => ?_⟩
    · have hlen := cellsOf_len (enc := fun h : ByteArray × Bool × ByteArray => [Value.string h.1, Value.bool h.2.1, Value.string h.2.2]) (k := 3) (fun _ => rfl) l
      have hj := (List.getElem?_eq_some_iff.1 hv).1
      have hi : j / 3 < l.length := by omega
      have hat := cellsOf_at (enc := fun h : ByteArray × Bool × ByteArray => [Value.string h.1, Value.bool h.2.1, Value.string h.2.2]) (k := 3) (fun _ => rfl) l (j / 3) hi (j % 3) (by omega)
      rw [show j / 3 * 3 + j % 3 = j from by omega, hv] at hat
      have hq := hp (j / 3) l[j / 3] (List.getElem?_eq_getElem hi)
      refine ⟨b, off, rfl, hb, ?_⟩
      rcases (show j % 3 = 0 ∨ j % 3 = 1 ∨ j % 3 = 2 by omega) with h0 | h1 | h2
      · rw [h0] at hat; cases hat
        rw [show off + j = off + (j / 3 * 3 + 0) from by omega]; exact hq.1.1
      · rw [h1] at hat; cases hat
        rw [show off + j = off + (j / 3 * 3 + 1) from by omega]; exact hq.2.1
      · rw [h2] at hat; cases hat
        rw [show off + j = off + (j / 3 * 3 + 2) from by omega]; exact hq.2.2.1
    · obtain ⟨i, hi, rfl⟩ := List.getElem_of_mem hs
      have := hp i _ (List.getElem?_eq_getElem hi)
      exact ⟨this.1.2, this.2.2.2⟩
end
theorem list3 {α : Type} {cs : List α} {a0 a1 a2 : α} (h : cs.length = 3) (e0 : cs[0]? = some a0) (e1 : cs[1]? = some a1) (e2 : cs[2]? = some a2) : cs = [a0, a1, a2] := by
  match cs, h with
  | [x0, x1, x2], _ => simp at e0 e1 e2; simp [e0, e1, e2]
theorem list4 {α : Type} {cs : List α} {a0 a1 a2 a3 : α} (h : cs.length = 4) (e0 : cs[0]? = some a0) (e1 : cs[1]? = some a1) (e2 : cs[2]? = some a2) (e3 : cs[3]? = some a3) : cs = [a0, a1, a2, a3] := by
  match cs, h with
  | [x0, x1, x2, x3], _ => simp at e0 e1 e2 e3; simp [e0, e1, e2, e3]
theorem list6 {α : Type} {cs : List α} {a0 a1 a2 a3 a4 a5 : α} (h : cs.length = 6) (e0 : cs[0]? = some a0) (e1 : cs[1]? = some a1) (e2 : cs[2]? = some a2) (e3 : cs[3]? = some a3) (e4 : cs[4]? = some a4) (e5 : cs[5]? = some a5) : cs = [a0, a1, a2, a3, a4, a5] := by
  match cs, h with
  | [x0, x1, x2, x3, x4, x5], _ => simp at e0 e1 e2 e3 e4 e5; simp [e0, e1, e2, e3, e4, e5]
theorem list7 {α : Type} {cs : List α} {a0 a1 a2 a3 a4 a5 a6 : α} (h : cs.length = 7) (e0 : cs[0]? = some a0) (e1 : cs[1]? = some a1) (e2 : cs[2]? = some a2) (e3 : cs[3]? = some a3) (e4 : cs[4]? = some a4) (e5 : cs[5]? = some a5) (e6 : cs[6]? = some a6) : cs = [a0, a1, a2, a3, a4, a5, a6] := by
  match cs, h with
  | [x0, x1, x2, x3, x4, x5, x6], _ => simp at e0 e1 e2 e3 e4 e5 e6; simp [e0, e1, e2, e3, e4, e5, e6]
end Go.Proofs.YtbiodbggaeglpaaGreatDoor
