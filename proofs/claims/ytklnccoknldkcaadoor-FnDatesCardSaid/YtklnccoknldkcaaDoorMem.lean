/- Rows of cells: what a row holds, and what becomes of it. -/
import Derived.Test.YtklnccoknldkcaaDoorBase
import Derived.Lib.ConvBytes
import Derived.Laws.BytesArg
namespace Go.Proofs.YtklnccoknldkcaaDoor
open Go.RowKit

/-- Block g is a row whose first cells are xs, none of them frozen. -/
def RowAt (w : World) (g : Nat) (xs : List Value) : Prop :=
  ∃ cur e lo hi, w.heap[g]? = some (.cells cur e (lo, hi)) ∧ cur.toList.take xs.length = xs ∧ ∀ i, i < xs.length → ¬ (lo ≤ i ∧ i < hi)

theorem RowAt.lt {w : World} {g : Nat} {xs : List Value} (h : RowAt w g xs) : g < w.heap.size := by
  obtain ⟨cur, e, lo, hi, hg, _⟩ := h
  exact (Array.getElem?_eq_some_iff.1 hg).1
theorem RowAt.cell {w : World} {g : Nat} {xs : List Value} (h : RowAt w g xs) (k : Nat) (v : Value) (hv : xs[k]? = some v) : w.cell? ⟨g, k, none⟩ = some v := by
  obtain ⟨cur, e, lo, hi, hg, ht, _⟩ := h
  have hk : k < xs.length := (List.getElem?_eq_some_iff.1 hv).1
  simp only [World.cell?, hg]
  rw [← ht, List.getElem?_take, if_pos hk] at hv
  simpa using hv
theorem RowAt.free {w : World} {g : Nat} {xs : List Value} (h : RowAt w g xs) (k : Nat) (hk : k < xs.length) : w.frozen? ⟨g, k, none⟩ = false := by
  obtain ⟨cur, e, lo, hi, hg, _, hf⟩ := h
  have := hf k hk
  simp only [World.frozen?, hg, Bool.and_eq_false_iff, decide_eq_false_iff_not]
  omega
theorem RowAt.block {w w' : World} {g : Nat} {xs : List Value} (h : RowAt w g xs) (hb : w'.heap[g]? = w.heap[g]?) : RowAt w' g xs := by
  obtain ⟨cur, e, lo, hi, hg, rest⟩ := h
  exact ⟨cur, e, lo, hi, hb.trans hg, rest⟩
theorem RowAt.below {B : Nat} {w w' : World} {g : Nat} {xs : List Value} (h : RowAt w g xs) (hb : Below B w w') (hg : g < B) : RowAt w' g xs := h.block (hb.block g hg)
theorem RowAt.then {w w' : World} {g : Nat} {xs : List Value} (h : RowAt w g xs) (hb : Below w.heap.size w w') : RowAt w' g xs := h.below hb h.lt
theorem RowAt.alloc {w : World} {g : Nat} {xs : List Value} (h : RowAt w g xs) (o : Obj) : RowAt (w.alloc o) g xs := h.block (Below.heap_alloc w o g h.lt)
theorem RowAt.drew {w : World} {g : Nat} {xs : List Value} (h : RowAt w g xs) : RowAt w.drew g xs := h
theorem RowAt.other {w : World} {g : Nat} {xs : List Value} (h : RowAt w g xs) (a : Addr) (v : Value) (hne : g ≠ a.block) : RowAt (w.setCell a v) g xs := h.block (Below.heap_setCell w a v g hne)
theorem RowAt.set {w : World} {g : Nat} {xs : List Value} (h : RowAt w g xs) (k : Nat) (v : Value) : RowAt (w.setCell ⟨g, k, none⟩ v) g (xs.set k v) := by
  obtain ⟨cur, e, lo, hi, hg, ht, hf⟩ := h
  refine ⟨cur.setIfInBounds k v, e, lo, hi, ?_, ?_, by simpa using hf⟩
  · simp [World.setCell, Array.getElem?_modify, hg]
  · rw [List.length_set, Array.toList_setIfInBounds, List.take_set, ht]
theorem RowAt.of_own {w : World} {lo g : Nat} {e : TypeId} {size n cap : Nat} {xs : List Value} (h : w.ownsRow lo e size (.slice (some ⟨g, 0, none⟩) n cap) n xs) : RowAt w g xs := by
  rcases h.2 with ⟨hn, _⟩ | ⟨g', cap', cur, hv, _, hg, _, _, _, ht⟩
  · cases hn
  · cases hv
    exact ⟨cur, e, 0, 0, hg, by rw [h.1]; exact ht, fun i _ => by omega⟩
theorem RowAt.of_alloc (w : World) (cur : Array Value) (e : TypeId) (xs : List Value) (hx : cur.toList = xs) : RowAt (w.alloc (.cells cur e (0, 0))) w.heap.size xs :=
  ⟨cur, e, 0, 0, heap_alloc_new w _, by subst hx; exact List.take_length, fun i _ => by omega⟩

theorem own_cast {w : World} {lo : Nat} {e : TypeId} {size n n' : Nat} {v : Value} {xs xs' : List Value} (h : w.ownsRow lo e size v n xs) (hn : n = n') (hx : xs = xs') : w.ownsRow lo e size v n' xs' := by
  subst hn; subst hx; exact h
theorem own_shape {w : World} {lo : Nat} {e : TypeId} {size n : Nat} {v : Value} {xs : List Value} (h : w.ownsRow lo e size v (n + 1) xs) : ∃ g cap, v = .slice (some ⟨g, 0, none⟩) (n + 1) cap ∧ lo ≤ g ∧ RowAt w g xs := by
  rcases h.2 with ⟨_, hn⟩ | ⟨g, cap, cur, rfl, hlo, rest⟩
  · omega
  · exact ⟨g, cap, rfl, hlo, RowAt.of_own ⟨h.1, .inr ⟨g, cap, cur, rfl, hlo, rest⟩⟩⟩
/-- 'append(v, x)' of one element that was laid just before, onto a row of the call's own. -/
theorem app1 {ops : Array Oper} {rest : List Oper} {o : Oper} {a : Act} {Q : Exit → Act → World → Prop} (hgd : o.guard = none) (s x : Operand) (t : TypeId)
    (ho : o.op = .call { callee := .builtin .append, args := #[s, x], argTypes := #[t, t] }) {w0 wr : World} {e : TypeId} {z : Value} {size bytes : Nat}
    (ht : Tryd.prog.underlying t = some (.slice e)) (hinfo : (Tryd.prog.info? e).map (fun i => (i.zero, i.size, i.bytes)) = some (some z, size, bytes)) (hzs : z.cells.size = size) (hsz : 0 < size)
    {v : Value} {n : Nat} {xs news : List Value} (hown : wr.ownsRow w0.heap.size e size v n xs) (bel : Below w0.heap.size w0 wr) (hs : a.eval s = v)
    (hx : a.eval x = .slice (some ⟨wr.heap.size, 0, none⟩) 1 1) (hl : news.length = size) (h1 : ∀ u ∈ news, u.oneCell' = true) (hbytes : (n + 1) * bytes ≤ 140737488355328) (hn : n + 1 ≤ maxLen)
    (h : ∀ v' w', w'.ownsRow w0.heap.size e size v' (n + 1) (xs ++ news) → Below w0.heap.size w0 w' → (∀ g, g < wr.heap.size → some g ≠ v.ownBlock → w'.heap[g]? = wr.heap[g]?) → wr.heap.size + 1 ≤ w'.heap.size → wpList Tryd.prog ops Q rest (a.put o.dst v') w') :
    wpList Tryd.prog ops Q (o :: rest) a (wr.alloc (.cells news.toArray e)) := by
  obtain ⟨i, hi, hz0, hz1, hz2⟩ := info_parts hinfo
  refine wpList_append_own _ hgd s x t ho w0.heap.size e i z size bytes ht hi hz0 hz1 hz2 hzs hsz v n xs hs (hown.alloc _) ⟨wr.heap.size, 0, none⟩ 1 1 news hx (by omega) ?_ h1 hn hbytes (by have := bel.size; simp; omega) ?_
  · intro j u hu
    have hadd : (⟨wr.heap.size, 0, none⟩ : Addr).add j = ⟨wr.heap.size, j, none⟩ := by unfold Addr.add; split <;> simp_all
    rw [hadd]
    exact (RowAt.of_alloc wr news.toArray e news rfl).cell j u hu
  · intro v' w' hown' hg _
    refine h v' w' hown' ((below_alloc bel _).grown hg (by have := bel.size; simp; omega) (fun k hk => (hown.lt k hk).1)) (fun g hgl hne => ?_) (by have := hg.size; simpa using this)
    exact (hg.block g (by simp; omega) hne).trans (Below.heap_alloc wr _ g hgl)
/-- What was, of an element type, in the table. -/
theorem infoByte : (Tryd.prog.info? 5).map (fun i => (i.zero, i.size, i.bytes)) = some (some (.int .u8 0), 1, 1) := by kernel_rfl

def byteV (b : UInt8) : Value := .int .u8 (b.toNat : Int)

/-- '[]byte(s)': a new row of the string's bytes. -/
theorem conv_there (w : World) (s : ByteArray) : ∃ cap W, (convert 9 22 (.string s)).run Tryd.prog w = .ok (.slice (some ⟨w.heap.size, 0, none⟩) s.size cap) W ∧
    RowAt W w.heap.size (s.data.toList.map byteV) ∧ Below w.heap.size w W ∧ w.heap.size < W.heap.size := by
  refine ⟨_, _, Lib.run_convert_string_bytes (P := Tryd.prog) w 9 22 5 s Tryd.underlying9 Tryd.underlying22 Tryd.underlying5, ?_, ?_, by rw [Lib.bytesWorld_size]; omega⟩
  · have hl : (Lib.bytesCells w 5 s).size = s.size + (grownCap w s.size 0 5 - s.size) := by
      unfold Lib.bytesCells
      rw [Array.size_append, Array.size_map, Array.size_replicate]; rfl
    refine ⟨_, _, _, _, Lib.bytesWorld_at_new w 5 s, ?_, ?_⟩
    · unfold Lib.bytesCells
      rw [Array.toList_append, Array.toList_map]
      exact List.take_left (l₁ := s.data.toList.map byteV)
    · intro i hi
      have : i < s.size := by rw [List.length_map, Array.length_toList] at hi; exact hi
      omega
  · exact ⟨rfl, rfl, rfl, by rw [Lib.bytesWorld_size]; omega, fun k hk => Lib.bytesWorld_at_old w 5 s k hk⟩

/-- 'string(b)': the bytes of a row. -/
theorem conv_back (w : World) (g cap : Nat) (bs : List UInt8) (n : Nat) (hn : bs.length = n) (h : RowAt w g (bs.map byteV)) :
    (convert 22 9 (.slice (some ⟨g, 0, none⟩) n cap)).run Tryd.prog w = .ok (.string ⟨bs.toArray⟩) w := by
  have := run_convert_bytes_arg (P := Tryd.prog) w 22 5 Tryd.underlying22 Tryd.underlying5 g 0 n cap (bs.map fun b => (b.toNat : Int)) (by simpa using hn) (fun i hi => by
    rw [Nat.zero_add]
    refine h.cell i _ ?_
    have hi' : i < bs.length := by omega
    simp [List.getD, hi', byteV]) 9 Tryd.underlying9
  rw [this]
  have e : (bs.map fun b => (b.toNat : Int)).map (fun n => UInt8.ofNat n.toNat) = bs := by
    rw [List.map_map]
    exact (List.map_congr_left fun b _ => by simp).trans (List.map_id _)
  have e2 : strOfNums (bs.map fun b => (b.toNat : Int)) = ⟨bs.toArray⟩ := by
    unfold strOfNums
    rw [e]
  rw [e2]
end Go.Proofs.YtklnccoknldkcaaDoor
