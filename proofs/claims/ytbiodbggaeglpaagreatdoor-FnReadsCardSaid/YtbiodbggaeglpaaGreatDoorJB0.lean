/- Joined: Base, Big, Mem, AppR, BV, Build, Plain, FaultP, JoinP, Num, QuietB, QuoteP, ItemsP, RegW, RegA, RegG, RegL, Slice, Bytes, Frame, AppB. -/
import Derived.Test.YtbiodbggaeglpaaGreatDoorProg
import Derived.WalkKit
import Derived.WalkLawsBesides
import Derived.WalkSpells
import Derived.Handy
import Derived.Lib.Hide
import Derived.KernelRfl
import Derived.Deep.QuietTactic
import Derived.BigQuiet
import Derived.Deep.LoopGhost
import Derived.Lib.ConvBytes
import Derived.Laws.BytesArg
import Derived.Deep.RegionHeld3
import Derived.Deep.DeepCutAuto
import Derived.Test.YtbiodbggaeglpaaGreatDoorShelf
import Derived.Lib.Builder
import Derived.Lib.AppendStr
import Derived.Lib.UnsafeStr
import Derived.Laws.Externs
import Derived.Lib.Join
import Derived.Orders
import Derived.StillTailTactics
import Derived.Deep.AppendSrc
/- Ground for the contracts of this seat: imports and small laws on worlds. -/
namespace Go.Proofs.YtbiodbggaeglpaaGreatDoor
open Go.RowKit

theorem ret_bool {a b : Bool} (h : a = b) : Ending.returned (.bool a) = .returned (.bool b) := by rw [h]
theorem ret_int {k : IntKind} {a b : Int} (h : a = b) : Ending.returned (.int k a) = .returned (.int k b) := by rw [h]
theorem ret_str {a b : ByteArray} (h : a = b) : Ending.returned (.string a) = .returned (.string b) := by rw [h]

theorem bcell {W w1 : World} (hb : Below W.heap.size W w1) : (∀ b o, b < W.heap.size → w1.cell? ⟨b, o, none⟩ = W.cell? ⟨b, o, none⟩) ∧ (∀ b o, b < W.heap.size → w1.frozen? ⟨b, o, none⟩ = W.frozen? ⟨b, o, none⟩) :=
  ⟨fun b o h => hb.cell (p := ⟨b, o, none⟩) h, fun b o h => hb.frozen (p := ⟨b, o, none⟩) h⟩

theorem bsize {W w1 : World} (hb : Below W.heap.size W w1) : (∀ k, k < W.heap.size → k < w1.heap.size) ∧ (∀ k, k ≤ W.heap.size → k ≤ w1.heap.size) ∧
    (∀ k, k < W.heap.size → (k = w1.heap.size) = False) ∧ (∀ k, k < W.heap.size → (w1.heap.size = k) = False) ∧
    (∀ k i, k < W.heap.size → (k = w1.heap.size + i) = False) ∧ (∀ k i, k < W.heap.size → (w1.heap.size + i = k) = False) := by
  have := hb.size
  exact ⟨fun k h => by omega, fun k h => by omega, fun k h => eq_false (by omega), fun k h => eq_false (by omega), fun k i h => eq_false (by omega), fun k i h => eq_false (by omega)⟩

theorem below_alloc {a W : World} (h : Below a.heap.size a W) (o : Obj) : Below a.heap.size a (W.alloc o) := h.alloc h.size o
theorem below_then {a W w2 : World} (h : Below a.heap.size a W) (hb : Below W.heap.size W w2) : Below a.heap.size a w2 := h.trans (hb.mono h.size)

theorem below_drewN {B : Nat} {a w : World} (h : Below B a w) : ∀ n, Below B a (w.drewN n) := fun n => by
  exact ⟨h.os, h.tape, h.output, h.size, h.block⟩

theorem own_below {B lo : Nat} {w w' : World} {e : TypeId} {size : Nat} {v : Value} {n : Nat} {xs : List Value} (h : w.ownsRow lo e size v n xs) (hb : Below B w w') (hB : w.heap.size ≤ B) : w'.ownsRow lo e size v n xs := by
  refine ⟨h.1, ?_⟩
  rcases h.2 with hn | ⟨g, cap, cur, rfl, hlo, hg, rest⟩
  · exact .inl hn
  · exact .inr ⟨g, cap, cur, rfl, hlo, (hb.block g (Nat.lt_of_lt_of_le (Array.getElem?_eq_some_iff.1 hg).1 hB)).trans hg, rest⟩

theorem own_mono {lo lo' : Nat} {w : World} {e : TypeId} {size : Nat} {v : Value} {n : Nat} {xs : List Value} (h : w.ownsRow lo e size v n xs) (hl : lo' ≤ lo) : w.ownsRow lo' e size v n xs := by
  refine ⟨h.1, ?_⟩
  rcases h.2 with hn | ⟨g, cap, cur, rfl, hlo, rest⟩
  · exact .inl hn
  · exact .inr ⟨g, cap, cur, rfl, Nat.le_trans hl hlo, rest⟩
theorem quiet_pure {P : Program} {f : FuncId} {args : Array Value} {w : World} {n : Nat} {v : Value} (h : Calls P f args (w.drewN n) fun e w' => e = .returned v ∧ w.drewN n = w') :
    Calls P f args (w.drewN n) fun e w'' => e = .returned v ∧ ∃ m, w'' = w.drewN m := h.mono fun _ _ ⟨he, hm⟩ => ⟨he, n, hm.symm⟩
/-- A result that lies in a row. -/
theorem res_row {P : Program} {fn : Func} {p : Tmp} {ty : TypeId} (h : fn.results = #[.cell p ty]) (tmps : Array Value) (w : World) {g : Nat} {t : TypeId} {cs : Array Value} {fr : Nat × Nat} {d : TypeDesc}
    (hp : tmps.getD p undef = .pointer (some ⟨g, 0, none⟩)) (hg : w.heap[g]? = some (.cells cs t fr))
    (hu : P.underlying ty = some d) (hd : (match d with | .struct _ | .array _ _ => true | _ => false) = true) (n : Nat) (hi : (P.info? ty).map (·.size) = some n) (hn : n = cs.size) :
    (results fn tmps).run P w = .ok (.agg cs) w := by
  have hl := run_loadVar_row (P := P) w g t ty cs fr d hg hu hd (by rw [hi, hn])
  have ha : (asAddr (tmps.getD p undef)).run P w = .ok ⟨g, 0, none⟩ w := by rw [hp]; rfl
  rw [Array.getD_eq_getD_getElem?] at ha
  simp only [results, h]
  simp [Sem.run_bind, ha, hl, Result.andThen]
theorem blk_new (w : World) (o : Obj) : (w.alloc o).heap[w.heap.size]? = some o := heap_alloc_new w o
theorem blk_alloc {w : World} {g : Nat} {o : Obj} (h : w.heap[g]? = some o) (o' : Obj) : (w.alloc o').heap[g]? = some o := (Below.heap_alloc w o' g (Array.getElem?_eq_some_iff.1 h).1).trans h
theorem blk_then {w w' : World} {g : Nat} {o : Obj} (h : w.heap[g]? = some o) (hb : Below w.heap.size w w') : w'.heap[g]? = some o := (hb.block g (Array.getElem?_eq_some_iff.1 h).1).trans h
theorem blk_set {w : World} {g : Nat} {cs : Array Value} {t : TypeId} {fr : Nat × Nat} (h : w.heap[g]? = some (.cells cs t fr)) (k : Nat) (v : Value) : (w.setCell ⟨g, k, none⟩ v).heap[g]? = some (.cells (cs.setIfInBounds k v) t fr) := by
  simp [World.setCell, Array.getElem?_modify, h]
theorem blk_drew {w : World} {g : Nat} {o : Obj} (h : w.heap[g]? = some o) : w.drew.heap[g]? = some o := h
theorem blk_cast {w : World} {g : Nat} {cs cs' : Array Value} {t : TypeId} {fr : Nat × Nat} (h : w.heap[g]? = some (.cells cs t fr)) (e : cs = cs') : w.heap[g]? = some (.cells cs' t fr) := by subst e; exact h
end Go.Proofs.YtbiodbggaeglpaaGreatDoor

/- The law's own bound on what is drawn from. -/
namespace Go.Proofs.YtbiodbggaeglpaaGreatDoor
open Go.RowKit
theorem lwBig (a : Option Addr) (n c : Nat) (w : World) : Calls Tryz.prog 5 #[.slice a n c] w fun e w' => e = .returned (.bool (decide (1048576 < (n : Int)))) ∧ w = w' := by
  go_enter Tryz.func5, Tryz.ntmps5
  go_wp2
  go_ret
  exact ⟨rfl, rfl⟩
end Go.Proofs.YtbiodbggaeglpaaGreatDoor

/- Rows of cells: what a row holds, and what becomes of it. -/
namespace Go.Proofs.YtbiodbggaeglpaaGreatDoor
open Go.RowKit

/-- Block g is a row whose first cells are xs, none of them frozen. -/
def RowAt (w : World) (g : Nat) (xs : List Value) : Prop :=
  ∃ cur e lo hi, w.heap[g]? = some (.cells cur e (lo, hi)) ∧ cur.toList.take xs.length = xs ∧ ∀ i, i < xs.length → ¬ (lo ≤ i ∧ i < hi)

theorem RowAt.lt {w : World} {g : Nat} {xs : List Value} (h : RowAt w g xs) : g < w.heap.size := by
  obtain ⟨cur, e, lo, hi, hg, _⟩ := h
  exact (Array.getElem?_eq_some_iff.1 hg).1
theorem RowAt.cell {w : World} {g : Nat} {xs : List Value} (h : RowAt w g xs) (k : Nat) (v : Value) (hv : xs[k]? = some v) : w.cell? ⟨g, k, none⟩ = some v := by
  obtain ⟨cur, e, lo, hi, hg, ht, _⟩ := h
  have hk : k < xs.length := (List.getElem?_eq_some_iff.1 hv).1
  simp only [World.cell?, hg]
  rw [← ht, List.getElem?_take, if_pos hk] at hv
  simpa using hv
theorem RowAt.free {w : World} {g : Nat} {xs : List Value} (h : RowAt w g xs) (k : Nat) (hk : k < xs.length) : w.frozen? ⟨g, k, none⟩ = false := by
  obtain ⟨cur, e, lo, hi, hg, _, hf⟩ := h
  have := hf k hk
  simp only [World.frozen?, hg, Bool.and_eq_false_iff, decide_eq_false_iff_not]
  omega
theorem RowAt.block {w w' : World} {g : Nat} {xs : List Value} (h : RowAt w g xs) (hb : w'.heap[g]? = w.heap[g]?) : RowAt w' g xs := by
  obtain ⟨cur, e, lo, hi, hg, rest⟩ := h
  exact ⟨cur, e, lo, hi, hb.trans hg, rest⟩
theorem RowAt.below {B : Nat} {w w' : World} {g : Nat} {xs : List Value} (h : RowAt w g xs) (hb : Below B w w') (hg : g < B) : RowAt w' g xs := h.block (hb.block g hg)
theorem RowAt.then {w w' : World} {g : Nat} {xs : List Value} (h : RowAt w g xs) (hb : Below w.heap.size w w') : RowAt w' g xs := h.below hb h.lt
theorem RowAt.alloc {w : World} {g : Nat} {xs : List Value} (h : RowAt w g xs) (o : Obj) : RowAt (w.alloc o) g xs := h.block (Below.heap_alloc w o g h.lt)
theorem RowAt.drew {w : World} {g : Nat} {xs : List Value} (h : RowAt w g xs) : RowAt w.drew g xs := h
theorem RowAt.other {w : World} {g : Nat} {xs : List Value} (h : RowAt w g xs) (a : Addr) (v : Value) (hne : g ≠ a.block) : RowAt (w.setCell a v) g xs := h.block (Below.heap_setCell w a v g hne)
theorem RowAt.set {w : World} {g : Nat} {xs : List Value} (h : RowAt w g xs) (k : Nat) (v : Value) : RowAt (w.setCell ⟨g, k, none⟩ v) g (xs.set k v) := by
  obtain ⟨cur, e, lo, hi, hg, ht, hf⟩ := h
  refine ⟨cur.setIfInBounds k v, e, lo, hi, ?_, ?_, by simpa using hf⟩
  · simp [World.setCell, Array.getElem?_modify, hg]
  · rw [List.length_set, Array.toList_setIfInBounds, List.take_set, ht]
theorem RowAt.of_own {w : World} {lo g : Nat} {e : TypeId} {size n cap : Nat} {xs : List Value} (h : w.ownsRow lo e size (.slice (some ⟨g, 0, none⟩) n cap) n xs) : RowAt w g xs := by
  rcases h.2 with ⟨hn, _⟩ | ⟨g', cap', cur, hv, _, hg, _, _, _, ht⟩
  · cases hn
  · cases hv
    exact ⟨cur, e, 0, 0, hg, by rw [h.1]; exact ht, fun i _ => by omega⟩
theorem RowAt.of_alloc (w : World) (cur : Array Value) (e : TypeId) (xs : List Value) (hx : cur.toList = xs) : RowAt (w.alloc (.cells cur e (0, 0))) w.heap.size xs :=
  ⟨cur, e, 0, 0, heap_alloc_new w _, by subst hx; exact List.take_length, fun i _ => by omega⟩

theorem own_cast {w : World} {lo : Nat} {e : TypeId} {size n n' : Nat} {v : Value} {xs xs' : List Value} (h : w.ownsRow lo e size v n xs) (hn : n = n') (hx : xs = xs') : w.ownsRow lo e size v n' xs' := by
  subst hn; subst hx; exact h
theorem own_shape {w : World} {lo : Nat} {e : TypeId} {size n : Nat} {v : Value} {xs : List Value} (h : w.ownsRow lo e size v (n + 1) xs) : ∃ g cap, v = .slice (some ⟨g, 0, none⟩) (n + 1) cap ∧ lo ≤ g ∧ RowAt w g xs := by
  rcases h.2 with ⟨_, hn⟩ | ⟨g, cap, cur, rfl, hlo, rest⟩
  · omega
  · exact ⟨g, cap, rfl, hlo, RowAt.of_own ⟨h.1, .inr ⟨g, cap, cur, rfl, hlo, rest⟩⟩⟩
/-- 'append(v, x)' of one element that was laid just before, onto a row of the call's own. -/
theorem app1 {ops : Array Oper} {rest : List Oper} {o : Oper} {a : Act} {Q : Exit → Act → World → Prop} (hgd : o.guard = none) (s x : Operand) (t : TypeId)
    (ho : o.op = .call { callee := .builtin .append, args := #[s, x], argTypes := #[t, t] }) {w0 wr : World} {e : TypeId} {z : Value} {size bytes : Nat}
    (ht : Tryz.prog.underlying t = some (.slice e)) (hinfo : (Tryz.prog.info? e).map (fun i => (i.zero, i.size, i.bytes)) = some (some z, size, bytes)) (hzs : z.cells.size = size) (hsz : 0 < size)
    {v : Value} {n : Nat} {xs news : List Value} (hown : wr.ownsRow w0.heap.size e size v n xs) (bel : Below w0.heap.size w0 wr) (hs : a.eval s = v)
    (hx : a.eval x = .slice (some ⟨wr.heap.size, 0, none⟩) 1 1) (hl : news.length = size) (h1 : ∀ u ∈ news, u.oneCell' = true) (hbytes : (n + 1) * bytes ≤ 140737488355328) (hn : n + 1 ≤ maxLen)
    (h : ∀ v' w', w'.ownsRow w0.heap.size e size v' (n + 1) (xs ++ news) → Below w0.heap.size w0 w' → (∀ g, g < wr.heap.size → some g ≠ v.ownBlock → w'.heap[g]? = wr.heap[g]?) → wr.heap.size + 1 ≤ w'.heap.size → wpList Tryz.prog ops Q rest (a.put o.dst v') w') :
    wpList Tryz.prog ops Q (o :: rest) a (wr.alloc (.cells news.toArray e)) := by
  obtain ⟨i, hi, hz0, hz1, hz2⟩ := info_parts hinfo
  refine wpList_append_own _ hgd s x t ho w0.heap.size e i z size bytes ht hi hz0 hz1 hz2 hzs hsz v n xs hs (hown.alloc _) ⟨wr.heap.size, 0, none⟩ 1 1 news hx (by omega) ?_ h1 hn hbytes (by have := bel.size; simp; omega) ?_
  · intro j u hu
    have hadd : (⟨wr.heap.size, 0, none⟩ : Addr).add j = ⟨wr.heap.size, j, none⟩ := by unfold Addr.add; split <;> simp_all
    rw [hadd]
    exact (RowAt.of_alloc wr news.toArray e news rfl).cell j u hu
  · intro v' w' hown' hg _
    refine h v' w' hown' ((below_alloc bel _).grown hg (by have := bel.size; simp; omega) (fun k hk => (hown.lt k hk).1)) (fun g hgl hne => ?_) (by have := hg.size; simpa using this)
    exact (hg.block g (by simp; omega) hne).trans (Below.heap_alloc wr _ g hgl)
/-- What was, of an element type, in the table. -/
theorem infoByte : (Tryz.prog.info? 5).map (fun i => (i.zero, i.size, i.bytes)) = some (some (.int .u8 0), 1, 1) := by kernel_rfl

def byteV (b : UInt8) : Value := .int .u8 (b.toNat : Int)

/-- '[]byte(s)': a new row of the string's bytes. -/
theorem conv_there (w : World) (s : ByteArray) : ∃ cap W, (convert 9 22 (.string s)).run Tryz.prog w = .ok (.slice (some ⟨w.heap.size, 0, none⟩) s.size cap) W ∧
    RowAt W w.heap.size (s.data.toList.map byteV) ∧ Below w.heap.size w W ∧ w.heap.size < W.heap.size := by
  refine ⟨_, _, Lib.run_convert_string_bytes (P := Tryz.prog) w 9 22 5 s Tryz.underlying9 Tryz.underlying22 Tryz.underlying5, ?_, ?_, by rw [Lib.bytesWorld_size]; omega⟩
  · have hl : (Lib.bytesCells w 5 s).size = s.size + (grownCap w s.size 0 5 - s.size) := by
      unfold Lib.bytesCells
      rw [Array.size_append, Array.size_map, Array.size_replicate]; rfl
    refine ⟨_, _, _, _, Lib.bytesWorld_at_new w 5 s, ?_, ?_⟩
    · unfold Lib.bytesCells
      rw [Array.toList_append, Array.toList_map]
      exact List.take_left (l₁ := s.data.toList.map byteV)
    · intro i hi
      have : i < s.size := by rw [List.length_map, Array.length_toList] at hi; exact hi
      omega
  · exact ⟨rfl, rfl, rfl, by rw [Lib.bytesWorld_size]; omega, fun k hk => Lib.bytesWorld_at_old w 5 s k hk⟩

/-- 'string(b)': the bytes of a row. -/
theorem conv_back (w : World) (g cap : Nat) (bs : List UInt8) (n : Nat) (hn : bs.length = n) (h : RowAt w g (bs.map byteV)) :
    (convert 22 9 (.slice (some ⟨g, 0, none⟩) n cap)).run Tryz.prog w = .ok (.string ⟨bs.toArray⟩) w := by
  have := run_convert_bytes_arg (P := Tryz.prog) w 22 5 Tryz.underlying22 Tryz.underlying5 g 0 n cap (bs.map fun b => (b.toNat : Int)) (by simpa using hn) (fun i hi => by
    rw [Nat.zero_add]
    refine h.cell i _ ?_
    have hi' : i < bs.length := by omega
    simp [List.getD, hi', byteV]) 9 Tryz.underlying9
  rw [this]
  have e : (bs.map fun b => (b.toNat : Int)).map (fun n => UInt8.ofNat n.toNat) = bs := by
    rw [List.map_map]
    exact (List.map_congr_left fun b _ => by simp).trans (List.map_id _)
  have e2 : strOfNums (bs.map fun b => (b.toNat : Int)) = ⟨bs.toArray⟩ := by
    unfold strOfNums
    rw [e]
  rw [e2]
end Go.Proofs.YtbiodbggaeglpaaGreatDoor

/- 'append(v, x)' of one element onto a row of the call's own, as a step of a region that draws its order. -/
namespace Go.Proofs.YtbiodbggaeglpaaGreatDoor
open Go.RowKit
theorem app1R {ops : Array Oper} {o : Oper} {a : Act} {K : Act → World → Prop} {Q : Exit → Act → World → Prop} {E : Prop} (hgd : o.guard = none) (s x : Operand) (t : TypeId)
    (ho : o.op = .call { callee := .builtin .append, args := #[s, x], argTypes := #[t, t] }) {w0 wr : World} {e : TypeId} {z : Value} {size bytes : Nat}
    (ht : Tryz.prog.underlying t = some (.slice e)) (hinfo : (Tryz.prog.info? e).map (fun i => (i.zero, i.size, i.bytes)) = some (some z, size, bytes)) (hzs : z.cells.size = size) (hsz : 0 < size)
    {v : Value} {n : Nat} {xs news : List Value} (hown : wr.ownsRow w0.heap.size e size v n xs) (bel : Below w0.heap.size w0 wr) (hs : a.eval s = v)
    (hx : a.eval x = .slice (some ⟨wr.heap.size, 0, none⟩) 1 1) (hl : news.length = size) (h1 : ∀ u ∈ news, u.oneCell' = true) (hbytes : (n + 1) * bytes ≤ 140737488355328) (hn : n + 1 ≤ maxLen)
    (h : ∀ v' w', w'.ownsRow w0.heap.size e size v' (n + 1) (xs ++ news) → Below w0.heap.size w0 w' → K (a.put o.dst v') w') :
    if Region.wanted o (yielded ops a.tmps) = true then Oper.wp Tryz.prog o a (wr.alloc (.cells news.toArray e)) K Q else E := by
  have hw : Region.wanted o (yielded ops a.tmps) = true := by simp [Region.wanted, hgd]
  rw [if_pos hw]
  obtain ⟨i, hi, hz0, hz1, hz2⟩ := info_parts hinfo
  refine wp_append_own _ s x t ho w0.heap.size e i z size bytes ht hi hz0 hz1 hz2 hzs hsz v n xs hs (hown.alloc _) ⟨wr.heap.size, 0, none⟩ 1 1 news hx (by omega) ?_ h1 hn hbytes (by have := bel.size; simp; omega) ?_
  · intro j u hu
    have hadd : (⟨wr.heap.size, 0, none⟩ : Addr).add j = ⟨wr.heap.size, j, none⟩ := by unfold Addr.add; split <;> simp_all
    rw [hadd]
    exact (RowAt.of_alloc wr news.toArray e news rfl).cell j u hu
  · intro v' w' hown' hg _
    exact h v' w' hown' ((below_alloc bel _).grown hg (by have := bel.size; simp; omega) (fun k hk => (hown.lt k hk).1))
end Go.Proofs.YtbiodbggaeglpaaGreatDoor

/- Bytes as cells. -/
namespace Go.Proofs.YtbiodbggaeglpaaGreatDoor
open Go.RowKit
def bV (l : List UInt8) : List Value := l.map byteV
theorem bV_len (l : List UInt8) : (bV l).length = l.length := List.length_map _
theorem bV_at (l : List UInt8) (k : Nat) (h : k < l.length) : (bV l)[k]? = some (.int .u8 (l[k].toNat : Int)) := by simp [bV, h, byteV]
theorem bV_take (l : List UInt8) (k : Nat) (h : k < l.length) : bV (l.take (k + 1)) = bV (l.take k) ++ [.int .u8 (l[k].toNat : Int)] := by
  unfold bV; rw [List.take_succ_eq_append_getElem h, List.map_append]; rfl
end Go.Proofs.YtbiodbggaeglpaaGreatDoor

/- A strings.Builder: what its methods do at this program. -/
namespace Go.Proofs.YtbiodbggaeglpaaGreatDoor
open Go.RowKit
set_option linter.unusedSimpArgs false
set_option linter.unusedVariables false

set_option maxRecDepth 100000 in
theorem copyCheck_used (b : Nat) (w : World) (h0 : w.cell? ⟨b, 0, none⟩ = some (.pointer (some ⟨b, 0, none⟩))) :
    Calls Tryz.prog 130 #[.pointer (some ⟨b, 0, none⟩)] w fun e w' => e = .returned (.tuple #[]) ∧ w' = w := by
  obtain ⟨j, hj, _⟩ := Option.map_eq_some_iff.1 Tryz.Builder_Extra_169.sizeBuilder
  go_enter Tryz.func130, Tryz.ntmps130
  go_wp2
  rw [Lib.run_neq_ptr_same w _ Tryz.underlying113 hj]
  go_wp2
  go_end0
  exact ⟨rfl, rfl⟩
set_option maxRecDepth 100000 in
theorem copyCheck_fresh (b : Nat) (w : World) (h0 : w.cell? ⟨b, 0, none⟩ = some (.pointer none)) (hsh : w.shape? b = some (115, 2)) (hfz : w.frozen? ⟨b, 0, none⟩ = false) :
    Calls Tryz.prog 130 #[.pointer (some ⟨b, 0, none⟩)] w fun e w' => e = .returned (.tuple #[]) ∧ w' = w.setCell ⟨b, 0, none⟩ (.pointer (some ⟨b, 0, none⟩)) := by
  obtain ⟨j, hj, hjs⟩ := Option.map_eq_some_iff.1 Tryz.Builder_Extra_169.sizeBuilder
  go_enter Tryz.func130, Tryz.ntmps130
  go_wp2
  rw [Lib.run_to_unsafe w ⟨b, 0, none⟩ Tryz.underlying113 Tryz.underlying134 hj (by rw [hjs]; decide) hsh (Nat.zero_lt_succ 1)]
  simp only [Result.andThen]
  rw [Oper.upon_value]
  go_wp2
  rw [run_callFunc_extern Tryz.func139 (by kernel_rfl) (by kernel_rfl) (by kernel_rfl) (e := Extern.AbiNoEscape.same) (by kernel_rfl)]
  rw [Lib.run_noEscape]
  simp only [Result.andThen]
  rw [Oper.upon_value]
  go_wp2
  rw [Lib.run_from_unsafe w ⟨b, 0, none⟩ Tryz.underlying134 Tryz.underlying113 hj hsh Tryz.Builder_Extra_169.liesBuilder]
  simp only [Result.andThen]
  rw [Oper.upon_value]
  go_wp2
  go_end0
  exact ⟨rfl, rfl⟩
abbrev IsB (B b : Nat) (l : List Value) (w : World) : Prop := Lib.IsBuilder 115 5 B b l w
set_option maxRecDepth 100000 in
theorem copyCheck (B b : Nat) (l : List Value) (w : World) (h : IsB B b l w) :
    Calls Tryz.prog 130 #[.pointer (some ⟨b, 0, none⟩)] w fun e w' => e = .returned (.tuple #[]) ∧ (Lib.BuilderAt 115 5 B b (.pointer (some ⟨b, 0, none⟩)) l w' ∧ Below B w w') := by
  rcases h with h | h
  · refine (copyCheck_fresh b w h.cell0 h.shape h.frozen0).mono ?_
    rintro e w' ⟨rfl, rfl⟩
    exact ⟨rfl, h.used _, (Below.refl B w).setCell (p := ⟨b, 0, none⟩) h.1 _⟩
  · refine (copyCheck_used b w h.cell0).mono ?_
    rintro e w' ⟨rfl, rfl⟩
    exact ⟨rfl, h, Below.refl B _⟩
set_option maxHeartbeats 1600000 in
set_option maxRecDepth 100000 in
theorem builder_write (B b : Nat) (l : List Value) (s : ByteArray) (w : World) (h : IsB B b l w) (hlen : l.length + s.size ≤ 140737488355328) (hBw : B ≤ w.heap.size) :
    Calls Tryz.prog 108 #[.pointer (some ⟨b, 0, none⟩), .string s] w fun e w' => e = .returned (.tuple #[.int .i64 s.size, .nilIface]) ∧ (IsB B b (l ++ Lib.strCells s) w' ∧ Below B w w') := by
  obtain ⟨i0, hi, hz0, hz1, hz2⟩ := info_parts infoByte
  go_enter Tryz.func108, Tryz.ntmps108
  go_wp2_with (go_at_call 130; refine (copyCheck B b l _ h).mono ?_)
  rintro e w1 ⟨rfl, h1, hb1⟩
  obtain ⟨hB, v, hbk, hown, hne⟩ := h1
  obtain ⟨c0, c1⟩ : w1.cell? ⟨b, 0, none⟩ = some (.pointer (some ⟨b, 0, none⟩)) ∧ w1.cell? ⟨b, 1, none⟩ = some v := by simp [World.cell?, hbk]
  go_wp2_with (at_builtin; refine Lib.wpList_append_own_string _ rfl _ _ 22 9 rfl B 5 i0 Tryz.underlying22 Tryz.underlying9 hi hz0 hz1 hz2 _ _ _ rfl hown s rfl ?c3 ?c4 ?c5 ?_)
  case c3 => unfold maxLen; omega
  case c4 => omega
  case c5 => have := hb1.size; omega
  intro v' w2 hown' hgrow _
  have hlt : b < w1.heap.size := (Array.getElem?_eq_some_iff.1 hbk).1
  have hb2 : w2.heap[b]? = some (.cells #[.pointer (some ⟨b, 0, none⟩), v] 115 (0, 0)) := by
    rw [hgrow.block b hlt (fun e => hne e.symm)]
    exact hbk
  obtain ⟨d0, d1⟩ : w2.cell? ⟨b, 0, none⟩ = some (.pointer (some ⟨b, 0, none⟩)) ∧ w2.cell? ⟨b, 1, none⟩ = some v := by simp [World.cell?, hb2]
  have f1 : w2.frozen? ⟨b, 1, none⟩ = false := by simp [World.frozen?, hb2]
  obtain ⟨ao, n', cap, rfl⟩ : ∃ ao n' cap, v' = .slice ao n' cap := by
    rcases hown'.2 with ⟨hv, _⟩ | ⟨g, cap, cur, hv, _⟩
    · exact ⟨_, _, _, hv⟩
    · exact ⟨_, _, _, hv⟩
  go_wp2
  go_ret2
  refine ⟨rfl, .inr ?_, ?_⟩
  · exact Lib.BuilderAt.put (T := 115) (e := 5) hB hb2 (bs' := l ++ Lib.strCells s) (by simpa [Lib.strCells_length] using hown') (by decide)
  · exact (hb1.grown hgrow (by have := hb1.size; omega) (fun k hk => (hown.lt k hk).1)).setCell (p := ⟨b, 1, none⟩) hB _
theorem builder_string (B b : Nat) (l : List UInt8) (w : World) (h : IsB B b (Lib.byteCells l) w) (hBw : B ≤ w.heap.size) :
    Calls Tryz.prog 109 #[.pointer (some ⟨b, 0, none⟩)] w fun e w' => e = .returned (.string ⟨l.toArray⟩) ∧ Below B w w' := Tryz.Builder_String_any B b l w h hBw
end Go.Proofs.YtbiodbggaeglpaaGreatDoor

/- Plain words on bytes and strings: no program in sight. -/
namespace Go.Proofs.YtbiodbggaeglpaaGreatDoor
open Go.RowKit

def inB (n lo hi : Int) : Bool := decide (lo ≤ n) && decide (n ≤ hi)

theorem inB_iff {n lo hi : Int} : inB n lo hi = true ↔ lo ≤ n ∧ n ≤ hi := by simp [inB]
theorem inB_not {n lo hi : Int} : inB n lo hi = false ↔ ¬ (lo ≤ n ∧ n ≤ hi) := by rw [← inB_iff]; simp

def letterB (c : Int) : Bool := (decide (97 ≤ c) && decide (c ≤ 122)) || (decide (65 ≤ c) && decide (c ≤ 90))
def digitB (c : Int) : Bool := decide (48 ≤ c) && decide (c ≤ 57)
def wordB (c : Int) : Bool := letterB c || digitB c || [33, 35, 36, 37, 38, 39, 42, 43, 45, 46, 94, 95, 124, 126].contains c
def plainB (c : Int) : Bool := decide (c = 9) || (decide (32 ≤ c) && decide (c ≤ 126))
def hostB (c : Int) : Bool := letterB c || digitB c || decide (c = 46) || decide (c = 45)
def pathB (c : Int) : Bool := wordB c || [47, 63, 61, 38, 58, 64, 44, 59, 40, 41].contains c

/-- Of the first k bytes all are such. -/
def allTo (p : Int → Bool) (s : ByteArray) (k : Nat) : Bool := (s.data.toList.take k).all fun b => p (b.toNat : Int)
theorem allTo_zero (p : Int → Bool) (s : ByteArray) : allTo p s 0 = true := rfl
theorem take_snoc (s : ByteArray) (k : Nat) (h : k < s.size) : s.data.toList.take (k + 1) = s.data.toList.take k ++ [s[k]] := by
  rw [List.take_succ_eq_append_getElem (by simpa using h)]; rfl
theorem allTo_succ (p : Int → Bool) (s : ByteArray) (k : Nat) (h : k < s.size) : allTo p s (k + 1) = (allTo p s k && p (s[k].toNat : Int)) := by
  unfold allTo; rw [take_snoc s k h]; simp
def allB (p : Int → Bool) (s : ByteArray) : Bool := s.data.toList.all fun b => p (b.toNat : Int)
theorem allTo_size (p : Int → Bool) (s : ByteArray) : allTo p s s.size = allB p s := by
  unfold allTo allB; rw [List.take_of_length_le (by rw [Array.length_toList]; exact Nat.le_refl _)]
theorem allB_false (p : Int → Bool) (s : ByteArray) (k : Nat) (h : k < s.size) (hp : p (s[k].toNat : Int) = false) : allB p s = false := by
  unfold allB
  rw [List.all_eq_false]
  exact ⟨s[k], List.getElem_mem (l := s.data.toList) (by rw [Array.length_toList]; exact h), by simp [hp]⟩

def wordS (s : ByteArray) : Bool := (decide (1 ≤ s.size) && decide (s.size ≤ 64)) && allB wordB s

def lowB (b : UInt8) : UInt8 := if 65 ≤ b.toNat ∧ b.toNat ≤ 90 then b + 32 else b
def lowS (s : ByteArray) : ByteArray := ⟨s.data.map lowB⟩
theorem lowS_size (s : ByteArray) : (lowS s).size = s.size := by show (s.data.map lowB).size = s.data.size; exact Array.size_map

def escB (b : UInt8) : List UInt8 := if b.toNat = 34 ∨ b.toNat = 92 then [92, b] else [b]
/-- What stands between quotes behind the first k bytes. -/
def quoteTo (s : ByteArray) (k : Nat) : List UInt8 := 34 :: (s.data.toList.take k).flatMap escB
theorem quoteTo_zero (s : ByteArray) : quoteTo s 0 = [34] := rfl
theorem quoteTo_succ (s : ByteArray) (k : Nat) (h : k < s.size) : quoteTo s (k + 1) = quoteTo s k ++ escB s[k] := by
  unfold quoteTo; rw [take_snoc s k h]; simp
theorem escB_len (b : UInt8) : (escB b).length ≤ 2 := by unfold escB; split <;> simp
theorem quoteTo_len (s : ByteArray) (k : Nat) : (quoteTo s k).length ≤ 2 * k + 1 := by
  have h : ∀ l : List UInt8, (l.flatMap escB).length ≤ 2 * l.length := by
    intro l
    induction l with
    | nil => simp
    | cons b l ih => have := escB_len b; simp only [List.flatMap_cons, List.length_append, List.length_cons]; omega
  have h1 := h (s.data.toList.take k)
  have h2 := List.length_take_le k s.data.toList
  unfold quoteTo
  simp only [List.length_cons]
  omega
def quoteL (s : ByteArray) : List UInt8 := 34 :: s.data.toList.flatMap escB ++ [34]
theorem quoteTo_size (s : ByteArray) : quoteTo s s.size ++ [34] = quoteL s := by
  unfold quoteTo quoteL; rw [List.take_of_length_le (by rw [Array.length_toList]; exact Nat.le_refl _)]
def quoteS (s : ByteArray) : ByteArray := ⟨(quoteL s).toArray⟩

/-- The number that the first k digits tell; it stays at its greatest. -/
def deltaTo (s : ByteArray) (k : Nat) : Int := (s.data.toList.take k).foldl (fun n b => min (10 * n + ((b.toNat : Int) - 48)) 2147483648) 0
theorem deltaTo_zero (s : ByteArray) : deltaTo s 0 = 0 := rfl
theorem deltaTo_succ (s : ByteArray) (k : Nat) (h : k < s.size) : deltaTo s (k + 1) = min (10 * deltaTo s k + ((s[k].toNat : Int) - 48)) 2147483648 := by
  unfold deltaTo; rw [take_snoc s k h, List.foldl_append]; rfl
theorem deltaTo_bd (s : ByteArray) (k : Nat) (h : allTo digitB s k = true) : 0 ≤ deltaTo s k ∧ deltaTo s k ≤ 2147483648 := by
  have key : ∀ (l : List UInt8) (n : Int), (l.all fun b => digitB (b.toNat : Int)) = true → 0 ≤ n → n ≤ 2147483648 → 0 ≤ l.foldl (fun n b => min (10 * n + ((b.toNat : Int) - 48)) 2147483648) n ∧ l.foldl (fun n b => min (10 * n + ((b.toNat : Int) - 48)) 2147483648) n ≤ 2147483648 := by
    intro l
    induction l with
    | nil => intro n _ h0 h1; exact ⟨h0, h1⟩
    | cons b l ih =>
      intro n hl h0 h1
      simp only [List.all_cons, Bool.and_eq_true] at hl
      have hb : 48 ≤ (b.toNat : Int) := by have := hl.1; simp only [digitB, Bool.and_eq_true, decide_eq_true_eq] at this; exact this.1
      exact ih _ hl.2 (by show 0 ≤ min _ _; omega) (by show min _ _ ≤ _; omega)
  exact key _ 0 h (by omega) (by omega)
def deltaOk (s : ByteArray) : Bool := (decide (1 ≤ s.size) && decide (s.size ≤ 64)) && allB digitB s
def deltaR (s : ByteArray) : Int × Int := if deltaOk s then (0, deltaTo s s.size) else (5, 0)

/-- What stands between quotes, from behind the first one on; none: it does not stand so. -/
def unqGo : List UInt8 → List UInt8 → Option (List UInt8)
  | _, [] => none
  | acc, b :: r => if b.toNat = 34 then (if r = [] then some acc else none) else
      if b.toNat = 92 then (match r with | [] => none | c :: r' => unqGo (acc ++ [c]) r') else unqGo (acc ++ [b]) r
theorem unqGo_cons (acc : List UInt8) (b : UInt8) (r : List UInt8) : unqGo acc (b :: r) = if b.toNat = 34 then (if r = [] then some acc else none) else
      if b.toNat = 92 then (match r with | [] => none | c :: r' => unqGo (acc ++ [c]) r') else unqGo (acc ++ [b]) r := by
  cases r <;> simp [unqGo]
def quoted (s : ByteArray) : Bool := [34].isPrefixOf s.data.toList && allB plainB s
def unqO (s : ByteArray) : Option (List UInt8) := if quoted s then unqGo [] (s.data.toList.drop 1) else none
theorem drop_at (s : ByteArray) (k : Nat) (h : k < s.size) : s.data.toList.drop k = s[k] :: s.data.toList.drop (k + 1) := by
  rw [List.drop_eq_getElem_cons (by rw [Array.length_toList]; exact h)]; rfl
theorem drop_end (s : ByteArray) (k : Nat) (h : s.size ≤ k) : s.data.toList.drop k = [] := List.drop_of_length_le (by rw [Array.length_toList]; exact h)
theorem unq_end (s : ByteArray) (k : Nat) (acc : List UInt8) (h : s.size ≤ k) : unqGo acc (s.data.toList.drop k) = none := by rw [drop_end s k h]; rfl
theorem unq_quote (s : ByteArray) (k : Nat) (acc : List UInt8) (h : k < s.size) (hq : s[k].toNat = 34) : unqGo acc (s.data.toList.drop k) = if k + 1 = s.size then some acc else none := by
  rw [drop_at s k h, unqGo_cons, if_pos hq]
  by_cases e : k + 1 = s.size
  · rw [if_pos e, drop_end s (k + 1) (by omega), if_pos rfl]
  · rw [if_neg e, drop_at s (k + 1) (by omega), if_neg (by simp)]
theorem unq_back (s : ByteArray) (k : Nat) (acc : List UInt8) (h : k < s.size) (hq : s[k].toNat = 92) (h2 : k + 1 < s.size) : unqGo acc (s.data.toList.drop k) = unqGo (acc ++ [s[k + 1]]) (s.data.toList.drop (k + 2)) := by
  rw [drop_at s k h, unqGo_cons, if_neg (by omega), if_pos hq, drop_at s (k + 1) h2]
theorem unq_back_end (s : ByteArray) (k : Nat) (acc : List UInt8) (h : k < s.size) (hq : s[k].toNat = 92) (h2 : ¬ k + 1 < s.size) : unqGo acc (s.data.toList.drop k) = none := by
  rw [drop_at s k h, unqGo_cons, if_neg (by omega), if_pos hq, drop_end s (k + 1) (by omega)]
theorem unq_plain (s : ByteArray) (k : Nat) (acc : List UInt8) (h : k < s.size) (h1 : ¬ s[k].toNat = 34) (h2 : ¬ s[k].toNat = 92) : unqGo acc (s.data.toList.drop k) = unqGo (acc ++ [s[k]]) (s.data.toList.drop (k + 1)) := by
  rw [drop_at s k h, unqGo_cons, if_neg h1, if_neg h2]
def unqR (s : ByteArray) : Int × ByteArray := if s.size ≤ 2002 then (match unqO s with | some b => (0, ⟨b.toArray⟩) | none => (5, ⟨#[]⟩)) else (2, ⟨#[]⟩)
theorem quoted_first {s : ByteArray} (h : [34].isPrefixOf s.data.toList = true) : ∃ h : 0 < s.size, s[0].toNat = 34 := by
  cases hl : s.data.toList with
  | nil => rw [hl] at h; cases h
  | cons b r =>
    have hs : 0 < s.size := by
      have : s.data.toList.length = s.size := Array.length_toList
      rw [hl] at this; simp at this; omega
    refine ⟨hs, ?_⟩
    have h0 := drop_at s 0 hs
    rw [List.drop_zero, hl] at h0
    rw [hl] at h
    simp [List.isPrefixOf] at h
    cases h0
    rw [← h]
    rfl
end Go.Proofs.YtbiodbggaeglpaaGreatDoor

/- Plain words: the first code in a list that is not 0. No program in sight. -/
namespace Go.Proofs.YtbiodbggaeglpaaGreatDoor
def faultG {α : Type} (f : α → Int) : List α → Int
  | [] => 0
  | h :: t => if f h = 0 then faultG f t else f h
theorem faultG_at {α : Type} (f : α → Int) : ∀ (l : List α) (k : Nat) (hk : k < l.length), (∀ j (hj : j < l.length), j < k → f l[j] = 0) → f l[k] ≠ 0 → faultG f l = f l[k]
  | [], k, hk, _, _ => absurd hk (Nat.not_lt_zero _)
  | h :: t, 0, hk, _, hn => by
    show (if f h = 0 then _ else _) = _
    rw [if_neg (show ¬ f h = 0 from hn)]; rfl
  | h :: t, k + 1, hk, hz, hn => by
    show (if f h = 0 then _ else _) = _
    rw [if_pos (show f h = 0 from hz 0 (by simp) (by omega))]
    exact faultG_at f t k (by simpa using hk) (fun j hj hjk => hz (j + 1) (by simpa using hj) (by omega)) hn
theorem faultG_none {α : Type} (f : α → Int) : ∀ (l : List α), (∀ j (hj : j < l.length), f l[j] = 0) → faultG f l = 0
  | [], _ => rfl
  | h :: t, hz => by
    show (if f h = 0 then _ else _) = _
    rw [if_pos (show f h = 0 from hz 0 (by simp))]
    exact faultG_none f t fun j hj => hz (j + 1) (by simpa using hj)
theorem faultG_all {α : Type} (f : α → Int) : ∀ (l : List α), faultG f l = 0 → ∀ h ∈ l, f h = 0
  | [], _, h, hm => by cases hm
  | x :: t, hz, h, hm => by
    by_cases hx : f x = 0
    · have e : faultG f (x :: t) = faultG f t := if_pos hx
      rcases List.mem_cons.1 hm with rfl | hm
      · exact hx
      · exact faultG_all f t (e.symm.trans hz) h hm
    · have e : faultG f (x :: t) = f x := if_neg hx
      exact absurd (e.symm.trans hz) hx
end Go.Proofs.YtbiodbggaeglpaaGreatDoor

/- Plain words: texts joined. No program in sight. -/
namespace Go.Proofs.YtbiodbggaeglpaaGreatDoor
open Go.RowKit
def commaS : ByteArray := ⟨#[44, 32]⟩
def joinB (sep : ByteArray) (l : List ByteArray) : ByteArray := ⟨(Lib.join (l.map (·.data.toList)) sep.data.toList).toArray⟩
theorem joinB_nil (sep : ByteArray) : joinB sep [] = ⟨#[]⟩ := rfl
theorem joinTail_append (sep : List UInt8) (r s : List (List UInt8)) : Lib.joinTail sep (r ++ s) = Lib.joinTail sep r ++ Lib.joinTail sep s := by simp [Lib.joinTail]
theorem joinB_one (sep x : ByteArray) : joinB sep [x] = x := by
  apply ByteArray.ext
  simp [joinB, Lib.join_one]
theorem joinB_snoc (sep : ByteArray) (l : List ByteArray) (x : ByteArray) (h : l ≠ []) : joinB sep (l ++ [x]) = joinB sep l ++ sep ++ x := by
  cases l with
  | nil => exact absurd rfl h
  | cons y r =>
    apply ByteArray.ext
    apply Array.toList_inj.1
    simp [joinB, Lib.join_cons, joinTail_append]
    simp [Lib.joinTail]
theorem lens_le (m : Nat) : ∀ (l : List ByteArray), (∀ x ∈ l, x.size ≤ m) → Lib.lens (l.map (·.data.toList)) ≤ l.length * m
  | [], _ => by simp [Lib.lens]
  | x :: l, h => by
    have h1 := lens_le m l fun y hy => h y (by simp [hy])
    have h2 : x.data.toList.length ≤ m := by rw [Array.length_toList]; exact h x (by simp)
    have e : Lib.lens ((x :: l).map (·.data.toList)) = x.data.toList.length + Lib.lens (l.map (·.data.toList)) := by simp [Lib.lens]
    rw [e, List.length_cons, Nat.succ_mul]; omega
theorem joinB_size (sep : ByteArray) (m : Nat) (l : List ByteArray) (h : ∀ x ∈ l, x.size ≤ m) : (joinB sep l).size ≤ l.length * (m + sep.size) := by
  have e : (joinB sep l).size = (Lib.join (l.map (·.data.toList)) sep.data.toList).length := rfl
  rw [e]
  cases l with
  | nil => simp [Lib.join_nil]
  | cons x r =>
    have h1 := lens_le m _ h
    have hs : sep.data.toList.length = sep.size := Array.length_toList
    rw [List.map_cons, Lib.join_length, List.length_map, hs, List.length_cons, Nat.mul_add, Nat.succ_mul, Nat.succ_mul]
    rw [List.map_cons, List.length_cons, Nat.succ_mul] at h1
    have := Nat.mul_comm sep.size r.length
    omega
end Go.Proofs.YtbiodbggaeglpaaGreatDoor

/- Numbers: what lies between two bounds, times and their sums. -/
namespace Go.Proofs.YtbiodbggaeglpaaGreatDoor
open Go.RowKit
set_option linter.unusedSimpArgs false
set_option linter.unusedVariables false

theorem impl_within (n lo hi : Int) (w : World) : Calls Tryz.prog 81 #[.int .i64 n, .int .i64 lo, .int .i64 hi] w fun e w' => e = .returned (.bool (inB n lo hi)) ∧ w = w' := by
  unfold inB
  go_enter Tryz.func81, Tryz.ntmps81
  go_wp2
  all_goals (go_ret; exact ⟨by first | rfl | (simp [*]; done) | (simp [*]; omega), by first | (with_reducible rfl) | exact (by first | (with_reducible exact Below.refl _ _) | ((repeat' (first | (with_reducible exact Below.refl _ _) | (with_reducible assumption) | (with_reducible refine below_alloc ?_ _) | (with_reducible refine Below.drew ?_) | (with_reducible refine below_drewN ?_ _) | (with_reducible refine Below.setCell ?_ ?_ _) | refine below_then ?_ (by with_reducible assumption))) <;> (first | omega | (simp; done) | (simp; omega))))⟩)

theorem spec_l1In (n lo hi : Int) (w : World) : Calls Tryz.prog 61 #[.int .i64 n, .int .i64 lo, .int .i64 hi] w fun e w' => e = .returned (.bool (inB n lo hi)) ∧ w = w' := by
  unfold inB
  go_enter Tryz.func61, Tryz.ntmps61
  go_wp2
  all_goals (go_ret; exact ⟨by first | rfl | (simp [*]; done) | (simp [*]; omega), by first | (with_reducible rfl) | exact (by first | (with_reducible exact Below.refl _ _) | ((repeat' (first | (with_reducible exact Below.refl _ _) | (with_reducible assumption) | (with_reducible refine below_alloc ?_ _) | (with_reducible refine Below.drew ?_) | (with_reducible refine below_drewN ?_ _) | (with_reducible refine Below.setCell ?_ ?_ _) | refine below_then ?_ (by with_reducible assumption))) <;> (first | omega | (simp; done) | (simp; omega))))⟩)

theorem spec_l1Min (a b : Int) (w : World) : Calls Tryz.prog 37 #[.int .i64 a, .int .i64 b] w fun e w' => e = .returned (.int .i64 (min a b)) ∧ w = w' := by
  by_cases h : a < b
  all_goals
    go_enter Tryz.func37, Tryz.ntmps37
    go_wp2
    go_ret
    exact ⟨by simp; omega, rfl⟩

end Go.Proofs.YtbiodbggaeglpaaGreatDoor

/- A region that draws its order, whose calls lay blocks of their own: walked once, in the order of the text. -/
namespace Go.Proofs.YtbiodbggaeglpaaGreatDoor
set_option linter.unusedVariables false
open Go.RowKit

/-- A world above W: what lay in W lies. -/
def Gb (W : World) : Type := {x : World // Below W.heap.size W x}
def Gb.w {W : World} (p : Gb W) : World := p.1
theorem Gb.h {W : World} (p : Gb W) : Below W.heap.size W p.w := p.2
instance (W : World) : Nonempty (Gb W) := ⟨⟨W, Below.refl _ _⟩⟩
instance (W : World) : Inhabited (Gb W) := ⟨⟨W, Below.refl _ _⟩⟩
theorem wp_region_below {P : Program} {id : Nat} {Q : Exit → Act → World → Prop} {a : Act} {w : World} {l : List Oper} (hm : P.follows .mixedOrders = true) (hB : Region.lexB .any l.toArray = true)
    (h : wpQuiet P l.toArray (fun w' => ∃ p : Gb w, w' = p.w) (fun a' => ∀ w', (∃ p : Gb w, w' = p.w) → Q .normal a' w') l a) : (Code.region id l.toArray true).wp P Q a w :=
  wp_region_quiet (C := fun w' => ∃ p : Gb w, w' = p.w) hm hB ⟨⟨w.drew, (Below.refl _ _).drew⟩, rfl⟩ (by simpa using h)
theorem gb_call {P : Program} {f : FuncId} {args : Array Value} {w : World} {p : Gb w} {v : Value} (h : Calls P f args p.w fun e w' => e = .returned v ∧ Below p.w.heap.size p.w w') :
    Calls P f args p.w fun e w'' => e = .returned v ∧ ∃ q : Gb w, w'' = q.w := h.mono fun _ w' ⟨he, hb⟩ => ⟨he, ⟨w', below_then p.h hb⟩, rfl⟩
theorem gb_pure {P : Program} {f : FuncId} {args : Array Value} {w : World} {p : Gb w} {v : Value} (h : Calls P f args p.w fun e w' => e = .returned v ∧ p.w = w') :
    Calls P f args p.w fun e w'' => e = .returned v ∧ ∃ q : Gb w, w'' = q.w := h.mono fun _ w' ⟨he, hb⟩ => ⟨he, p, hb.symm⟩
end Go.Proofs.YtbiodbggaeglpaaGreatDoor

/- Plain law: what was quoted is read as it was. No program in sight. -/
namespace Go.Proofs.YtbiodbggaeglpaaGreatDoor
open Go.RowKit

theorem unq_esc (l : List UInt8) : ∀ acc, unqGo acc (l.flatMap escB ++ [34]) = some (acc ++ l) := by
  induction l with
  | nil => intro acc; rw [List.flatMap_nil, List.nil_append, unqGo_cons, if_pos (show (34 : UInt8).toNat = 34 from rfl), if_pos rfl, List.append_nil]
  | cons b l ih =>
    intro acc
    rw [List.flatMap_cons, List.append_assoc]
    by_cases h : b.toNat = 34 ∨ b.toNat = 92
    · rw [escB, if_pos h]
      show unqGo acc (92 :: b :: (l.flatMap escB ++ [34])) = _
      rw [unqGo_cons, if_neg (by decide), if_pos (by decide)]
      show unqGo (acc ++ [b]) _ = _
      rw [ih, List.append_assoc]; rfl
    · rw [escB, if_neg h]
      show unqGo acc (b :: (l.flatMap escB ++ [34])) = _
      rw [unqGo_cons, if_neg (fun e => h (.inl e)), if_neg (fun e => h (.inr e)), ih, List.append_assoc]; rfl
theorem esc_plain (l : List UInt8) (h : (l.all fun b => plainB (b.toNat : Int)) = true) : ((l.flatMap escB).all fun b => plainB (b.toNat : Int)) = true := by
  induction l with
  | nil => rfl
  | cons b l ih =>
    rw [List.all_cons, Bool.and_eq_true] at h
    rw [List.flatMap_cons, List.all_append, ih h.2, Bool.and_true]
    unfold escB
    split
    · simp only [List.all_cons, List.all_nil, Bool.and_true, h.1]; rfl
    · simp only [List.all_cons, List.all_nil, Bool.and_true, h.1]
theorem quoteS_list (s : ByteArray) : (quoteS s).data.toList = 34 :: (s.data.toList.flatMap escB ++ [34]) := rfl
theorem quoteS_size (s : ByteArray) : (quoteS s).size ≤ 2 * s.size + 2 ∧ s.size + 2 ≤ (quoteS s).size := by
  have e : (quoteS s).size = (quoteS s).data.toList.length := Array.length_toList.symm
  have es : s.data.toList.length = s.size := Array.length_toList
  have h : ∀ l : List UInt8, (l.flatMap escB).length ≤ 2 * l.length ∧ l.length ≤ (l.flatMap escB).length := by
    intro l
    induction l with
    | nil => simp
    | cons b l ih =>
      have h2 := escB_len b
      have h1 : 1 ≤ (escB b).length := by unfold escB; split <;> simp
      simp only [List.flatMap_cons, List.length_append, List.length_cons]; omega
  have := h s.data.toList
  rw [e, quoteS_list]
  simp only [List.length_cons, List.length_append, List.length_nil]
  omega
theorem quoteS_quoted (s : ByteArray) (h : allB plainB s = true) : quoted (quoteS s) = true := by
  unfold quoted allB
  rw [quoteS_list]
  have := esc_plain _ h
  simp only [List.all_cons, List.all_append, this, List.all_nil]
  rfl
theorem unq_back_all (s : ByteArray) (h : allB plainB s = true) (hs : s.size ≤ 1000) : unqR (quoteS s) = (0, s) := by
  have hz := quoteS_size s
  unfold unqR unqO
  rw [if_pos (by omega), if_pos (quoteS_quoted s h), quoteS_list, List.drop_succ_cons, List.drop_zero, unq_esc]
  rfl
end Go.Proofs.YtbiodbggaeglpaaGreatDoor

/- Plain words: the text of items. No program in sight. -/
namespace Go.Proofs.YtbiodbggaeglpaaGreatDoor
open Go.RowKit
def itText (x : ByteArray) (b : Bool) (y : ByteArray) : ByteArray := if b then (if wordS y then x ++ (⟨#[61]⟩ ++ y) else x ++ (⟨#[61]⟩ ++ quoteS y)) else x
end Go.Proofs.YtbiodbggaeglpaaGreatDoor

/- A region that draws its order: what each operation yields is told by a property of its own, which stands for good; the order is of no account. -/
namespace Go.Proofs.YtbiodbggaeglpaaGreatDoor
set_option linter.unusedVariables false
open Go.RowKit

/-- What an operation leaves: a value, or nothing, in a world that stands to the old one as the operation may; or a call that hands back a value and leaves such a world. -/
def Good (P : Program) (R : World → World → Prop) (F : Value → World → Prop) (w : World) : Result Next → Prop
  | .ok (.value v) w' => R w w' ∧ F v w'
  | .ok .skip w' => R w w' ∧ F undef w'
  | .ok (.enter f args) w' => w' = w ∧ Calls P f args w (fun e w'' => ∃ v, e = .returned v ∧ R w w'' ∧ F v w'')
  | _ => False
theorem good_val {P : Program} {R : World → World → Prop} {F : Value → World → Prop} {x : Sem Value} {w w' : World} {v : Value} (h : x.run P w = .ok v w') (hG : R w w' ∧ F v w') : Good P R F w ((do let y ← x; pure (Next.value y) : Sem Next).run P w) := by
  rw [Sem.run_bind, h]
  exact hG
/-- What stands of the operations that one comes after. -/
def DepsOK (ops : Array Oper) (F : Nat → Value → World → Prop) (ρ : Operand → Value) (w : World) (o : Oper) : Prop :=
  ∀ e ∈ o.after, Region.binds .any e = true → ∀ (oj : Oper) (d : Tmp), ops[e.on]? = some oj → oj.dst = some d → F e.on (ρ (.tmp d)) w
def StepOK (P : Program) (ops : Array Oper) (I : World → Prop) (R : Nat → World → World → Prop) (F : Nat → Value → World → Prop) (a0 : Act) (i : Nat) (o : Oper) : Prop :=
  ∀ (ρ : Operand → Value) (w : World), I w → (∀ x, (∀ (i : Nat) (oi : Oper) (d : Tmp), ops[i]? = some oi → oi.dst = some d → x ≠ .tmp d) → ρ x = a0.eval x) → DepsOK ops F ρ w o → Good P (R i) (F i) w ((execOp ρ o).run P w)
/-- What the law asks of a region's form. -/
def regB (ops : Array Oper) (n : Nat) : Bool :=
  (List.range ops.size).all fun i => match ops[i]? with
    | some o => o.guard.isNone && (match o.dst with | some d => decide (d < n) && (List.range ops.size).all fun j => decide (j = i) || (match ops[j]? with | some oj => oj.dst != some d | none => true) | none => true) &&
        o.after.all fun e => !Region.binds .any e || decide (e.on < i)
    | none => false
theorem regB_spec {ops : Array Oper} {n : Nat} (h : regB ops n = true) {i : Nat} {o : Oper} (hi : ops[i]? = some o) : o.guard = none ∧ (∀ d, o.dst = some d → d < n ∧ ∀ (j : Nat) (oj : Oper), j ≠ i → ops[j]? = some oj → oj.dst ≠ some d) ∧ ∀ e ∈ o.after, Region.binds .any e = true → e.on < i := by
  unfold regB at h
  have hlt : i < ops.size := (Array.getElem?_eq_some_iff.1 hi).1
  have h1 := List.all_eq_true.1 h i (List.mem_range.2 hlt)
  simp only [hi, Bool.and_eq_true, Option.isNone_iff_eq_none] at h1
  obtain ⟨⟨hg, hd⟩, ha⟩ := h1
  refine ⟨hg, ?_, fun e he hb => ?_⟩
  · intro d hdst
    simp only [hdst, Bool.and_eq_true, decide_eq_true_eq] at hd
    · refine ⟨hd.1, fun j oj hj hoj e => ?_⟩
      have hjl : j < ops.size := (Array.getElem?_eq_some_iff.1 hoj).1
      have h2 := List.all_eq_true.1 hd.2 j (List.mem_range.2 hjl)
      simp [hoj, hj, e] at h2
  · have h2 := Array.all_eq_true_iff_forall_mem.1 ha e he
    simpa [hb] using h2
structure RInv (ops : Array Oper) (I : World → Prop) (F : Nat → Value → World → Prop) (a0 : Act) (listed : Array Bool) (a : Act) (w : World) : Prop where
  inv : I w
  size : a.tmps.size = a0.tmps.size
  defers : a.defers = a0.defers
  lsize : listed.size = ops.size
  done : ∀ (i : Nat) (oi : Oper) (d : Tmp), ops[i]? = some oi → oi.dst = some d → listed.getD i false = true → F i (a.tmps.getD d undef) w
  doneN : ∀ (i : Nat) (oi : Oper), ops[i]? = some oi → oi.dst = none → listed.getD i false = true → F i undef w
  rest : ∀ x, (∀ (i : Nat) (oi : Oper) (d : Tmp), ops[i]? = some oi → oi.dst = some d → x ≠ .tmp d) → a.eval x = a0.eval x
theorem countP_lt {α : Type} {p q : α → Bool} : ∀ {l : List α}, (∀ x ∈ l, p x = true → q x = true) → ∀ x, x ∈ l → p x = false → q x = true → l.countP p < l.countP q
  | [], _, x, hx, _, _ => by cases hx
  | y :: l, h, x, hx, hp, hq => by
    rw [List.countP_cons, List.countP_cons]
    have hle : l.countP p ≤ l.countP q := List.countP_mono_left fun z hz hz' => h z (List.mem_cons_of_mem _ hz) hz'
    rcases List.mem_cons.1 hx with rfl | hx'
    · rw [hp, hq]; simp; omega
    · have ih := countP_lt (fun z hz hz' => h z (List.mem_cons_of_mem _ hz) hz') x hx' hp hq
      by_cases hy : p y = true
      · rw [hy, h y (List.mem_cons_self ..) hy]; omega
      · simp only [Bool.not_eq_true] at hy
        rw [hy]
        split <;> simp_all <;> omega
def left (ops : Array Oper) (listed : Array Bool) : Nat := (List.range ops.size).countP fun i => !listed.getD i true
theorem ready_nil {ops : Array Oper} {n : Nat} (hB : regB ops n = true) {listed : Array Bool} (hl : listed.size = ops.size) (h : Region.ready .any ops listed = []) : ∀ i, i < ops.size → listed.getD i true = true := by
  intro i
  induction i using Nat.strongRecOn with
  | ind i ih =>
    intro hi
    by_cases hc : listed.getD i true = true
    · exact hc
    · exfalso
      simp only [Bool.not_eq_true] at hc
      have hmem : i ∈ Region.ready .any ops listed := mem_ready.2 ⟨hc, ops[i], Array.getElem?_eq_getElem hi, fun e he hb => by
        have hlt := (regB_spec hB (Array.getElem?_eq_getElem hi)).2.2 e he hb
        have := ih e.on hlt (by omega)
        have hel : e.on < listed.size := by omega
        simp only [Array.getD, hel, dif_pos] at this ⊢
        exact this⟩
      rw [h] at hmem
      cases hmem
theorem wpAny_rel {P : Program} {ops : Array Oper} {I : World → Prop} {R : Nat → World → World → Prop} {F : Nat → Value → World → Prop} {a0 : Act} {Q : Exit → Act → World → Prop} (hB : regB ops a0.tmps.size = true)
    (hinv : ∀ i w w', I w → R i w w' → I w') (hkeep : ∀ i j v w w', j ≠ i → I w → R i w w' → F j v w → F j v w') (hun : ∀ (i : Nat) (o : Oper) (v : Value) (w : World), ops[i]? = some o → o.dst = none → F i v w → F i undef w) (hstep : ∀ i o, ops[i]? = some o → StepOK P ops I R F a0 i o)
    (hQ : ∀ a w, I w → a.tmps.size = a0.tmps.size → a.defers = a0.defers → (∀ (i : Nat) (oi : Oper) (d : Tmp), ops[i]? = some oi → oi.dst = some d → F i (a.tmps.getD d undef) w) → (∀ (i : Nat) (oi : Oper), ops[i]? = some oi → oi.dst = none → F i undef w) →
      (∀ x, (∀ (i : Nat) (oi : Oper) (d : Tmp), ops[i]? = some oi → oi.dst = some d → x ≠ .tmp d) → a.eval x = a0.eval x) → Q .normal a w) :
    ∀ (fuel : Nat) (listed : Array Bool) (a : Act) (w : World), left ops listed ≤ fuel → RInv ops I F a0 listed a w → wpAny P .any ops Q fuel listed a w := by
  have fin : ∀ (listed : Array Bool) (a : Act) (w : World), RInv ops I F a0 listed a w → Region.ready .any ops listed = [] → Q .normal a w := by
    intro listed a w hI hr
    have key : ∀ i, i < ops.size → listed.getD i false = true := by
      intro i hlt
      have := ready_nil hB hI.lsize hr i hlt
      have hl := hI.lsize
      have hel : i < listed.size := by omega
      simp only [Array.getD, hel, dif_pos] at this ⊢
      exact this
    exact hQ a w hI.inv hI.size hI.defers (fun i oi d hi hd => hI.done i oi d hi hd (key i (Array.getElem?_eq_some_iff.1 hi).1)) (fun i oi hi hd => hI.doneN i oi hi hd (key i (Array.getElem?_eq_some_iff.1 hi).1)) hI.rest
  intro fuel
  induction fuel with
  | zero =>
    intro listed a w hf hI
    have hnil : Region.ready .any ops listed = [] := by
      cases hr : Region.ready .any ops listed with
      | nil => rfl
      | cons i r =>
        exfalso
        have hi : i ∈ Region.ready .any ops listed := by rw [hr]; exact List.mem_cons_self ..
        obtain ⟨h0, o, ho, _⟩ := mem_ready.1 hi
        have hlt : i < ops.size := (Array.getElem?_eq_some_iff.1 ho).1
        have : 0 < left ops listed := List.countP_pos_iff.2 ⟨i, List.mem_range.2 hlt, by simp [h0]⟩
        omega
    exact ⟨hnil, fin listed a w hI hnil⟩
  | succ fuel ih =>
    intro listed a w hf hI
    refine ⟨fin listed a w hI, fun i hi => ?_⟩
    obtain ⟨h0, o, ho, hdep⟩ := mem_ready.1 hi
    have hlt : i < ops.size := (Array.getElem?_eq_some_iff.1 ho).1
    obtain ⟨hg, hdst, _⟩ := regB_spec hB ho
    have hll : i < listed.size := by rw [hI.lsize]; exact hlt
    have hcount : left ops (listed.setIfInBounds i true) ≤ fuel := by
      have : left ops (listed.setIfInBounds i true) < left ops listed := by
        refine countP_lt (fun x hx hp => ?_) i (List.mem_range.2 hlt) ?_ (by simp [h0])
        · by_cases hxi : i = x
          · subst hxi; simp [hll] at hp
          · rw [getD_set_ne true hxi] at hp; exact hp
        · simp [hll]
      omega
    have next : ∀ v w', R i w w' → F i v w' → wpAny P .any ops Q fuel (listed.setIfInBounds i true) (a.put o.dst v) w' := by
      intro v w' hb hF
      refine ih _ _ _ hcount ⟨hinv i w w' hI.inv hb, ?_, ?_, ?_, ?_, ?_, ?_⟩
      · cases hd : o.dst <;> simp [Act.put, hI.size]
      · cases hd : o.dst <;> exact hI.defers
      · rw [Array.size_setIfInBounds]; exact hI.lsize
      · intro j oj dj hj hdj hlj
        by_cases hji : j = i
        · subst hji
          rw [ho] at hj
          obtain rfl := Option.some.inj hj
          have hdl : dj < a.tmps.size := by rw [hI.size]; exact (hdst dj hdj).1
          rw [hdj]
          simpa [Act.put, hdl] using hF
        · rw [getD_set_ne false (Ne.symm hji)] at hlj
          have h1 := hkeep i j _ _ _ hji hI.inv hb (hI.done j oj dj hj hdj hlj)
          cases hd : o.dst with
          | none => exact h1
          | some d =>
            have hne : d ≠ dj := fun e => (hdst d hd).2 j oj hji hj (by rw [hdj, e])
            simpa [Act.put, Array.getElem?_setIfInBounds_ne hne] using h1
      · intro j oj hj hdj hlj
        by_cases hji : j = i
        · subst hji
          rw [ho] at hj
          obtain rfl := Option.some.inj hj
          exact hun _ _ v _ ho hdj hF
        · rw [getD_set_ne false (Ne.symm hji)] at hlj
          exact hkeep i j _ _ _ hji hI.inv hb (hI.doneN j oj hj hdj hlj)
      · intro x hx
        have hxd : ∀ d', o.dst = some d' → x ≠ .tmp d' := fun d' hd' => hx i o d' ho hd'
        rw [Act.eval_put hxd]
        exact hI.rest x hx
    unfold wpOp
    rw [ho]
    simp only []
    have hw : Region.wanted o (yielded ops a.tmps) = true := by unfold Region.wanted; rw [hg]
    rw [if_pos hw]
    refine .inl ?_
    have hgood := hstep i o ho a.eval w hI.inv hI.rest (fun e he hb oj dj hoj hdj => hI.done e.on oj dj hoj hdj (hdep e he hb))
    unfold Oper.wp
    generalize (execOp a.eval o).run P w = r at hgood
    cases r with
    | ok n w' =>
      cases n <;> simp only [Good] at hgood
      case value v => exact next v w' hgood.1 hgood.2
      case skip => exact next undef w' hgood.1 hgood.2
      case enter f args =>
        obtain ⟨rfl, hc⟩ := hgood
        exact hc.mono fun e w'' ⟨v, he, hb, hF⟩ => by subst he; exact next v w'' hb hF
    | halt x w' => simp only [Good] at hgood
theorem base_tmp {ops : Array Oper} {t : Tmp} (hB : (ops.all fun o => o.dst != some t) = true) : ∀ (i : Nat) (oi : Oper) (d : Tmp), ops[i]? = some oi → oi.dst = some d → Operand.tmp t ≠ .tmp d := by
  intro i oi d hi hd e
  have h1 : oi ∈ ops := Array.mem_of_getElem? hi
  have h2 := Array.all_eq_true_iff_forall_mem.1 hB oi h1
  cases e
  simp [hd] at h2
def StepsFrom (P : Program) (ops : Array Oper) (I : World → Prop) (R : Nat → World → World → Prop) (F : Nat → Value → World → Prop) (a0 : Act) : Nat → List Oper → Prop
  | _, [] => True
  | k, o :: r => StepOK P ops I R F a0 k o ∧ StepsFrom P ops I R F a0 (k + 1) r
theorem steps_of {P : Program} {ops : Array Oper} {I : World → Prop} {R : Nat → World → World → Prop} {F : Nat → Value → World → Prop} {a0 : Act} : ∀ (l : List Oper) (k : Nat), StepsFrom P ops I R F a0 k l → ∀ i o, l[i]? = some o → StepOK P ops I R F a0 (k + i) o
  | [], _, _, i, o, h => by simp at h
  | x :: r, k, ⟨h0, h1⟩, 0, o, h => by
    have : x = o := by simpa using h
    subst this
    exact h0
  | x :: r, k, ⟨h0, h1⟩, i + 1, o, h => by
    have := steps_of r (k + 1) h1 i o (by simpa using h)
    rw [show k + (i + 1) = k + 1 + i from by omega]
    exact this
def unB (ops : Array Oper) (k : Nat) : Bool := (List.range ops.size).all fun i => match ops[i]? with | some o => o.dst.isSome || decide (i = k) | none => true
theorem unB_spec {ops : Array Oper} {k i : Nat} {o : Oper} (h : unB ops k = true) (hi : ops[i]? = some o) (hd : o.dst = none) : i = k := by
  have hlt : i < ops.size := (Array.getElem?_eq_some_iff.1 hi).1
  have h1 := List.all_eq_true.1 h i (List.mem_range.2 hlt)
  simpa [hi, hd] using h1
theorem wp_region_rel {P : Program} {id : Nat} {l : List Oper} {a0 : Act} {w0 : World} {Q : Exit → Act → World → Prop} (I : World → Prop) (R : Nat → World → World → Prop) (F : Nat → Value → World → Prop) (hm : P.follows .mixedOrders = true) (hB : regB l.toArray a0.tmps.size = true)
    (h0 : I w0.drew) (hinv : ∀ i w w', I w → R i w w' → I w') (hkeep : ∀ i j v w w', j ≠ i → I w → R i w w' → F j v w → F j v w') (hun : ∀ (i : Nat) (o : Oper) (v : Value) (w : World), l.toArray[i]? = some o → o.dst = none → F i v w → F i undef w)
    (hstep : StepsFrom P l.toArray I R F a0 0 l)
    (hQ : ∀ a w, I w → a.tmps.size = a0.tmps.size → a.defers = a0.defers → (∀ (i : Nat) (oi : Oper) (d : Tmp), l.toArray[i]? = some oi → oi.dst = some d → F i (a.tmps.getD d undef) w) → (∀ (i : Nat) (oi : Oper), l.toArray[i]? = some oi → oi.dst = none → F i undef w) →
      (∀ x, (∀ (i : Nat) (oi : Oper) (d : Tmp), l.toArray[i]? = some oi → oi.dst = some d → x ≠ .tmp d) → a.eval x = a0.eval x) → Q .normal a w) :
    (Code.region id l.toArray true).wp P Q a0 w0 := by
  have hst : ∀ i o, l.toArray[i]? = some o → StepOK P l.toArray I R F a0 i o := fun i o h => by
    have := steps_of l 0 hstep i o (by simpa using h)
    rw [Nat.zero_add] at this
    exact this
  refine wp_region_any hm (wpAny_rel (a0 := a0) hB hinv hkeep hun hst hQ _ _ _ _ ?_ ⟨h0, rfl, rfl, by simp, ?_, ?_, fun x _ => rfl⟩)
  · exact Nat.le_trans (List.countP_le_length) (by simp)
  · intro i oi d hi _ hl
    have hlt : i < l.toArray.size := (Array.getElem?_eq_some_iff.1 hi).1
    simp at hlt
    simp [hlt] at hl
  · intro i oi hi _ hl
    have hlt : i < l.toArray.size := (Array.getElem?_eq_some_iff.1 hi).1
    simp at hlt
    simp [hlt] at hl
end Go.Proofs.YtbiodbggaeglpaaGreatDoor

/- The frame behind a region, written out. -/
namespace Go.Proofs.YtbiodbggaeglpaaGreatDoor
set_option linter.unusedVariables false
open Go.RowKit
theorem sets_all {T : Array Value} : ∀ (ds : List (Nat × Value)) (ts : Array Value), ts.size = T.size → (∀ p ∈ ds, T.getD p.1 undef = p.2) → (∀ i, i ∉ ds.map Prod.fst → ts.getD i undef = T.getD i undef) → ds.foldl (fun ts p => ts.setIfInBounds p.1 p.2) ts = T
  | [], ts, hs, _, hr => by
    refine Array.ext hs fun i h1 h2 => ?_
    have this := hr i (by simp)
    have h1' : i < ts.size := h1
    have e1 : ts.getD i undef = ts[i] := by simp [h1']
    have e2 : T.getD i undef = T[i] := by simp [h2]
    rw [e1, e2] at this
    exact this
  | p :: ds, ts, hs, hv, hr => by
    rw [List.foldl_cons]
    refine sets_all ds _ (by rw [Array.size_setIfInBounds]; exact hs) (fun q hq => hv q (List.mem_cons_of_mem _ hq)) (fun i hi => ?_)
    by_cases e : p.1 = i
    · have h1 := hv p (List.mem_cons_self ..)
      subst e
      rw [h1]
      by_cases hl : p.1 < ts.size
      · simp [hl]
      · have hl2 : ¬ p.1 < T.size := by omega
        simp only [Array.getD, Array.size_setIfInBounds, hl, hl2, dite_false] at h1 ⊢
        exact h1
    · have h2 : (ts.setIfInBounds p.1 p.2).getD i undef = ts.getD i undef := by
        simp only [Array.getD_eq_getD_getElem?, Array.getElem?_setIfInBounds_ne e]
      rw [h2]
      exact hr i (fun q => by
        rw [List.map_cons, List.mem_cons] at q
        rcases q with q | q
        · exact e q.symm
        · exact hi q)
theorem after_region {ops : Array Oper} {a a0 : Act} (ds : List (Nat × Value)) (hsz : a.tmps.size = a0.tmps.size) (hdef : a.defers = a0.defers)
    (hrest : ∀ x, (∀ (i : Nat) (oi : Oper) (d : Tmp), ops[i]? = some oi → oi.dst = some d → x ≠ .tmp d) → a.eval x = a0.eval x) (hcov : (ops.all fun o => match o.dst with | some d => ds.any (fun p => p.1 == d) | none => true) = true)
    (hds : ∀ p ∈ ds, a.tmps.getD p.1 undef = p.2) : a = ⟨ds.foldl (fun ts p => ts.setIfInBounds p.1 p.2) a0.tmps, a0.defers⟩ := by
  have key := sets_all (T := a.tmps) ds a0.tmps hsz.symm hds (fun i hi => by
    have := hrest (.tmp i) (fun j oj d hj hd e => by
      cases e
      have h1 : oj ∈ ops := Array.mem_of_getElem? hj
      have h2 := Array.all_eq_true_iff_forall_mem.1 hcov oj h1
      simp only [hd, List.any_eq_true, beq_iff_eq] at h2
      obtain ⟨p, hp, e⟩ := h2
      exact hi (List.mem_map.2 ⟨p, hp, e⟩))
    exact this.symm)
  rw [key, ← hdef]
end Go.Proofs.YtbiodbggaeglpaaGreatDoor

/- A region that draws its order and bears guards: 'live' tells which operations are wanted; what is not wanted yields nothing. -/
namespace Go.Proofs.YtbiodbggaeglpaaGreatDoor
set_option linter.unusedVariables false
open Go.RowKit

def asB : Value → Option Bool
  | .bool b => some b
  | _ => none
theorem yielded_eq {ops : Array Oper} {tmps : Array Value} {j d : Nat} {oj : Oper} (hj : ops[j]? = some oj) (hd : oj.dst = some d) (hl : d < tmps.size) : yielded ops tmps j = asB (tmps.getD d undef) := by
  unfold yielded
  rw [hj]
  simp only [Option.bind_some, hd]
  rw [Array.getElem?_eq_getElem hl]
  have : tmps.getD d undef = tmps[d] := by simp [hl]
  rw [this]
  generalize tmps[d] = v
  cases v <;> rfl
/-- What the law asks of a region's form. -/
def regBG (ops : Array Oper) (n : Nat) : Bool :=
  (List.range ops.size).all fun i => match ops[i]? with
    | some o => (match o.guard with | none => true | some (j, _) => (match ops[j]? with | some oj => oj.dst.isSome && o.after.any (fun e => Region.binds .any e && decide (e.on = j)) | none => false)) &&
        (match o.dst with | some d => decide (d < n) && (List.range ops.size).all fun j => decide (j = i) || (match ops[j]? with | some oj => oj.dst != some d | none => true) | none => true) &&
        o.after.all fun e => !Region.binds .any e || decide (e.on < i)
    | none => false
theorem regBG_spec {ops : Array Oper} {n : Nat} (h : regBG ops n = true) {i : Nat} {o : Oper} (hi : ops[i]? = some o) :
    (∀ j want, o.guard = some (j, want) → ∃ oj dj, ops[j]? = some oj ∧ oj.dst = some dj ∧ ∃ e ∈ o.after, Region.binds .any e = true ∧ e.on = j) ∧ (∀ d, o.dst = some d → d < n ∧ ∀ (j : Nat) (oj : Oper), j ≠ i → ops[j]? = some oj → oj.dst ≠ some d) ∧ ∀ e ∈ o.after, Region.binds .any e = true → e.on < i := by
  unfold regBG at h
  have hlt : i < ops.size := (Array.getElem?_eq_some_iff.1 hi).1
  have h1 := List.all_eq_true.1 h i (List.mem_range.2 hlt)
  simp only [hi, Bool.and_eq_true] at h1
  obtain ⟨⟨hg, hd⟩, ha⟩ := h1
  refine ⟨?_, ?_, fun e he hb => ?_⟩
  · intro j want hgd
    simp only [hgd] at hg
    cases hoj : ops[j]? with
    | none => simp [hoj] at hg
    | some oj =>
      simp only [hoj, Bool.and_eq_true] at hg
      obtain ⟨h3, h4⟩ := hg
      obtain ⟨dj, hdj⟩ := Option.isSome_iff_exists.1 h3
      obtain ⟨k, hk, hb⟩ := Array.any_eq_true.1 h4
      simp only [Bool.and_eq_true, decide_eq_true_eq] at hb
      exact ⟨oj, dj, rfl, hdj, o.after[k], Array.getElem_mem hk, hb.1, hb.2⟩
  · intro d hdst
    simp only [hdst, Bool.and_eq_true, decide_eq_true_eq] at hd
    refine ⟨hd.1, fun j oj hj hoj e => ?_⟩
    have hjl : j < ops.size := (Array.getElem?_eq_some_iff.1 hoj).1
    have h2 := List.all_eq_true.1 hd.2 j (List.mem_range.2 hjl)
    simp [hoj, hj, e] at h2
  · have h2 := Array.all_eq_true_iff_forall_mem.1 ha e he
    simpa [hb] using h2
theorem ready_nilG {ops : Array Oper} {n : Nat} (hB : regBG ops n = true) {listed : Array Bool} (hl : listed.size = ops.size) (h : Region.ready .any ops listed = []) : ∀ i, i < ops.size → listed.getD i true = true := by
  intro i
  induction i using Nat.strongRecOn with
  | ind i ih =>
    intro hi
    by_cases hc : listed.getD i true = true
    · exact hc
    · exfalso
      simp only [Bool.not_eq_true] at hc
      have hmem : i ∈ Region.ready .any ops listed := mem_ready.2 ⟨hc, ops[i], Array.getElem?_eq_getElem hi, fun e he hb => by
        have hlt := (regBG_spec hB (Array.getElem?_eq_getElem hi)).2.2 e he hb
        have := ih e.on hlt (by omega)
        have hel : e.on < listed.size := by omega
        simp only [Array.getD, hel, dif_pos] at this ⊢
        exact this⟩
      rw [h] at hmem
      cases hmem
/-- A guard is met just where the operation is live. -/
def GuardOK (ops : Array Oper) (I : World → Prop) (F : Nat → Value → World → Prop) (live : Nat → Bool) : Prop :=
  ∀ (i : Nat) (o : Oper), ops[i]? = some o → (o.guard = none → live i = true) ∧ ∀ j want, o.guard = some (j, want) → ∀ v w, I w → F j v w → (asB v == some want) = live i
theorem wpAny_relG {P : Program} {ops : Array Oper} {I : World → Prop} {R : Nat → World → World → Prop} {F : Nat → Value → World → Prop} {live : Nat → Bool} {a0 : Act} {Q : Exit → Act → World → Prop} (hB : regBG ops a0.tmps.size = true) (hG : GuardOK ops I F live) (hdead : ∀ i w, live i = false → I w → F i undef w)
    (hinv : ∀ i w w', I w → R i w w' → I w') (hkeep : ∀ i j v w w', j ≠ i → I w → R i w w' → F j v w → F j v w') (hun : ∀ (i : Nat) (o : Oper) (v : Value) (w : World), ops[i]? = some o → o.dst = none → F i v w → F i undef w) (hstep : ∀ i o, ops[i]? = some o → live i = true → StepOK P ops I R F a0 i o)
    (hQ : ∀ a w, I w → a.tmps.size = a0.tmps.size → a.defers = a0.defers → (∀ (i : Nat) (oi : Oper) (d : Tmp), ops[i]? = some oi → oi.dst = some d → F i (a.tmps.getD d undef) w) → (∀ (i : Nat) (oi : Oper), ops[i]? = some oi → oi.dst = none → F i undef w) →
      (∀ x, (∀ (i : Nat) (oi : Oper) (d : Tmp), ops[i]? = some oi → oi.dst = some d → x ≠ .tmp d) → a.eval x = a0.eval x) → Q .normal a w) :
    ∀ (fuel : Nat) (listed : Array Bool) (a : Act) (w : World), left ops listed ≤ fuel → RInv ops I F a0 listed a w → wpAny P .any ops Q fuel listed a w := by
  have fin : ∀ (listed : Array Bool) (a : Act) (w : World), RInv ops I F a0 listed a w → Region.ready .any ops listed = [] → Q .normal a w := by
    intro listed a w hI hr
    have key : ∀ i, i < ops.size → listed.getD i false = true := by
      intro i hlt
      have := ready_nilG hB hI.lsize hr i hlt
      have hl := hI.lsize
      have hel : i < listed.size := by omega
      simp only [Array.getD, hel, dif_pos] at this ⊢
      exact this
    exact hQ a w hI.inv hI.size hI.defers (fun i oi d hi hd => hI.done i oi d hi hd (key i (Array.getElem?_eq_some_iff.1 hi).1)) (fun i oi hi hd => hI.doneN i oi hi hd (key i (Array.getElem?_eq_some_iff.1 hi).1)) hI.rest
  intro fuel
  induction fuel with
  | zero =>
    intro listed a w hf hI
    have hnil : Region.ready .any ops listed = [] := by
      cases hr : Region.ready .any ops listed with
      | nil => rfl
      | cons i r =>
        exfalso
        have hi : i ∈ Region.ready .any ops listed := by rw [hr]; exact List.mem_cons_self ..
        obtain ⟨h0, o, ho, _⟩ := mem_ready.1 hi
        have hlt : i < ops.size := (Array.getElem?_eq_some_iff.1 ho).1
        have : 0 < left ops listed := List.countP_pos_iff.2 ⟨i, List.mem_range.2 hlt, by simp [h0]⟩
        omega
    exact ⟨hnil, fin listed a w hI hnil⟩
  | succ fuel ih =>
    intro listed a w hf hI
    refine ⟨fin listed a w hI, fun i hi => ?_⟩
    obtain ⟨h0, o, ho, hdep⟩ := mem_ready.1 hi
    have hlt : i < ops.size := (Array.getElem?_eq_some_iff.1 ho).1
    obtain ⟨hg, hdst, _⟩ := regBG_spec hB ho
    have hll : i < listed.size := by rw [hI.lsize]; exact hlt
    have hcount : left ops (listed.setIfInBounds i true) ≤ fuel := by
      have : left ops (listed.setIfInBounds i true) < left ops listed := by
        refine countP_lt (fun x hx hp => ?_) i (List.mem_range.2 hlt) ?_ (by simp [h0])
        · by_cases hxi : i = x
          · subst hxi; simp [hll] at hp
          · rw [getD_set_ne true hxi] at hp; exact hp
        · simp [hll]
      omega
    have next : ∀ v w', (R i w w' ∨ w' = w) → F i v w' → wpAny P .any ops Q fuel (listed.setIfInBounds i true) (a.put o.dst v) w' := by
      intro v w' hb hF
      have hI' : I w' := by
        rcases hb with hb | rfl
        · exact hinv i w w' hI.inv hb
        · exact hI.inv
      have hk : ∀ j x, j ≠ i → F j x w → F j x w' := fun j x hji hF' => by
        rcases hb with hb | rfl
        · exact hkeep i j _ _ _ hji hI.inv hb hF'
        · exact hF'
      refine ih _ _ _ hcount ⟨hI', ?_, ?_, ?_, ?_, ?_, ?_⟩
      · cases hd : o.dst <;> simp [Act.put, hI.size]
      · cases hd : o.dst <;> exact hI.defers
      · rw [Array.size_setIfInBounds]; exact hI.lsize
      · intro j oj dj hj hdj hlj
        by_cases hji : j = i
        · subst hji
          rw [ho] at hj
          obtain rfl := Option.some.inj hj
          have hdl : dj < a.tmps.size := by rw [hI.size]; exact (hdst dj hdj).1
          rw [hdj]
          simpa [Act.put, hdl] using hF
        · rw [getD_set_ne false (Ne.symm hji)] at hlj
          have h1 := hk j _ hji (hI.done j oj dj hj hdj hlj)
          cases hd : o.dst with
          | none => exact h1
          | some d =>
            have hne : d ≠ dj := fun e => (hdst d hd).2 j oj hji hj (by rw [hdj, e])
            simpa [Act.put, Array.getElem?_setIfInBounds_ne hne] using h1
      · intro j oj hj hdj hlj
        by_cases hji : j = i
        · subst hji
          rw [ho] at hj
          obtain rfl := Option.some.inj hj
          exact hun _ _ v _ ho hdj hF
        · rw [getD_set_ne false (Ne.symm hji)] at hlj
          exact hk j _ hji (hI.doneN j oj hj hdj hlj)
      · intro x hx
        have hxd : ∀ d', o.dst = some d' → x ≠ .tmp d' := fun d' hd' => hx i o d' ho hd'
        rw [Act.eval_put hxd]
        exact hI.rest x hx
    unfold wpOp
    rw [ho]
    simp only []
    have hw : Region.wanted o (yielded ops a.tmps) = live i := by
      unfold Region.wanted
      cases hgd : o.guard with
      | none => exact ((hG i o ho).1 hgd).symm
      | some p =>
        obtain ⟨j, want⟩ := p
        obtain ⟨oj, dj, hoj, hdj, e, he, hb, hon⟩ := hg j want hgd
        have hl := hdep e he hb
        rw [hon] at hl
        have hdl : dj < a.tmps.size := by rw [hI.size]; exact ((regBG_spec hB hoj).2.1 dj hdj).1
        simp only
        rw [yielded_eq hoj hdj hdl]
        exact (hG i o ho).2 j want hgd _ w hI.inv (hI.done j oj dj hoj hdj hl)
    rw [hw]
    cases hlv : live i with
    | false =>
      rw [if_neg (by decide)]
      exact next undef w (.inr rfl) (hdead i w hlv hI.inv)
    | true =>
      rw [if_pos rfl]
      refine .inl ?_
      have hgood := hstep i o ho hlv a.eval w hI.inv hI.rest (fun e he hb oj dj hoj hdj => hI.done e.on oj dj hoj hdj (hdep e he hb))
      unfold Oper.wp
      generalize (execOp a.eval o).run P w = r at hgood
      cases r with
      | ok n w' =>
        cases n <;> simp only [Good] at hgood
        case value v => exact next v w' (.inl hgood.1) hgood.2
        case skip => exact next undef w' (.inl hgood.1) hgood.2
        case enter f args =>
          obtain ⟨rfl, hc⟩ := hgood
          exact hc.mono fun e w'' ⟨v, he, hb, hF⟩ => by subst he; exact next v w'' (.inl hb) hF
      | halt x w' => simp only [Good] at hgood
def StepsFromG (P : Program) (ops : Array Oper) (I : World → Prop) (R : Nat → World → World → Prop) (F : Nat → Value → World → Prop) (live : Nat → Bool) (a0 : Act) : Nat → List Oper → Prop
  | _, [] => True
  | k, o :: r => (live k = true → StepOK P ops I R F a0 k o) ∧ StepsFromG P ops I R F live a0 (k + 1) r
theorem steps_ofG {P : Program} {ops : Array Oper} {I : World → Prop} {R : Nat → World → World → Prop} {F : Nat → Value → World → Prop} {live : Nat → Bool} {a0 : Act} : ∀ (l : List Oper) (k : Nat), StepsFromG P ops I R F live a0 k l → ∀ i o, l[i]? = some o → live (k + i) = true → StepOK P ops I R F a0 (k + i) o
  | [], _, _, i, o, h => by simp at h
  | x :: r, k, ⟨h0, h1⟩, 0, o, h => by
    have : x = o := by simpa using h
    subst this
    exact h0
  | x :: r, k, ⟨h0, h1⟩, i + 1, o, h => by
    have := steps_ofG r (k + 1) h1 i o (by simpa using h)
    rw [show k + (i + 1) = k + 1 + i from by omega]
    exact this
theorem wp_region_relG {P : Program} {id : Nat} {l : List Oper} {a0 : Act} {w0 : World} {Q : Exit → Act → World → Prop} (I : World → Prop) (R : Nat → World → World → Prop) (F : Nat → Value → World → Prop) (live : Nat → Bool) (hm : P.follows .mixedOrders = true) (hB : regBG l.toArray a0.tmps.size = true) (hG : GuardOK l.toArray I F live) (hdead : ∀ i w, live i = false → I w → F i undef w)
    (h0 : I w0.drew) (hinv : ∀ i w w', I w → R i w w' → I w') (hkeep : ∀ i j v w w', j ≠ i → I w → R i w w' → F j v w → F j v w') (hun : ∀ (i : Nat) (o : Oper) (v : Value) (w : World), l.toArray[i]? = some o → o.dst = none → F i v w → F i undef w)
    (hstep : StepsFromG P l.toArray I R F live a0 0 l)
    (hQ : ∀ a w, I w → a.tmps.size = a0.tmps.size → a.defers = a0.defers → (∀ (i : Nat) (oi : Oper) (d : Tmp), l.toArray[i]? = some oi → oi.dst = some d → F i (a.tmps.getD d undef) w) → (∀ (i : Nat) (oi : Oper), l.toArray[i]? = some oi → oi.dst = none → F i undef w) →
      (∀ x, (∀ (i : Nat) (oi : Oper) (d : Tmp), l.toArray[i]? = some oi → oi.dst = some d → x ≠ .tmp d) → a.eval x = a0.eval x) → Q .normal a w) :
    (Code.region id l.toArray true).wp P Q a0 w0 := by
  have hst : ∀ i o, l.toArray[i]? = some o → live i = true → StepOK P l.toArray I R F a0 i o := fun i o h hl => by
    have := steps_ofG l 0 hstep i o (by simpa using h)
    rw [Nat.zero_add] at this
    exact this hl
  refine wp_region_any hm (wpAny_relG (a0 := a0) hB hG hdead hinv hkeep hun hst hQ _ _ _ _ ?_ ⟨h0, rfl, rfl, by simp, ?_, ?_, fun x _ => rfl⟩)
  · exact Nat.le_trans (List.countP_le_length) (by simp)
  · intro i oi d hi _ hl
    have hlt : i < l.toArray.size := (Array.getElem?_eq_some_iff.1 hi).1
    simp at hlt
    simp [hlt] at hl
  · intro i oi hi _ hl
    have hlt : i < l.toArray.size := (Array.getElem?_eq_some_iff.1 hi).1
    simp at hlt
    simp [hlt] at hl
/-- Where each operation yields a value that is told ahead: the guards by computation. -/
def guardB (ops : Array Oper) (vals : List Value) (live : Nat → Bool) : Bool :=
  (List.range ops.size).all fun i => match ops[i]? with
    | some o => (match o.guard with | none => live i | some (j, want) => (match vals[j]? with | some v => (asB v == some want) == live i | none => false))
    | none => true
theorem guard_vals {ops : Array Oper} {I : World → Prop} {vals : List Value} {live : Nat → Bool} {F : Nat → Value → World → Prop} (hF : ∀ k v w, F k v w → ∀ u, vals[k]? = some u → v = u) (h : guardB ops vals live = true) : GuardOK ops I F live := by
  intro i o hi
  have hlt : i < ops.size := (Array.getElem?_eq_some_iff.1 hi).1
  have h1 := List.all_eq_true.1 h i (List.mem_range.2 hlt)
  simp only [hi] at h1
  constructor
  · intro hg
    simp only [hg] at h1
    exact h1
  · intro j want hg v w _ hv
    simp only [hg] at h1
    cases hj : vals[j]? with
    | none => rw [hj] at h1; cases h1
    | some u =>
      rw [hj] at h1
      rw [hF j v w hv u hj]
      exact beq_iff_eq.1 h1
end Go.Proofs.YtbiodbggaeglpaaGreatDoor

/- A region that draws its order, and whose last operation comes behind all others in every order: the others by what each yields, the last one by the walk. -/
namespace Go.Proofs.YtbiodbggaeglpaaGreatDoor
set_option linter.unusedVariables false
open Go.RowKit

def lastB (ops : Array Oper) (n : Nat) : Bool :=
  decide (ops.size = n + 1) && (match ops[n]? with
    | some o => o.guard.isNone && (List.range n).all fun i => o.after.any fun e => Region.binds .any e && e.on == i
    | none => false) && (List.range n).all fun i => match ops[i]? with | some o => o.dst.isSome | none => false
theorem lastB_spec {ops : Array Oper} {n : Nat} (h : lastB ops n = true) : ops.size = n + 1 ∧ (∃ o, ops[n]? = some o ∧ o.guard = none ∧ ∀ i, i < n → ∃ e ∈ o.after, Region.binds .any e = true ∧ e.on = i) ∧ ∀ (i : Nat) (o : Oper), i < n → ops[i]? = some o → o.dst ≠ none := by
  unfold lastB at h
  simp only [Bool.and_eq_true, decide_eq_true_eq] at h
  obtain ⟨⟨h1, h2⟩, h3⟩ := h
  refine ⟨h1, ?_, fun i o hi ho => ?_⟩
  · cases ho : ops[n]? with
    | none => rw [ho] at h2; cases h2
    | some o =>
      rw [ho] at h2
      simp only [Bool.and_eq_true, Option.isNone_iff_eq_none] at h2
      refine ⟨o, rfl, h2.1, fun i hi => ?_⟩
      have h4 := List.all_eq_true.1 h2.2 i (List.mem_range.2 hi)
      obtain ⟨k, hk, hb⟩ := Array.any_eq_true.1 h4
      simp only [Bool.and_eq_true, beq_iff_eq] at hb
      exact ⟨o.after[k], Array.getElem_mem hk, hb.1, hb.2⟩
  · have h4 := List.all_eq_true.1 h3 i (List.mem_range.2 hi)
    rw [ho] at h4
    intro e
    simp [e] at h4
structure LInv (ops : Array Oper) (n : Nat) (I : World → Prop) (F : Nat → Value → World → Prop) (a0 : Act) (listed : Array Bool) (a : Act) (w : World) : Prop where
  inv : I w
  size : a.tmps.size = a0.tmps.size
  defers : a.defers = a0.defers
  lsize : listed.size = ops.size
  last : listed.getD n true = false
  done : ∀ (i : Nat) (oi : Oper) (d : Tmp), i < n → ops[i]? = some oi → oi.dst = some d → listed.getD i false = true → F i (a.tmps.getD d undef) w
  rest : ∀ x, (∀ (i : Nat) (oi : Oper) (d : Tmp), i < n → ops[i]? = some oi → oi.dst = some d → x ≠ .tmp d) → a.eval x = a0.eval x
def StepOL (P : Program) (ops : Array Oper) (n : Nat) (I : World → Prop) (R : Nat → World → World → Prop) (F : Nat → Value → World → Prop) (a0 : Act) (i : Nat) (o : Oper) : Prop :=
  ∀ (ρ : Operand → Value) (w : World), I w → (∀ x, (∀ (i : Nat) (oi : Oper) (d : Tmp), i < n → ops[i]? = some oi → oi.dst = some d → x ≠ .tmp d) → ρ x = a0.eval x) → DepsOK ops F ρ w o → Good P (R i) (F i) w ((execOp ρ o).run P w)
def StepsL (P : Program) (ops : Array Oper) (n : Nat) (I : World → Prop) (R : Nat → World → World → Prop) (F : Nat → Value → World → Prop) (a0 : Act) : Nat → List Oper → Prop
  | _, [] => True
  | k, o :: r => StepOL P ops n I R F a0 k o ∧ StepsL P ops n I R F a0 (k + 1) r
theorem stepsL_of {P : Program} {ops : Array Oper} {n : Nat} {I : World → Prop} {R : Nat → World → World → Prop} {F : Nat → Value → World → Prop} {a0 : Act} : ∀ (l : List Oper) (k : Nat), StepsL P ops n I R F a0 k l → ∀ i o, l[i]? = some o → StepOL P ops n I R F a0 (k + i) o
  | [], _, _, i, o, h => by simp at h
  | x :: r, k, ⟨h0, h1⟩, 0, o, h => by
    have : x = o := by simpa using h
    subst this
    exact h0
  | x :: r, k, ⟨h0, h1⟩, i + 1, o, h => by
    have := stepsL_of r (k + 1) h1 i o (by simpa using h)
    rw [show k + (i + 1) = k + 1 + i from by omega]
    exact this
theorem wpAny_last {P : Program} {ops : Array Oper} {n : Nat} {I : World → Prop} {R : Nat → World → World → Prop} {F : Nat → Value → World → Prop} {a0 : Act} {Q : Exit → Act → World → Prop} (hB : regB ops a0.tmps.size = true) (hL : lastB ops n = true)
    (hinv : ∀ i w w', I w → R i w w' → I w') (hkeep : ∀ i j v w w', j ≠ i → I w → R i w w' → F j v w → F j v w') (hstep : ∀ i o, i < n → ops[i]? = some o → StepOL P ops n I R F a0 i o)
    (hQ : ∀ a w, I w → a.tmps.size = a0.tmps.size → a.defers = a0.defers → (∀ (i : Nat) (oi : Oper) (d : Tmp), i < n → ops[i]? = some oi → oi.dst = some d → F i (a.tmps.getD d undef) w) →
      (∀ x, (∀ (i : Nat) (oi : Oper) (d : Tmp), i < n → ops[i]? = some oi → oi.dst = some d → x ≠ .tmp d) → a.eval x = a0.eval x) → ∀ o, ops[n]? = some o → wpList P ops Q [o] a w) :
    ∀ (fuel : Nat) (listed : Array Bool) (a : Act) (w : World), left ops listed ≤ fuel → LInv ops n I F a0 listed a w → wpAny P .any ops Q fuel listed a w := by
  obtain ⟨hsz, ⟨ol, hol, hgl, hafter⟩, hsome⟩ := lastB_spec hL
  have notnil : ∀ (listed : Array Bool) (a : Act) (w : World), LInv ops n I F a0 listed a w → Region.ready .any ops listed = [] → False := by
    intro listed a w hI hr
    have h1 := ready_nil hB hI.lsize hr n (by omega)
    rw [hI.last] at h1
    cases h1
  intro fuel
  induction fuel with
  | zero =>
    intro listed a w hf hI
    exfalso
    have : 0 < left ops listed := List.countP_pos_iff.2 ⟨n, List.mem_range.2 (by omega), by simp [hI.last]⟩
    omega
  | succ fuel ih =>
    intro listed a w hf hI
    refine ⟨fun hr => (notnil listed a w hI hr).elim, fun i hi => ?_⟩
    obtain ⟨h0, o, ho, hdep⟩ := mem_ready.1 hi
    have hlt : i < ops.size := (Array.getElem?_eq_some_iff.1 ho).1
    obtain ⟨hg, hdst, _⟩ := regB_spec hB ho
    have hll : i < listed.size := by rw [hI.lsize]; exact hlt
    by_cases hin : i = n
    · subst hin
      rw [hol] at ho
      obtain rfl := Option.some.inj ho
      have hall : ∀ j, j < i → listed.getD j false = true := fun j hj => by
        obtain ⟨e, he, hb, rfl⟩ := hafter j hj
        exact hdep e he hb
      have hw := hQ a w hI.inv hI.size hI.defers (fun j oj d hj hoj hd => hI.done j oj d hj hoj hd (hall j hj)) hI.rest ol hol
      have hnil : Region.ready .any ops (listed.setIfInBounds i true) = [] := by
        refine List.eq_nil_iff_forall_not_mem.2 fun j hj => ?_
        obtain ⟨j0, oj, hoj, _⟩ := mem_ready.1 hj
        have hjl : j < ops.size := (Array.getElem?_eq_some_iff.1 hoj).1
        by_cases hji : j = i
        · subst hji
          simp [hll] at j0
        · rw [getD_set_ne true (Ne.symm hji)] at j0
          have h1 := hall j (by omega)
          have hjl2 : j < listed.size := by rw [hI.lsize]; exact hjl
          simp only [Array.getD, hjl2, dif_pos] at h1 j0
          rw [j0] at h1
          cases h1
      unfold wpOp
      rw [hol]
      simp only []
      unfold wpList at hw
      have hwant : Region.wanted ol (yielded ops a.tmps) = true := by unfold Region.wanted; rw [hg]
      rw [if_pos hwant] at hw ⊢
      exact hw.imp (Oper.wp_mono fun a' w' hq => wpAny_done hnil hq _) id
    · have hilt : i < n := by omega
      have hcount : left ops (listed.setIfInBounds i true) ≤ fuel := by
        have : left ops (listed.setIfInBounds i true) < left ops listed := by
          refine countP_lt (fun x hx hp => ?_) i (List.mem_range.2 hlt) ?_ (by simp [h0])
          · by_cases hxi : i = x
            · subst hxi; simp [hll] at hp
            · rw [getD_set_ne true hxi] at hp; exact hp
          · simp [hll]
        omega
      obtain ⟨d, hd⟩ : ∃ d, o.dst = some d := Option.ne_none_iff_exists'.1 (hsome i o hilt ho)
      have next : ∀ v w', R i w w' → F i v w' → wpAny P .any ops Q fuel (listed.setIfInBounds i true) (a.put o.dst v) w' := by
        intro v w' hb hF
        refine ih _ _ _ hcount ⟨hinv i w w' hI.inv hb, ?_, ?_, ?_, ?_, ?_, ?_⟩
        · rw [hd]; simp [Act.put, hI.size]
        · rw [hd]; exact hI.defers
        · rw [Array.size_setIfInBounds]; exact hI.lsize
        · rw [getD_set_ne true hin]; exact hI.last
        · intro j oj dj hjn hj hdj hlj
          by_cases hji : j = i
          · subst hji
            rw [ho] at hj
            obtain rfl := Option.some.inj hj
            have hdl : dj < a.tmps.size := by rw [hI.size]; exact (hdst dj hdj).1
            rw [hdj]
            simpa [Act.put, hdl] using hF
          · rw [getD_set_ne false (Ne.symm hji)] at hlj
            have h1 := hkeep i j _ _ _ hji hI.inv hb (hI.done j oj dj hjn hj hdj hlj)
            have hne : d ≠ dj := fun e => (hdst d hd).2 j oj hji hj (by rw [hdj, e])
            rw [hd]
            simpa [Act.put, Array.getElem?_setIfInBounds_ne hne] using h1
        · intro x hx
          have hxd : ∀ d', o.dst = some d' → x ≠ .tmp d' := fun d' hd' => hx i o d' hilt ho hd'
          rw [Act.eval_put hxd]
          exact hI.rest x hx
      unfold wpOp
      rw [ho]
      simp only []
      have hw : Region.wanted o (yielded ops a.tmps) = true := by unfold Region.wanted; rw [hg]
      rw [if_pos hw]
      refine .inl ?_
      have hgood := hstep i o hilt ho a.eval w hI.inv hI.rest (fun e he hb oj dj hoj hdj => by
        have hlt2 := (regB_spec hB ho).2.2 e he hb
        exact hI.done e.on oj dj (by omega) hoj hdj (hdep e he hb))
      unfold Oper.wp
      generalize (execOp a.eval o).run P w = r at hgood
      cases r with
      | ok nx w' =>
        cases nx <;> simp only [Good] at hgood
        case value v => exact next v w' hgood.1 hgood.2
        case skip => exact next undef w' hgood.1 hgood.2
        case enter f args =>
          obtain ⟨rfl, hc⟩ := hgood
          exact hc.mono fun e w'' ⟨v, he, hb, hF⟩ => by subst he; exact next v w'' hb hF
      | halt x w' => simp only [Good] at hgood
theorem base_tmpL {ops : Array Oper} {n : Nat} {t : Tmp} (hB : (ops.all fun o => o.dst != some t) = true) : ∀ (i : Nat) (oi : Oper) (d : Tmp), i < n → ops[i]? = some oi → oi.dst = some d → Operand.tmp t ≠ .tmp d := fun i oi d _ hi hd => base_tmp hB i oi d hi hd
theorem wp_region_last {P : Program} {id : Nat} {l : List Oper} {o : Oper} {a0 : Act} {w0 : World} {Q : Exit → Act → World → Prop} (I : World → Prop) (R : Nat → World → World → Prop) (F : Nat → Value → World → Prop) (n : Nat) (hn : l.length = n + 1) (hm : P.follows .mixedOrders = true) (hB : regB l.toArray a0.tmps.size = true) (hL : lastB l.toArray n = true)
    (h0 : I w0.drew) (hinv : ∀ i w w', I w → R i w w' → I w') (hkeep : ∀ i j v w w', j ≠ i → I w → R i w w' → F j v w → F j v w')
    (hstep : StepsL P l.toArray n I R F a0 0 (l.take n)) (hol : l[n]? = some o)
    (hQ : ∀ a w, I w → a.tmps.size = a0.tmps.size → a.defers = a0.defers → (∀ (i : Nat) (oi : Oper) (d : Tmp), i < n → l.toArray[i]? = some oi → oi.dst = some d → F i (a.tmps.getD d undef) w) →
      (∀ x, (∀ (i : Nat) (oi : Oper) (d : Tmp), i < n → l.toArray[i]? = some oi → oi.dst = some d → x ≠ .tmp d) → a.eval x = a0.eval x) → wpList P l.toArray Q [o] a w) :
    (Code.region id l.toArray true).wp P Q a0 w0 := by
  have hst : ∀ i o, i < n → l.toArray[i]? = some o → StepOL P l.toArray n I R F a0 i o := fun i o hi h => by
    have := stepsL_of (l.take n) 0 hstep i o (by rw [List.getElem?_take]; rw [if_pos hi]; simpa using h)
    rw [Nat.zero_add] at this
    exact this
  refine wp_region_any hm (wpAny_last (a0 := a0) hB hL hinv hkeep hst (fun a w h1 h2 h3 h4 h5 o' ho' => ?_) _ _ _ _ ?_ ⟨h0, rfl, rfl, by simp, ?_, ?_, fun x _ => rfl⟩)
  · have : some o' = some o := by rw [← ho', ← hol]; simp
    rw [Option.some.inj this]
    exact hQ a w h1 h2 h3 h4 h5
  · exact Nat.le_trans (List.countP_le_length) (by simp)
  · simp [hn]
  · intro i oi d hin hi _ hl
    have hlt : i < l.toArray.size := (Array.getElem?_eq_some_iff.1 hi).1
    simp at hlt
    simp [hlt] at hl
theorem after_last {ops : Array Oper} {n : Nat} {a a0 : Act} (ds : List (Nat × Value)) (hsz : a.tmps.size = a0.tmps.size) (hdef : a.defers = a0.defers)
    (hrest : ∀ x, (∀ (i : Nat) (oi : Oper) (d : Tmp), i < n → ops[i]? = some oi → oi.dst = some d → x ≠ .tmp d) → a.eval x = a0.eval x) (hcov : (ops.all fun o => match o.dst with | some d => ds.any (fun p => p.1 == d) | none => true) = true)
    (hds : ∀ p ∈ ds, a.tmps.getD p.1 undef = p.2) : a = ⟨ds.foldl (fun ts p => ts.setIfInBounds p.1 p.2) a0.tmps, a0.defers⟩ :=
  after_region ds hsz hdef (fun x hx => hrest x fun i oi d _ h1 h2 => hx i oi d h1 h2) hcov hds
end Go.Proofs.YtbiodbggaeglpaaGreatDoor

/- Slices that are read, rows that are filled: lists of elements as rows of cells. -/
namespace Go.Proofs.YtbiodbggaeglpaaGreatDoor
open Go.RowKit

/-- The cells xs can be read from the address on. -/
def Rd (w : World) (a : Option Addr) (xs : List Value) : Prop :=
  ∀ j v, xs[j]? = some v → ∃ b off, a = some ⟨b, off, none⟩ ∧ b < w.heap.size ∧ w.cell? ⟨b, off + j, none⟩ = some v
theorem Rd.below {w w' : World} {a : Option Addr} {xs : List Value} (h : Rd w a xs) (hb : Below w.heap.size w w') : Rd w' a xs := by
  intro j v hv
  obtain ⟨b, off, ha, hlt, hc⟩ := h j v hv
  exact ⟨b, off, ha, Nat.lt_of_lt_of_le hlt hb.size, (hb.cell (p := ⟨b, off + j, none⟩) hlt).trans hc⟩
theorem Rd.nil (w : World) (a : Option Addr) : Rd w a [] := by intro j v hv; simp at hv
theorem RowAt.rd {w : World} {g : Nat} {xs : List Value} (h : RowAt w g xs) : Rd w (some ⟨g, 0, none⟩) xs := fun j v hv => ⟨g, 0, rfl, h.lt, by rw [Nat.zero_add]; exact h.cell j v hv⟩
theorem Rd.alloc {w : World} {a : Option Addr} {xs : List Value} (h : Rd w a xs) (o : Obj) : Rd (w.alloc o) a xs := h.below (below_alloc (Below.refl _ _) o)
theorem Rd.drew {w : World} {a : Option Addr} {xs : List Value} (h : Rd w a xs) : Rd w.drew a xs := h
/-- A part of it. -/
theorem Rd.take {w : World} {a : Option Addr} {xs : List Value} (h : Rd w a xs) (n : Nat) : Rd w a (xs.take n) := by
  intro j v hv
  rw [List.getElem?_take] at hv
  split at hv
  · exact h j v hv
  · cases hv

/-- Elements as cells: each of k cells. -/
def cellsOf {α : Type} (enc : α → List Value) (l : List α) : List Value := l.flatMap enc
theorem cellsOf_len {α : Type} {enc : α → List Value} {k : Nat} (hk : ∀ x, (enc x).length = k) (l : List α) : (cellsOf enc l).length = l.length * k := by
  induction l with
  | nil => simp [cellsOf]
  | cons x l ih => simp only [cellsOf, List.flatMap_cons, List.length_append, List.length_cons] at ih ⊢; rw [ih, hk, Nat.succ_mul]; omega
theorem cellsOf_append {α : Type} (enc : α → List Value) (l m : List α) : cellsOf enc (l ++ m) = cellsOf enc l ++ cellsOf enc m := by simp [cellsOf]
theorem cellsOf_at {α : Type} {enc : α → List Value} {k : Nat} (hk : ∀ x, (enc x).length = k) (l : List α) (i : Nat) (hi : i < l.length) (j : Nat) (hj : j < k) :
    (cellsOf enc l)[i * k + j]? = (enc l[i])[j]? := by
  induction l generalizing i with
  | nil => simp at hi
  | cons x l ih =>
    have e : cellsOf enc (x :: l) = enc x ++ cellsOf enc l := rfl
    rw [e]
    cases i with
    | zero => rw [Nat.zero_mul, Nat.zero_add, List.getElem?_append_left (by rw [hk]; exact hj)]; rfl
    | succ i =>
      have hm : (i + 1) * k + j = k + (i * k + j) := by rw [Nat.succ_mul]; omega
      rw [hm, List.getElem?_append_right (by rw [hk]; omega), hk, show k + (i * k + j) - k = i * k + j from by omega]
      exact ih i (by simpa using hi)
theorem cellsOf_take {α : Type} {enc : α → List Value} (l : List α) (i : Nat) (hi : i < l.length) : cellsOf enc (l.take (i + 1)) = cellsOf enc (l.take i) ++ enc l[i] := by
  rw [List.take_succ_eq_append_getElem hi, cellsOf_append]; simp [cellsOf]

/-- One cell behind A is set. -/
theorem RowAt.put1 {w : World} {g p : Nat} {A D : List Value} (h : RowAt w g (A ++ D)) (hA : A.length = p) (hD : 1 ≤ D.length) (x : Value) :
    RowAt (w.setCell ⟨g, p, none⟩ x) g (A ++ [x] ++ D.drop 1) := by
  have := h.set p x
  subst hA
  match D, hD with
  | d :: D, _ =>
    rw [List.set_append_right _ _ (Nat.le_refl _), Nat.sub_self] at this
    simpa using this
theorem RowAt.put2 {w : World} {g p : Nat} {A D : List Value} (h : RowAt w g (A ++ D)) (hA : A.length = p) (hD : 2 ≤ D.length) (x y : Value) :
    RowAt ((w.setCell ⟨g, p, none⟩ x).setCell ⟨g, p + 1, none⟩ y) g (A ++ [x, y] ++ D.drop 2) := by
  have h1 := h.put1 hA (by omega) x
  have h2 := h1.put1 (p := p + 1) (by simp [hA]) (by simp; omega) y
  simpa using h2
theorem RowAt.put3 {w : World} {g p : Nat} {A D : List Value} (h : RowAt w g (A ++ D)) (hA : A.length = p) (hD : 3 ≤ D.length) (x y z : Value) :
    RowAt (((w.setCell ⟨g, p, none⟩ x).setCell ⟨g, p + 1, none⟩ y).setCell ⟨g, p + 2, none⟩ z) g (A ++ [x, y, z] ++ D.drop 3) := by
  have h1 := h.put2 hA (by omega) x y
  have h2 := h1.put1 (p := p + 2) (by simp [hA]) (by simp; omega) z
  simpa using h2
/-- 'make([]T, n)'. -/
theorem make_there (w : World) (t e : TypeId) {z : Value} {size bytes : Nat} (ht : Tryz.prog.underlying t = some (.slice e)) (hinfo : (Tryz.prog.info? e).map (fun i => (i.zero, i.size, i.bytes)) = some (some z, size, bytes))
    (n : Nat) (hb : bytes * n ≤ 281474976710656) (h63 : n ≤ maxLen) :
    ∃ W D, (Instr.makeSlice t (.int .i64 (n : Int)) (.int .i64 (n : Int))).run Tryz.prog w = .ok (.slice (some ⟨w.heap.size, 0, none⟩) n n) W ∧ D.length = n * size ∧ RowAt W w.heap.size D ∧ Below w.heap.size w W ∧ w.heap.size < W.heap.size := by
  obtain ⟨i, hi, hz0, hz1, hz2⟩ := info_parts hinfo
  obtain ⟨W, hrun, hown, hg⟩ := run_make_full (P := Tryz.prog) w w.heap.size t e i z size ht hi hz0 hz1 .i64 .i64 n (by rw [hz2]; exact hb) h63 (Nat.le_refl _)
  exact ⟨W, _, hrun, hown.1, RowAt.of_own hown, (Below.refl _ _).grown hg (Nat.le_refl _) (fun k hk => by cases hk), (RowAt.of_own hown).lt⟩
/-- What a measure tells: what is left, and that the slice was not too long. -/
def SzR (n : Nat) (left r : Int) : Prop := (-1 ≤ r ∧ r ≤ 1048576) ∧ (0 ≤ r → (n : Int) ≤ left)
theorem SzR.of {n : Nat} {left r : Int} (h1 : -1 ≤ r) (h2 : r ≤ 1048576) (h3 : 0 ≤ r → (n : Int) ≤ left) : SzR n left r := ⟨⟨h1, h2⟩, h3⟩
theorem bytes_ne {x y : ByteArray} (h : x ≠ y) : (x.toList == y.toList) = false := by
  rw [beq_eq_false_iff_ne]
  intro e
  rw [ByteArray.toList_eq, ByteArray.toList_eq] at e
  exact h (ByteArray.ext (Array.toList_inj.1 e))
/-- The place of the first element with a mark, or -1. -/
def idxI {α : Type} (p : α → Bool) (l : List α) : Int := match l.findIdx? p with | some i => (i : Int) | none => -1
theorem idxI_at {α : Type} {p : α → Bool} {l : List α} {k : Nat} (h : k < l.length) (hp : p l[k] = true) (hb : ∀ j (hj : j < k), p (l[j]'(by omega)) = false) : idxI p l = k := by
  unfold idxI
  rw [List.findIdx?_eq_some_iff_getElem.2 ⟨h, hp, fun j hj => by rw [hb j hj]; simp⟩]
theorem idxI_none {α : Type} {p : α → Bool} {l : List α} (h : ∀ j (hj : j < l.length), p l[j] = false) : idxI p l = -1 := by
  unfold idxI
  rw [List.findIdx?_eq_none_iff.2 fun x hx => by obtain ⟨j, hj, rfl⟩ := List.getElem_of_mem hx; exact h j hj]
theorem idxI_range {α : Type} (p : α → Bool) (l : List α) : -1 ≤ idxI p l ∧ idxI p l < l.length := by
  unfold idxI
  split
  · rename_i i h
    obtain ⟨h1, _⟩ := List.findIdx?_eq_some_iff_getElem.1 h
    omega
  · omega
theorem take_ne {α : Type} {l m : List α} {k : Nat} (h1 : k < l.length) (h2 : k < m.length) (h : l[k] ≠ m[k]) : l ≠ m := by
  intro e; subst e; exact h rfl
theorem take_eq_succ {α : Type} {l m : List α} {k : Nat} (h1 : k < l.length) (h2 : k < m.length) (h : l[k] = m[k]) (ht : l.take k = m.take k) : l.take (k + 1) = m.take (k + 1) := by
  rw [List.take_succ_eq_append_getElem h1, List.take_succ_eq_append_getElem h2, h, ht]
end Go.Proofs.YtbiodbggaeglpaaGreatDoor

/- Slices of bytes: copied, measured, compared, as strings. -/
namespace Go.Proofs.YtbiodbggaeglpaaGreatDoor
open Go.RowKit
set_option linter.unusedSimpArgs false
set_option linter.unusedVariables false

theorem blk_other {w : World} {g : Nat} {o : Obj} (h : w.heap[g]? = some o) (b k : Nat) (v : Value) (hne : b ≠ g) : (w.setCell ⟨b, k, none⟩ v).heap[g]? = some o := by
  simp [World.setCell, Array.getElem?_modify, h, hne]
theorem blk_new' (w : World) (o : Obj) (g : Nat) (hg : g = w.heap.size) : (w.alloc o).heap[g]? = some o := by subst hg; exact heap_alloc_new w o
/-- 'string(b)' of a slice that can be read. -/
theorem conv_rd (w : World) (a : Option Addr) (n c : Nat) (l : List UInt8) (hl : l.length = n) (h : Rd w a (bV l)) :
    (convert 22 9 (.slice a n c)).run Tryz.prog w = .ok (.string ⟨l.toArray⟩) w := by
  cases l with
  | nil =>
    subst hl
    cases a with
    | none => exact run_convert_bytes_nil (P := Tryz.prog) w 22 5 Tryz.underlying22 Tryz.underlying5 0 c 9 Tryz.underlying9
    | some a =>
      show (convert 22 9 (.slice (some a) 0 c)).run Tryz.prog w = _
      rw [run_convert_bytes_string w 22 9 5 (some a) 0 c Tryz.underlying22 Tryz.underlying5 Tryz.underlying9]
      exact run_bytesToString w a 0 c [] (by simp [loadCells, loadCellsFrom])
  | cons x l =>
    obtain ⟨b, off, rfl, _, _⟩ := h 0 _ (bV_at (x :: l) 0 (by simp))
    have := run_convert_bytes_arg (P := Tryz.prog) w 22 5 Tryz.underlying22 Tryz.underlying5 b off n c ((x :: l).map fun b => (b.toNat : Int)) (by rw [List.length_map]; exact hl) (fun i hi => by
      obtain ⟨b', off', e, _, hc⟩ := h i _ (bV_at (x :: l) i (by omega))
      cases e
      rw [hc]
      have hi' : i < (x :: l).length := by omega
      rw [List.getD_eq_getElem?_getD, List.getElem?_map, List.getElem?_eq_getElem hi']
      rfl) 9 Tryz.underlying9
    rw [this]
    have e : ((x :: l).map fun b => (b.toNat : Int)).map (fun n => UInt8.ofNat n.toNat) = x :: l := by
      rw [List.map_map]
      exact (List.map_congr_left fun b _ => by simp).trans (List.map_id _)
    have e2 : strOfNums ((x :: l).map fun b => (b.toNat : Int)) = ⟨(x :: l).toArray⟩ := by
      unfold strOfNums
      rw [e]
    rw [e2]

end Go.Proofs.YtbiodbggaeglpaaGreatDoor

/- Slices of a call's own, and calls that write within bounds: which blocks may have changed. -/
namespace Go.Proofs.YtbiodbggaeglpaaGreatDoor
open Go.RowKit
set_option linter.unusedVariables false

/-- What lay in w lies, but for the blocks from lo up to hi. -/
structure Chg (w w' : World) (lo hi : Nat) : Prop where
  os : w'.os = w.os
  tape : w'.tape = w.tape
  output : w'.output = w.output
  size : w.heap.size ≤ w'.heap.size
  block : ∀ b, b < w.heap.size → (b < lo ∨ hi ≤ b) → w'.heap[b]? = w.heap[b]?
theorem Chg.refl (w : World) (lo hi : Nat) : Chg w w lo hi := ⟨rfl, rfl, rfl, Nat.le_refl _, fun _ _ _ => rfl⟩
theorem Chg.of_below {w w' : World} (h : Below w.heap.size w w') (lo hi : Nat) : Chg w w' lo hi := ⟨h.os, h.tape, h.output, h.size, fun b hb _ => h.block b hb⟩
theorem Chg.trans {a w w' : World} {lo hi : Nat} (h : Chg a w lo hi) (h' : Chg w w' lo hi) : Chg a w' lo hi :=
  ⟨h'.os.trans h.os, h'.tape.trans h.tape, h'.output.trans h.output, Nat.le_trans h.size h'.size, fun b hb hne => (h'.block b (Nat.lt_of_lt_of_le hb h.size) hne).trans (h.block b hb hne)⟩
theorem Chg.then {a w w' : World} {lo hi : Nat} (h : Chg a w lo hi) (hb : Below w.heap.size w w') : Chg a w' lo hi := h.trans (.of_below hb lo hi)
theorem Chg.mono {w w' : World} {lo hi lo' hi' : Nat} (h : Chg w w' lo hi) (h1 : lo' ≤ lo) (h2 : hi ≤ hi') : Chg w w' lo' hi' :=
  ⟨h.os, h.tape, h.output, h.size, fun b hb hne => h.block b hb (by omega)⟩
theorem Chg.set {a w : World} {lo hi : Nat} (h : Chg a w lo hi) (g k : Nat) (v : Value) (h1 : lo ≤ g) (h2 : g < hi) : Chg a (w.setCell ⟨g, k, none⟩ v) lo hi :=
  ⟨h.os, h.tape, h.output, Nat.le_trans h.size (by simp [World.setCell]), fun b hb hne => (Below.heap_setCell w _ v b (by show b ≠ g; omega)).trans (h.block b hb hne)⟩
theorem Chg.drew {a w : World} {lo hi : Nat} (h : Chg a w lo hi) : Chg a w.drew lo hi := ⟨h.os, h.tape, h.output, h.size, h.block⟩
theorem Chg.drewN {a w : World} {lo hi : Nat} (h : Chg a w lo hi) (n : Nat) : Chg a (w.drewN n) lo hi := ⟨h.os, h.tape, h.output, h.size, h.block⟩
theorem Chg.alloc {a w : World} {lo hi : Nat} (h : Chg a w lo hi) (o : Obj) : Chg a (w.alloc o) lo hi := h.then (below_alloc (Below.refl _ _) o)
/-- A call that writes only into what lies above a is above a. -/
theorem Chg.below {a w w' : World} {lo hi : Nat} (h : Chg w w' lo hi) (hb : Below a.heap.size a w) (hlo : a.heap.size ≤ lo) : Below a.heap.size a w' :=
  ⟨h.os.trans hb.os, h.tape.trans hb.tape, h.output.trans hb.output, Nat.le_trans hb.size h.size, fun b hlt => (h.block b (Nat.lt_of_lt_of_le hlt hb.size) (.inl (Nat.lt_of_lt_of_le hlt hlo))).trans (hb.block b hlt)⟩
theorem Chg.cell {w w' : World} {lo hi : Nat} (h : Chg w w' lo hi) {b o : Nat} {v : Value} (hc : w.cell? ⟨b, o, none⟩ = some v) (hne : b < lo ∨ hi ≤ b) : w'.cell? ⟨b, o, none⟩ = some v :=
  (World.cell?_of_block (w := w) (a := ⟨b, o, none⟩) (h.block b (World.block_lt_of_cell? w _ hc) hne)).trans hc
theorem Chg.blk {w w' : World} {lo hi : Nat} (h : Chg w w' lo hi) {b : Nat} {o : Obj} (hc : w.heap[b]? = some o) (hne : b < lo ∨ hi ≤ b) : w'.heap[b]? = some o :=
  (h.block b (Array.getElem?_eq_some_iff.1 hc).1 hne).trans hc
/-- What such a call leaves: laid into the walk. -/
theorem ccell {W w1 : World} {lo hi : Nat} (h : Chg W w1 lo hi) (hl : hi ≤ W.heap.size) : (∀ b o, b < lo → w1.cell? ⟨b, o, none⟩ = W.cell? ⟨b, o, none⟩) ∧ (∀ b o, b < lo → w1.frozen? ⟨b, o, none⟩ = W.frozen? ⟨b, o, none⟩) ∨ W.heap.size < lo := by
  by_cases hlo : lo ≤ W.heap.size
  · exact .inl ⟨fun b o hb => World.cell?_of_block (w := W) (a := ⟨b, o, none⟩) (h.block b (by omega) (.inl hb)), fun b o hb => World.frozen?_of_block (w := W) (a := ⟨b, o, none⟩) (h.block b (by omega) (.inl hb))⟩
  · exact .inr (by omega)

/-- A slice of n elements whose cells are xs, in a block between lo and hi (or of no element). -/
def SlAt (w : World) (lo hi : Nat) (a : Option Addr) (n : Nat) (xs : List Value) : Prop := (n = 0 ∧ xs = []) ∨ ∃ g, a = some ⟨g, 0, none⟩ ∧ lo ≤ g ∧ g < hi ∧ RowAt w g xs
theorem SlAt.nil (w : World) (lo hi : Nat) (a : Option Addr) : SlAt w lo hi a 0 [] := .inl ⟨rfl, rfl⟩
theorem SlAt.rd {w : World} {lo hi n : Nat} {a : Option Addr} {xs : List Value} (h : SlAt w lo hi a n xs) : Rd w a xs := by
  rcases h with ⟨_, rfl⟩ | ⟨g, rfl, _, _, hr⟩
  · exact Rd.nil w a
  · exact hr.rd
theorem SlAt.then {w w' : World} {lo hi n : Nat} {a : Option Addr} {xs : List Value} (h : SlAt w lo hi a n xs) (hb : Below w.heap.size w w') : SlAt w' lo hi a n xs := by
  rcases h with h | ⟨g, rfl, h1, h2, hr⟩
  · exact .inl h
  · exact .inr ⟨g, rfl, h1, h2, hr.then hb⟩
theorem SlAt.drew {w : World} {lo hi n : Nat} {a : Option Addr} {xs : List Value} (h : SlAt w lo hi a n xs) : SlAt w.drew lo hi a n xs := h
theorem SlAt.alloc {w : World} {lo hi n : Nat} {a : Option Addr} {xs : List Value} (h : SlAt w lo hi a n xs) (o : Obj) : SlAt (w.alloc o) lo hi a n xs := h.then (below_alloc (Below.refl _ _) o)
theorem SlAt.other {w : World} {lo hi n : Nat} {a : Option Addr} {xs : List Value} (h : SlAt w lo hi a n xs) (p : Addr) (v : Value) (hp : p.block < lo ∨ hi ≤ p.block) : SlAt (w.setCell p v) lo hi a n xs := by
  rcases h with h | ⟨g, rfl, h1, h2, hr⟩
  · exact .inl h
  · exact .inr ⟨g, rfl, h1, h2, hr.other p v (by omega)⟩
theorem SlAt.chg {w w' : World} {lo hi lo' hi' n : Nat} {a : Option Addr} {xs : List Value} (h : SlAt w lo hi a n xs) (hc : Chg w w' lo' hi') (hd : hi ≤ lo' ∨ hi' ≤ lo) : SlAt w' lo hi a n xs := by
  rcases h with h | ⟨g, rfl, h1, h2, hr⟩
  · exact .inl h
  · exact .inr ⟨g, rfl, h1, h2, hr.block (hc.block g hr.lt (by omega))⟩
theorem SlAt.mono {w : World} {lo hi lo' hi' n : Nat} {a : Option Addr} {xs : List Value} (h : SlAt w lo hi a n xs) (h1 : lo' ≤ lo) (h2 : hi ≤ hi') : SlAt w lo' hi' a n xs := by
  rcases h with h | ⟨g, rfl, h3, h4, hr⟩
  · exact .inl h
  · exact .inr ⟨g, rfl, by omega, by omega, hr⟩
theorem RowAt.sl {w : World} {g : Nat} {xs : List Value} (h : RowAt w g xs) (n : Nat) {lo hi : Nat} (h1 : lo ≤ g) (h2 : g < hi) : SlAt w lo hi (some ⟨g, 0, none⟩) n xs := .inr ⟨g, rfl, h1, h2, h⟩
theorem cells2 {w : World} {g : Nat} {x y : Value} {t : TypeId} {f : Nat × Nat} (h : w.heap[g]? = some (.cells #[x, y] t f)) : w.cell? ⟨g, 0, none⟩ = some x ∧ w.cell? ⟨g, 1, none⟩ = some y := by simp [World.cell?, h]
theorem cells3 {w : World} {g : Nat} {x y z : Value} {t : TypeId} {f : Nat × Nat} (h : w.heap[g]? = some (.cells #[x, y, z] t f)) : w.cell? ⟨g, 0, none⟩ = some x ∧ w.cell? ⟨g, 1, none⟩ = some y ∧ w.cell? ⟨g, 2, none⟩ = some z := by simp [World.cell?, h]
theorem cells4 {w : World} {g : Nat} {x y z u : Value} {t : TypeId} {f : Nat × Nat} (h : w.heap[g]? = some (.cells #[x, y, z, u] t f)) : w.cell? ⟨g, 0, none⟩ = some x ∧ w.cell? ⟨g, 1, none⟩ = some y ∧ w.cell? ⟨g, 2, none⟩ = some z ∧ w.cell? ⟨g, 3, none⟩ = some u := by simp [World.cell?, h]
theorem cells5 {w : World} {g : Nat} {x y z u v : Value} {t : TypeId} {f : Nat × Nat} (h : w.heap[g]? = some (.cells #[x, y, z, u, v] t f)) : w.cell? ⟨g, 0, none⟩ = some x ∧ w.cell? ⟨g, 1, none⟩ = some y ∧ w.cell? ⟨g, 2, none⟩ = some z ∧ w.cell? ⟨g, 3, none⟩ = some u ∧ w.cell? ⟨g, 4, none⟩ = some v := by simp [World.cell?, h]
theorem pre_of {W W' : World} {lo hi : Nat} (_ : Chg W W' lo hi) (V : World) (h : Below V.heap.size V W) : Below V.heap.size V W := h
theorem mark_cell {V W W' : World} {lo hi : Nat} (hb : Below V.heap.size V W) (hc : Chg W W' lo hi) {b o : Nat} {v : Value} (h : V.cell? ⟨b, o, none⟩ = some v) (hne : b < lo ∨ hi ≤ b) : W'.cell? ⟨b, o, none⟩ = some v :=
  hc.cell ((hb.cell (p := ⟨b, o, none⟩) (World.block_lt_of_cell? V _ h)).trans h) hne
theorem mark_sl {V W W' : World} {lo hi lo' hi' n : Nat} {a : Option Addr} {xs : List Value} (hb : Below V.heap.size V W) (hc : Chg W W' lo hi) (h : SlAt V lo' hi' a n xs) (hd : hi' ≤ lo ∨ hi ≤ lo') : SlAt W' lo' hi' a n xs :=
  (h.then hb).chg hc hd
theorem mark_row {V W W' : World} {lo hi g : Nat} {xs : List Value} (hb : Below V.heap.size V W) (hc : Chg W W' lo hi) (h : RowAt V g xs) (hd : g < lo ∨ hi ≤ g) : RowAt W' g xs :=
  (h.then hb).block (hc.block g (h.then hb).lt hd)
theorem mark_below {U V W W' : World} {lo hi : Nat} (h0 : Below U.heap.size U V) (hb : Below V.heap.size V W) (hc : Chg W W' lo hi) (hlo : U.heap.size ≤ lo) : Below U.heap.size U W' :=
  hc.below (below_then h0 hb) hlo
theorem chg_rd {w w' : World} {lo hi : Nat} {a : Option Addr} {xs : List Value} (h : Rd w a xs) (hb : ∀ b, (∃ off, a = some ⟨b, off, none⟩) → b < lo ∨ hi ≤ b) (hc : Chg w w' lo hi) : Rd w' a xs := by
  intro j v hv
  obtain ⟨b, off, ha, hlt, hcell⟩ := h j v hv
  exact ⟨b, off, ha, Nat.lt_of_lt_of_le hlt hc.size, hc.cell hcell (hb b ⟨off, ha⟩)⟩
end Go.Proofs.YtbiodbggaeglpaaGreatDoor

/- 'append(x, y...)' of bytes onto a row that a conversion laid. -/
namespace Go.Proofs.YtbiodbggaeglpaaGreatDoor
open Go.RowKit
set_option linter.unusedSimpArgs false
set_option linter.unusedVariables false

theorem RowAt.puts {g : Nat} : ∀ (vs : List Value) (w : World) (A D : List Value) (o : Nat), RowAt w g (A ++ D) → A.length = o → vs.length ≤ D.length → RowAt (w.setCells g o vs) g (A ++ vs ++ D.drop vs.length)
  | [], w, A, D, o, h, _, _ => by simpa [World.setCells] using h
  | v :: r, w, A, D, o, h, hA, hl => by
    simp only [List.length_cons] at hl
    have h1 := h.put1 hA (by omega) v
    have h2 := RowAt.puts r _ (A ++ [v]) (D.drop 1) (o + 1) h1 (by simp [hA]) (by rw [List.length_drop]; omega)
    rw [List.drop_drop] at h2
    simp only [World.setCells, List.length_cons]
    rw [show r.length + 1 = 1 + r.length from by omega]
    simpa using h2
theorem RowAt.pre {w : World} {g : Nat} {A D : List Value} (h : RowAt w g (A ++ D)) : RowAt w g A := by
  obtain ⟨cur, e, lo, hi, hg, ht, hf⟩ := h
  refine ⟨cur, e, lo, hi, hg, ?_, fun i hi => hf i (by rw [List.length_append]; omega)⟩
  have := congrArg (List.take A.length) ht
  rw [List.take_take, List.length_append, Nat.min_eq_left (by omega), List.take_left] at this
  exact this
theorem Chg.sets {lo hi g : Nat} (h1 : lo ≤ g) (h2 : g < hi) : ∀ (vs : List Value) (o : Nat) (a w : World), Chg a w lo hi → Chg a (w.setCells g o vs) lo hi
  | [], _, _, _, h => h
  | v :: r, o, a, w, h => Chg.sets h1 h2 r (o + 1) a _ (h.set g o v h1 h2)
def BRow (w : World) (g n cap : Nat) (xs : List UInt8) : Prop := xs.length = n ∧ ∃ rest : List Value, n + rest.length = cap ∧ RowAt w g (bV xs ++ rest)
theorem bw_brow (w : World) (s : ByteArray) : BRow (Lib.bytesWorld w 5 s) w.heap.size s.size (grownCap w s.size 0 5) s.data.toList := by
  have hge := grownCap_ge w s.size 0 5
  refine ⟨Array.length_toList, List.replicate (grownCap w s.size 0 5 - s.size) (.int .u8 0), by rw [List.length_replicate]; omega, _, _, _, _, Lib.bytesWorld_at_new w 5 s, ?_, ?_⟩
  · have e : (Lib.bytesCells w 5 s).toList = bV s.data.toList ++ List.replicate (grownCap w s.size 0 5 - s.size) (.int .u8 0) := by
      unfold Lib.bytesCells
      rw [Array.toList_append, Array.toList_map, Array.toList_replicate]
      rfl
    rw [e]
    exact List.take_length
  · intro i hi
    have hl : (Lib.bytesCells w 5 s).size = s.size + (grownCap w s.size 0 5 - s.size) := by
      unfold Lib.bytesCells
      rw [Array.size_append, Array.size_map, Array.size_replicate]; rfl
    rw [List.length_append, bV_len, List.length_replicate, Array.length_toList] at hi
    have : s.data.size = s.size := rfl
    omega
theorem one_bV (l : List UInt8) : ∀ u ∈ bV l, u.oneCell' = true := by
  intro u hu
  obtain ⟨b, _, rfl⟩ := List.mem_map.1 hu
  rfl
theorem BRow.cap_le {w : World} {g n cap : Nat} {xs : List UInt8} (h : BRow w g n cap xs) : n ≤ cap := by
  obtain ⟨_, r, e, _⟩ := h
  omega
theorem app_bytesC (lo : Nat) (ab : Option Addr) (m c : Nat) (lb : List UInt8) (hlb : lb.length = m) (g n cap : Nat) (xs : List UInt8) (w : World) (hB : BRow w g n cap xs) (hlo : lo ≤ g) (hr : Rd w ab (bV lb)) (hm : n + m ≤ 140737488355328) (ty : TypeId) :
    ∃ g' cap' w', (Builtin.append_ #[22, 22] ty #[.slice (some ⟨g, 0, none⟩) n cap, .slice ab m c]).run Tryz.prog w = .ok (.slice (some ⟨g', 0, none⟩) (n + m) cap') w' ∧ (lo ≤ g' ∧ n + m ≤ cap') ∧ RowAt w' g' (bV (xs ++ lb)) ∧ Chg w w' g (g + 1) := by
  obtain ⟨hxl, rest, hcap, hrow⟩ := hB
  have hxn : (bV xs).length = n := by rw [bV_len, hxl]
  have hmn : (bV lb).length = m := by rw [bV_len, hlb]
  have hinfo : (Tryz.prog.info? 5).map (fun i => (i.zero, i.size, i.bytes)) = some (some (.int .u8 0), 1, 1) := by kernel_rfl
  obtain ⟨i, hi, hz, hs1, hb1⟩ := info_parts hinfo
  have hsrc : Src Tryz.prog i.size 22 (.slice ab m c) m (bV lb) w := by
    rw [hs1]
    cases ab with
    | none =>
      have hnil : lb = [] := by
        cases lb with
        | nil => rfl
        | cons x r => obtain ⟨_, _, h, _⟩ := hr 0 _ rfl; cases h
      subst hnil
      have : m = 0 := hlb.symm
      subst this
      exact Src.ofNil w Tryz.underlying22 c
    | some a =>
      refine Src.ofSlice w Tryz.underlying22 a m c (bV lb) (by rw [hmn, Nat.mul_one]) (fun j u hu => ?_) (one_bV lb)
      obtain ⟨b, off, e, _, hc⟩ := hr j u hu
      cases e
      rw [Addr.add_lit]
      exact hc
  have hbV : bV (xs ++ lb) = bV xs ++ bV lb := by simp [bV]
  have hgl := hrow.lt
  by_cases hroom : n + m ≤ cap
  · have hst := run_append_room_src (P := Tryz.prog) w 22 22 ty 5 i Tryz.underlying22 hi g 0 n cap _ m (bV lb) hsrc hroom
      (fun j hj => by
        rw [hs1, Nat.zero_add, Nat.mul_one]
        have hlt : n + j < (bV xs ++ rest).length := by rw [List.length_append]; omega
        rw [hrow.cell (n + j) _ (List.getElem?_eq_getElem hlt)]; rfl)
      (fun j hj => by
        rw [hs1, Nat.zero_add, Nat.mul_one]
        exact hrow.free (n + j) (by rw [List.length_append]; omega))
    rw [hs1, Nat.zero_add, Nat.mul_one] at hst
    refine ⟨g, cap, _, hst, ⟨hlo, hroom⟩, ?_, Chg.sets (Nat.le_refl _) (Nat.lt_succ_self _) _ _ _ _ (Chg.refl _ _ _)⟩
    rw [hbV]
    exact (RowAt.puts (bV lb) w (bV xs) rest n hrow hxn (by omega)).pre
  · have hst := run_append_grow_src (P := Tryz.prog) w 22 22 ty 5 i (.int .u8 0) Tryz.underlying22 hi hz (some ⟨g, 0, none⟩) n cap (bV xs)
      (run_firstCells_some w.drew i.size n ⟨g, 0, none⟩ n cap (bV xs) (by rw [hs1, hxn, Nat.mul_one]) (fun j u hu => by
        rw [Addr.add_lit, Nat.zero_add]
        exact (hrow.pre.drew).cell j u hu)) _ m (bV lb) hsrc (by omega) (by omega)
      (by rw [hb1, Nat.mul_one]; have := nextslicecap_le (need := n + m) (old := cap) (by omega); omega)
    refine ⟨_, _, _, hst, ⟨by omega, grownCap_ge _ _ _ _⟩, ?_, ((Chg.refl _ _ _).drew).alloc _⟩
    rw [hbV]
    refine RowAt.pre (D := (Builtin.zeroCells (Value.cells (.int .u8 0)) (grownCap w (n + m) cap 5 - (n + m))).toList) ?_
    exact RowAt.of_alloc w.drew _ _ _ (by rw [Array.toList_append])
theorem app_bytes (lo : Nat) (ab : Option Addr) (m c : Nat) (lb : List UInt8) (hlb : lb.length = m) (g n cap : Nat) (xs : List UInt8) (w : World) (hB : BRow w g n cap xs) (hlo : lo ≤ g) (hr : Rd w ab (bV lb)) (hm : n + m ≤ 140737488355328) (ty : TypeId) :
    ∃ g' cap' w', (Builtin.append_ #[22, 22] ty #[.slice (some ⟨g, 0, none⟩) n cap, .slice ab m c]).run Tryz.prog w = .ok (.slice (some ⟨g', 0, none⟩) (n + m) cap') w' ∧ lo ≤ g' ∧ RowAt w' g' (bV (xs ++ lb)) ∧ Chg w w' g (g + 1) := by
  obtain ⟨g', cap', w', h1, ⟨h2, _⟩, h3, h4⟩ := app_bytesC lo ab m c lb hlb g n cap xs w hB hlo hr hm ty
  exact ⟨g', cap', w', h1, h2, h3, h4⟩
theorem wpList_appB {P : Program} {ops : Array Oper} {rest : List Oper} {o : Oper} {a : Act} {Q : Exit → Act → World → Prop} (hgd : o.guard = none) (s x : Operand) {t1 t2 : TypeId}
    (ho : o.op = .call { callee := .builtin .append, args := #[s, x], argTypes := #[t1, t2] }) {v xv r : Value} {w w' : World} (hs : a.eval s = v) (hx : a.eval x = xv)
    (hrun : (Builtin.append_ #[t1, t2] o.type #[v, xv]).run P w = .ok r w') (h : wpList P ops Q rest (a.put o.dst r) w') : wpList P ops Q (o :: rest) a w :=
  wpList_plain hgd fun K hK => by
    unfold Oper.wp execOp
    simp only [ho, resolve, invoke, builtin, Sem.run_bind, Sem.run_pure, Result.andThen_ok, List.map_toArray, List.map_cons, List.map_nil, hs, hx, hrun]
    exact hK _ _ h
end Go.Proofs.YtbiodbggaeglpaaGreatDoor
