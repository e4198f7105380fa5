/- Joined: Base, Big, Mem, BV, Build, Plain, FaultP, JoinP, Num, QuietB, QuoteP, ItemsP, RegW, RegA, RegG, Slice, Bytes, Frame, AppB, Hdrs, Items, RegF, Req, SplitP, Strs, Text, Lower, Alike, Digits, Mark, MarkI, Quote, Times, TrimP, Trim, Vals, WordsP. -/
import Derived.Test.YthiogijicknoiaaDoorProg
import Derived.WalkKit
import Derived.WalkLawsBesides
import Derived.WalkSpells
import Derived.Handy
import Derived.Lib.Hide
import Derived.KernelRfl
import Derived.Deep.QuietTactic
import Derived.BigQuiet
import Derived.Deep.LoopGhost
import Derived.Lib.ConvBytes
import Derived.Laws.BytesArg
import Derived.Test.YthiogijicknoiaaDoorShelf
import Derived.Lib.Builder
import Derived.Lib.AppendStr
import Derived.Lib.UnsafeStr
import Derived.Laws.Externs
import Derived.Lib.Join
import Derived.Orders
import Derived.StillTailTactics
import Derived.Deep.AppendSrc
import Derived.Deep.DeepCutAuto
import Derived.Deep.RegionHeld3
import Derived.Lib.Split
import Derived.Lib.IndexAny
import Derived.Lib.ItoaNum
import Derived.Lib.ItoaMem
import Derived.Lib.ItoaLen
import Derived.WalkSmall
import Derived.Lib.LaidTab
import Derived.Lib.SlTrimSet
import Derived.Shelf.Strings.SlTrimAscii
/- Ground for the contracts of this seat: imports and small laws on worlds. -/
namespace Go.Proofs.YthiogijicknoiaaDoor
open Go.RowKit

theorem ret_bool {a b : Bool} (h : a = b) : Ending.returned (.bool a) = .returned (.bool b) := by rw [h]
theorem ret_int {k : IntKind} {a b : Int} (h : a = b) : Ending.returned (.int k a) = .returned (.int k b) := by rw [h]
theorem ret_str {a b : ByteArray} (h : a = b) : Ending.returned (.string a) = .returned (.string b) := by rw [h]

theorem bcell {W w1 : World} (hb : Below W.heap.size W w1) : (∀ b o, b < W.heap.size → w1.cell? ⟨b, o, none⟩ = W.cell? ⟨b, o, none⟩) ∧ (∀ b o, b < W.heap.size → w1.frozen? ⟨b, o, none⟩ = W.frozen? ⟨b, o, none⟩) :=
  ⟨fun b o h => hb.cell (p := ⟨b, o, none⟩) h, fun b o h => hb.frozen (p := ⟨b, o, none⟩) h⟩

theorem bsize {W w1 : World} (hb : Below W.heap.size W w1) : (∀ k, k < W.heap.size → k < w1.heap.size) ∧ (∀ k, k ≤ W.heap.size → k ≤ w1.heap.size) ∧
    (∀ k, k < W.heap.size → (k = w1.heap.size) = False) ∧ (∀ k, k < W.heap.size → (w1.heap.size = k) = False) ∧
    (∀ k i, k < W.heap.size → (k = w1.heap.size + i) = False) ∧ (∀ k i, k < W.heap.size → (w1.heap.size + i = k) = False) := by
  have := hb.size
  exact ⟨fun k h => by omega, fun k h => by omega, fun k h => eq_false (by omega), fun k h => eq_false (by omega), fun k i h => eq_false (by omega), fun k i h => eq_false (by omega)⟩

theorem below_alloc {a W : World} (h : Below a.heap.size a W) (o : Obj) : Below a.heap.size a (W.alloc o) := h.alloc h.size o
theorem below_then {a W w2 : World} (h : Below a.heap.size a W) (hb : Below W.heap.size W w2) : Below a.heap.size a w2 := h.trans (hb.mono h.size)

theorem below_drewN {B : Nat} {a w : World} (h : Below B a w) : ∀ n, Below B a (w.drewN n) := fun n => by
  exact ⟨h.os, h.tape, h.output, h.size, h.block⟩

theorem own_below {B lo : Nat} {w w' : World} {e : TypeId} {size : Nat} {v : Value} {n : Nat} {xs : List Value} (h : w.ownsRow lo e size v n xs) (hb : Below B w w') (hB : w.heap.size ≤ B) : w'.ownsRow lo e size v n xs := by
  refine ⟨h.1, ?_⟩
  rcases h.2 with hn | ⟨g, cap, cur, rfl, hlo, hg, rest⟩
  · exact .inl hn
  · exact .inr ⟨g, cap, cur, rfl, hlo, (hb.block g (Nat.lt_of_lt_of_le (Array.getElem?_eq_some_iff.1 hg).1 hB)).trans hg, rest⟩

theorem own_mono {lo lo' : Nat} {w : World} {e : TypeId} {size : Nat} {v : Value} {n : Nat} {xs : List Value} (h : w.ownsRow lo e size v n xs) (hl : lo' ≤ lo) : w.ownsRow lo' e size v n xs := by
  refine ⟨h.1, ?_⟩
  rcases h.2 with hn | ⟨g, cap, cur, rfl, hlo, rest⟩
  · exact .inl hn
  · exact .inr ⟨g, cap, cur, rfl, Nat.le_trans hl hlo, rest⟩
theorem quiet_pure {P : Program} {f : FuncId} {args : Array Value} {w : World} {n : Nat} {v : Value} (h : Calls P f args (w.drewN n) fun e w' => e = .returned v ∧ w.drewN n = w') :
    Calls P f args (w.drewN n) fun e w'' => e = .returned v ∧ ∃ m, w'' = w.drewN m := h.mono fun _ _ ⟨he, hm⟩ => ⟨he, n, hm.symm⟩
/-- A result that lies in a row. -/
theorem res_row {P : Program} {fn : Func} {p : Tmp} {ty : TypeId} (h : fn.results = #[.cell p ty]) (tmps : Array Value) (w : World) {g : Nat} {t : TypeId} {cs : Array Value} {fr : Nat × Nat} {d : TypeDesc}
    (hp : tmps.getD p undef = .pointer (some ⟨g, 0, none⟩)) (hg : w.heap[g]? = some (.cells cs t fr))
    (hu : P.underlying ty = some d) (hd : (match d with | .struct _ | .array _ _ => true | _ => false) = true) (n : Nat) (hi : (P.info? ty).map (·.size) = some n) (hn : n = cs.size) :
    (results fn tmps).run P w = .ok (.agg cs) w := by
  have hl := run_loadVar_row (P := P) w g t ty cs fr d hg hu hd (by rw [hi, hn])
  have ha : (asAddr (tmps.getD p undef)).run P w = .ok ⟨g, 0, none⟩ w := by rw [hp]; rfl
  rw [Array.getD_eq_getD_getElem?] at ha
  simp only [results, h]
  simp [Sem.run_bind, ha, hl, Result.andThen]
theorem blk_new (w : World) (o : Obj) : (w.alloc o).heap[w.heap.size]? = some o := heap_alloc_new w o
theorem blk_alloc {w : World} {g : Nat} {o : Obj} (h : w.heap[g]? = some o) (o' : Obj) : (w.alloc o').heap[g]? = some o := (Below.heap_alloc w o' g (Array.getElem?_eq_some_iff.1 h).1).trans h
theorem blk_then {w w' : World} {g : Nat} {o : Obj} (h : w.heap[g]? = some o) (hb : Below w.heap.size w w') : w'.heap[g]? = some o := (hb.block g (Array.getElem?_eq_some_iff.1 h).1).trans h
theorem blk_set {w : World} {g : Nat} {cs : Array Value} {t : TypeId} {fr : Nat × Nat} (h : w.heap[g]? = some (.cells cs t fr)) (k : Nat) (v : Value) : (w.setCell ⟨g, k, none⟩ v).heap[g]? = some (.cells (cs.setIfInBounds k v) t fr) := by
  simp [World.setCell, Array.getElem?_modify, h]
theorem blk_drew {w : World} {g : Nat} {o : Obj} (h : w.heap[g]? = some o) : w.drew.heap[g]? = some o := h
theorem blk_cast {w : World} {g : Nat} {cs cs' : Array Value} {t : TypeId} {fr : Nat × Nat} (h : w.heap[g]? = some (.cells cs t fr)) (e : cs = cs') : w.heap[g]? = some (.cells cs' t fr) := by subst e; exact h
end Go.Proofs.YthiogijicknoiaaDoor

/- The law's own bound on what is drawn from. -/
namespace Go.Proofs.YthiogijicknoiaaDoor
open Go.RowKit
theorem lwBig (a : Option Addr) (n c : Nat) (w : World) : Calls Tryd.prog 13 #[.slice a n c] w fun e w' => e = .returned (.bool (decide (1048576 < (n : Int)))) ∧ w = w' := by
  go_enter Tryd.func13, Tryd.ntmps13
  go_wp2
  go_ret
  exact ⟨rfl, rfl⟩
end Go.Proofs.YthiogijicknoiaaDoor

/- Rows of cells: what a row holds, and what becomes of it. -/
namespace Go.Proofs.YthiogijicknoiaaDoor
open Go.RowKit

/-- Block g is a row whose first cells are xs, none of them frozen. -/
def RowAt (w : World) (g : Nat) (xs : List Value) : Prop :=
  ∃ cur e lo hi, w.heap[g]? = some (.cells cur e (lo, hi)) ∧ cur.toList.take xs.length = xs ∧ ∀ i, i < xs.length → ¬ (lo ≤ i ∧ i < hi)

theorem RowAt.lt {w : World} {g : Nat} {xs : List Value} (h : RowAt w g xs) : g < w.heap.size := by
  obtain ⟨cur, e, lo, hi, hg, _⟩ := h
  exact (Array.getElem?_eq_some_iff.1 hg).1
theorem RowAt.cell {w : World} {g : Nat} {xs : List Value} (h : RowAt w g xs) (k : Nat) (v : Value) (hv : xs[k]? = some v) : w.cell? ⟨g, k, none⟩ = some v := by
  obtain ⟨cur, e, lo, hi, hg, ht, _⟩ := h
  have hk : k < xs.length := (List.getElem?_eq_some_iff.1 hv).1
  simp only [World.cell?, hg]
  rw [← ht, List.getElem?_take, if_pos hk] at hv
  simpa using hv
theorem RowAt.free {w : World} {g : Nat} {xs : List Value} (h : RowAt w g xs) (k : Nat) (hk : k < xs.length) : w.frozen? ⟨g, k, none⟩ = false := by
  obtain ⟨cur, e, lo, hi, hg, _, hf⟩ := h
  have := hf k hk
  simp only [World.frozen?, hg, Bool.and_eq_false_iff, decide_eq_false_iff_not]
  omega
theorem RowAt.block {w w' : World} {g : Nat} {xs : List Value} (h : RowAt w g xs) (hb : w'.heap[g]? = w.heap[g]?) : RowAt w' g xs := by
  obtain ⟨cur, e, lo, hi, hg, rest⟩ := h
  exact ⟨cur, e, lo, hi, hb.trans hg, rest⟩
theorem RowAt.below {B : Nat} {w w' : World} {g : Nat} {xs : List Value} (h : RowAt w g xs) (hb : Below B w w') (hg : g < B) : RowAt w' g xs := h.block (hb.block g hg)
theorem RowAt.then {w w' : World} {g : Nat} {xs : List Value} (h : RowAt w g xs) (hb : Below w.heap.size w w') : RowAt w' g xs := h.below hb h.lt
theorem RowAt.alloc {w : World} {g : Nat} {xs : List Value} (h : RowAt w g xs) (o : Obj) : RowAt (w.alloc o) g xs := h.block (Below.heap_alloc w o g h.lt)
theorem RowAt.drew {w : World} {g : Nat} {xs : List Value} (h : RowAt w g xs) : RowAt w.drew g xs := h
theorem RowAt.other {w : World} {g : Nat} {xs : List Value} (h : RowAt w g xs) (a : Addr) (v : Value) (hne : g ≠ a.block) : RowAt (w.setCell a v) g xs := h.block (Below.heap_setCell w a v g hne)
theorem RowAt.set {w : World} {g : Nat} {xs : List Value} (h : RowAt w g xs) (k : Nat) (v : Value) : RowAt (w.setCell ⟨g, k, none⟩ v) g (xs.set k v) := by
  obtain ⟨cur, e, lo, hi, hg, ht, hf⟩ := h
  refine ⟨cur.setIfInBounds k v, e, lo, hi, ?_, ?_, by simpa using hf⟩
  · simp [World.setCell, Array.getElem?_modify, hg]
  · rw [List.length_set, Array.toList_setIfInBounds, List.take_set, ht]
theorem RowAt.of_own {w : World} {lo g : Nat} {e : TypeId} {size n cap : Nat} {xs : List Value} (h : w.ownsRow lo e size (.slice (some ⟨g, 0, none⟩) n cap) n xs) : RowAt w g xs := by
  rcases h.2 with ⟨hn, _⟩ | ⟨g', cap', cur, hv, _, hg, _, _, _, ht⟩
  · cases hn
  · cases hv
    exact ⟨cur, e, 0, 0, hg, by rw [h.1]; exact ht, fun i _ => by omega⟩
theorem RowAt.of_alloc (w : World) (cur : Array Value) (e : TypeId) (xs : List Value) (hx : cur.toList = xs) : RowAt (w.alloc (.cells cur e (0, 0))) w.heap.size xs :=
  ⟨cur, e, 0, 0, heap_alloc_new w _, by subst hx; exact List.take_length, fun i _ => by omega⟩

theorem own_cast {w : World} {lo : Nat} {e : TypeId} {size n n' : Nat} {v : Value} {xs xs' : List Value} (h : w.ownsRow lo e size v n xs) (hn : n = n') (hx : xs = xs') : w.ownsRow lo e size v n' xs' := by
  subst hn; subst hx; exact h
theorem own_shape {w : World} {lo : Nat} {e : TypeId} {size n : Nat} {v : Value} {xs : List Value} (h : w.ownsRow lo e size v (n + 1) xs) : ∃ g cap, v = .slice (some ⟨g, 0, none⟩) (n + 1) cap ∧ lo ≤ g ∧ RowAt w g xs := by
  rcases h.2 with ⟨_, hn⟩ | ⟨g, cap, cur, rfl, hlo, rest⟩
  · omega
  · exact ⟨g, cap, rfl, hlo, RowAt.of_own ⟨h.1, .inr ⟨g, cap, cur, rfl, hlo, rest⟩⟩⟩
/-- 'append(v, x)' of one element that was laid just before, onto a row of the call's own. -/
theorem app1 {ops : Array Oper} {rest : List Oper} {o : Oper} {a : Act} {Q : Exit → Act → World → Prop} (hgd : o.guard = none) (s x : Operand) (t : TypeId)
    (ho : o.op = .call { callee := .builtin .append, args := #[s, x], argTypes := #[t, t] }) {w0 wr : World} {e : TypeId} {z : Value} {size bytes : Nat}
    (ht : Tryd.prog.underlying t = some (.slice e)) (hinfo : (Tryd.prog.info? e).map (fun i => (i.zero, i.size, i.bytes)) = some (some z, size, bytes)) (hzs : z.cells.size = size) (hsz : 0 < size)
    {v : Value} {n : Nat} {xs news : List Value} (hown : wr.ownsRow w0.heap.size e size v n xs) (bel : Below w0.heap.size w0 wr) (hs : a.eval s = v)
    (hx : a.eval x = .slice (some ⟨wr.heap.size, 0, none⟩) 1 1) (hl : news.length = size) (h1 : ∀ u ∈ news, u.oneCell' = true) (hbytes : (n + 1) * bytes ≤ 140737488355328) (hn : n + 1 ≤ maxLen)
    (h : ∀ v' w', w'.ownsRow w0.heap.size e size v' (n + 1) (xs ++ news) → Below w0.heap.size w0 w' → (∀ g, g < wr.heap.size → some g ≠ v.ownBlock → w'.heap[g]? = wr.heap[g]?) → wr.heap.size + 1 ≤ w'.heap.size → wpList Tryd.prog ops Q rest (a.put o.dst v') w') :
    wpList Tryd.prog ops Q (o :: rest) a (wr.alloc (.cells news.toArray e)) := by
  obtain ⟨i, hi, hz0, hz1, hz2⟩ := info_parts hinfo
  refine wpList_append_own _ hgd s x t ho w0.heap.size e i z size bytes ht hi hz0 hz1 hz2 hzs hsz v n xs hs (hown.alloc _) ⟨wr.heap.size, 0, none⟩ 1 1 news hx (by omega) ?_ h1 hn hbytes (by have := bel.size; simp; omega) ?_
  · intro j u hu
    have hadd : (⟨wr.heap.size, 0, none⟩ : Addr).add j = ⟨wr.heap.size, j, none⟩ := by unfold Addr.add; split <;> simp_all
    rw [hadd]
    exact (RowAt.of_alloc wr news.toArray e news rfl).cell j u hu
  · intro v' w' hown' hg _
    refine h v' w' hown' ((below_alloc bel _).grown hg (by have := bel.size; simp; omega) (fun k hk => (hown.lt k hk).1)) (fun g hgl hne => ?_) (by have := hg.size; simpa using this)
    exact (hg.block g (by simp; omega) hne).trans (Below.heap_alloc wr _ g hgl)
/-- What was, of an element type, in the table. -/
theorem infoByte : (Tryd.prog.info? 5).map (fun i => (i.zero, i.size, i.bytes)) = some (some (.int .u8 0), 1, 1) := by kernel_rfl

def byteV (b : UInt8) : Value := .int .u8 (b.toNat : Int)

/-- '[]byte(s)': a new row of the string's bytes. -/
theorem conv_there (w : World) (s : ByteArray) : ∃ cap W, (convert 9 22 (.string s)).run Tryd.prog w = .ok (.slice (some ⟨w.heap.size, 0, none⟩) s.size cap) W ∧
    RowAt W w.heap.size (s.data.toList.map byteV) ∧ Below w.heap.size w W ∧ w.heap.size < W.heap.size := by
  refine ⟨_, _, Lib.run_convert_string_bytes (P := Tryd.prog) w 9 22 5 s Tryd.underlying9 Tryd.underlying22 Tryd.underlying5, ?_, ?_, by rw [Lib.bytesWorld_size]; omega⟩
  · have hl : (Lib.bytesCells w 5 s).size = s.size + (grownCap w s.size 0 5 - s.size) := by
      unfold Lib.bytesCells
      rw [Array.size_append, Array.size_map, Array.size_replicate]; rfl
    refine ⟨_, _, _, _, Lib.bytesWorld_at_new w 5 s, ?_, ?_⟩
    · unfold Lib.bytesCells
      rw [Array.toList_append, Array.toList_map]
      exact List.take_left (l₁ := s.data.toList.map byteV)
    · intro i hi
      have : i < s.size := by rw [List.length_map, Array.length_toList] at hi; exact hi
      omega
  · exact ⟨rfl, rfl, rfl, by rw [Lib.bytesWorld_size]; omega, fun k hk => Lib.bytesWorld_at_old w 5 s k hk⟩

/-- 'string(b)': the bytes of a row. -/
theorem conv_back (w : World) (g cap : Nat) (bs : List UInt8) (n : Nat) (hn : bs.length = n) (h : RowAt w g (bs.map byteV)) :
    (convert 22 9 (.slice (some ⟨g, 0, none⟩) n cap)).run Tryd.prog w = .ok (.string ⟨bs.toArray⟩) w := by
  have := run_convert_bytes_arg (P := Tryd.prog) w 22 5 Tryd.underlying22 Tryd.underlying5 g 0 n cap (bs.map fun b => (b.toNat : Int)) (by simpa using hn) (fun i hi => by
    rw [Nat.zero_add]
    refine h.cell i _ ?_
    have hi' : i < bs.length := by omega
    simp [List.getD, hi', byteV]) 9 Tryd.underlying9
  rw [this]
  have e : (bs.map fun b => (b.toNat : Int)).map (fun n => UInt8.ofNat n.toNat) = bs := by
    rw [List.map_map]
    exact (List.map_congr_left fun b _ => by simp).trans (List.map_id _)
  have e2 : strOfNums (bs.map fun b => (b.toNat : Int)) = ⟨bs.toArray⟩ := by
    unfold strOfNums
    rw [e]
  rw [e2]
end Go.Proofs.YthiogijicknoiaaDoor

/- Bytes as cells. -/
namespace Go.Proofs.YthiogijicknoiaaDoor
open Go.RowKit
def bV (l : List UInt8) : List Value := l.map byteV
theorem bV_len (l : List UInt8) : (bV l).length = l.length := List.length_map _
theorem bV_at (l : List UInt8) (k : Nat) (h : k < l.length) : (bV l)[k]? = some (.int .u8 (l[k].toNat : Int)) := by simp [bV, h, byteV]
theorem bV_take (l : List UInt8) (k : Nat) (h : k < l.length) : bV (l.take (k + 1)) = bV (l.take k) ++ [.int .u8 (l[k].toNat : Int)] := by
  unfold bV; rw [List.take_succ_eq_append_getElem h, List.map_append]; rfl
end Go.Proofs.YthiogijicknoiaaDoor

/- A strings.Builder: what its methods do at this program. -/
namespace Go.Proofs.YthiogijicknoiaaDoor
open Go.RowKit
set_option linter.unusedSimpArgs false
set_option linter.unusedVariables false

set_option maxRecDepth 100000 in
theorem copyCheck_used (b : Nat) (w : World) (h0 : w.cell? ⟨b, 0, none⟩ = some (.pointer (some ⟨b, 0, none⟩))) :
    Calls Tryd.prog 113 #[.pointer (some ⟨b, 0, none⟩)] w fun e w' => e = .returned (.tuple #[]) ∧ w' = w := by
  obtain ⟨j, hj, _⟩ := Option.map_eq_some_iff.1 Tryd.Builder_Extra_169.sizeBuilder
  go_enter Tryd.func113, Tryd.ntmps113
  go_wp2
  rw [Lib.run_neq_ptr_same w _ Tryd.underlying105 hj]
  go_wp2
  go_end0
  exact ⟨rfl, rfl⟩
set_option maxRecDepth 100000 in
theorem copyCheck_fresh (b : Nat) (w : World) (h0 : w.cell? ⟨b, 0, none⟩ = some (.pointer none)) (hsh : w.shape? b = some (107, 2)) (hfz : w.frozen? ⟨b, 0, none⟩ = false) :
    Calls Tryd.prog 113 #[.pointer (some ⟨b, 0, none⟩)] w fun e w' => e = .returned (.tuple #[]) ∧ w' = w.setCell ⟨b, 0, none⟩ (.pointer (some ⟨b, 0, none⟩)) := by
  obtain ⟨j, hj, hjs⟩ := Option.map_eq_some_iff.1 Tryd.Builder_Extra_169.sizeBuilder
  go_enter Tryd.func113, Tryd.ntmps113
  go_wp2
  rw [Lib.run_to_unsafe w ⟨b, 0, none⟩ Tryd.underlying105 Tryd.underlying140 hj (by rw [hjs]; decide) hsh (Nat.zero_lt_succ 1)]
  simp only [Result.andThen]
  rw [Oper.upon_value]
  go_wp2
  rw [run_callFunc_extern Tryd.func132 (by kernel_rfl) (by kernel_rfl) (by kernel_rfl) (e := Extern.AbiNoEscape.same) (by kernel_rfl)]
  rw [Lib.run_noEscape]
  simp only [Result.andThen]
  rw [Oper.upon_value]
  go_wp2
  rw [Lib.run_from_unsafe w ⟨b, 0, none⟩ Tryd.underlying140 Tryd.underlying105 hj hsh Tryd.Builder_Extra_169.liesBuilder]
  simp only [Result.andThen]
  rw [Oper.upon_value]
  go_wp2
  go_end0
  exact ⟨rfl, rfl⟩
abbrev IsB (B b : Nat) (l : List Value) (w : World) : Prop := Lib.IsBuilder 107 5 B b l w
set_option maxRecDepth 100000 in
theorem copyCheck (B b : Nat) (l : List Value) (w : World) (h : IsB B b l w) :
    Calls Tryd.prog 113 #[.pointer (some ⟨b, 0, none⟩)] w fun e w' => e = .returned (.tuple #[]) ∧ (Lib.BuilderAt 107 5 B b (.pointer (some ⟨b, 0, none⟩)) l w' ∧ Below B w w') := by
  rcases h with h | h
  · refine (copyCheck_fresh b w h.cell0 h.shape h.frozen0).mono ?_
    rintro e w' ⟨rfl, rfl⟩
    exact ⟨rfl, h.used _, (Below.refl B w).setCell (p := ⟨b, 0, none⟩) h.1 _⟩
  · refine (copyCheck_used b w h.cell0).mono ?_
    rintro e w' ⟨rfl, rfl⟩
    exact ⟨rfl, h, Below.refl B _⟩
set_option maxHeartbeats 1600000 in
set_option maxRecDepth 100000 in
theorem builder_write (B b : Nat) (l : List Value) (s : ByteArray) (w : World) (h : IsB B b l w) (hlen : l.length + s.size ≤ 140737488355328) (hBw : B ≤ w.heap.size) :
    Calls Tryd.prog 81 #[.pointer (some ⟨b, 0, none⟩), .string s] w fun e w' => e = .returned (.tuple #[.int .i64 s.size, .nilIface]) ∧ (IsB B b (l ++ Lib.strCells s) w' ∧ Below B w w') := by
  obtain ⟨i0, hi, hz0, hz1, hz2⟩ := info_parts infoByte
  go_enter Tryd.func81, Tryd.ntmps81
  go_wp2_with (go_at_call 113; refine (copyCheck B b l _ h).mono ?_)
  rintro e w1 ⟨rfl, h1, hb1⟩
  obtain ⟨hB, v, hbk, hown, hne⟩ := h1
  obtain ⟨c0, c1⟩ : w1.cell? ⟨b, 0, none⟩ = some (.pointer (some ⟨b, 0, none⟩)) ∧ w1.cell? ⟨b, 1, none⟩ = some v := by simp [World.cell?, hbk]
  go_wp2_with (at_builtin; refine Lib.wpList_append_own_string _ rfl _ _ 22 9 rfl B 5 i0 Tryd.underlying22 Tryd.underlying9 hi hz0 hz1 hz2 _ _ _ rfl hown s rfl ?c3 ?c4 ?c5 ?_)
  case c3 => unfold maxLen; omega
  case c4 => omega
  case c5 => have := hb1.size; omega
  intro v' w2 hown' hgrow _
  have hlt : b < w1.heap.size := (Array.getElem?_eq_some_iff.1 hbk).1
  have hb2 : w2.heap[b]? = some (.cells #[.pointer (some ⟨b, 0, none⟩), v] 107 (0, 0)) := by
    rw [hgrow.block b hlt (fun e => hne e.symm)]
    exact hbk
  obtain ⟨d0, d1⟩ : w2.cell? ⟨b, 0, none⟩ = some (.pointer (some ⟨b, 0, none⟩)) ∧ w2.cell? ⟨b, 1, none⟩ = some v := by simp [World.cell?, hb2]
  have f1 : w2.frozen? ⟨b, 1, none⟩ = false := by simp [World.frozen?, hb2]
  obtain ⟨ao, n', cap, rfl⟩ : ∃ ao n' cap, v' = .slice ao n' cap := by
    rcases hown'.2 with ⟨hv, _⟩ | ⟨g, cap, cur, hv, _⟩
    · exact ⟨_, _, _, hv⟩
    · exact ⟨_, _, _, hv⟩
  go_wp2
  go_ret2
  refine ⟨rfl, .inr ?_, ?_⟩
  · exact Lib.BuilderAt.put (T := 107) (e := 5) hB hb2 (bs' := l ++ Lib.strCells s) (by simpa [Lib.strCells_length] using hown') (by decide)
  · exact (hb1.grown hgrow (by have := hb1.size; omega) (fun k hk => (hown.lt k hk).1)).setCell (p := ⟨b, 1, none⟩) hB _
theorem builder_string (B b : Nat) (l : List UInt8) (w : World) (h : IsB B b (Lib.byteCells l) w) (hBw : B ≤ w.heap.size) :
    Calls Tryd.prog 82 #[.pointer (some ⟨b, 0, none⟩)] w fun e w' => e = .returned (.string ⟨l.toArray⟩) ∧ Below B w w' := Tryd.Builder_String_any B b l w h hBw
end Go.Proofs.YthiogijicknoiaaDoor

/- Plain words on bytes and strings: no program in sight. -/
namespace Go.Proofs.YthiogijicknoiaaDoor
open Go.RowKit

def inB (n lo hi : Int) : Bool := decide (lo ≤ n) && decide (n ≤ hi)

theorem inB_iff {n lo hi : Int} : inB n lo hi = true ↔ lo ≤ n ∧ n ≤ hi := by simp [inB]
theorem inB_not {n lo hi : Int} : inB n lo hi = false ↔ ¬ (lo ≤ n ∧ n ≤ hi) := by rw [← inB_iff]; simp

def letterB (c : Int) : Bool := (decide (97 ≤ c) && decide (c ≤ 122)) || (decide (65 ≤ c) && decide (c ≤ 90))
def digitB (c : Int) : Bool := decide (48 ≤ c) && decide (c ≤ 57)
def wordB (c : Int) : Bool := letterB c || digitB c || [33, 35, 36, 37, 38, 39, 42, 43, 45, 46, 94, 95, 124, 126].contains c
def plainB (c : Int) : Bool := decide (c = 9) || (decide (32 ≤ c) && decide (c ≤ 126))
def hostB (c : Int) : Bool := letterB c || digitB c || decide (c = 46) || decide (c = 45)
def pathB (c : Int) : Bool := wordB c || [47, 63, 61, 38, 58, 64, 44, 59, 40, 41].contains c

/-- Of the first k bytes all are such. -/
def allTo (p : Int → Bool) (s : ByteArray) (k : Nat) : Bool := (s.data.toList.take k).all fun b => p (b.toNat : Int)
theorem allTo_zero (p : Int → Bool) (s : ByteArray) : allTo p s 0 = true := rfl
theorem take_snoc (s : ByteArray) (k : Nat) (h : k < s.size) : s.data.toList.take (k + 1) = s.data.toList.take k ++ [s[k]] := by
  rw [List.take_succ_eq_append_getElem (by simpa using h)]; rfl
theorem allTo_succ (p : Int → Bool) (s : ByteArray) (k : Nat) (h : k < s.size) : allTo p s (k + 1) = (allTo p s k && p (s[k].toNat : Int)) := by
  unfold allTo; rw [take_snoc s k h]; simp
def allB (p : Int → Bool) (s : ByteArray) : Bool := s.data.toList.all fun b => p (b.toNat : Int)
theorem allTo_size (p : Int → Bool) (s : ByteArray) : allTo p s s.size = allB p s := by
  unfold allTo allB; rw [List.take_of_length_le (by rw [Array.length_toList]; exact Nat.le_refl _)]
theorem allB_false (p : Int → Bool) (s : ByteArray) (k : Nat) (h : k < s.size) (hp : p (s[k].toNat : Int) = false) : allB p s = false := by
  unfold allB
  rw [List.all_eq_false]
  exact ⟨s[k], List.getElem_mem (l := s.data.toList) (by rw [Array.length_toList]; exact h), by simp [hp]⟩

def wordS (s : ByteArray) : Bool := (decide (1 ≤ s.size) && decide (s.size ≤ 64)) && allB wordB s

def lowB (b : UInt8) : UInt8 := if 65 ≤ b.toNat ∧ b.toNat ≤ 90 then b + 32 else b
def lowS (s : ByteArray) : ByteArray := ⟨s.data.map lowB⟩
theorem lowS_size (s : ByteArray) : (lowS s).size = s.size := by show (s.data.map lowB).size = s.data.size; exact Array.size_map

def escB (b : UInt8) : List UInt8 := if b.toNat = 34 ∨ b.toNat = 92 then [92, b] else [b]
/-- What stands between quotes behind the first k bytes. -/
def quoteTo (s : ByteArray) (k : Nat) : List UInt8 := 34 :: (s.data.toList.take k).flatMap escB
theorem quoteTo_zero (s : ByteArray) : quoteTo s 0 = [34] := rfl
theorem quoteTo_succ (s : ByteArray) (k : Nat) (h : k < s.size) : quoteTo s (k + 1) = quoteTo s k ++ escB s[k] := by
  unfold quoteTo; rw [take_snoc s k h]; simp
theorem escB_len (b : UInt8) : (escB b).length ≤ 2 := by unfold escB; split <;> simp
theorem quoteTo_len (s : ByteArray) (k : Nat) : (quoteTo s k).length ≤ 2 * k + 1 := by
  have h : ∀ l : List UInt8, (l.flatMap escB).length ≤ 2 * l.length := by
    intro l
    induction l with
    | nil => simp
    | cons b l ih => have := escB_len b; simp only [List.flatMap_cons, List.length_append, List.length_cons]; omega
  have h1 := h (s.data.toList.take k)
  have h2 := List.length_take_le k s.data.toList
  unfold quoteTo
  simp only [List.length_cons]
  omega
def quoteL (s : ByteArray) : List UInt8 := 34 :: s.data.toList.flatMap escB ++ [34]
theorem quoteTo_size (s : ByteArray) : quoteTo s s.size ++ [34] = quoteL s := by
  unfold quoteTo quoteL; rw [List.take_of_length_le (by rw [Array.length_toList]; exact Nat.le_refl _)]
def quoteS (s : ByteArray) : ByteArray := ⟨(quoteL s).toArray⟩

/-- The number that the first k digits tell; it stays at its greatest. -/
def deltaTo (s : ByteArray) (k : Nat) : Int := (s.data.toList.take k).foldl (fun n b => min (10 * n + ((b.toNat : Int) - 48)) 2147483648) 0
theorem deltaTo_zero (s : ByteArray) : deltaTo s 0 = 0 := rfl
theorem deltaTo_succ (s : ByteArray) (k : Nat) (h : k < s.size) : deltaTo s (k + 1) = min (10 * deltaTo s k + ((s[k].toNat : Int) - 48)) 2147483648 := by
  unfold deltaTo; rw [take_snoc s k h, List.foldl_append]; rfl
theorem deltaTo_bd (s : ByteArray) (k : Nat) (h : allTo digitB s k = true) : 0 ≤ deltaTo s k ∧ deltaTo s k ≤ 2147483648 := by
  have key : ∀ (l : List UInt8) (n : Int), (l.all fun b => digitB (b.toNat : Int)) = true → 0 ≤ n → n ≤ 2147483648 → 0 ≤ l.foldl (fun n b => min (10 * n + ((b.toNat : Int) - 48)) 2147483648) n ∧ l.foldl (fun n b => min (10 * n + ((b.toNat : Int) - 48)) 2147483648) n ≤ 2147483648 := by
    intro l
    induction l with
    | nil => intro n _ h0 h1; exact ⟨h0, h1⟩
    | cons b l ih =>
      intro n hl h0 h1
      simp only [List.all_cons, Bool.and_eq_true] at hl
      have hb : 48 ≤ (b.toNat : Int) := by have := hl.1; simp only [digitB, Bool.and_eq_true, decide_eq_true_eq] at this; exact this.1
      exact ih _ hl.2 (by show 0 ≤ min _ _; omega) (by show min _ _ ≤ _; omega)
  exact key _ 0 h (by omega) (by omega)
def deltaOk (s : ByteArray) : Bool := (decide (1 ≤ s.size) && decide (s.size ≤ 64)) && allB digitB s
def deltaR (s : ByteArray) : Int × Int := if deltaOk s then (0, deltaTo s s.size) else (5, 0)

/-- What stands between quotes, from behind the first one on; none: it does not stand so. -/
def unqGo : List UInt8 → List UInt8 → Option (List UInt8)
  | _, [] => none
  | acc, b :: r => if b.toNat = 34 then (if r = [] then some acc else none) else
      if b.toNat = 92 then (match r with | [] => none | c :: r' => unqGo (acc ++ [c]) r') else unqGo (acc ++ [b]) r
theorem unqGo_cons (acc : List UInt8) (b : UInt8) (r : List UInt8) : unqGo acc (b :: r) = if b.toNat = 34 then (if r = [] then some acc else none) else
      if b.toNat = 92 then (match r with | [] => none | c :: r' => unqGo (acc ++ [c]) r') else unqGo (acc ++ [b]) r := by
  cases r <;> simp [unqGo]
def quoted (s : ByteArray) : Bool := [34].isPrefixOf s.data.toList && allB plainB s
def unqO (s : ByteArray) : Option (List UInt8) := if quoted s then unqGo [] (s.data.toList.drop 1) else none
theorem drop_at (s : ByteArray) (k : Nat) (h : k < s.size) : s.data.toList.drop k = s[k] :: s.data.toList.drop (k + 1) := by
  rw [List.drop_eq_getElem_cons (by rw [Array.length_toList]; exact h)]; rfl
theorem drop_end (s : ByteArray) (k : Nat) (h : s.size ≤ k) : s.data.toList.drop k = [] := List.drop_of_length_le (by rw [Array.length_toList]; exact h)
theorem unq_end (s : ByteArray) (k : Nat) (acc : List UInt8) (h : s.size ≤ k) : unqGo acc (s.data.toList.drop k) = none := by rw [drop_end s k h]; rfl
theorem unq_quote (s : ByteArray) (k : Nat) (acc : List UInt8) (h : k < s.size) (hq : s[k].toNat = 34) : unqGo acc (s.data.toList.drop k) = if k + 1 = s.size then some acc else none := by
  rw [drop_at s k h, unqGo_cons, if_pos hq]
  by_cases e : k + 1 = s.size
  · rw [if_pos e, drop_end s (k + 1) (by omega), if_pos rfl]
  · rw [if_neg e, drop_at s (k + 1) (by omega), if_neg (by simp)]
theorem unq_back (s : ByteArray) (k : Nat) (acc : List UInt8) (h : k < s.size) (hq : s[k].toNat = 92) (h2 : k + 1 < s.size) : unqGo acc (s.data.toList.drop k) = unqGo (acc ++ [s[k + 1]]) (s.data.toList.drop (k + 2)) := by
  rw [drop_at s k h, unqGo_cons, if_neg (by omega), if_pos hq, drop_at s (k + 1) h2]
theorem unq_back_end (s : ByteArray) (k : Nat) (acc : List UInt8) (h : k < s.size) (hq : s[k].toNat = 92) (h2 : ¬ k + 1 < s.size) : unqGo acc (s.data.toList.drop k) = none := by
  rw [drop_at s k h, unqGo_cons, if_neg (by omega), if_pos hq, drop_end s (k + 1) (by omega)]
theorem unq_plain (s : ByteArray) (k : Nat) (acc : List UInt8) (h : k < s.size) (h1 : ¬ s[k].toNat = 34) (h2 : ¬ s[k].toNat = 92) : unqGo acc (s.data.toList.drop k) = unqGo (acc ++ [s[k]]) (s.data.toList.drop (k + 1)) := by
  rw [drop_at s k h, unqGo_cons, if_neg h1, if_neg h2]
def unqR (s : ByteArray) : Int × ByteArray := if s.size ≤ 2002 then (match unqO s with | some b => (0, ⟨b.toArray⟩) | none => (5, ⟨#[]⟩)) else (2, ⟨#[]⟩)
theorem quoted_first {s : ByteArray} (h : [34].isPrefixOf s.data.toList = true) : ∃ h : 0 < s.size, s[0].toNat = 34 := by
  cases hl : s.data.toList with
  | nil => rw [hl] at h; cases h
  | cons b r =>
    have hs : 0 < s.size := by
      have : s.data.toList.length = s.size := Array.length_toList
      rw [hl] at this; simp at this; omega
    refine ⟨hs, ?_⟩
    have h0 := drop_at s 0 hs
    rw [List.drop_zero, hl] at h0
    rw [hl] at h
    simp [List.isPrefixOf] at h
    cases h0
    rw [← h]
    rfl
end Go.Proofs.YthiogijicknoiaaDoor

/- Plain words: the first code in a list that is not 0. No program in sight. -/
namespace Go.Proofs.YthiogijicknoiaaDoor
def faultG {α : Type} (f : α → Int) : List α → Int
  | [] => 0
  | h :: t => if f h = 0 then faultG f t else f h
theorem faultG_at {α : Type} (f : α → Int) : ∀ (l : List α) (k : Nat) (hk : k < l.length), (∀ j (hj : j < l.length), j < k → f l[j] = 0) → f l[k] ≠ 0 → faultG f l = f l[k]
  | [], k, hk, _, _ => absurd hk (Nat.not_lt_zero _)
  | h :: t, 0, hk, _, hn => by
    show (if f h = 0 then _ else _) = _
    rw [if_neg (show ¬ f h = 0 from hn)]; rfl
  | h :: t, k + 1, hk, hz, hn => by
    show (if f h = 0 then _ else _) = _
    rw [if_pos (show f h = 0 from hz 0 (by simp) (by omega))]
    exact faultG_at f t k (by simpa using hk) (fun j hj hjk => hz (j + 1) (by simpa using hj) (by omega)) hn
theorem faultG_none {α : Type} (f : α → Int) : ∀ (l : List α), (∀ j (hj : j < l.length), f l[j] = 0) → faultG f l = 0
  | [], _ => rfl
  | h :: t, hz => by
    show (if f h = 0 then _ else _) = _
    rw [if_pos (show f h = 0 from hz 0 (by simp))]
    exact faultG_none f t fun j hj => hz (j + 1) (by simpa using hj)
theorem faultG_all {α : Type} (f : α → Int) : ∀ (l : List α), faultG f l = 0 → ∀ h ∈ l, f h = 0
  | [], _, h, hm => by cases hm
  | x :: t, hz, h, hm => by
    by_cases hx : f x = 0
    · have e : faultG f (x :: t) = faultG f t := if_pos hx
      rcases List.mem_cons.1 hm with rfl | hm
      · exact hx
      · exact faultG_all f t (e.symm.trans hz) h hm
    · have e : faultG f (x :: t) = f x := if_neg hx
      exact absurd (e.symm.trans hz) hx
end Go.Proofs.YthiogijicknoiaaDoor

/- Plain words: texts joined. No program in sight. -/
namespace Go.Proofs.YthiogijicknoiaaDoor
open Go.RowKit
def commaS : ByteArray := ⟨#[44, 32]⟩
def joinB (sep : ByteArray) (l : List ByteArray) : ByteArray := ⟨(Lib.join (l.map (·.data.toList)) sep.data.toList).toArray⟩
theorem joinB_nil (sep : ByteArray) : joinB sep [] = ⟨#[]⟩ := rfl
theorem joinTail_append (sep : List UInt8) (r s : List (List UInt8)) : Lib.joinTail sep (r ++ s) = Lib.joinTail sep r ++ Lib.joinTail sep s := by simp [Lib.joinTail]
theorem joinB_one (sep x : ByteArray) : joinB sep [x] = x := by
  apply ByteArray.ext
  simp [joinB, Lib.join_one]
theorem joinB_snoc (sep : ByteArray) (l : List ByteArray) (x : ByteArray) (h : l ≠ []) : joinB sep (l ++ [x]) = joinB sep l ++ sep ++ x := by
  cases l with
  | nil => exact absurd rfl h
  | cons y r =>
    apply ByteArray.ext
    apply Array.toList_inj.1
    simp [joinB, Lib.join_cons, joinTail_append]
    simp [Lib.joinTail]
theorem lens_le (m : Nat) : ∀ (l : List ByteArray), (∀ x ∈ l, x.size ≤ m) → Lib.lens (l.map (·.data.toList)) ≤ l.length * m
  | [], _ => by simp [Lib.lens]
  | x :: l, h => by
    have h1 := lens_le m l fun y hy => h y (by simp [hy])
    have h2 : x.data.toList.length ≤ m := by rw [Array.length_toList]; exact h x (by simp)
    have e : Lib.lens ((x :: l).map (·.data.toList)) = x.data.toList.length + Lib.lens (l.map (·.data.toList)) := by simp [Lib.lens]
    rw [e, List.length_cons, Nat.succ_mul]; omega
theorem joinB_size (sep : ByteArray) (m : Nat) (l : List ByteArray) (h : ∀ x ∈ l, x.size ≤ m) : (joinB sep l).size ≤ l.length * (m + sep.size) := by
  have e : (joinB sep l).size = (Lib.join (l.map (·.data.toList)) sep.data.toList).length := rfl
  rw [e]
  cases l with
  | nil => simp [Lib.join_nil]
  | cons x r =>
    have h1 := lens_le m _ h
    have hs : sep.data.toList.length = sep.size := Array.length_toList
    rw [List.map_cons, Lib.join_length, List.length_map, hs, List.length_cons, Nat.mul_add, Nat.succ_mul, Nat.succ_mul]
    rw [List.map_cons, List.length_cons, Nat.succ_mul] at h1
    have := Nat.mul_comm sep.size r.length
    omega
end Go.Proofs.YthiogijicknoiaaDoor

/- Numbers: what lies between two bounds, times and their sums. -/
namespace Go.Proofs.YthiogijicknoiaaDoor
open Go.RowKit
set_option linter.unusedSimpArgs false
set_option linter.unusedVariables false

theorem impl_within (n lo hi : Int) (w : World) : Calls Tryd.prog 107 #[.int .i64 n, .int .i64 lo, .int .i64 hi] w fun e w' => e = .returned (.bool (inB n lo hi)) ∧ w = w' := by
  unfold inB
  go_enter Tryd.func107, Tryd.ntmps107
  go_wp2
  all_goals (go_ret; exact ⟨by first | rfl | (simp [*]; done) | (simp [*]; omega), by first | (with_reducible rfl) | exact (by first | (with_reducible exact Below.refl _ _) | ((repeat' (first | (with_reducible exact Below.refl _ _) | (with_reducible assumption) | (with_reducible refine below_alloc ?_ _) | (with_reducible refine Below.drew ?_) | (with_reducible refine below_drewN ?_ _) | (with_reducible refine Below.setCell ?_ ?_ _) | refine below_then ?_ (by with_reducible assumption))) <;> (first | omega | (simp; done) | (simp; omega))))⟩)

theorem spec_l1In (n lo hi : Int) (w : World) : Calls Tryd.prog 65 #[.int .i64 n, .int .i64 lo, .int .i64 hi] w fun e w' => e = .returned (.bool (inB n lo hi)) ∧ w = w' := by
  unfold inB
  go_enter Tryd.func65, Tryd.ntmps65
  go_wp2
  all_goals (go_ret; exact ⟨by first | rfl | (simp [*]; done) | (simp [*]; omega), by first | (with_reducible rfl) | exact (by first | (with_reducible exact Below.refl _ _) | ((repeat' (first | (with_reducible exact Below.refl _ _) | (with_reducible assumption) | (with_reducible refine below_alloc ?_ _) | (with_reducible refine Below.drew ?_) | (with_reducible refine below_drewN ?_ _) | (with_reducible refine Below.setCell ?_ ?_ _) | refine below_then ?_ (by with_reducible assumption))) <;> (first | omega | (simp; done) | (simp; omega))))⟩)

theorem spec_l1Min (a b : Int) (w : World) : Calls Tryd.prog 64 #[.int .i64 a, .int .i64 b] w fun e w' => e = .returned (.int .i64 (min a b)) ∧ w = w' := by
  by_cases h : a < b
  all_goals
    go_enter Tryd.func64, Tryd.ntmps64
    go_wp2
    go_ret
    exact ⟨by simp; omega, rfl⟩

end Go.Proofs.YthiogijicknoiaaDoor

/- A region that draws its order, whose calls lay blocks of their own: walked once, in the order of the text. -/
namespace Go.Proofs.YthiogijicknoiaaDoor
set_option linter.unusedVariables false
open Go.RowKit

/-- A world above W: what lay in W lies. -/
def Gb (W : World) : Type := {x : World // Below W.heap.size W x}
def Gb.w {W : World} (p : Gb W) : World := p.1
theorem Gb.h {W : World} (p : Gb W) : Below W.heap.size W p.w := p.2
instance (W : World) : Nonempty (Gb W) := ⟨⟨W, Below.refl _ _⟩⟩
instance (W : World) : Inhabited (Gb W) := ⟨⟨W, Below.refl _ _⟩⟩
theorem wp_region_below {P : Program} {id : Nat} {Q : Exit → Act → World → Prop} {a : Act} {w : World} {l : List Oper} (hm : P.follows .mixedOrders = true) (hB : Region.lexB .any l.toArray = true)
    (h : wpQuiet P l.toArray (fun w' => ∃ p : Gb w, w' = p.w) (fun a' => ∀ w', (∃ p : Gb w, w' = p.w) → Q .normal a' w') l a) : (Code.region id l.toArray true).wp P Q a w :=
  wp_region_quiet (C := fun w' => ∃ p : Gb w, w' = p.w) hm hB ⟨⟨w.drew, (Below.refl _ _).drew⟩, rfl⟩ (by simpa using h)
theorem gb_call {P : Program} {f : FuncId} {args : Array Value} {w : World} {p : Gb w} {v : Value} (h : Calls P f args p.w fun e w' => e = .returned v ∧ Below p.w.heap.size p.w w') :
    Calls P f args p.w fun e w'' => e = .returned v ∧ ∃ q : Gb w, w'' = q.w := h.mono fun _ w' ⟨he, hb⟩ => ⟨he, ⟨w', below_then p.h hb⟩, rfl⟩
theorem gb_pure {P : Program} {f : FuncId} {args : Array Value} {w : World} {p : Gb w} {v : Value} (h : Calls P f args p.w fun e w' => e = .returned v ∧ p.w = w') :
    Calls P f args p.w fun e w'' => e = .returned v ∧ ∃ q : Gb w, w'' = q.w := h.mono fun _ w' ⟨he, hb⟩ => ⟨he, p, hb.symm⟩
end Go.Proofs.YthiogijicknoiaaDoor

/- Plain law: what was quoted is read as it was. No program in sight. -/
namespace Go.Proofs.YthiogijicknoiaaDoor
open Go.RowKit

theorem unq_esc (l : List UInt8) : ∀ acc, unqGo acc (l.flatMap escB ++ [34]) = some (acc ++ l) := by
  induction l with
  | nil => intro acc; rw [List.flatMap_nil, List.nil_append, unqGo_cons, if_pos (show (34 : UInt8).toNat = 34 from rfl), if_pos rfl, List.append_nil]
  | cons b l ih =>
    intro acc
    rw [List.flatMap_cons, List.append_assoc]
    by_cases h : b.toNat = 34 ∨ b.toNat = 92
    · rw [escB, if_pos h]
      show unqGo acc (92 :: b :: (l.flatMap escB ++ [34])) = _
      rw [unqGo_cons, if_neg (by decide), if_pos (by decide)]
      show unqGo (acc ++ [b]) _ = _
      rw [ih, List.append_assoc]; rfl
    · rw [escB, if_neg h]
      show unqGo acc (b :: (l.flatMap escB ++ [34])) = _
      rw [unqGo_cons, if_neg (fun e => h (.inl e)), if_neg (fun e => h (.inr e)), ih, List.append_assoc]; rfl
theorem esc_plain (l : List UInt8) (h : (l.all fun b => plainB (b.toNat : Int)) = true) : ((l.flatMap escB).all fun b => plainB (b.toNat : Int)) = true := by
  induction l with
  | nil => rfl
  | cons b l ih =>
    rw [List.all_cons, Bool.and_eq_true] at h
    rw [List.flatMap_cons, List.all_append, ih h.2, Bool.and_true]
    unfold escB
    split
    · simp only [List.all_cons, List.all_nil, Bool.and_true, h.1]; rfl
    · simp only [List.all_cons, List.all_nil, Bool.and_true, h.1]
theorem quoteS_list (s : ByteArray) : (quoteS s).data.toList = 34 :: (s.data.toList.flatMap escB ++ [34]) := rfl
theorem quoteS_size (s : ByteArray) : (quoteS s).size ≤ 2 * s.size + 2 ∧ s.size + 2 ≤ (quoteS s).size := by
  have e : (quoteS s).size = (quoteS s).data.toList.length := Array.length_toList.symm
  have es : s.data.toList.length = s.size := Array.length_toList
  have h : ∀ l : List UInt8, (l.flatMap escB).length ≤ 2 * l.length ∧ l.length ≤ (l.flatMap escB).length := by
    intro l
    induction l with
    | nil => simp
    | cons b l ih =>
      have h2 := escB_len b
      have h1 : 1 ≤ (escB b).length := by unfold escB; split <;> simp
      simp only [List.flatMap_cons, List.length_append, List.length_cons]; omega
  have := h s.data.toList
  rw [e, quoteS_list]
  simp only [List.length_cons, List.length_append, List.length_nil]
  omega
theorem quoteS_quoted (s : ByteArray) (h : allB plainB s = true) : quoted (quoteS s) = true := by
  unfold quoted allB
  rw [quoteS_list]
  have := esc_plain _ h
  simp only [List.all_cons, List.all_append, this, List.all_nil]
  rfl
theorem unq_back_all (s : ByteArray) (h : allB plainB s = true) (hs : s.size ≤ 1000) : unqR (quoteS s) = (0, s) := by
  have hz := quoteS_size s
  unfold unqR unqO
  rw [if_pos (by omega), if_pos (quoteS_quoted s h), quoteS_list, List.drop_succ_cons, List.drop_zero, unq_esc]
  rfl
end Go.Proofs.YthiogijicknoiaaDoor

/- Plain words: the text of items. No program in sight. -/
namespace Go.Proofs.YthiogijicknoiaaDoor
open Go.RowKit
def itText (x : ByteArray) (b : Bool) (y : ByteArray) : ByteArray := if b then (if wordS y then x ++ (⟨#[61]⟩ ++ y) else x ++ (⟨#[61]⟩ ++ quoteS y)) else x
end Go.Proofs.YthiogijicknoiaaDoor

/- A region that draws its order: what each operation yields is told by a property of its own, which stands for good; the order is of no account. -/
namespace Go.Proofs.YthiogijicknoiaaDoor
set_option linter.unusedVariables false
open Go.RowKit

/-- What an operation leaves: a value, or nothing, in a world that stands to the old one as the operation may; or a call that hands back a value and leaves such a world. -/
def Good (P : Program) (R : World → World → Prop) (F : Value → World → Prop) (w : World) : Result Next → Prop
  | .ok (.value v) w' => R w w' ∧ F v w'
  | .ok .skip w' => R w w' ∧ F undef w'
  | .ok (.enter f args) w' => w' = w ∧ Calls P f args w (fun e w'' => ∃ v, e = .returned v ∧ R w w'' ∧ F v w'')
  | _ => False
theorem good_val {P : Program} {R : World → World → Prop} {F : Value → World → Prop} {x : Sem Value} {w w' : World} {v : Value} (h : x.run P w = .ok v w') (hG : R w w' ∧ F v w') : Good P R F w ((do let y ← x; pure (Next.value y) : Sem Next).run P w) := by
  rw [Sem.run_bind, h]
  exact hG
/-- What stands of the operations that one comes after. -/
def DepsOK (ops : Array Oper) (F : Nat → Value → World → Prop) (ρ : Operand → Value) (w : World) (o : Oper) : Prop :=
  ∀ e ∈ o.after, Region.binds .any e = true → ∀ (oj : Oper) (d : Tmp), ops[e.on]? = some oj → oj.dst = some d → F e.on (ρ (.tmp d)) w
def StepOK (P : Program) (ops : Array Oper) (I : World → Prop) (R : Nat → World → World → Prop) (F : Nat → Value → World → Prop) (a0 : Act) (i : Nat) (o : Oper) : Prop :=
  ∀ (ρ : Operand → Value) (w : World), I w → (∀ x, (∀ (i : Nat) (oi : Oper) (d : Tmp), ops[i]? = some oi → oi.dst = some d → x ≠ .tmp d) → ρ x = a0.eval x) → DepsOK ops F ρ w o → Good P (R i) (F i) w ((execOp ρ o).run P w)
/-- What the law asks of a region's form. -/
def regB (ops : Array Oper) (n : Nat) : Bool :=
  (List.range ops.size).all fun i => match ops[i]? with
    | some o => o.guard.isNone && (match o.dst with | some d => decide (d < n) && (List.range ops.size).all fun j => decide (j = i) || (match ops[j]? with | some oj => oj.dst != some d | none => true) | none => true) &&
        o.after.all fun e => !Region.binds .any e || decide (e.on < i)
    | none => false
theorem regB_spec {ops : Array Oper} {n : Nat} (h : regB ops n = true) {i : Nat} {o : Oper} (hi : ops[i]? = some o) : o.guard = none ∧ (∀ d, o.dst = some d → d < n ∧ ∀ (j : Nat) (oj : Oper), j ≠ i → ops[j]? = some oj → oj.dst ≠ some d) ∧ ∀ e ∈ o.after, Region.binds .any e = true → e.on < i := by
  unfold regB at h
  have hlt : i < ops.size := (Array.getElem?_eq_some_iff.1 hi).1
  have h1 := List.all_eq_true.1 h i (List.mem_range.2 hlt)
  simp only [hi, Bool.and_eq_true, Option.isNone_iff_eq_none] at h1
  obtain ⟨⟨hg, hd⟩, ha⟩ := h1
  refine ⟨hg, ?_, fun e he hb => ?_⟩
  · intro d hdst
    simp only [hdst, Bool.and_eq_true, decide_eq_true_eq] at hd
    · refine ⟨hd.1, fun j oj hj hoj e => ?_⟩
      have hjl : j < ops.size := (Array.getElem?_eq_some_iff.1 hoj).1
      have h2 := List.all_eq_true.1 hd.2 j (List.mem_range.2 hjl)
      simp [hoj, hj, e] at h2
  · have h2 := Array.all_eq_true_iff_forall_mem.1 ha e he
    simpa [hb] using h2
structure RInv (ops : Array Oper) (I : World → Prop) (F : Nat → Value → World → Prop) (a0 : Act) (listed : Array Bool) (a : Act) (w : World) : Prop where
  inv : I w
  size : a.tmps.size = a0.tmps.size
  defers : a.defers = a0.defers
  lsize : listed.size = ops.size
  done : ∀ (i : Nat) (oi : Oper) (d : Tmp), ops[i]? = some oi → oi.dst = some d → listed.getD i false = true → F i (a.tmps.getD d undef) w
  doneN : ∀ (i : Nat) (oi : Oper), ops[i]? = some oi → oi.dst = none → listed.getD i false = true → F i undef w
  rest : ∀ x, (∀ (i : Nat) (oi : Oper) (d : Tmp), ops[i]? = some oi → oi.dst = some d → x ≠ .tmp d) → a.eval x = a0.eval x
theorem countP_lt {α : Type} {p q : α → Bool} : ∀ {l : List α}, (∀ x ∈ l, p x = true → q x = true) → ∀ x, x ∈ l → p x = false → q x = true → l.countP p < l.countP q
  | [], _, x, hx, _, _ => by cases hx
  | y :: l, h, x, hx, hp, hq => by
    rw [List.countP_cons, List.countP_cons]
    have hle : l.countP p ≤ l.countP q := List.countP_mono_left fun z hz hz' => h z (List.mem_cons_of_mem _ hz) hz'
    rcases List.mem_cons.1 hx with rfl | hx'
    · rw [hp, hq]; simp; omega
    · have ih := countP_lt (fun z hz hz' => h z (List.mem_cons_of_mem _ hz) hz') x hx' hp hq
      by_cases hy : p y = true
      · rw [hy, h y (List.mem_cons_self ..) hy]; omega
      · simp only [Bool.not_eq_true] at hy
        rw [hy]
        split <;> simp_all <;> omega
def left (ops : Array Oper) (listed : Array Bool) : Nat := (List.range ops.size).countP fun i => !listed.getD i true
theorem ready_nil {ops : Array Oper} {n : Nat} (hB : regB ops n = true) {listed : Array Bool} (hl : listed.size = ops.size) (h : Region.ready .any ops listed = []) : ∀ i, i < ops.size → listed.getD i true = true := by
  intro i
  induction i using Nat.strongRecOn with
  | ind i ih =>
    intro hi
    by_cases hc : listed.getD i true = true
    · exact hc
    · exfalso
      simp only [Bool.not_eq_true] at hc
      have hmem : i ∈ Region.ready .any ops listed := mem_ready.2 ⟨hc, ops[i], Array.getElem?_eq_getElem hi, fun e he hb => by
        have hlt := (regB_spec hB (Array.getElem?_eq_getElem hi)).2.2 e he hb
        have := ih e.on hlt (by omega)
        have hel : e.on < listed.size := by omega
        simp only [Array.getD, hel, dif_pos] at this ⊢
        exact this⟩
      rw [h] at hmem
      cases hmem
theorem wpAny_rel {P : Program} {ops : Array Oper} {I : World → Prop} {R : Nat → World → World → Prop} {F : Nat → Value → World → Prop} {a0 : Act} {Q : Exit → Act → World → Prop} (hB : regB ops a0.tmps.size = true)
    (hinv : ∀ i w w', I w → R i w w' → I w') (hkeep : ∀ i j v w w', j ≠ i → I w → R i w w' → F j v w → F j v w') (hun : ∀ (i : Nat) (o : Oper) (v : Value) (w : World), ops[i]? = some o → o.dst = none → F i v w → F i undef w) (hstep : ∀ i o, ops[i]? = some o → StepOK P ops I R F a0 i o)
    (hQ : ∀ a w, I w → a.tmps.size = a0.tmps.size → a.defers = a0.defers → (∀ (i : Nat) (oi : Oper) (d : Tmp), ops[i]? = some oi → oi.dst = some d → F i (a.tmps.getD d undef) w) → (∀ (i : Nat) (oi : Oper), ops[i]? = some oi → oi.dst = none → F i undef w) →
      (∀ x, (∀ (i : Nat) (oi : Oper) (d : Tmp), ops[i]? = some oi → oi.dst = some d → x ≠ .tmp d) → a.eval x = a0.eval x) → Q .normal a w) :
    ∀ (fuel : Nat) (listed : Array Bool) (a : Act) (w : World), left ops listed ≤ fuel → RInv ops I F a0 listed a w → wpAny P .any ops Q fuel listed a w := by
  have fin : ∀ (listed : Array Bool) (a : Act) (w : World), RInv ops I F a0 listed a w → Region.ready .any ops listed = [] → Q .normal a w := by
    intro listed a w hI hr
    have key : ∀ i, i < ops.size → listed.getD i false = true := by
      intro i hlt
      have := ready_nil hB hI.lsize hr i hlt
      have hl := hI.lsize
      have hel : i < listed.size := by omega
      simp only [Array.getD, hel, dif_pos] at this ⊢
      exact this
    exact hQ a w hI.inv hI.size hI.defers (fun i oi d hi hd => hI.done i oi d hi hd (key i (Array.getElem?_eq_some_iff.1 hi).1)) (fun i oi hi hd => hI.doneN i oi hi hd (key i (Array.getElem?_eq_some_iff.1 hi).1)) hI.rest
  intro fuel
  induction fuel with
  | zero =>
    intro listed a w hf hI
    have hnil : Region.ready .any ops listed = [] := by
      cases hr : Region.ready .any ops listed with
      | nil => rfl
      | cons i r =>
        exfalso
        have hi : i ∈ Region.ready .any ops listed := by rw [hr]; exact List.mem_cons_self ..
        obtain ⟨h0, o, ho, _⟩ := mem_ready.1 hi
        have hlt : i < ops.size := (Array.getElem?_eq_some_iff.1 ho).1
        have : 0 < left ops listed := List.countP_pos_iff.2 ⟨i, List.mem_range.2 hlt, by simp [h0]⟩
        omega
    exact ⟨hnil, fin listed a w hI hnil⟩
  | succ fuel ih =>
    intro listed a w hf hI
    refine ⟨fin listed a w hI, fun i hi => ?_⟩
    obtain ⟨h0, o, ho, hdep⟩ := mem_ready.1 hi
    have hlt : i < ops.size := (Array.getElem?_eq_some_iff.1 ho).1
    obtain ⟨hg, hdst, _⟩ := regB_spec hB ho
    have hll : i < listed.size := by rw [hI.lsize]; exact hlt
    have hcount : left ops (listed.setIfInBounds i true) ≤ fuel := by
      have : left ops (listed.setIfInBounds i true) < left ops listed := by
        refine countP_lt (fun x hx hp => ?_) i (List.mem_range.2 hlt) ?_ (by simp [h0])
        · by_cases hxi : i = x
          · subst hxi; simp [hll] at hp
          · rw [getD_set_ne true hxi] at hp; exact hp
        · simp [hll]
      omega
    have next : ∀ v w', R i w w' → F i v w' → wpAny P .any ops Q fuel (listed.setIfInBounds i true) (a.put o.dst v) w' := by
      intro v w' hb hF
      refine ih _ _ _ hcount ⟨hinv i w w' hI.inv hb, ?_, ?_, ?_, ?_, ?_, ?_⟩
      · cases hd : o.dst <;> simp [Act.put, hI.size]
      · cases hd : o.dst <;> exact hI.defers
      · rw [Array.size_setIfInBounds]; exact hI.lsize
      · intro j oj dj hj hdj hlj
        by_cases hji : j = i
        · subst hji
          rw [ho] at hj
          obtain rfl := Option.some.inj hj
          have hdl : dj < a.tmps.size := by rw [hI.size]; exact (hdst dj hdj).1
          rw [hdj]
          simpa [Act.put, hdl] using hF
        · rw [getD_set_ne false (Ne.symm hji)] at hlj
          have h1 := hkeep i j _ _ _ hji hI.inv hb (hI.done j oj dj hj hdj hlj)
          cases hd : o.dst with
          | none => exact h1
          | some d =>
            have hne : d ≠ dj := fun e => (hdst d hd).2 j oj hji hj (by rw [hdj, e])
            simpa [Act.put, Array.getElem?_setIfInBounds_ne hne] using h1
      · intro j oj hj hdj hlj
        by_cases hji : j = i
        · subst hji
          rw [ho] at hj
          obtain rfl := Option.some.inj hj
          exact hun _ _ v _ ho hdj hF
        · rw [getD_set_ne false (Ne.symm hji)] at hlj
          exact hkeep i j _ _ _ hji hI.inv hb (hI.doneN j oj hj hdj hlj)
      · intro x hx
        have hxd : ∀ d', o.dst = some d' → x ≠ .tmp d' := fun d' hd' => hx i o d' ho hd'
        rw [Act.eval_put hxd]
        exact hI.rest x hx
    unfold wpOp
    rw [ho]
    simp only []
    have hw : Region.wanted o (yielded ops a.tmps) = true := by unfold Region.wanted; rw [hg]
    rw [if_pos hw]
    refine .inl ?_
    have hgood := hstep i o ho a.eval w hI.inv hI.rest (fun e he hb oj dj hoj hdj => hI.done e.on oj dj hoj hdj (hdep e he hb))
    unfold Oper.wp
    generalize (execOp a.eval o).run P w = r at hgood
    cases r with
    | ok n w' =>
      cases n <;> simp only [Good] at hgood
      case value v => exact next v w' hgood.1 hgood.2
      case skip => exact next undef w' hgood.1 hgood.2
      case enter f args =>
        obtain ⟨rfl, hc⟩ := hgood
        exact hc.mono fun e w'' ⟨v, he, hb, hF⟩ => by subst he; exact next v w'' hb hF
    | halt x w' => simp only [Good] at hgood
theorem base_tmp {ops : Array Oper} {t : Tmp} (hB : (ops.all fun o => o.dst != some t) = true) : ∀ (i : Nat) (oi : Oper) (d : Tmp), ops[i]? = some oi → oi.dst = some d → Operand.tmp t ≠ .tmp d := by
  intro i oi d hi hd e
  have h1 : oi ∈ ops := Array.mem_of_getElem? hi
  have h2 := Array.all_eq_true_iff_forall_mem.1 hB oi h1
  cases e
  simp [hd] at h2
def StepsFrom (P : Program) (ops : Array Oper) (I : World → Prop) (R : Nat → World → World → Prop) (F : Nat → Value → World → Prop) (a0 : Act) : Nat → List Oper → Prop
  | _, [] => True
  | k, o :: r => StepOK P ops I R F a0 k o ∧ StepsFrom P ops I R F a0 (k + 1) r
theorem steps_of {P : Program} {ops : Array Oper} {I : World → Prop} {R : Nat → World → World → Prop} {F : Nat → Value → World → Prop} {a0 : Act} : ∀ (l : List Oper) (k : Nat), StepsFrom P ops I R F a0 k l → ∀ i o, l[i]? = some o → StepOK P ops I R F a0 (k + i) o
  | [], _, _, i, o, h => by simp at h
  | x :: r, k, ⟨h0, h1⟩, 0, o, h => by
    have : x = o := by simpa using h
    subst this
    exact h0
  | x :: r, k, ⟨h0, h1⟩, i + 1, o, h => by
    have := steps_of r (k + 1) h1 i o (by simpa using h)
    rw [show k + (i + 1) = k + 1 + i from by omega]
    exact this
def unB (ops : Array Oper) (k : Nat) : Bool := (List.range ops.size).all fun i => match ops[i]? with | some o => o.dst.isSome || decide (i = k) | none => true
theorem unB_spec {ops : Array Oper} {k i : Nat} {o : Oper} (h : unB ops k = true) (hi : ops[i]? = some o) (hd : o.dst = none) : i = k := by
  have hlt : i < ops.size := (Array.getElem?_eq_some_iff.1 hi).1
  have h1 := List.all_eq_true.1 h i (List.mem_range.2 hlt)
  simpa [hi, hd] using h1
theorem wp_region_rel {P : Program} {id : Nat} {l : List Oper} {a0 : Act} {w0 : World} {Q : Exit → Act → World → Prop} (I : World → Prop) (R : Nat → World → World → Prop) (F : Nat → Value → World → Prop) (hm : P.follows .mixedOrders = true) (hB : regB l.toArray a0.tmps.size = true)
    (h0 : I w0.drew) (hinv : ∀ i w w', I w → R i w w' → I w') (hkeep : ∀ i j v w w', j ≠ i → I w → R i w w' → F j v w → F j v w') (hun : ∀ (i : Nat) (o : Oper) (v : Value) (w : World), l.toArray[i]? = some o → o.dst = none → F i v w → F i undef w)
    (hstep : StepsFrom P l.toArray I R F a0 0 l)
    (hQ : ∀ a w, I w → a.tmps.size = a0.tmps.size → a.defers = a0.defers → (∀ (i : Nat) (oi : Oper) (d : Tmp), l.toArray[i]? = some oi → oi.dst = some d → F i (a.tmps.getD d undef) w) → (∀ (i : Nat) (oi : Oper), l.toArray[i]? = some oi → oi.dst = none → F i undef w) →
      (∀ x, (∀ (i : Nat) (oi : Oper) (d : Tmp), l.toArray[i]? = some oi → oi.dst = some d → x ≠ .tmp d) → a.eval x = a0.eval x) → Q .normal a w) :
    (Code.region id l.toArray true).wp P Q a0 w0 := by
  have hst : ∀ i o, l.toArray[i]? = some o → StepOK P l.toArray I R F a0 i o := fun i o h => by
    have := steps_of l 0 hstep i o (by simpa using h)
    rw [Nat.zero_add] at this
    exact this
  refine wp_region_any hm (wpAny_rel (a0 := a0) hB hinv hkeep hun hst hQ _ _ _ _ ?_ ⟨h0, rfl, rfl, by simp, ?_, ?_, fun x _ => rfl⟩)
  · exact Nat.le_trans (List.countP_le_length) (by simp)
  · intro i oi d hi _ hl
    have hlt : i < l.toArray.size := (Array.getElem?_eq_some_iff.1 hi).1
    simp at hlt
    simp [hlt] at hl
  · intro i oi hi _ hl
    have hlt : i < l.toArray.size := (Array.getElem?_eq_some_iff.1 hi).1
    simp at hlt
    simp [hlt] at hl
end Go.Proofs.YthiogijicknoiaaDoor

/- The frame behind a region, written out. -/
namespace Go.Proofs.YthiogijicknoiaaDoor
set_option linter.unusedVariables false
open Go.RowKit
theorem sets_all {T : Array Value} : ∀ (ds : List (Nat × Value)) (ts : Array Value), ts.size = T.size → (∀ p ∈ ds, T.getD p.1 undef = p.2) → (∀ i, i ∉ ds.map Prod.fst → ts.getD i undef = T.getD i undef) → ds.foldl (fun ts p => ts.setIfInBounds p.1 p.2) ts = T
  | [], ts, hs, _, hr => by
    refine Array.ext hs fun i h1 h2 => ?_
    have this := hr i (by simp)
    have h1' : i < ts.size := h1
    have e1 : ts.getD i undef = ts[i] := by simp [h1']
    have e2 : T.getD i undef = T[i] := by simp [h2]
    rw [e1, e2] at this
    exact this
  | p :: ds, ts, hs, hv, hr => by
    rw [List.foldl_cons]
    refine sets_all ds _ (by rw [Array.size_setIfInBounds]; exact hs) (fun q hq => hv q (List.mem_cons_of_mem _ hq)) (fun i hi => ?_)
    by_cases e : p.1 = i
    · have h1 := hv p (List.mem_cons_self ..)
      subst e
      rw [h1]
      by_cases hl : p.1 < ts.size
      · simp [hl]
      · have hl2 : ¬ p.1 < T.size := by omega
        simp only [Array.getD, Array.size_setIfInBounds, hl, hl2, dite_false] at h1 ⊢
        exact h1
    · have h2 : (ts.setIfInBounds p.1 p.2).getD i undef = ts.getD i undef := by
        simp only [Array.getD_eq_getD_getElem?, Array.getElem?_setIfInBounds_ne e]
      rw [h2]
      exact hr i (fun q => by
        rw [List.map_cons, List.mem_cons] at q
        rcases q with q | q
        · exact e q.symm
        · exact hi q)
theorem after_region {ops : Array Oper} {a a0 : Act} (ds : List (Nat × Value)) (hsz : a.tmps.size = a0.tmps.size) (hdef : a.defers = a0.defers)
    (hrest : ∀ x, (∀ (i : Nat) (oi : Oper) (d : Tmp), ops[i]? = some oi → oi.dst = some d → x ≠ .tmp d) → a.eval x = a0.eval x) (hcov : (ops.all fun o => match o.dst with | some d => ds.any (fun p => p.1 == d) | none => true) = true)
    (hds : ∀ p ∈ ds, a.tmps.getD p.1 undef = p.2) : a = ⟨ds.foldl (fun ts p => ts.setIfInBounds p.1 p.2) a0.tmps, a0.defers⟩ := by
  have key := sets_all (T := a.tmps) ds a0.tmps hsz.symm hds (fun i hi => by
    have := hrest (.tmp i) (fun j oj d hj hd e => by
      cases e
      have h1 : oj ∈ ops := Array.mem_of_getElem? hj
      have h2 := Array.all_eq_true_iff_forall_mem.1 hcov oj h1
      simp only [hd, List.any_eq_true, beq_iff_eq] at h2
      obtain ⟨p, hp, e⟩ := h2
      exact hi (List.mem_map.2 ⟨p, hp, e⟩))
    exact this.symm)
  rw [key, ← hdef]
end Go.Proofs.YthiogijicknoiaaDoor

/- A region that draws its order and bears guards: 'live' tells which operations are wanted; what is not wanted yields nothing. -/
namespace Go.Proofs.YthiogijicknoiaaDoor
set_option linter.unusedVariables false
open Go.RowKit

def asB : Value → Option Bool
  | .bool b => some b
  | _ => none
theorem yielded_eq {ops : Array Oper} {tmps : Array Value} {j d : Nat} {oj : Oper} (hj : ops[j]? = some oj) (hd : oj.dst = some d) (hl : d < tmps.size) : yielded ops tmps j = asB (tmps.getD d undef) := by
  unfold yielded
  rw [hj]
  simp only [Option.bind_some, hd]
  rw [Array.getElem?_eq_getElem hl]
  have : tmps.getD d undef = tmps[d] := by simp [hl]
  rw [this]
  generalize tmps[d] = v
  cases v <;> rfl
/-- What the law asks of a region's form. -/
def regBG (ops : Array Oper) (n : Nat) : Bool :=
  (List.range ops.size).all fun i => match ops[i]? with
    | some o => (match o.guard with | none => true | some (j, _) => (match ops[j]? with | some oj => oj.dst.isSome && o.after.any (fun e => Region.binds .any e && decide (e.on = j)) | none => false)) &&
        (match o.dst with | some d => decide (d < n) && (List.range ops.size).all fun j => decide (j = i) || (match ops[j]? with | some oj => oj.dst != some d | none => true) | none => true) &&
        o.after.all fun e => !Region.binds .any e || decide (e.on < i)
    | none => false
theorem regBG_spec {ops : Array Oper} {n : Nat} (h : regBG ops n = true) {i : Nat} {o : Oper} (hi : ops[i]? = some o) :
    (∀ j want, o.guard = some (j, want) → ∃ oj dj, ops[j]? = some oj ∧ oj.dst = some dj ∧ ∃ e ∈ o.after, Region.binds .any e = true ∧ e.on = j) ∧ (∀ d, o.dst = some d → d < n ∧ ∀ (j : Nat) (oj : Oper), j ≠ i → ops[j]? = some oj → oj.dst ≠ some d) ∧ ∀ e ∈ o.after, Region.binds .any e = true → e.on < i := by
  unfold regBG at h
  have hlt : i < ops.size := (Array.getElem?_eq_some_iff.1 hi).1
  have h1 := List.all_eq_true.1 h i (List.mem_range.2 hlt)
  simp only [hi, Bool.and_eq_true] at h1
  obtain ⟨⟨hg, hd⟩, ha⟩ := h1
  refine ⟨?_, ?_, fun e he hb => ?_⟩
  · intro j want hgd
    simp only [hgd] at hg
    cases hoj : ops[j]? with
    | none => simp [hoj] at hg
    | some oj =>
      simp only [hoj, Bool.and_eq_true] at hg
      obtain ⟨h3, h4⟩ := hg
      obtain ⟨dj, hdj⟩ := Option.isSome_iff_exists.1 h3
      obtain ⟨k, hk, hb⟩ := Array.any_eq_true.1 h4
      simp only [Bool.and_eq_true, decide_eq_true_eq] at hb
      exact ⟨oj, dj, rfl, hdj, o.after[k], Array.getElem_mem hk, hb.1, hb.2⟩
  · intro d hdst
    simp only [hdst, Bool.and_eq_true, decide_eq_true_eq] at hd
    refine ⟨hd.1, fun j oj hj hoj e => ?_⟩
    have hjl : j < ops.size := (Array.getElem?_eq_some_iff.1 hoj).1
    have h2 := List.all_eq_true.1 hd.2 j (List.mem_range.2 hjl)
    simp [hoj, hj, e] at h2
  · have h2 := Array.all_eq_true_iff_forall_mem.1 ha e he
    simpa [hb] using h2
theorem ready_nilG {ops : Array Oper} {n : Nat} (hB : regBG ops n = true) {listed : Array Bool} (hl : listed.size = ops.size) (h : Region.ready .any ops listed = []) : ∀ i, i < ops.size → listed.getD i true = true := by
  intro i
  induction i using Nat.strongRecOn with
  | ind i ih =>
    intro hi
    by_cases hc : listed.getD i true = true
    · exact hc
    · exfalso
      simp only [Bool.not_eq_true] at hc
      have hmem : i ∈ Region.ready .any ops listed := mem_ready.2 ⟨hc, ops[i], Array.getElem?_eq_getElem hi, fun e he hb => by
        have hlt := (regBG_spec hB (Array.getElem?_eq_getElem hi)).2.2 e he hb
        have := ih e.on hlt (by omega)
        have hel : e.on < listed.size := by omega
        simp only [Array.getD, hel, dif_pos] at this ⊢
        exact this⟩
      rw [h] at hmem
      cases hmem
/-- A guard is met just where the operation is live. -/
def GuardOK (ops : Array Oper) (I : World → Prop) (F : Nat → Value → World → Prop) (live : Nat → Bool) : Prop :=
  ∀ (i : Nat) (o : Oper), ops[i]? = some o → (o.guard = none → live i = true) ∧ ∀ j want, o.guard = some (j, want) → ∀ v w, I w → F j v w → (asB v == some want) = live i
theorem wpAny_relG {P : Program} {ops : Array Oper} {I : World → Prop} {R : Nat → World → World → Prop} {F : Nat → Value → World → Prop} {live : Nat → Bool} {a0 : Act} {Q : Exit → Act → World → Prop} (hB : regBG ops a0.tmps.size = true) (hG : GuardOK ops I F live) (hdead : ∀ i w, live i = false → I w → F i undef w)
    (hinv : ∀ i w w', I w → R i w w' → I w') (hkeep : ∀ i j v w w', j ≠ i → I w → R i w w' → F j v w → F j v w') (hun : ∀ (i : Nat) (o : Oper) (v : Value) (w : World), ops[i]? = some o → o.dst = none → F i v w → F i undef w) (hstep : ∀ i o, ops[i]? = some o → live i = true → StepOK P ops I R F a0 i o)
    (hQ : ∀ a w, I w → a.tmps.size = a0.tmps.size → a.defers = a0.defers → (∀ (i : Nat) (oi : Oper) (d : Tmp), ops[i]? = some oi → oi.dst = some d → F i (a.tmps.getD d undef) w) → (∀ (i : Nat) (oi : Oper), ops[i]? = some oi → oi.dst = none → F i undef w) →
      (∀ x, (∀ (i : Nat) (oi : Oper) (d : Tmp), ops[i]? = some oi → oi.dst = some d → x ≠ .tmp d) → a.eval x = a0.eval x) → Q .normal a w) :
    ∀ (fuel : Nat) (listed : Array Bool) (a : Act) (w : World), left ops listed ≤ fuel → RInv ops I F a0 listed a w → wpAny P .any ops Q fuel listed a w := by
  have fin : ∀ (listed : Array Bool) (a : Act) (w : World), RInv ops I F a0 listed a w → Region.ready .any ops listed = [] → Q .normal a w := by
    intro listed a w hI hr
    have key : ∀ i, i < ops.size → listed.getD i false = true := by
      intro i hlt
      have := ready_nilG hB hI.lsize hr i hlt
      have hl := hI.lsize
      have hel : i < listed.size := by omega
      simp only [Array.getD, hel, dif_pos] at this ⊢
      exact this
    exact hQ a w hI.inv hI.size hI.defers (fun i oi d hi hd => hI.done i oi d hi hd (key i (Array.getElem?_eq_some_iff.1 hi).1)) (fun i oi hi hd => hI.doneN i oi hi hd (key i (Array.getElem?_eq_some_iff.1 hi).1)) hI.rest
  intro fuel
  induction fuel with
  | zero =>
    intro listed a w hf hI
    have hnil : Region.ready .any ops listed = [] := by
      cases hr : Region.ready .any ops listed with
      | nil => rfl
      | cons i r =>
        exfalso
        have hi : i ∈ Region.ready .any ops listed := by rw [hr]; exact List.mem_cons_self ..
        obtain ⟨h0, o, ho, _⟩ := mem_ready.1 hi
        have hlt : i < ops.size := (Array.getElem?_eq_some_iff.1 ho).1
        have : 0 < left ops listed := List.countP_pos_iff.2 ⟨i, List.mem_range.2 hlt, by simp [h0]⟩
        omega
    exact ⟨hnil, fin listed a w hI hnil⟩
  | succ fuel ih =>
    intro listed a w hf hI
    refine ⟨fin listed a w hI, fun i hi => ?_⟩
    obtain ⟨h0, o, ho, hdep⟩ := mem_ready.1 hi
    have hlt : i < ops.size := (Array.getElem?_eq_some_iff.1 ho).1
    obtain ⟨hg, hdst, _⟩ := regBG_spec hB ho
    have hll : i < listed.size := by rw [hI.lsize]; exact hlt
    have hcount : left ops (listed.setIfInBounds i true) ≤ fuel := by
      have : left ops (listed.setIfInBounds i true) < left ops listed := by
        refine countP_lt (fun x hx hp => ?_) i (List.mem_range.2 hlt) ?_ (by simp [h0])
        · by_cases hxi : i = x
          · subst hxi; simp [hll] at hp
          · rw [getD_set_ne true hxi] at hp; exact hp
        · simp [hll]
      omega
    have next : ∀ v w', (R i w w' ∨ w' = w) → F i v w' → wpAny P .any ops Q fuel (listed.setIfInBounds i true) (a.put o.dst v) w' := by
      intro v w' hb hF
      have hI' : I w' := by
        rcases hb with hb | rfl
        · exact hinv i w w' hI.inv hb
        · exact hI.inv
      have hk : ∀ j x, j ≠ i → F j x w → F j x w' := fun j x hji hF' => by
        rcases hb with hb | rfl
        · exact hkeep i j _ _ _ hji hI.inv hb hF'
        · exact hF'
      refine ih _ _ _ hcount ⟨hI', ?_, ?_, ?_, ?_, ?_, ?_⟩
      · cases hd : o.dst <;> simp [Act.put, hI.size]
      · cases hd : o.dst <;> exact hI.defers
      · rw [Array.size_setIfInBounds]; exact hI.lsize
      · intro j oj dj hj hdj hlj
        by_cases hji : j = i
        · subst hji
          rw [ho] at hj
          obtain rfl := Option.some.inj hj
          have hdl : dj < a.tmps.size := by rw [hI.size]; exact (hdst dj hdj).1
          rw [hdj]
          simpa [Act.put, hdl] using hF
        · rw [getD_set_ne false (Ne.symm hji)] at hlj
          have h1 := hk j _ hji (hI.done j oj dj hj hdj hlj)
          cases hd : o.dst with
          | none => exact h1
          | some d =>
            have hne : d ≠ dj := fun e => (hdst d hd).2 j oj hji hj (by rw [hdj, e])
            simpa [Act.put, Array.getElem?_setIfInBounds_ne hne] using h1
      · intro j oj hj hdj hlj
        by_cases hji : j = i
        · subst hji
          rw [ho] at hj
          obtain rfl := Option.some.inj hj
          exact hun _ _ v _ ho hdj hF
        · rw [getD_set_ne false (Ne.symm hji)] at hlj
          exact hk j _ hji (hI.doneN j oj hj hdj hlj)
      · intro x hx
        have hxd : ∀ d', o.dst = some d' → x ≠ .tmp d' := fun d' hd' => hx i o d' ho hd'
        rw [Act.eval_put hxd]
        exact hI.rest x hx
    unfold wpOp
    rw [ho]
    simp only []
    have hw : Region.wanted o (yielded ops a.tmps) = live i := by
      unfold Region.wanted
      cases hgd : o.guard with
      | none => exact ((hG i o ho).1 hgd).symm
      | some p =>
        obtain ⟨j, want⟩ := p
        obtain ⟨oj, dj, hoj, hdj, e, he, hb, hon⟩ := hg j want hgd
        have hl := hdep e he hb
        rw [hon] at hl
        have hdl : dj < a.tmps.size := by rw [hI.size]; exact ((regBG_spec hB hoj).2.1 dj hdj).1
        simp only
        rw [yielded_eq hoj hdj hdl]
        exact (hG i o ho).2 j want hgd _ w hI.inv (hI.done j oj dj hoj hdj hl)
    rw [hw]
    cases hlv : live i with
    | false =>
      rw [if_neg (by decide)]
      exact next undef w (.inr rfl) (hdead i w hlv hI.inv)
    | true =>
      rw [if_pos rfl]
      refine .inl ?_
      have hgood := hstep i o ho hlv a.eval w hI.inv hI.rest (fun e he hb oj dj hoj hdj => hI.done e.on oj dj hoj hdj (hdep e he hb))
      unfold Oper.wp
      generalize (execOp a.eval o).run P w = r at hgood
      cases r with
      | ok n w' =>
        cases n <;> simp only [Good] at hgood
        case value v => exact next v w' (.inl hgood.1) hgood.2
        case skip => exact next undef w' (.inl hgood.1) hgood.2
        case enter f args =>
          obtain ⟨rfl, hc⟩ := hgood
          exact hc.mono fun e w'' ⟨v, he, hb, hF⟩ => by subst he; exact next v w'' (.inl hb) hF
      | halt x w' => simp only [Good] at hgood
def StepsFromG (P : Program) (ops : Array Oper) (I : World → Prop) (R : Nat → World → World → Prop) (F : Nat → Value → World → Prop) (live : Nat → Bool) (a0 : Act) : Nat → List Oper → Prop
  | _, [] => True
  | k, o :: r => (live k = true → StepOK P ops I R F a0 k o) ∧ StepsFromG P ops I R F live a0 (k + 1) r
theorem steps_ofG {P : Program} {ops : Array Oper} {I : World → Prop} {R : Nat → World → World → Prop} {F : Nat → Value → World → Prop} {live : Nat → Bool} {a0 : Act} : ∀ (l : List Oper) (k : Nat), StepsFromG P ops I R F live a0 k l → ∀ i o, l[i]? = some o → live (k + i) = true → StepOK P ops I R F a0 (k + i) o
  | [], _, _, i, o, h => by simp at h
  | x :: r, k, ⟨h0, h1⟩, 0, o, h => by
    have : x = o := by simpa using h
    subst this
    exact h0
  | x :: r, k, ⟨h0, h1⟩, i + 1, o, h => by
    have := steps_ofG r (k + 1) h1 i o (by simpa using h)
    rw [show k + (i + 1) = k + 1 + i from by omega]
    exact this
theorem wp_region_relG {P : Program} {id : Nat} {l : List Oper} {a0 : Act} {w0 : World} {Q : Exit → Act → World → Prop} (I : World → Prop) (R : Nat → World → World → Prop) (F : Nat → Value → World → Prop) (live : Nat → Bool) (hm : P.follows .mixedOrders = true) (hB : regBG l.toArray a0.tmps.size = true) (hG : GuardOK l.toArray I F live) (hdead : ∀ i w, live i = false → I w → F i undef w)
    (h0 : I w0.drew) (hinv : ∀ i w w', I w → R i w w' → I w') (hkeep : ∀ i j v w w', j ≠ i → I w → R i w w' → F j v w → F j v w') (hun : ∀ (i : Nat) (o : Oper) (v : Value) (w : World), l.toArray[i]? = some o → o.dst = none → F i v w → F i undef w)
    (hstep : StepsFromG P l.toArray I R F live a0 0 l)
    (hQ : ∀ a w, I w → a.tmps.size = a0.tmps.size → a.defers = a0.defers → (∀ (i : Nat) (oi : Oper) (d : Tmp), l.toArray[i]? = some oi → oi.dst = some d → F i (a.tmps.getD d undef) w) → (∀ (i : Nat) (oi : Oper), l.toArray[i]? = some oi → oi.dst = none → F i undef w) →
      (∀ x, (∀ (i : Nat) (oi : Oper) (d : Tmp), l.toArray[i]? = some oi → oi.dst = some d → x ≠ .tmp d) → a.eval x = a0.eval x) → Q .normal a w) :
    (Code.region id l.toArray true).wp P Q a0 w0 := by
  have hst : ∀ i o, l.toArray[i]? = some o → live i = true → StepOK P l.toArray I R F a0 i o := fun i o h hl => by
    have := steps_ofG l 0 hstep i o (by simpa using h)
    rw [Nat.zero_add] at this
    exact this hl
  refine wp_region_any hm (wpAny_relG (a0 := a0) hB hG hdead hinv hkeep hun hst hQ _ _ _ _ ?_ ⟨h0, rfl, rfl, by simp, ?_, ?_, fun x _ => rfl⟩)
  · exact Nat.le_trans (List.countP_le_length) (by simp)
  · intro i oi d hi _ hl
    have hlt : i < l.toArray.size := (Array.getElem?_eq_some_iff.1 hi).1
    simp at hlt
    simp [hlt] at hl
  · intro i oi hi _ hl
    have hlt : i < l.toArray.size := (Array.getElem?_eq_some_iff.1 hi).1
    simp at hlt
    simp [hlt] at hl
/-- Where each operation yields a value that is told ahead: the guards by computation. -/
def guardB (ops : Array Oper) (vals : List Value) (live : Nat → Bool) : Bool :=
  (List.range ops.size).all fun i => match ops[i]? with
    | some o => (match o.guard with | none => live i | some (j, want) => (match vals[j]? with | some v => (asB v == some want) == live i | none => false))
    | none => true
theorem guard_vals {ops : Array Oper} {I : World → Prop} {vals : List Value} {live : Nat → Bool} {F : Nat → Value → World → Prop} (hF : ∀ k v w, F k v w → ∀ u, vals[k]? = some u → v = u) (h : guardB ops vals live = true) : GuardOK ops I F live := by
  intro i o hi
  have hlt : i < ops.size := (Array.getElem?_eq_some_iff.1 hi).1
  have h1 := List.all_eq_true.1 h i (List.mem_range.2 hlt)
  simp only [hi] at h1
  constructor
  · intro hg
    simp only [hg] at h1
    exact h1
  · intro j want hg v w _ hv
    simp only [hg] at h1
    cases hj : vals[j]? with
    | none => rw [hj] at h1; cases h1
    | some u =>
      rw [hj] at h1
      rw [hF j v w hv u hj]
      exact beq_iff_eq.1 h1
end Go.Proofs.YthiogijicknoiaaDoor

/- Slices that are read, rows that are filled: lists of elements as rows of cells. -/
namespace Go.Proofs.YthiogijicknoiaaDoor
open Go.RowKit

/-- The cells xs can be read from the address on. -/
def Rd (w : World) (a : Option Addr) (xs : List Value) : Prop :=
  ∀ j v, xs[j]? = some v → ∃ b off, a = some ⟨b, off, none⟩ ∧ b < w.heap.size ∧ w.cell? ⟨b, off + j, none⟩ = some v
theorem Rd.below {w w' : World} {a : Option Addr} {xs : List Value} (h : Rd w a xs) (hb : Below w.heap.size w w') : Rd w' a xs := by
  intro j v hv
  obtain ⟨b, off, ha, hlt, hc⟩ := h j v hv
  exact ⟨b, off, ha, Nat.lt_of_lt_of_le hlt hb.size, (hb.cell (p := ⟨b, off + j, none⟩) hlt).trans hc⟩
theorem Rd.nil (w : World) (a : Option Addr) : Rd w a [] := by intro j v hv; simp at hv
theorem RowAt.rd {w : World} {g : Nat} {xs : List Value} (h : RowAt w g xs) : Rd w (some ⟨g, 0, none⟩) xs := fun j v hv => ⟨g, 0, rfl, h.lt, by rw [Nat.zero_add]; exact h.cell j v hv⟩
theorem Rd.alloc {w : World} {a : Option Addr} {xs : List Value} (h : Rd w a xs) (o : Obj) : Rd (w.alloc o) a xs := h.below (below_alloc (Below.refl _ _) o)
theorem Rd.drew {w : World} {a : Option Addr} {xs : List Value} (h : Rd w a xs) : Rd w.drew a xs := h
/-- A part of it. -/
theorem Rd.take {w : World} {a : Option Addr} {xs : List Value} (h : Rd w a xs) (n : Nat) : Rd w a (xs.take n) := by
  intro j v hv
  rw [List.getElem?_take] at hv
  split at hv
  · exact h j v hv
  · cases hv

/-- Elements as cells: each of k cells. -/
def cellsOf {α : Type} (enc : α → List Value) (l : List α) : List Value := l.flatMap enc
theorem cellsOf_len {α : Type} {enc : α → List Value} {k : Nat} (hk : ∀ x, (enc x).length = k) (l : List α) : (cellsOf enc l).length = l.length * k := by
  induction l with
  | nil => simp [cellsOf]
  | cons x l ih => simp only [cellsOf, List.flatMap_cons, List.length_append, List.length_cons] at ih ⊢; rw [ih, hk, Nat.succ_mul]; omega
theorem cellsOf_append {α : Type} (enc : α → List Value) (l m : List α) : cellsOf enc (l ++ m) = cellsOf enc l ++ cellsOf enc m := by simp [cellsOf]
theorem cellsOf_at {α : Type} {enc : α → List Value} {k : Nat} (hk : ∀ x, (enc x).length = k) (l : List α) (i : Nat) (hi : i < l.length) (j : Nat) (hj : j < k) :
    (cellsOf enc l)[i * k + j]? = (enc l[i])[j]? := by
  induction l generalizing i with
  | nil => simp at hi
  | cons x l ih =>
    have e : cellsOf enc (x :: l) = enc x ++ cellsOf enc l := rfl
    rw [e]
    cases i with
    | zero => rw [Nat.zero_mul, Nat.zero_add, List.getElem?_append_left (by rw [hk]; exact hj)]; rfl
    | succ i =>
      have hm : (i + 1) * k + j = k + (i * k + j) := by rw [Nat.succ_mul]; omega
      rw [hm, List.getElem?_append_right (by rw [hk]; omega), hk, show k + (i * k + j) - k = i * k + j from by omega]
      exact ih i (by simpa using hi)
theorem cellsOf_take {α : Type} {enc : α → List Value} (l : List α) (i : Nat) (hi : i < l.length) : cellsOf enc (l.take (i + 1)) = cellsOf enc (l.take i) ++ enc l[i] := by
  rw [List.take_succ_eq_append_getElem hi, cellsOf_append]; simp [cellsOf]

/-- One cell behind A is set. -/
theorem RowAt.put1 {w : World} {g p : Nat} {A D : List Value} (h : RowAt w g (A ++ D)) (hA : A.length = p) (hD : 1 ≤ D.length) (x : Value) :
    RowAt (w.setCell ⟨g, p, none⟩ x) g (A ++ [x] ++ D.drop 1) := by
  have := h.set p x
  subst hA
  match D, hD with
  | d :: D, _ =>
    rw [List.set_append_right _ _ (Nat.le_refl _), Nat.sub_self] at this
    simpa using this
theorem RowAt.put2 {w : World} {g p : Nat} {A D : List Value} (h : RowAt w g (A ++ D)) (hA : A.length = p) (hD : 2 ≤ D.length) (x y : Value) :
    RowAt ((w.setCell ⟨g, p, none⟩ x).setCell ⟨g, p + 1, none⟩ y) g (A ++ [x, y] ++ D.drop 2) := by
  have h1 := h.put1 hA (by omega) x
  have h2 := h1.put1 (p := p + 1) (by simp [hA]) (by simp; omega) y
  simpa using h2
theorem RowAt.put3 {w : World} {g p : Nat} {A D : List Value} (h : RowAt w g (A ++ D)) (hA : A.length = p) (hD : 3 ≤ D.length) (x y z : Value) :
    RowAt (((w.setCell ⟨g, p, none⟩ x).setCell ⟨g, p + 1, none⟩ y).setCell ⟨g, p + 2, none⟩ z) g (A ++ [x, y, z] ++ D.drop 3) := by
  have h1 := h.put2 hA (by omega) x y
  have h2 := h1.put1 (p := p + 2) (by simp [hA]) (by simp; omega) z
  simpa using h2
/-- 'make([]T, n)'. -/
theorem make_there (w : World) (t e : TypeId) {z : Value} {size bytes : Nat} (ht : Tryd.prog.underlying t = some (.slice e)) (hinfo : (Tryd.prog.info? e).map (fun i => (i.zero, i.size, i.bytes)) = some (some z, size, bytes))
    (n : Nat) (hb : bytes * n ≤ 281474976710656) (h63 : n ≤ maxLen) :
    ∃ W D, (Instr.makeSlice t (.int .i64 (n : Int)) (.int .i64 (n : Int))).run Tryd.prog w = .ok (.slice (some ⟨w.heap.size, 0, none⟩) n n) W ∧ D.length = n * size ∧ RowAt W w.heap.size D ∧ Below w.heap.size w W ∧ w.heap.size < W.heap.size := by
  obtain ⟨i, hi, hz0, hz1, hz2⟩ := info_parts hinfo
  obtain ⟨W, hrun, hown, hg⟩ := run_make_full (P := Tryd.prog) w w.heap.size t e i z size ht hi hz0 hz1 .i64 .i64 n (by rw [hz2]; exact hb) h63 (Nat.le_refl _)
  exact ⟨W, _, hrun, hown.1, RowAt.of_own hown, (Below.refl _ _).grown hg (Nat.le_refl _) (fun k hk => by cases hk), (RowAt.of_own hown).lt⟩
/-- What a measure tells: what is left, and that the slice was not too long. -/
def SzR (n : Nat) (left r : Int) : Prop := (-1 ≤ r ∧ r ≤ 1048576) ∧ (0 ≤ r → (n : Int) ≤ left)
theorem SzR.of {n : Nat} {left r : Int} (h1 : -1 ≤ r) (h2 : r ≤ 1048576) (h3 : 0 ≤ r → (n : Int) ≤ left) : SzR n left r := ⟨⟨h1, h2⟩, h3⟩
theorem bytes_ne {x y : ByteArray} (h : x ≠ y) : (x.toList == y.toList) = false := by
  rw [beq_eq_false_iff_ne]
  intro e
  rw [ByteArray.toList_eq, ByteArray.toList_eq] at e
  exact h (ByteArray.ext (Array.toList_inj.1 e))
/-- The place of the first element with a mark, or -1. -/
def idxI {α : Type} (p : α → Bool) (l : List α) : Int := match l.findIdx? p with | some i => (i : Int) | none => -1
theorem idxI_at {α : Type} {p : α → Bool} {l : List α} {k : Nat} (h : k < l.length) (hp : p l[k] = true) (hb : ∀ j (hj : j < k), p (l[j]'(by omega)) = false) : idxI p l = k := by
  unfold idxI
  rw [List.findIdx?_eq_some_iff_getElem.2 ⟨h, hp, fun j hj => by rw [hb j hj]; simp⟩]
theorem idxI_none {α : Type} {p : α → Bool} {l : List α} (h : ∀ j (hj : j < l.length), p l[j] = false) : idxI p l = -1 := by
  unfold idxI
  rw [List.findIdx?_eq_none_iff.2 fun x hx => by obtain ⟨j, hj, rfl⟩ := List.getElem_of_mem hx; exact h j hj]
theorem idxI_range {α : Type} (p : α → Bool) (l : List α) : -1 ≤ idxI p l ∧ idxI p l < l.length := by
  unfold idxI
  split
  · rename_i i h
    obtain ⟨h1, _⟩ := List.findIdx?_eq_some_iff_getElem.1 h
    omega
  · omega
theorem take_ne {α : Type} {l m : List α} {k : Nat} (h1 : k < l.length) (h2 : k < m.length) (h : l[k] ≠ m[k]) : l ≠ m := by
  intro e; subst e; exact h rfl
theorem take_eq_succ {α : Type} {l m : List α} {k : Nat} (h1 : k < l.length) (h2 : k < m.length) (h : l[k] = m[k]) (ht : l.take k = m.take k) : l.take (k + 1) = m.take (k + 1) := by
  rw [List.take_succ_eq_append_getElem h1, List.take_succ_eq_append_getElem h2, h, ht]
end Go.Proofs.YthiogijicknoiaaDoor

/- Slices of bytes: copied, measured, compared, as strings. -/
namespace Go.Proofs.YthiogijicknoiaaDoor
open Go.RowKit
set_option linter.unusedSimpArgs false
set_option linter.unusedVariables false

theorem blk_other {w : World} {g : Nat} {o : Obj} (h : w.heap[g]? = some o) (b k : Nat) (v : Value) (hne : b ≠ g) : (w.setCell ⟨b, k, none⟩ v).heap[g]? = some o := by
  simp [World.setCell, Array.getElem?_modify, h, hne]
theorem blk_new' (w : World) (o : Obj) (g : Nat) (hg : g = w.heap.size) : (w.alloc o).heap[g]? = some o := by subst hg; exact heap_alloc_new w o
/-- 'string(b)' of a slice that can be read. -/
theorem conv_rd (w : World) (a : Option Addr) (n c : Nat) (l : List UInt8) (hl : l.length = n) (h : Rd w a (bV l)) :
    (convert 22 9 (.slice a n c)).run Tryd.prog w = .ok (.string ⟨l.toArray⟩) w := by
  cases l with
  | nil =>
    subst hl
    cases a with
    | none => exact run_convert_bytes_nil (P := Tryd.prog) w 22 5 Tryd.underlying22 Tryd.underlying5 0 c 9 Tryd.underlying9
    | some a =>
      show (convert 22 9 (.slice (some a) 0 c)).run Tryd.prog w = _
      rw [run_convert_bytes_string w 22 9 5 (some a) 0 c Tryd.underlying22 Tryd.underlying5 Tryd.underlying9]
      exact run_bytesToString w a 0 c [] (by simp [loadCells, loadCellsFrom])
  | cons x l =>
    obtain ⟨b, off, rfl, _, _⟩ := h 0 _ (bV_at (x :: l) 0 (by simp))
    have := run_convert_bytes_arg (P := Tryd.prog) w 22 5 Tryd.underlying22 Tryd.underlying5 b off n c ((x :: l).map fun b => (b.toNat : Int)) (by rw [List.length_map]; exact hl) (fun i hi => by
      obtain ⟨b', off', e, _, hc⟩ := h i _ (bV_at (x :: l) i (by omega))
      cases e
      rw [hc]
      have hi' : i < (x :: l).length := by omega
      rw [List.getD_eq_getElem?_getD, List.getElem?_map, List.getElem?_eq_getElem hi']
      rfl) 9 Tryd.underlying9
    rw [this]
    have e : ((x :: l).map fun b => (b.toNat : Int)).map (fun n => UInt8.ofNat n.toNat) = x :: l := by
      rw [List.map_map]
      exact (List.map_congr_left fun b _ => by simp).trans (List.map_id _)
    have e2 : strOfNums ((x :: l).map fun b => (b.toNat : Int)) = ⟨(x :: l).toArray⟩ := by
      unfold strOfNums
      rw [e]
    rw [e2]

theorem toByteS (a : Option Addr) (n cap : Nat) (l : List UInt8) (hl : l.length = n) (w : World) (hr : Rd w a (bV l)) (hn : n ≤ 281474976710656) :
    Calls Tryd.prog 6 #[.slice a n cap] w fun e w' => ∃ g, e = .returned (.slice (some ⟨g, 0, none⟩) n n) ∧ w.heap.size ≤ g ∧ RowAt w' g (bV l) ∧ Below w.heap.size w w' := by
  obtain ⟨W, D, hmk, hDl, hrow, hbel, hlt0⟩ := make_there w 22 5 Tryd.underlying22 infoByte n (by omega) (by unfold maxLen; omega)
  have Hrow := Lib.hid hrow
  have Hl := Lib.hid hl
  have HD := Lib.hid hDl
  clear hrow hl hDl
  go_enter Tryd.func6, Tryd.ntmps6
  go_wp2
  go_loopw [4] (fun i wr => ∃ k : Nat, k ≤ n ∧ i = .int .i64 k ∧ RowAt wr w.heap.size (bV (l.take k) ++ D.drop k) ∧ Below w.heap.size w wr) (fun i _ => n - (intOf i).toNat)
  case atStart => exact ⟨0, Nat.zero_le _, rfl, Hrow.out, hbel⟩
  case round =>
    clear hmk
    obtain ⟨k, hk, rfl, hrow, hb⟩ := hrel
    have Hr := Lib.hid hrow
    clear hrow
    by_cases hlt : k < n
    · have hlk : k < l.length := by rw [Hl.out]; exact hlt
      have hDk : k < D.length := by rw [HD.out]; omega
      obtain ⟨b, off, rfl, hbl, hcell⟩ := (hr.below hb) k _ (bV_at l k hlk)
      have hby := (l[k]).toNat_lt
      have hd := Hr.out.cell k D[k] (by rw [List.getElem?_append_right (by rw [bV_len, List.length_take]; omega), bV_len, List.length_take, show k - min k l.length = 0 from by omega, List.getElem?_drop]; simp [hDk])
      have hf := Hr.out.free k (by rw [List.length_append, bV_len, List.length_take, List.length_drop]; omega)
      go_wp2
      go_roundw
      case rel =>
        refine ⟨k + 1, by omega, by go_num, ?_, hb.setCell (Nat.le_refl _) _⟩
        have h := Hr.out.put1 (p := k) (by rw [bV_len, List.length_take]; omega) (by rw [List.length_drop]; omega) (.int .u8 (l[k].toNat : Int))
        rw [List.drop_drop] at h
        rw [bV_take l k hlk]
        exact h
      case measure => simp [intOf]; omega
    · have hk' : k = n := by omega
      have Hk := Lib.hid hk'
      clear hk'
      go_wp2
      go_ret
      refine ⟨_, rfl, Nat.le_refl _, ?_, hb⟩
      have h := Hr.out
      rw [Hk.out, List.take_of_length_le (by rw [Hl.out]; exact Nat.le_refl _), List.drop_of_length_le (by rw [HD.out]; omega), List.append_nil] at h
      exact h

set_option maxHeartbeats 800000 in
theorem eqByteS (a a' : Option Addr) (n c c' : Nat) (l : List UInt8) (hl : l.length = n) (w : World) (hr : Rd w a (bV l)) (hr' : Rd w a' (bV l)) (hn : n ≤ 9223372036854775807) : Calls Tryd.prog 9 #[.slice a n c, .slice a' n c'] w fun e w' => e = .returned (.bool true) ∧ Below w.heap.size w w' := by
  have Hl := Lib.hid hl
  clear hl
  go_enter Tryd.func9, Tryd.ntmps9
  go_wp2
  go_loopw [5] (fun i wr => ∃ k : Nat, k ≤ n ∧ i = .int .i64 k ∧ Below w.heap.size w wr) (fun i _ => n - (intOf i).toNat)
  case atStart => exact ⟨0, Nat.zero_le _, rfl, Below.refl _ _⟩
  case round =>
    obtain ⟨k, hk, rfl, hb⟩ := hrel
    by_cases hlt : k < n
    · have hlk : k < l.length := by rw [Hl.out]; exact hlt
      obtain ⟨b, off, rfl, hbl, hcell⟩ := (hr.below hb) k _ (bV_at l k hlk)
      obtain ⟨b', off', rfl, hbl', hcell'⟩ := (hr'.below hb) k _ (bV_at l k hlk)
      go_wp2
      go_quiet (fail)
      go_wp2
      go_roundw
      case rel => exact ⟨k + 1, by omega, by go_num, below_drewN hb _⟩
      case measure => simp [intOf]; omega
    · go_wp2
      go_ret
      exact ⟨rfl, hb⟩
end Go.Proofs.YthiogijicknoiaaDoor

/- Slices of a call's own, and calls that write within bounds: which blocks may have changed. -/
namespace Go.Proofs.YthiogijicknoiaaDoor
open Go.RowKit
set_option linter.unusedVariables false

/-- What lay in w lies, but for the blocks from lo up to hi. -/
structure Chg (w w' : World) (lo hi : Nat) : Prop where
  os : w'.os = w.os
  tape : w'.tape = w.tape
  output : w'.output = w.output
  size : w.heap.size ≤ w'.heap.size
  block : ∀ b, b < w.heap.size → (b < lo ∨ hi ≤ b) → w'.heap[b]? = w.heap[b]?
theorem Chg.refl (w : World) (lo hi : Nat) : Chg w w lo hi := ⟨rfl, rfl, rfl, Nat.le_refl _, fun _ _ _ => rfl⟩
theorem Chg.of_below {w w' : World} (h : Below w.heap.size w w') (lo hi : Nat) : Chg w w' lo hi := ⟨h.os, h.tape, h.output, h.size, fun b hb _ => h.block b hb⟩
theorem Chg.trans {a w w' : World} {lo hi : Nat} (h : Chg a w lo hi) (h' : Chg w w' lo hi) : Chg a w' lo hi :=
  ⟨h'.os.trans h.os, h'.tape.trans h.tape, h'.output.trans h.output, Nat.le_trans h.size h'.size, fun b hb hne => (h'.block b (Nat.lt_of_lt_of_le hb h.size) hne).trans (h.block b hb hne)⟩
theorem Chg.then {a w w' : World} {lo hi : Nat} (h : Chg a w lo hi) (hb : Below w.heap.size w w') : Chg a w' lo hi := h.trans (.of_below hb lo hi)
theorem Chg.mono {w w' : World} {lo hi lo' hi' : Nat} (h : Chg w w' lo hi) (h1 : lo' ≤ lo) (h2 : hi ≤ hi') : Chg w w' lo' hi' :=
  ⟨h.os, h.tape, h.output, h.size, fun b hb hne => h.block b hb (by omega)⟩
theorem Chg.set {a w : World} {lo hi : Nat} (h : Chg a w lo hi) (g k : Nat) (v : Value) (h1 : lo ≤ g) (h2 : g < hi) : Chg a (w.setCell ⟨g, k, none⟩ v) lo hi :=
  ⟨h.os, h.tape, h.output, Nat.le_trans h.size (by simp [World.setCell]), fun b hb hne => (Below.heap_setCell w _ v b (by show b ≠ g; omega)).trans (h.block b hb hne)⟩
theorem Chg.drew {a w : World} {lo hi : Nat} (h : Chg a w lo hi) : Chg a w.drew lo hi := ⟨h.os, h.tape, h.output, h.size, h.block⟩
theorem Chg.drewN {a w : World} {lo hi : Nat} (h : Chg a w lo hi) (n : Nat) : Chg a (w.drewN n) lo hi := ⟨h.os, h.tape, h.output, h.size, h.block⟩
theorem Chg.alloc {a w : World} {lo hi : Nat} (h : Chg a w lo hi) (o : Obj) : Chg a (w.alloc o) lo hi := h.then (below_alloc (Below.refl _ _) o)
/-- A call that writes only into what lies above a is above a. -/
theorem Chg.below {a w w' : World} {lo hi : Nat} (h : Chg w w' lo hi) (hb : Below a.heap.size a w) (hlo : a.heap.size ≤ lo) : Below a.heap.size a w' :=
  ⟨h.os.trans hb.os, h.tape.trans hb.tape, h.output.trans hb.output, Nat.le_trans hb.size h.size, fun b hlt => (h.block b (Nat.lt_of_lt_of_le hlt hb.size) (.inl (Nat.lt_of_lt_of_le hlt hlo))).trans (hb.block b hlt)⟩
theorem Chg.cell {w w' : World} {lo hi : Nat} (h : Chg w w' lo hi) {b o : Nat} {v : Value} (hc : w.cell? ⟨b, o, none⟩ = some v) (hne : b < lo ∨ hi ≤ b) : w'.cell? ⟨b, o, none⟩ = some v :=
  (World.cell?_of_block (w := w) (a := ⟨b, o, none⟩) (h.block b (World.block_lt_of_cell? w _ hc) hne)).trans hc
theorem Chg.blk {w w' : World} {lo hi : Nat} (h : Chg w w' lo hi) {b : Nat} {o : Obj} (hc : w.heap[b]? = some o) (hne : b < lo ∨ hi ≤ b) : w'.heap[b]? = some o :=
  (h.block b (Array.getElem?_eq_some_iff.1 hc).1 hne).trans hc
/-- What such a call leaves: laid into the walk. -/
theorem ccell {W w1 : World} {lo hi : Nat} (h : Chg W w1 lo hi) (hl : hi ≤ W.heap.size) : (∀ b o, b < lo → w1.cell? ⟨b, o, none⟩ = W.cell? ⟨b, o, none⟩) ∧ (∀ b o, b < lo → w1.frozen? ⟨b, o, none⟩ = W.frozen? ⟨b, o, none⟩) ∨ W.heap.size < lo := by
  by_cases hlo : lo ≤ W.heap.size
  · exact .inl ⟨fun b o hb => World.cell?_of_block (w := W) (a := ⟨b, o, none⟩) (h.block b (by omega) (.inl hb)), fun b o hb => World.frozen?_of_block (w := W) (a := ⟨b, o, none⟩) (h.block b (by omega) (.inl hb))⟩
  · exact .inr (by omega)

/-- A slice of n elements whose cells are xs, in a block between lo and hi (or of no element). -/
def SlAt (w : World) (lo hi : Nat) (a : Option Addr) (n : Nat) (xs : List Value) : Prop := (n = 0 ∧ xs = []) ∨ ∃ g, a = some ⟨g, 0, none⟩ ∧ lo ≤ g ∧ g < hi ∧ RowAt w g xs
theorem SlAt.nil (w : World) (lo hi : Nat) (a : Option Addr) : SlAt w lo hi a 0 [] := .inl ⟨rfl, rfl⟩
theorem SlAt.rd {w : World} {lo hi n : Nat} {a : Option Addr} {xs : List Value} (h : SlAt w lo hi a n xs) : Rd w a xs := by
  rcases h with ⟨_, rfl⟩ | ⟨g, rfl, _, _, hr⟩
  · exact Rd.nil w a
  · exact hr.rd
theorem SlAt.then {w w' : World} {lo hi n : Nat} {a : Option Addr} {xs : List Value} (h : SlAt w lo hi a n xs) (hb : Below w.heap.size w w') : SlAt w' lo hi a n xs := by
  rcases h with h | ⟨g, rfl, h1, h2, hr⟩
  · exact .inl h
  · exact .inr ⟨g, rfl, h1, h2, hr.then hb⟩
theorem SlAt.drew {w : World} {lo hi n : Nat} {a : Option Addr} {xs : List Value} (h : SlAt w lo hi a n xs) : SlAt w.drew lo hi a n xs := h
theorem SlAt.alloc {w : World} {lo hi n : Nat} {a : Option Addr} {xs : List Value} (h : SlAt w lo hi a n xs) (o : Obj) : SlAt (w.alloc o) lo hi a n xs := h.then (below_alloc (Below.refl _ _) o)
theorem SlAt.other {w : World} {lo hi n : Nat} {a : Option Addr} {xs : List Value} (h : SlAt w lo hi a n xs) (p : Addr) (v : Value) (hp : p.block < lo ∨ hi ≤ p.block) : SlAt (w.setCell p v) lo hi a n xs := by
  rcases h with h | ⟨g, rfl, h1, h2, hr⟩
  · exact .inl h
  · exact .inr ⟨g, rfl, h1, h2, hr.other p v (by omega)⟩
theorem SlAt.chg {w w' : World} {lo hi lo' hi' n : Nat} {a : Option Addr} {xs : List Value} (h : SlAt w lo hi a n xs) (hc : Chg w w' lo' hi') (hd : hi ≤ lo' ∨ hi' ≤ lo) : SlAt w' lo hi a n xs := by
  rcases h with h | ⟨g, rfl, h1, h2, hr⟩
  · exact .inl h
  · exact .inr ⟨g, rfl, h1, h2, hr.block (hc.block g hr.lt (by omega))⟩
theorem SlAt.mono {w : World} {lo hi lo' hi' n : Nat} {a : Option Addr} {xs : List Value} (h : SlAt w lo hi a n xs) (h1 : lo' ≤ lo) (h2 : hi ≤ hi') : SlAt w lo' hi' a n xs := by
  rcases h with h | ⟨g, rfl, h3, h4, hr⟩
  · exact .inl h
  · exact .inr ⟨g, rfl, by omega, by omega, hr⟩
theorem RowAt.sl {w : World} {g : Nat} {xs : List Value} (h : RowAt w g xs) (n : Nat) {lo hi : Nat} (h1 : lo ≤ g) (h2 : g < hi) : SlAt w lo hi (some ⟨g, 0, none⟩) n xs := .inr ⟨g, rfl, h1, h2, h⟩
theorem cells2 {w : World} {g : Nat} {x y : Value} {t : TypeId} {f : Nat × Nat} (h : w.heap[g]? = some (.cells #[x, y] t f)) : w.cell? ⟨g, 0, none⟩ = some x ∧ w.cell? ⟨g, 1, none⟩ = some y := by simp [World.cell?, h]
theorem cells3 {w : World} {g : Nat} {x y z : Value} {t : TypeId} {f : Nat × Nat} (h : w.heap[g]? = some (.cells #[x, y, z] t f)) : w.cell? ⟨g, 0, none⟩ = some x ∧ w.cell? ⟨g, 1, none⟩ = some y ∧ w.cell? ⟨g, 2, none⟩ = some z := by simp [World.cell?, h]
theorem cells4 {w : World} {g : Nat} {x y z u : Value} {t : TypeId} {f : Nat × Nat} (h : w.heap[g]? = some (.cells #[x, y, z, u] t f)) : w.cell? ⟨g, 0, none⟩ = some x ∧ w.cell? ⟨g, 1, none⟩ = some y ∧ w.cell? ⟨g, 2, none⟩ = some z ∧ w.cell? ⟨g, 3, none⟩ = some u := by simp [World.cell?, h]
theorem cells5 {w : World} {g : Nat} {x y z u v : Value} {t : TypeId} {f : Nat × Nat} (h : w.heap[g]? = some (.cells #[x, y, z, u, v] t f)) : w.cell? ⟨g, 0, none⟩ = some x ∧ w.cell? ⟨g, 1, none⟩ = some y ∧ w.cell? ⟨g, 2, none⟩ = some z ∧ w.cell? ⟨g, 3, none⟩ = some u ∧ w.cell? ⟨g, 4, none⟩ = some v := by simp [World.cell?, h]
theorem pre_of {W W' : World} {lo hi : Nat} (_ : Chg W W' lo hi) (V : World) (h : Below V.heap.size V W) : Below V.heap.size V W := h
theorem mark_cell {V W W' : World} {lo hi : Nat} (hb : Below V.heap.size V W) (hc : Chg W W' lo hi) {b o : Nat} {v : Value} (h : V.cell? ⟨b, o, none⟩ = some v) (hne : b < lo ∨ hi ≤ b) : W'.cell? ⟨b, o, none⟩ = some v :=
  hc.cell ((hb.cell (p := ⟨b, o, none⟩) (World.block_lt_of_cell? V _ h)).trans h) hne
theorem mark_sl {V W W' : World} {lo hi lo' hi' n : Nat} {a : Option Addr} {xs : List Value} (hb : Below V.heap.size V W) (hc : Chg W W' lo hi) (h : SlAt V lo' hi' a n xs) (hd : hi' ≤ lo ∨ hi ≤ lo') : SlAt W' lo' hi' a n xs :=
  (h.then hb).chg hc hd
theorem mark_row {V W W' : World} {lo hi g : Nat} {xs : List Value} (hb : Below V.heap.size V W) (hc : Chg W W' lo hi) (h : RowAt V g xs) (hd : g < lo ∨ hi ≤ g) : RowAt W' g xs :=
  (h.then hb).block (hc.block g (h.then hb).lt hd)
theorem mark_below {U V W W' : World} {lo hi : Nat} (h0 : Below U.heap.size U V) (hb : Below V.heap.size V W) (hc : Chg W W' lo hi) (hlo : U.heap.size ≤ lo) : Below U.heap.size U W' :=
  hc.below (below_then h0 hb) hlo
theorem chg_rd {w w' : World} {lo hi : Nat} {a : Option Addr} {xs : List Value} (h : Rd w a xs) (hb : ∀ b, (∃ off, a = some ⟨b, off, none⟩) → b < lo ∨ hi ≤ b) (hc : Chg w w' lo hi) : Rd w' a xs := by
  intro j v hv
  obtain ⟨b, off, ha, hlt, hcell⟩ := h j v hv
  exact ⟨b, off, ha, Nat.lt_of_lt_of_le hlt hc.size, hc.cell hcell (hb b ⟨off, ha⟩)⟩
end Go.Proofs.YthiogijicknoiaaDoor

/- 'append(x, y...)' of bytes onto a row that a conversion laid. -/
namespace Go.Proofs.YthiogijicknoiaaDoor
open Go.RowKit
set_option linter.unusedSimpArgs false
set_option linter.unusedVariables false

theorem RowAt.puts {g : Nat} : ∀ (vs : List Value) (w : World) (A D : List Value) (o : Nat), RowAt w g (A ++ D) → A.length = o → vs.length ≤ D.length → RowAt (w.setCells g o vs) g (A ++ vs ++ D.drop vs.length)
  | [], w, A, D, o, h, _, _ => by simpa [World.setCells] using h
  | v :: r, w, A, D, o, h, hA, hl => by
    simp only [List.length_cons] at hl
    have h1 := h.put1 hA (by omega) v
    have h2 := RowAt.puts r _ (A ++ [v]) (D.drop 1) (o + 1) h1 (by simp [hA]) (by rw [List.length_drop]; omega)
    rw [List.drop_drop] at h2
    simp only [World.setCells, List.length_cons]
    rw [show r.length + 1 = 1 + r.length from by omega]
    simpa using h2
theorem RowAt.pre {w : World} {g : Nat} {A D : List Value} (h : RowAt w g (A ++ D)) : RowAt w g A := by
  obtain ⟨cur, e, lo, hi, hg, ht, hf⟩ := h
  refine ⟨cur, e, lo, hi, hg, ?_, fun i hi => hf i (by rw [List.length_append]; omega)⟩
  have := congrArg (List.take A.length) ht
  rw [List.take_take, List.length_append, Nat.min_eq_left (by omega), List.take_left] at this
  exact this
theorem Chg.sets {lo hi g : Nat} (h1 : lo ≤ g) (h2 : g < hi) : ∀ (vs : List Value) (o : Nat) (a w : World), Chg a w lo hi → Chg a (w.setCells g o vs) lo hi
  | [], _, _, _, h => h
  | v :: r, o, a, w, h => Chg.sets h1 h2 r (o + 1) a _ (h.set g o v h1 h2)
def BRow (w : World) (g n cap : Nat) (xs : List UInt8) : Prop := xs.length = n ∧ ∃ rest : List Value, n + rest.length = cap ∧ RowAt w g (bV xs ++ rest)
theorem bw_brow (w : World) (s : ByteArray) : BRow (Lib.bytesWorld w 5 s) w.heap.size s.size (grownCap w s.size 0 5) s.data.toList := by
  have hge := grownCap_ge w s.size 0 5
  refine ⟨Array.length_toList, List.replicate (grownCap w s.size 0 5 - s.size) (.int .u8 0), by rw [List.length_replicate]; omega, _, _, _, _, Lib.bytesWorld_at_new w 5 s, ?_, ?_⟩
  · have e : (Lib.bytesCells w 5 s).toList = bV s.data.toList ++ List.replicate (grownCap w s.size 0 5 - s.size) (.int .u8 0) := by
      unfold Lib.bytesCells
      rw [Array.toList_append, Array.toList_map, Array.toList_replicate]
      rfl
    rw [e]
    exact List.take_length
  · intro i hi
    have hl : (Lib.bytesCells w 5 s).size = s.size + (grownCap w s.size 0 5 - s.size) := by
      unfold Lib.bytesCells
      rw [Array.size_append, Array.size_map, Array.size_replicate]; rfl
    rw [List.length_append, bV_len, List.length_replicate, Array.length_toList] at hi
    have : s.data.size = s.size := rfl
    omega
theorem one_bV (l : List UInt8) : ∀ u ∈ bV l, u.oneCell' = true := by
  intro u hu
  obtain ⟨b, _, rfl⟩ := List.mem_map.1 hu
  rfl
theorem app_bytes (lo : Nat) (ab : Option Addr) (m c : Nat) (lb : List UInt8) (hlb : lb.length = m) (g n cap : Nat) (xs : List UInt8) (w : World) (hB : BRow w g n cap xs) (hlo : lo ≤ g) (hr : Rd w ab (bV lb)) (hm : n + m ≤ 140737488355328) (ty : TypeId) :
    ∃ g' cap' w', (Builtin.append_ #[22, 22] ty #[.slice (some ⟨g, 0, none⟩) n cap, .slice ab m c]).run Tryd.prog w = .ok (.slice (some ⟨g', 0, none⟩) (n + m) cap') w' ∧ lo ≤ g' ∧ RowAt w' g' (bV (xs ++ lb)) ∧ Chg w w' g (g + 1) := by
  obtain ⟨hxl, rest, hcap, hrow⟩ := hB
  have hxn : (bV xs).length = n := by rw [bV_len, hxl]
  have hmn : (bV lb).length = m := by rw [bV_len, hlb]
  have hinfo : (Tryd.prog.info? 5).map (fun i => (i.zero, i.size, i.bytes)) = some (some (.int .u8 0), 1, 1) := by kernel_rfl
  obtain ⟨i, hi, hz, hs1, hb1⟩ := info_parts hinfo
  have hsrc : Src Tryd.prog i.size 22 (.slice ab m c) m (bV lb) w := by
    rw [hs1]
    cases ab with
    | none =>
      have hnil : lb = [] := by
        cases lb with
        | nil => rfl
        | cons x r => obtain ⟨_, _, h, _⟩ := hr 0 _ rfl; cases h
      subst hnil
      have : m = 0 := hlb.symm
      subst this
      exact Src.ofNil w Tryd.underlying22 c
    | some a =>
      refine Src.ofSlice w Tryd.underlying22 a m c (bV lb) (by rw [hmn, Nat.mul_one]) (fun j u hu => ?_) (one_bV lb)
      obtain ⟨b, off, e, _, hc⟩ := hr j u hu
      cases e
      rw [Addr.add_lit]
      exact hc
  have hbV : bV (xs ++ lb) = bV xs ++ bV lb := by simp [bV]
  have hgl := hrow.lt
  by_cases hroom : n + m ≤ cap
  · have hst := run_append_room_src (P := Tryd.prog) w 22 22 ty 5 i Tryd.underlying22 hi g 0 n cap _ m (bV lb) hsrc hroom
      (fun j hj => by
        rw [hs1, Nat.zero_add, Nat.mul_one]
        have hlt : n + j < (bV xs ++ rest).length := by rw [List.length_append]; omega
        rw [hrow.cell (n + j) _ (List.getElem?_eq_getElem hlt)]; rfl)
      (fun j hj => by
        rw [hs1, Nat.zero_add, Nat.mul_one]
        exact hrow.free (n + j) (by rw [List.length_append]; omega))
    rw [hs1, Nat.zero_add, Nat.mul_one] at hst
    refine ⟨g, cap, _, hst, hlo, ?_, Chg.sets (Nat.le_refl _) (Nat.lt_succ_self _) _ _ _ _ (Chg.refl _ _ _)⟩
    rw [hbV]
    exact (RowAt.puts (bV lb) w (bV xs) rest n hrow hxn (by omega)).pre
  · have hst := run_append_grow_src (P := Tryd.prog) w 22 22 ty 5 i (.int .u8 0) Tryd.underlying22 hi hz (some ⟨g, 0, none⟩) n cap (bV xs)
      (run_firstCells_some w.drew i.size n ⟨g, 0, none⟩ n cap (bV xs) (by rw [hs1, hxn, Nat.mul_one]) (fun j u hu => by
        rw [Addr.add_lit, Nat.zero_add]
        exact (hrow.pre.drew).cell j u hu)) _ m (bV lb) hsrc (by omega) (by omega)
      (by rw [hb1, Nat.mul_one]; have := nextslicecap_le (need := n + m) (old := cap) (by omega); omega)
    refine ⟨_, _, _, hst, by omega, ?_, ((Chg.refl _ _ _).drew).alloc _⟩
    rw [hbV]
    refine RowAt.pre (D := (Builtin.zeroCells (Value.cells (.int .u8 0)) (grownCap w (n + m) cap 5 - (n + m))).toList) ?_
    exact RowAt.of_alloc w.drew _ _ _ (by rw [Array.toList_append])
theorem wpList_appB {P : Program} {ops : Array Oper} {rest : List Oper} {o : Oper} {a : Act} {Q : Exit → Act → World → Prop} (hgd : o.guard = none) (s x : Operand) {t1 t2 : TypeId}
    (ho : o.op = .call { callee := .builtin .append, args := #[s, x], argTypes := #[t1, t2] }) {v xv r : Value} {w w' : World} (hs : a.eval s = v) (hx : a.eval x = xv)
    (hrun : (Builtin.append_ #[t1, t2] o.type #[v, xv]).run P w = .ok r w') (h : wpList P ops Q rest (a.put o.dst r) w') : wpList P ops Q (o :: rest) a w :=
  wpList_plain hgd fun K hK => by
    unfold Oper.wp execOp
    simp only [ho, resolve, invoke, builtin, Sem.run_bind, Sem.run_pure, Result.andThen_ok, List.map_toArray, List.map_cons, List.map_nil, hs, hx, hrun]
    exact hK _ _ h
end Go.Proofs.YthiogijicknoiaaDoor

/- Slices of head lines: copied, measured, compared. -/
namespace Go.Proofs.YthiogijicknoiaaDoor
open Go.RowKit
set_option linter.unusedSimpArgs false
set_option linter.unusedVariables false

abbrev Hd := ByteArray × ByteArray
def hEnc (h : Hd) : List Value := [.string h.1, .string h.2]
def hV (l : List Hd) : List Value := cellsOf hEnc l
theorem hEnc_len (h : Hd) : (hEnc h).length = 2 := rfl
theorem hV_len (l : List Hd) : (hV l).length = l.length * 2 := cellsOf_len hEnc_len l
theorem hV_at0 (l : List Hd) (k : Nat) (h : k < l.length) : (hV l)[k * 2]? = some (.string l[k].1) := cellsOf_at hEnc_len l k h 0 (by omega)
theorem hV_at1 (l : List Hd) (k : Nat) (h : k < l.length) : (hV l)[k * 2 + 1]? = some (.string l[k].2) := cellsOf_at hEnc_len l k h 1 (by omega)
theorem infoHdr : (Tryd.prog.info? 97).map (fun i => (i.zero, i.size, i.bytes)) = some (some (.agg #[.string ⟨#[]⟩, .string ⟨#[]⟩]), 2, 32) := by kernel_rfl
theorem Rd.hdr {w : World} {a : Option Addr} {l : List Hd} (h : Rd w a (hV l)) (k : Nat) (hk : k < l.length) : ∃ b off, a = some ⟨b, off, none⟩ ∧ b < w.heap.size ∧ w.cell? ⟨b, off + k * 2, none⟩ = some (.string l[k].1) ∧ w.cell? ⟨b, off + k * 2 + 1, none⟩ = some (.string l[k].2) := by
  obtain ⟨b, off, ha, hb, h0⟩ := h _ _ (hV_at0 l k hk)
  obtain ⟨b', off', ha', hb', h1⟩ := h _ _ (hV_at1 l k hk)
  rw [ha] at ha'
  cases ha'
  exact ⟨b, off, ha, hb, h0, by rw [Nat.add_assoc]; exact h1⟩

theorem eqHeader (x y : ByteArray) (w : World) : Calls Tryd.prog 108 #[.agg #[.string x, .string y], .agg #[.string x, .string y]] w fun e w' => e = .returned (.bool true) ∧ Below w.heap.size w w' := by
  go_enter Tryd.func108, Tryd.ntmps108
  go_wp2
  all_goals (go_ret; exact ⟨by first | rfl | (simp [*]; done) | (simp [*]; omega), by first | (with_reducible rfl) | exact (by first | (with_reducible exact Below.refl _ _) | ((repeat' (first | (with_reducible exact Below.refl _ _) | (with_reducible assumption) | (with_reducible refine below_alloc ?_ _) | (with_reducible refine Below.drew ?_) | (with_reducible refine below_drewN ?_ _) | (with_reducible refine Below.setCell ?_ ?_ _) | refine below_then ?_ (by with_reducible assumption))) <;> (first | omega | (simp; done) | (simp; omega))))⟩)

set_option maxRecDepth 100000 in
set_option maxHeartbeats 800000 in
theorem eqHeaderS (a a' : Option Addr) (n c c' : Nat) (l : List Hd) (hl : l.length = n) (w : World) (hr : Rd w a (hV l)) (hr' : Rd w a' (hV l)) (hn : n ≤ 9223372036854775807) : Calls Tryd.prog 73 #[.slice a n c, .slice a' n c'] w fun e w' => e = .returned (.bool true) ∧ Below w.heap.size w w' := by
  have Hl := Lib.hid hl
  clear hl
  go_enter Tryd.func73, Tryd.ntmps73
  go_wp2
  go_loopw [5] (fun i wr => ∃ k : Nat, k ≤ n ∧ i = .int .i64 k ∧ Below w.heap.size w wr) (fun i _ => n - (intOf i).toNat)
  case atStart => exact ⟨0, Nat.zero_le _, rfl, Below.refl _ _⟩
  case round =>
    obtain ⟨k, hk, rfl, hb⟩ := hrel
    by_cases hlt : k < n
    · have hlk : k < l.length := by rw [Hl.out]; exact hlt
      obtain ⟨b, off, rfl, hbl, hc0, hc1⟩ := (hr.below hb).hdr k hlk
      obtain ⟨b', off', rfl, hbl', hd0, hd1⟩ := (hr'.below hb).hdr k hlk
      go_wp2
      go_still_tail 8, (by kernel_rfl)
      change wpList _ _ _ _ _ wr.drew
      generalize hwd : wr.drew = w2
      have hb2 : Below w.heap.size w w2 := by rw [← hwd]; exact hb.drew
      clear hwd
      go_wp2_with (go_at_call 108; ((with_reducible refine (eqHeader _ _ _).mono ?_); rintro e w3 ⟨rfl, hb3⟩))
      go_roundw
      case rel => exact ⟨k + 1, by omega, by go_num, below_then hb2 hb3⟩
      case measure => simp [intOf]; omega
    · go_wp2
      go_ret
      exact ⟨rfl, hb⟩

def hdNe (x y : Hd) : Bool := !(x.1.toList == y.1.toList && x.2.toList == y.2.toList)
theorem hdNe_true {x y : Hd} (h : x ≠ y) : hdNe x y = true := by
  unfold hdNe
  rw [Bool.not_eq_true', Bool.and_eq_false_iff]
  by_cases h1 : x.1 = y.1
  · refine .inr ?_
    exact bytes_ne fun h2 => h (Prod.ext h1 h2)
  · refine .inl ?_
    exact bytes_ne h1
theorem hdNe_false (x : Hd) : hdNe x x = false := by simp [hdNe]
theorem neq_hdr (x y : Hd) (w : World) : (binOp .neq 97 (.agg #[.string x.1, .string x.2]) (.agg #[.string y.1, .string y.2])).run Tryd.prog w = .ok (.bool (hdNe x y)) w := by
  have u9 := Tryd.underlying9
  have a9 := Tryd.isAgg9
  have z9 := Tryd.sizeOf9
  have hS : Tryd.prog.underlying 97 = some (.struct (Tryd.prog.fieldsOf 97)) := by kernel_rfl
  have hp : Tryd.prog.stoodInHeld 97 = false := by kernel_rfl
  rw [run_neq_struct, show (10000 : Nat) = 9999 + 1 from rfl, run_equalIn_agg w 9999 97 _ _ hS hp]
  simp only [Program.fieldsOf, Tryd.underlying97]
  go_simp
  unfold hdNe
  cases h1 : (x.1.toList == y.1.toList) <;> cases h2 : (x.2.toList == y.2.toList) <;> simp_all

end Go.Proofs.YthiogijicknoiaaDoor

/- Slices of items: copied, measured, compared. -/
namespace Go.Proofs.YthiogijicknoiaaDoor
open Go.RowKit
set_option linter.unusedSimpArgs false
set_option linter.unusedVariables false

abbrev It := ByteArray × Bool × ByteArray
def iEnc (h : It) : List Value := [.string h.1, .bool h.2.1, .string h.2.2]
def iV (l : List It) : List Value := cellsOf iEnc l
theorem iEnc_len (h : It) : (iEnc h).length = 3 := rfl
theorem iV_len (l : List It) : (iV l).length = l.length * 3 := cellsOf_len iEnc_len l
theorem iV_at0 (l : List It) (k : Nat) (h : k < l.length) : (iV l)[k * 3]? = some (.string l[k].1) := cellsOf_at iEnc_len l k h 0 (by omega)
theorem iV_at1 (l : List It) (k : Nat) (h : k < l.length) : (iV l)[k * 3 + 1]? = some (.bool l[k].2.1) := cellsOf_at iEnc_len l k h 1 (by omega)
theorem iV_at2 (l : List It) (k : Nat) (h : k < l.length) : (iV l)[k * 3 + 2]? = some (.string l[k].2.2) := cellsOf_at iEnc_len l k h 2 (by omega)
theorem infoItem : (Tryd.prog.info? 70).map (fun i => (i.zero, i.size, i.bytes)) = some (some (.agg #[.string ⟨#[]⟩, .bool false, .string ⟨#[]⟩]), 3, 40) := by kernel_rfl
theorem Rd.item {w : World} {a : Option Addr} {l : List It} (h : Rd w a (iV l)) (k : Nat) (hk : k < l.length) : ∃ b off, a = some ⟨b, off, none⟩ ∧ b < w.heap.size ∧ w.cell? ⟨b, off + k * 3, none⟩ = some (.string l[k].1) ∧ w.cell? ⟨b, off + k * 3 + 1, none⟩ = some (.bool l[k].2.1) ∧ w.cell? ⟨b, off + k * 3 + 2, none⟩ = some (.string l[k].2.2) := by
  obtain ⟨b, off, ha, hb, h0⟩ := h _ _ (iV_at0 l k hk)
  obtain ⟨b', off', ha', hb', h1⟩ := h _ _ (iV_at1 l k hk)
  obtain ⟨b'', off'', ha'', hb'', h2⟩ := h _ _ (iV_at2 l k hk)
  rw [ha] at ha' ha''
  cases ha'
  cases ha''
  exact ⟨b, off, ha, hb, h0, by rw [Nat.add_assoc]; exact h1, by rw [Nat.add_assoc]; exact h2⟩

def itNe (x y : It) : Bool := !(x.1.toList == y.1.toList && (x.2.1 == y.2.1 && x.2.2.toList == y.2.2.toList))
theorem itNe_true {x y : It} (h : x ≠ y) : itNe x y = true := by
  unfold itNe
  rw [Bool.not_eq_true', Bool.and_eq_false_iff, Bool.and_eq_false_iff]
  by_cases h1 : x.1 = y.1
  · by_cases h2 : x.2.1 = y.2.1
    · exact .inr (.inr (bytes_ne fun h3 => h (Prod.ext h1 (Prod.ext h2 h3))))
    · exact .inr (.inl (by simpa using h2))
  · exact .inl (bytes_ne h1)
theorem itNe_false (x : It) : itNe x x = false := by simp [itNe]
theorem neq_item (x y : It) (w : World) : (binOp .neq 70 (.agg #[.string x.1, .bool x.2.1, .string x.2.2]) (.agg #[.string y.1, .bool y.2.1, .string y.2.2])).run Tryd.prog w = .ok (.bool (itNe x y)) w := by
  have u9 := Tryd.underlying9
  have a9 := Tryd.isAgg9
  have z9 := Tryd.sizeOf9
  have u4 := Tryd.underlying4
  have a4 := Tryd.isAgg4
  have z4 := Tryd.sizeOf4
  have hS : Tryd.prog.underlying 70 = some (.struct (Tryd.prog.fieldsOf 70)) := by kernel_rfl
  have hp : Tryd.prog.stoodInHeld 70 = false := by kernel_rfl
  rw [run_neq_struct, show (10000 : Nat) = 9999 + 1 from rfl, run_equalIn_agg w 9999 70 _ _ hS hp]
  simp only [Program.fieldsOf, Tryd.underlying70]
  go_simp
  unfold itNe
  cases h1 : (x.1.toList == y.1.toList) <;> cases h2 : (x.2.1 == y.2.1) <;> cases h3 : (x.2.2.toList == y.2.2.toList) <;> simp_all

set_option maxRecDepth 100000 in
set_option maxHeartbeats 800000 in
theorem spec_SameItems (a a' : Option Addr) (n m c c' : Nat) (l l' : List It) (hl : l.length = n) (hl' : l'.length = m) (w : World) (hr : Rd w a (iV l)) (hr' : Rd w a' (iV l')) (hn : n ≤ 9223372036854775807) (hm : m ≤ 9223372036854775807) :
    Calls Tryd.prog 24 #[.slice a n c, .slice a' m c'] w fun e w' => e = .returned (.bool (decide (l = l'))) ∧ Below w.heap.size w w' := by
  by_cases hnm : n = m
  · subst hnm
    have hgd : Tryd.prog.eqGuardType Tryd.prog.depth 70 = false := by kernel_rfl
    have Hl := Lib.hid hl
    have Hl' := Lib.hid hl'
    clear hl hl'
    have hyes : l = l' → Ending.returned (.bool true) = .returned (.bool (decide (l = l'))) := fun h => by rw [decide_eq_true h]
    have hno : l ≠ l' → Ending.returned (.bool false) = .returned (.bool (decide (l = l'))) := fun h => by rw [decide_eq_false h]
    have Hyes := Lib.hid hyes
    have Hno := Lib.hid hno
    clear hyes hno
    go_enter Tryd.func24, Tryd.ntmps24
    go_wp2
    go_loopw [5] (fun i wr => ∃ k : Nat, k ≤ n ∧ i = .int .i64 k ∧ l.take k = l'.take k ∧ Below w.heap.size w wr) (fun i _ => n - (intOf i).toNat)
    case atStart => exact ⟨0, Nat.zero_le _, rfl, rfl, Below.refl _ _⟩
    case round =>
      obtain ⟨k, hk, rfl, htk, hb⟩ := hrel
      have Htk := Lib.hid htk
      clear htk
      by_cases hlt : k < n
      · have hlk : k < l.length := by rw [Hl.out]; exact hlt
        have hlk' : k < l'.length := by rw [Hl'.out]; exact hlt
        obtain ⟨b, off, rfl, hbl, hc0, hc1, hc2⟩ := (hr.below hb).item k hlk
        obtain ⟨b', off', rfl, hbl', hd0, hd1, hd2⟩ := (hr'.below hb).item k hlk'
        have hne := neq_item l[k] l'[k]
        by_cases he : l[k] = l'[k]
        · have hq : itNe l[k] l'[k] = false := by rw [he]; exact itNe_false _
          have He := Lib.hid he
          clear he
          go_wp2
          go_quiet (fail)
          go_wp2
          go_roundw
          case rel => exact ⟨k + 1, by omega, by go_num, take_eq_succ hlk hlk' He.out Htk.out, below_drewN hb _⟩
          case measure => simp [intOf]; omega
        · have hq : itNe l[k] l'[k] = true := itNe_true he
          have He := Lib.hid he
          clear he
          go_wp2
          go_quiet (fail)
          go_wp2
          go_ret
          exact ⟨Hno.out (take_ne hlk hlk' He.out), below_drewN hb _⟩
      · have hk' : k = n := by omega
        have Hk := Lib.hid hk'
        clear hk'
        go_wp2
        go_ret
        refine ⟨Hyes.out ?_, hb⟩
        have h := Htk.out
        rw [Hk.out, List.take_of_length_le (by rw [Hl.out]; exact Nat.le_refl _), List.take_of_length_le (by rw [Hl'.out]; exact Nat.le_refl _)] at h
        exact h
  · have g1 : ((n : Int) != (m : Int)) = true := by simp; omega
    have hfin : Ending.returned (.bool false) = .returned (.bool (decide (l = l'))) := by rw [decide_eq_false (fun h => hnm (by rw [← hl, ← hl', h]))]
    have Hfin := Lib.hid hfin
    clear hfin hl hl'
    go_enter Tryd.func24, Tryd.ntmps24
    go_wp2
    go_ret
    exact ⟨Hfin.out, Below.refl _ _⟩
set_option maxRecDepth 100000 in
set_option maxHeartbeats 800000 in
theorem slices_Equal_Item (a a' : Option Addr) (n m c c' : Nat) (l l' : List It) (hl : l.length = n) (hl' : l'.length = m) (w : World) (hr : Rd w a (iV l)) (hr' : Rd w a' (iV l')) (hn : n ≤ 9223372036854775807) (hm : m ≤ 9223372036854775807) :
    Calls Tryd.prog 61 #[.slice a n c, .slice a' m c'] w fun e w' => e = .returned (.bool (decide (l = l'))) ∧ Below w.heap.size w w' := by
  by_cases hnm : n = m
  · subst hnm
    have hgd : Tryd.prog.eqGuardType Tryd.prog.depth 70 = false := by kernel_rfl
    have Hl := Lib.hid hl
    have Hl' := Lib.hid hl'
    clear hl hl'
    have hyes : l = l' → Ending.returned (.bool true) = .returned (.bool (decide (l = l'))) := fun h => by rw [decide_eq_true h]
    have hno : l ≠ l' → Ending.returned (.bool false) = .returned (.bool (decide (l = l'))) := fun h => by rw [decide_eq_false h]
    have Hyes := Lib.hid hyes
    have Hno := Lib.hid hno
    clear hyes hno
    go_enter Tryd.func61, Tryd.ntmps61
    go_wp2
    go_loopw [13] (fun i wr => ∃ k : Nat, k ≤ n ∧ i = .int .i64 k ∧ l.take k = l'.take k ∧ Below w.heap.size w wr) (fun i _ => n - (intOf i).toNat)
    case atStart => exact ⟨0, Nat.zero_le _, rfl, rfl, Below.refl _ _⟩
    case round =>
      obtain ⟨k, hk, rfl, htk, hb⟩ := hrel
      have Htk := Lib.hid htk
      clear htk
      by_cases hlt : k < n
      · have hlk : k < l.length := by rw [Hl.out]; exact hlt
        have hlk' : k < l'.length := by rw [Hl'.out]; exact hlt
        obtain ⟨b, off, rfl, hbl, hc0, hc1, hc2⟩ := (hr.below hb).item k hlk
        obtain ⟨b', off', rfl, hbl', hd0, hd1, hd2⟩ := (hr'.below hb).item k hlk'
        have hne := neq_item l[k] l'[k]
        by_cases he : l[k] = l'[k]
        · have hq : itNe l[k] l'[k] = false := by rw [he]; exact itNe_false _
          have He := Lib.hid he
          clear he
          go_wp2
          go_quiet (fail)
          go_wp2
          go_roundw
          case rel => exact ⟨k + 1, by omega, by go_num, take_eq_succ hlk hlk' He.out Htk.out, below_drewN hb _⟩
          case measure => simp [intOf]; omega
        · have hq : itNe l[k] l'[k] = true := itNe_true he
          have He := Lib.hid he
          clear he
          go_wp2
          go_quiet (fail)
          go_wp2
          go_ret
          exact ⟨Hno.out (take_ne hlk hlk' He.out), below_drewN hb _⟩
      · have hk' : k = n := by omega
        have Hk := Lib.hid hk'
        clear hk'
        go_wp2
        go_ret
        refine ⟨Hyes.out ?_, hb⟩
        have h := Htk.out
        rw [Hk.out, List.take_of_length_le (by rw [Hl.out]; exact Nat.le_refl _), List.take_of_length_le (by rw [Hl'.out]; exact Nat.le_refl _)] at h
        exact h
  · have g1 : ((n : Int) != (m : Int)) = true := by simp; omega
    have hfin : Ending.returned (.bool false) = .returned (.bool (decide (l = l'))) := by rw [decide_eq_false (fun h => hnm (by rw [← hl, ← hl', h]))]
    have Hfin := Lib.hid hfin
    clear hfin hl hl'
    go_enter Tryd.func61, Tryd.ntmps61
    go_wp2
    go_ret
    exact ⟨Hfin.out, Below.refl _ _⟩
theorem impl_SameItems (a a' : Option Addr) (n m c c' : Nat) (l l' : List It) (hl : l.length = n) (hl' : l'.length = m) (w : World) (hr : Rd w a (iV l)) (hr' : Rd w a' (iV l')) (hn : n ≤ 9223372036854775807) (hm : m ≤ 9223372036854775807) :
    Calls Tryd.prog 23 #[.slice a n c, .slice a' m c'] w fun e w' => e = .returned (.bool (decide (l = l'))) ∧ Below w.heap.size w w' := by
  have H := fun W => slices_Equal_Item a a' n m c c' l l' hl hl' W
  have HH := Lib.hid H
  have Hr := Lib.hid hr
  have Hr' := Lib.hid hr'
  clear H hl hl' hr hr'
  go_enter Tryd.func23, Tryd.ntmps23
  go_wp2_with (go_at_call 61; ((with_reducible refine (HH.out _ Hr.out Hr'.out hn hm).mono ?_); rintro e w2 ⟨rfl, hb⟩))
  go_ret
  exact ⟨rfl, hb⟩

end Go.Proofs.YthiogijicknoiaaDoor

/- A region that draws its order and bears guards, where some operations yield what lies in a block of its own: what each yields is a list, and some of it is told by a property. -/
namespace Go.Proofs.YthiogijicknoiaaDoor
set_option linter.unusedVariables false
open Go.RowKit

def FF (vals : List Value) (sp : List (Nat × (Value → World → Prop))) (k : Nat) (v : Value) (w : World) : Prop :=
  match sp.find? (fun p => p.1 == k) with
  | some p => p.2 v w
  | none => vals[k]? = some v
theorem FF.keep {vals : List Value} {sp : List (Nat × (Value → World → Prop))} (h : ∀ p ∈ sp, ∀ v w w', Below w.heap.size w w' → p.2 v w → p.2 v w') (k : Nat) (v : Value) (w w' : World) (hb : Below w.heap.size w w') (hF : FF vals sp k v w) : FF vals sp k v w' := by
  unfold FF at *
  cases hf : sp.find? (fun p => p.1 == k) with
  | none => rw [hf] at hF; exact hF
  | some p =>
    rw [hf] at hF
    exact h p (List.mem_of_find?_eq_some hf) v w w' hb hF
def gsB (ops : Array Oper) (ks : List Nat) : Bool := (List.range ops.size).all fun i => match ops[i]? with
  | some o => (match o.guard with | none => true | some (j, _) => ks.all fun k => k != j)
  | none => true
theorem guard_FF {ops : Array Oper} {I : World → Prop} {vals : List Value} {sp : List (Nat × (Value → World → Prop))} {live : Nat → Bool} (hs : gsB ops (sp.map (·.1)) = true) (h : guardB ops vals live = true) : GuardOK ops I (FF vals sp) live := by
  intro i o hi
  have hlt : i < ops.size := (Array.getElem?_eq_some_iff.1 hi).1
  have h1 := List.all_eq_true.1 h i (List.mem_range.2 hlt)
  have h2 := List.all_eq_true.1 hs i (List.mem_range.2 hlt)
  simp only [hi] at h1 h2
  constructor
  · intro hg
    simp only [hg] at h1
    exact h1
  · intro j want hg v w _ hv
    simp only [hg] at h1 h2
    have hn : sp.find? (fun p => p.1 == j) = none := by
      rw [List.find?_eq_none]
      intro p hp e
      have h3 := List.all_eq_true.1 h2 p.1 (List.mem_map.2 ⟨p, hp, rfl⟩)
      rw [beq_iff_eq] at e
      rw [e] at h3
      simp at h3
    unfold FF at hv
    rw [hn] at hv
    simp only at hv
    rw [hv] at h1
    simpa using h1
/-- A code and a slice of cells xs. -/
def SpR (cd : Int) (n : Nat) (xs : List Value) (v : Value) (w : World) : Prop := ∃ a c, v = .agg #[.int .i64 cd, .slice a n c] ∧ Rd w a xs
/-- A slice of cells xs. -/
def SpV (n : Nat) (xs : List Value) (v : Value) (w : World) : Prop := ∃ a c, v = .slice a n c ∧ Rd w a xs
theorem SpR.keep {cd : Int} {n : Nat} {xs : List Value} (v : Value) (w w' : World) (hb : Below w.heap.size w w') (h : SpR cd n xs v w) : SpR cd n xs v w' := by
  obtain ⟨a, c, e, hr⟩ := h
  exact ⟨a, c, e, hr.below hb⟩
theorem SpV.keep {n : Nat} {xs : List Value} (v : Value) (w w' : World) (hb : Below w.heap.size w w') (h : SpV n xs v w) : SpV n xs v w' := by
  obtain ⟨a, c, e, hr⟩ := h
  exact ⟨a, c, e, hr.below hb⟩
/-- A code, three texts and a slice. -/
def SpQ (cd : Int) (m h p : ByteArray) (n : Nat) (xs : List Value) (v : Value) (w : World) : Prop := ∃ a c, v = .agg #[.int .i64 cd, .string m, .string h, .string p, .slice a n c] ∧ Rd w a xs
def SpQ1 (m h p : ByteArray) (n : Nat) (xs : List Value) (v : Value) (w : World) : Prop := ∃ a c, v = .agg #[.string m, .string h, .string p, .slice a n c] ∧ Rd w a xs
theorem SpQ.keep {cd : Int} {m h p : ByteArray} {n : Nat} {xs : List Value} (v : Value) (w w' : World) (hb : Below w.heap.size w w') (hs : SpQ cd m h p n xs v w) : SpQ cd m h p n xs v w' := by
  obtain ⟨a, c, e, hr⟩ := hs
  exact ⟨a, c, e, hr.below hb⟩
theorem SpQ1.keep {m h p : ByteArray} {n : Nat} {xs : List Value} (v : Value) (w w' : World) (hb : Below w.heap.size w w') (hs : SpQ1 m h p n xs v w) : SpQ1 m h p n xs v w' := by
  obtain ⟨a, c, e, hr⟩ := hs
  exact ⟨a, c, e, hr.below hb⟩
/-- A code, a status and two slices. -/
def SpT (cd t : Int) (n : Nat) (xs : List Value) (nb : Nat) (ys : List Value) (v : Value) (w : World) : Prop := ∃ a c ab cb, v = .agg #[.int .i64 cd, .int .i64 t, .slice a n c, .slice ab nb cb] ∧ Rd w a xs ∧ Rd w ab ys
def SpT1 (t : Int) (n : Nat) (xs : List Value) (nb : Nat) (ys : List Value) (v : Value) (w : World) : Prop := ∃ a c ab cb, v = .agg #[.int .i64 t, .slice a n c, .slice ab nb cb] ∧ Rd w a xs ∧ Rd w ab ys
theorem SpT.keep {cd t : Int} {n : Nat} {xs : List Value} {nb : Nat} {ys : List Value} (v : Value) (w w' : World) (hb : Below w.heap.size w w') (h : SpT cd t n xs nb ys v w) : SpT cd t n xs nb ys v w' := by
  obtain ⟨a, c, ab, cb, e, hr, hr2⟩ := h
  exact ⟨a, c, ab, cb, e, hr.below hb, hr2.below hb⟩
theorem SpT1.keep {t : Int} {n : Nat} {xs : List Value} {nb : Nat} {ys : List Value} (v : Value) (w w' : World) (hb : Below w.heap.size w w') (h : SpT1 t n xs nb ys v w) : SpT1 t n xs nb ys v w' := by
  obtain ⟨a, c, ab, cb, e, hr, hr2⟩ := h
  exact ⟨a, c, ab, cb, e, hr.below hb, hr2.below hb⟩
end Go.Proofs.YthiogijicknoiaaDoor

/- Requests and responses: copied, measured, compared. -/
namespace Go.Proofs.YthiogijicknoiaaDoor
open Go.RowKit
set_option linter.unusedSimpArgs false
set_option linter.unusedVariables false

def sameReq (m h p : ByteArray) (l : List Hd) (m' h' p' : ByteArray) (l' : List Hd) : Bool := m.toList == m'.toList && h.toList == h'.toList && p.toList == p'.toList && decide (l = l')
end Go.Proofs.YthiogijicknoiaaDoor

/- Plain words: a text split at a separator, and read byte by byte. No program in sight. -/
namespace Go.Proofs.YthiogijicknoiaaDoor
open Go.RowKit

theorem split_hit {s sep : List UInt8} (hsep : sep ≠ []) {i : Nat} (h : Lib.index s sep = i) : Lib.split s sep = s.take i :: Lib.split (s.drop (i + sep.length)) sep := by
  unfold Lib.split
  rw [Lib.count_hit hsep h, Nat.add_comm 1, Lib.splitK]
  have e : (Lib.index s sep == -1) = false := by rw [h, beq_eq_false_iff_ne]; omega
  rw [e]
  simp [h]
theorem split_miss {s sep : List UInt8} (h : Lib.index s sep = -1) : Lib.split s sep = [s] := by
  unfold Lib.split
  rw [Lib.count_miss h]
  rfl
theorem index_front {s sep : List UInt8} (h : sep.isPrefixOf s = true) : Lib.index s sep = 0 := by
  cases s with
  | nil => cases sep with
    | nil => rfl
    | cons a t => cases h
  | cons b r => unfold Lib.index; rw [if_pos h]
theorem split_front {s sep : List UInt8} (hsep : sep ≠ []) (h : sep.isPrefixOf s = true) : Lib.split s sep = [] :: Lib.split (s.drop sep.length) sep := by
  rw [split_hit hsep (i := 0) (index_front h)]
  simp
theorem index_cases (s sep : List UInt8) : Lib.index s sep = -1 ∨ ∃ i : Nat, Lib.index s sep = i := by
  have := Lib.index_ge s sep
  by_cases h : Lib.index s sep = -1
  · exact .inl h
  · exact .inr ⟨(Lib.index s sep).toNat, by omega⟩
theorem split_skip {b : UInt8} {r sep : List UInt8} (hsep : sep ≠ []) (hp : sep.isPrefixOf (b :: r) = false) {h : List UInt8} {t : List (List UInt8)} (e : Lib.split r sep = h :: t) : Lib.split (b :: r) sep = (b :: h) :: t := by
  rcases index_cases r sep with hm | ⟨i, hi⟩
  · have hm' : Lib.index (b :: r) sep = -1 := by unfold Lib.index; rw [if_neg (by rw [hp]; decide), hm]; rfl
    rw [split_miss hm] at e
    rw [split_miss hm']
    cases e; rfl
  · have hi' : Lib.index (b :: r) sep = ((i + 1 : Nat) : Int) := by
      have hne : ¬ ((i : Int) == -1) = true := fun q => by have := beq_iff_eq.1 q; omega
      unfold Lib.index; rw [if_neg (by rw [hp]; decide), hi, if_neg hne]; omega
    rw [split_hit hsep hi] at e
    rw [split_hit hsep hi']
    cases e
    rw [List.take_succ_cons, show i + 1 + sep.length = (i + sep.length) + 1 by omega, List.drop_succ_cons]
theorem split_some (s : List UInt8) {sep : List UInt8} (hsep : sep ≠ []) : ∃ h t, Lib.split s sep = h :: t := by
  rcases index_cases s sep with hm | ⟨i, hi⟩
  · exact ⟨_, _, split_miss hm⟩
  · exact ⟨_, _, split_hit hsep hi⟩

/-- The pieces of bytes between one byte, read byte by byte. -/
def cutGo (c : UInt8) : List UInt8 → List UInt8 → List (List UInt8)
  | cur, [] => [cur]
  | cur, b :: r => if b = c then cur :: cutGo c [] r else cutGo c (cur ++ [b]) r
theorem cutGo_split (c : UInt8) : ∀ (s cur : List UInt8) (h : List UInt8) (t : List (List UInt8)), Lib.split s [c] = h :: t → cutGo c cur s = (cur ++ h) :: t
  | [], cur, h, t, e => by
    rw [split_miss (by rfl)] at e
    cases e
    simp [cutGo]
  | b :: r, cur, h, t, e => by
    obtain ⟨h', t', e'⟩ := split_some r (sep := [c]) (by simp)
    unfold cutGo
    by_cases hb : b = c
    · subst hb
      rw [split_front (by simp) (by simp [List.isPrefixOf])] at e
      cases e
      rw [if_pos rfl, cutGo_split b r [] h' t' e']
      simp only [List.length_singleton, List.drop_one, List.tail_cons, List.append_nil, List.nil_append]
      rw [e']
    · rw [split_skip (by simp) (by simp [List.isPrefixOf]; exact fun q => hb q.symm) e'] at e
      have e1 := List.cons.inj e
      rw [if_neg hb, cutGo_split c r _ h' t' e', ← e1.1, ← e1.2]
      simp
theorem cutGo_eq (c : UInt8) (s : List UInt8) : cutGo c [] s = Lib.split s [c] := by
  obtain ⟨h, t, e⟩ := split_some s (sep := [c]) (by simp)
  rw [cutGo_split c s [] h t e, e]; rfl

/-- Lines that 13 and 10 end, and what stands behind the last of them. -/
def linesGo : List UInt8 → List UInt8 → List (List UInt8) × List UInt8
  | cur, [] => ([], cur)
  | cur, [b] => ([], cur ++ [b])
  | cur, b :: c :: r => if b = 13 ∧ c = 10 then (cur :: (linesGo [] r).1, (linesGo [] r).2) else linesGo (cur ++ [b]) (c :: r)
termination_by _ s => s.length
theorem linesGo_split : ∀ (s cur : List UInt8) (h : List UInt8) (t : List (List UInt8)), Lib.split s [13, 10] = h :: t → (linesGo cur s).1 ++ [(linesGo cur s).2] = (cur ++ h) :: t
  | [], cur, h, t, e => by
    rw [split_miss (by rfl)] at e
    cases e
    simp [linesGo]
  | [b], cur, h, t, e => by
    rw [split_skip (by simp) (by simp [List.isPrefixOf]) (split_miss (s := []) (sep := [13, 10]) (by rfl))] at e
    cases e
    simp [linesGo]
  | b :: c :: r, cur, h, t, e => by
    unfold linesGo
    by_cases hb : b = 13 ∧ c = 10
    · obtain ⟨rfl, rfl⟩ := hb
      obtain ⟨h', t', e'⟩ := split_some r (sep := [13, 10]) (by simp)
      rw [split_front (by simp) (by simp [List.isPrefixOf])] at e
      cases e
      rw [if_pos ⟨rfl, rfl⟩]
      have ih := linesGo_split r [] h' t' e'
      simp only [List.length_cons, List.length_nil, List.drop_succ_cons, List.drop_zero, List.append_nil]
      rw [e', List.cons_append, ih]
      rfl
    · obtain ⟨h', t', e'⟩ := split_some (c :: r) (sep := [13, 10]) (by simp)
      have hp : List.isPrefixOf [13, 10] (b :: c :: r) = false := by
        rw [Bool.eq_false_iff]
        intro q
        simp [List.isPrefixOf] at q
        exact hb ⟨q.1.symm, q.2.symm⟩
      rw [split_skip (by simp) hp e'] at e
      have e1 := List.cons.inj e
      rw [if_neg hb, linesGo_split (c :: r) _ h' t' e', ← e1.1, ← e1.2]
      simp
termination_by s => s.length
theorem linesGo_eq (s : List UInt8) : (linesGo [] s).1 ++ [(linesGo [] s).2] = Lib.split s [13, 10] := by
  obtain ⟨h, t, e⟩ := split_some s (sep := [13, 10]) (by simp)
  rw [linesGo_split s [] h t e, e]; rfl
/-- Nothing stands behind the last line just where the text is empty or ends so. -/
theorem linesGo_end : ∀ (s cur : List UInt8), (linesGo cur s).2 = [] ↔ (cur = [] ∧ s = []) ∨ [13, 10] <:+ s
  | [], cur => by
    simp [linesGo]
  | [b], cur => by
    simp only [linesGo]
    constructor
    · intro h; simp at h
    · rintro (⟨_, h⟩ | h)
      · cases h
      · have := h.length_le; simp at this
  | b :: c :: r, cur => by
    unfold linesGo
    by_cases hb : b = 13 ∧ c = 10
    · obtain ⟨rfl, rfl⟩ := hb
      rw [if_pos ⟨rfl, rfl⟩]
      show (linesGo [] r).2 = [] ↔ _
      rw [linesGo_end r []]
      constructor
      · rintro (⟨_, rfl⟩ | h)
        · exact .inr (List.suffix_refl _)
        · exact .inr (h.trans ⟨[13, 10], rfl⟩)
      · rintro (⟨_, h⟩ | h)
        · cases h
        · by_cases hr : r = []
          · exact .inl ⟨rfl, hr⟩
          · refine .inr ?_
            rcases List.suffix_cons_iff.1 h with h | h
            · exact absurd (by have := congrArg List.length h; simpa using this) (fun q : r.length = 0 => hr (List.length_eq_zero_iff.1 q))
            · rcases List.suffix_cons_iff.1 h with h | h
              · have := congrArg List.head? h; simp at this
              · exact h
    · rw [if_neg hb, linesGo_end (c :: r) _]
      constructor
      · rintro (⟨h, _⟩ | h)
        · simp at h
        · exact .inr (h.trans ⟨[b], rfl⟩)
      · rintro (⟨_, h⟩ | h)
        · cases h
        · refine .inr ?_
          rcases List.suffix_cons_iff.1 h with h | h
          · cases h; exact absurd ⟨rfl, rfl⟩ hb
          · exact h
termination_by s => s.length
/-- Cut at the first of one byte. -/
theorem cut_at {s : List UInt8} {c : UInt8} {i : Nat} (hi : i < s.length) (hc : s[i] = c) (hn : ∀ j (hj : j < i), s[j]'(by omega) ≠ c) : Lib.cut s [c] = (s.take i, s.drop (i + 1), true) := by
  have e : Lib.index s [c] = i := by
    refine Lib.index_first (by omega) ?_ ?_
    · unfold Lib.occAt
      rw [List.drop_eq_getElem_cons hi]
      simp [List.isPrefixOf, hc]
    · intro j hj
      unfold Lib.occAt
      rw [List.drop_eq_getElem_cons (by omega)]
      simp [List.isPrefixOf]
      exact fun q => hn j hj q.symm
  unfold Lib.cut
  rw [e, if_pos (by omega)]
  simp
theorem cut_none {s : List UInt8} {c : UInt8} (hn : ∀ j (hj : j < s.length), s[j] ≠ c) : Lib.cut s [c] = (s, [], false) := by
  have e : Lib.index s [c] = -1 := by
    refine Lib.index_none ?_
    intro j hj
    unfold Lib.occAt
    by_cases h : j < s.length
    · rw [List.drop_eq_getElem_cons h]
      simp [List.isPrefixOf]
      exact fun q => hn j h q.symm
    · rw [List.drop_of_length_le (by omega)]
      rfl
  unfold Lib.cut
  rw [e, if_neg (by omega)]
theorem split_len {sep : List UInt8} (hsep : sep ≠ []) : ∀ (n : Nat) (s : List UInt8), s.length ≤ n → (Lib.split s sep).length = Lib.count s sep + 1 := by
  intro n
  induction n with
  | zero =>
    intro s hs
    obtain rfl : s = [] := List.length_eq_zero_iff.1 (by omega)
    have e : Lib.index [] sep = -1 := by
      unfold Lib.index
      cases sep with
      | nil => exact absurd rfl hsep
      | cons a t => rfl
    rw [split_miss e, Lib.count_miss e]; rfl
  | succ n ih =>
    intro s hs
    rcases index_cases s sep with hm | ⟨i, hi⟩
    · rw [split_miss hm, Lib.count_miss hm]; rfl
    · have hlt := Lib.drop_shorter hsep (s := s) (by rw [hi]; intro q; have := beq_iff_eq.1 q; omega)
      rw [hi, Int.toNat_natCast] at hlt
      rw [split_hit hsep hi, Lib.count_hit hsep hi, List.length_cons, ih _ (by omega)]
      omega
end Go.Proofs.YthiogijicknoiaaDoor

/- Slices of strings: copied, measured, compared, searched. -/
namespace Go.Proofs.YthiogijicknoiaaDoor
open Go.RowKit
set_option linter.unusedSimpArgs false
set_option linter.unusedVariables false

def strV (l : List ByteArray) : List Value := l.map Value.string
theorem strV_len (l : List ByteArray) : (strV l).length = l.length := List.length_map _
theorem strV_at (l : List ByteArray) (k : Nat) (h : k < l.length) : (strV l)[k]? = some (.string l[k]) := by simp [strV, h]
theorem strV_take (l : List ByteArray) (k : Nat) (h : k < l.length) : strV (l.take (k + 1)) = strV (l.take k) ++ [.string l[k]] := by
  unfold strV; rw [List.take_succ_eq_append_getElem h, List.map_append]; rfl
theorem infoStr : (Tryd.prog.info? 9).map (fun i => (i.zero, i.size, i.bytes)) = some (some (.string ⟨#[]⟩), 1, 16) := by kernel_rfl

def isS (t : ByteArray) (s : ByteArray) : Bool := decide (s = t)
theorem isS_true {t s : ByteArray} (h : isS t s = true) : (t.toList == s.toList) = true ∧ (s.toList == t.toList) = true := by
  have := of_decide_eq_true h; subst this; simp
theorem isS_false {t s : ByteArray} (h : isS t s = false) : (t.toList == s.toList) = false ∧ (s.toList == t.toList) = false := by
  have := of_decide_eq_false h
  exact ⟨bytes_ne fun e => this e.symm, bytes_ne this⟩
def hasS (t : ByteArray) (l : List ByteArray) : Bool := decide (0 ≤ idxI (isS t) l)

end Go.Proofs.YthiogijicknoiaaDoor

/- Letters, words, small letters. -/
namespace Go.Proofs.YthiogijicknoiaaDoor
open Go.RowKit
set_option linter.unusedSimpArgs false
set_option linter.unusedVariables false

theorem idx_has (l : List UInt8) (c : Int) (h0 : 0 ≤ c) (h1 : c < 256) : decide (0 ≤ Lib.indexByte l (UInt8.ofNat c.toNat)) = (l.map fun b => (b.toNat : Int)).contains c := by
  rw [← Lib.contains_iff_indexByte]
  obtain ⟨n, rfl⟩ := Int.eq_ofNat_of_zero_le h0
  induction l with
  | nil => rfl
  | cons b l ih =>
    rw [List.map_cons, List.contains_cons, List.contains_cons, ih]
    congr 1
    rw [Bool.eq_iff_iff, beq_iff_eq, beq_iff_eq]
    have hb := b.toNat_lt
    constructor
    · intro h; rw [← h]; simp; omega
    · intro h
      apply UInt8.toNat_inj.1
      simp; omega

theorem impl_isLetter (c : Int) (w : World) : Calls Tryd.prog 111 #[.int .u8 c] w fun e w' => e = .returned (.bool (letterB c)) ∧ w = w' := by
  go_enter Tryd.func111, Tryd.ntmps111
  go_wp2
  all_goals (go_ret; exact ⟨ret_bool (by rw [Bool.eq_iff_iff]; simp [letterB]; omega), rfl⟩)
theorem spec_l1Letter (c : Int) (w : World) : Calls Tryd.prog 122 #[.int .u8 c] w fun e w' => e = .returned (.bool (letterB c)) ∧ w = w' := by
  go_enter Tryd.func122, Tryd.ntmps122
  go_wp2
  all_goals (go_ret; exact ⟨ret_bool (by rw [Bool.eq_iff_iff]; simp [letterB]; omega), rfl⟩)
theorem impl_isDigit (c : Int) (w : World) : Calls Tryd.prog 34 #[.int .u8 c] w fun e w' => e = .returned (.bool (digitB c)) ∧ w = w' := by
  go_enter Tryd.func34, Tryd.ntmps34
  go_wp2
  all_goals (go_ret; exact ⟨ret_bool (by rw [Bool.eq_iff_iff]; simp [digitB]; omega), rfl⟩)
theorem spec_l1Digit (c : Int) (w : World) : Calls Tryd.prog 63 #[.int .u8 c] w fun e w' => e = .returned (.bool (digitB c)) ∧ w = w' := by
  go_enter Tryd.func63, Tryd.ntmps63
  go_wp2
  all_goals (go_ret; exact ⟨ret_bool (by rw [Bool.eq_iff_iff]; simp [digitB]; omega), rfl⟩)
set_option maxHeartbeats 1000000 in
theorem spec_l1WordByte (c : Int) (w : World) : Calls Tryd.prog 95 #[.int .u8 c] w fun e w' => e = .returned (.bool (wordB c)) ∧ w = w' := by
  go_enter Tryd.func95, Tryd.ntmps95
  go_wp2_with (first | (go_at_call 122; ((with_reducible refine (spec_l1Letter _ _).mono ?_); rintro e w' ⟨rfl, rfl⟩)) | (go_at_call 63; ((with_reducible refine (spec_l1Digit _ _).mono ?_); rintro e w' ⟨rfl, rfl⟩)))
  all_goals (go_ret; exact ⟨ret_bool (by simp_all [wordB]), rfl⟩)
theorem impl_isWordByte (c : Int) (h0 : 0 ≤ c) (h1 : c < 256) (w : World) : Calls Tryd.prog 79 #[.int .u8 c] w fun e w' => e = .returned (.bool (wordB c)) ∧ w = w' := by
  go_enter Tryd.func79, Tryd.ntmps79
  go_wp2_with (first | (go_at_call 111; ((with_reducible refine (impl_isLetter _ _).mono ?_); rintro e w' ⟨rfl, rfl⟩)) | (go_at_call 34; ((with_reducible refine (impl_isDigit _ _).mono ?_); rintro e w' ⟨rfl, rfl⟩)) | (go_at_call 112; ((with_reducible refine (Tryd.strings_IndexByte _ _ _).mono ?_); rintro e w' ⟨rfl, rfl⟩)))
  · go_ret
    exact ⟨ret_bool (by simp_all [wordB]), rfl⟩
  · go_ret
    exact ⟨ret_bool (by simp_all [wordB]), rfl⟩
  · go_ret
    refine ⟨ret_bool ?_, rfl⟩
    rw [idx_has _ c h0 h1]
    simp_all [wordB]

set_option maxHeartbeats 800000 in
theorem areBytes_word (s : ByteArray) (lo hi : Int) (w : World) (hs : s.size ≤ 9223372036854775807) : Calls Tryd.prog 33 #[.string s, .int .i64 lo, .int .i64 hi, .func (.func 79) #[] #[]] w fun e w' => e = .returned (.bool (inB s.size lo hi && allB wordB s)) ∧ w = w' := by
  by_cases hb : inB s.size lo hi = true
  · obtain ⟨h1, h2⟩ := inB_iff.1 hb
    have hfin : ∀ v, allB wordB s = v → (inB s.size lo hi && allB wordB s) = v := fun v h => by rw [hb, h]; rfl
    have Hfin := Lib.hid hfin
    clear hfin hb
    go_enter Tryd.func33, Tryd.ntmps33
    go_wp2
    go_loop [22] (fun i => ∃ k : Nat, k ≤ s.size ∧ i = .int .i64 k ∧ allTo wordB s k = true) (fun i => s.size - (intOf i).toNat)
    case atStart => exact ⟨0, Nat.zero_le _, rfl, rfl⟩
    case round =>
      obtain ⟨k, hk, rfl, hall⟩ := hrel
      have Hall := Lib.hid hall
      clear hall
      by_cases hlt : k < s.size
      · have hsn := Lib.hid (allTo_succ wordB s k hlt)
        by_cases hp : wordB (s[k].toNat : Int) = true
        · go_wp2_with (go_at_call 79; ((with_reducible refine (impl_isWordByte _ (by omega) (by have := (s[k]).toNat_lt; omega) _).mono ?_); rintro e w' ⟨rfl, rfl⟩))
          go_round
          case rel => exact ⟨k + 1, by omega, by go_num, by rw [hsn.out, Hall.out, hp]; rfl⟩
          case measure => simp [intOf]; omega
        · simp only [Bool.not_eq_true] at hp
          go_wp2_with (go_at_call 79; ((with_reducible refine (impl_isWordByte _ (by omega) (by have := (s[k]).toNat_lt; omega) _).mono ?_); rintro e w' ⟨rfl, rfl⟩))
          go_ret
          exact ⟨ret_bool (Hfin.out _ (allB_false _ _ _ hlt hp)).symm, rfl⟩
      · have hk' : k = s.size := by omega
        have Hk := Lib.hid hk'
        clear hk'
        go_wp2
        go_ret
        refine ⟨ret_bool (Hfin.out _ ?_).symm, rfl⟩
        have h := Hall.out
        rw [Hk.out, allTo_size] at h
        exact h
  · simp only [Bool.not_eq_true] at hb
    have h1 := inB_not.1 hb
    by_cases h2 : (s.size : Int) < lo
    all_goals
      go_enter Tryd.func33, Tryd.ntmps33
      go_wp2
      all_goals
        go_ret
        exact ⟨ret_bool (by first | rfl | (rw [hb]; rfl)), rfl⟩

theorem wordS_of (s : ByteArray) : (inB s.size 1 64 && allB wordB s) = wordS s := by
  unfold wordS inB; congr 1; congr 1 <;> rw [Bool.eq_iff_iff] <;> simp only [decide_eq_true_eq] <;> omega
theorem impl_IsWord (s : ByteArray) (w : World) (hs : s.size ≤ 9223372036854775807) : Calls Tryd.prog 48 #[.string s] w fun e w' => e = .returned (.bool (wordS s)) ∧ w = w' := by
  go_enter Tryd.func48, Tryd.ntmps48
  go_wp2_with (go_at_call 33; ((with_reducible refine (areBytes_word _ _ _ _ hs).mono ?_); rintro e w' ⟨rfl, rfl⟩))
  go_ret
  exact ⟨ret_bool (wordS_of s), rfl⟩
set_option maxHeartbeats 800000 in
theorem spec_IsWord (s : ByteArray) (w : World) (hs : s.size ≤ 9223372036854775807) : Calls Tryd.prog 57 #[.string s] w fun e w' => e = .returned (.bool (wordS s)) ∧ w = w' := by
  by_cases hb : inB s.size 1 64 = true
  · obtain ⟨h1, h2⟩ := inB_iff.1 hb
    have hfin : ∀ v, allB wordB s = v → Ending.returned (.bool v) = .returned (.bool (wordS s)) := fun v h => by rw [← wordS_of, hb, h]; rfl
    have Hfin := Lib.hid hfin
    clear hfin hb
    go_enter Tryd.func57, Tryd.ntmps57
    go_wp2
    go_loop [3] (fun i => ∃ k : Nat, k ≤ s.size ∧ i = .int .i64 k ∧ allTo wordB s k = true) (fun i => s.size - (intOf i).toNat)
    case atStart => exact ⟨0, Nat.zero_le _, rfl, rfl⟩
    case round =>
      obtain ⟨k, hk, rfl, hall⟩ := hrel
      have Hall := Lib.hid hall
      clear hall
      by_cases hlt : k < s.size
      · have hsn := Lib.hid (allTo_succ wordB s k hlt)
        by_cases hp : wordB (s[k].toNat : Int) = true
        · go_wp2_with (go_at_call 95; ((with_reducible refine (spec_l1WordByte _ _).mono ?_); rintro e w' ⟨rfl, rfl⟩))
          go_round
          case rel => exact ⟨k + 1, by omega, by go_num, by rw [hsn.out, Hall.out, hp]; rfl⟩
          case measure => simp [intOf]; omega
        · simp only [Bool.not_eq_true] at hp
          go_wp2_with (go_at_call 95; ((with_reducible refine (spec_l1WordByte _ _).mono ?_); rintro e w' ⟨rfl, rfl⟩))
          go_ret
          exact ⟨Hfin.out _ (allB_false _ _ _ hlt hp), rfl⟩
      · have hk' : k = s.size := by omega
        have Hk := Lib.hid hk'
        clear hk'
        go_wp2
        go_ret
        refine ⟨Hfin.out _ ?_, rfl⟩
        have h := Hall.out
        rw [Hk.out, allTo_size] at h
        exact h
  · simp only [Bool.not_eq_true] at hb
    have h1 := inB_not.1 hb
    have hfin : Ending.returned (.bool false) = .returned (.bool (wordS s)) := by rw [← wordS_of, hb]; rfl
    have Hfin := Lib.hid hfin
    clear hfin hb
    by_cases h2 : (s.size : Int) < 1
    all_goals
      go_enter Tryd.func57, Tryd.ntmps57
      go_wp2
      all_goals
        go_ret
        exact ⟨Hfin.out, rfl⟩
end Go.Proofs.YthiogijicknoiaaDoor

/- Small letters: both texts write the same bytes. -/
namespace Go.Proofs.YthiogijicknoiaaDoor
open Go.RowKit
set_option linter.unusedSimpArgs false
set_option linter.unusedVariables false

/-- The first k bytes small, the others as they were. -/
def lowVals (s : ByteArray) (k : Nat) : List Value := ((s.data.toList.take k).map lowB ++ s.data.toList.drop k).map byteV
theorem lowVals_zero (s : ByteArray) : lowVals s 0 = s.data.toList.map byteV := by simp [lowVals]
theorem lowVals_len (s : ByteArray) (k : Nat) : (lowVals s k).length = s.size := by
  have : s.data.toList.length = s.size := Array.length_toList
  simp only [lowVals, List.length_map, List.length_append, List.length_take, List.length_drop]; omega
theorem lowVals_at (s : ByteArray) (k : Nat) (h : k < s.size) : (lowVals s k)[k]? = some (byteV s[k]) := by
  have hl : s.data.toList.length = s.size := Array.length_toList
  have e : s.data.toList[k]'(by omega) = s[k] := rfl
  simp only [lowVals, List.getElem?_map]
  rw [List.getElem?_append_right (by simp; omega), List.getElem?_drop]
  simp only [List.length_map, List.length_take]
  rw [show k + (k - min k s.data.toList.length) = k from by omega, List.getElem?_eq_getElem (by omega), e]; rfl
theorem lowVals_keep (s : ByteArray) (k : Nat) (h : k < s.size) (hb : ¬ (65 ≤ s[k].toNat ∧ s[k].toNat ≤ 90)) : lowVals s (k + 1) = lowVals s k := by
  have hl : s.data.toList.length = s.size := Array.length_toList
  unfold lowVals
  rw [take_snoc s k h]
  have hd : s.data.toList.drop k = s[k] :: s.data.toList.drop (k + 1) := by rw [List.drop_eq_getElem_cons (by omega)]; rfl
  rw [hd]
  simp [lowB, hb]
theorem lowVals_set (s : ByteArray) (k : Nat) (h : k < s.size) (hb : 65 ≤ s[k].toNat ∧ s[k].toNat ≤ 90) : (lowVals s k).set k (.int .u8 ((s[k].toNat : Int) + 32)) = lowVals s (k + 1) := by
  have hl : s.data.toList.length = s.size := Array.length_toList
  unfold lowVals
  rw [take_snoc s k h]
  have hd : s.data.toList.drop k = s[k] :: s.data.toList.drop (k + 1) := by rw [List.drop_eq_getElem_cons (by omega)]; rfl
  rw [hd]
  have hm : ((s.data.toList.take k).map lowB).length = k := by simp; omega
  simp only [List.map_append, List.map_cons, List.map_nil, List.append_assoc]
  rw [List.set_append_right _ _ (by simp; omega)]
  simp only [List.length_map, List.length_take]
  rw [show k - min k s.data.toList.length = 0 from by omega]
  congr 1
  have he : (s[k] + 32).toNat = s[k].toNat + 32 := by
    rw [UInt8.toNat_add]; simp; omega
  simp [lowB, hb, byteV, he]
theorem lowVals_end (s : ByteArray) : lowVals s s.size = (s.data.toList.map lowB).map byteV := by
  have hl : s.data.toList.length = s.size := Array.length_toList
  unfold lowVals
  rw [List.take_of_length_le (by omega), List.drop_of_length_le (by omega), List.append_nil]
theorem lowS_eq (s : ByteArray) : (⟨(s.data.toList.map lowB).toArray⟩ : ByteArray) = lowS s := by
  unfold lowS; congr 1; apply Array.ext'; simp

theorem spec_l1Lower (s : ByteArray) (w : World) (hs : s.size ≤ 9223372036854775807) : Calls Tryd.prog 99 #[.string s] w fun e w' => e = .returned (.string (lowS s)) ∧ Below w.heap.size w w' := by
  obtain ⟨cap, W, hconv, hrow, hbel, hlt⟩ := conv_there w s
  have Hrow := Lib.hid hrow
  clear hrow
  go_enter Tryd.func99, Tryd.ntmps99
  go_wp2
  go_loopw [4] (fun i wr => ∃ k : Nat, k ≤ s.size ∧ i = .int .i64 k ∧ RowAt wr w.heap.size (lowVals s k) ∧ Below w.heap.size w wr) (fun i _ => s.size - (intOf i).toNat)
  case atStart => exact ⟨0, Nat.zero_le _, rfl, by rw [lowVals_zero]; exact Hrow.out, hbel⟩
  case round =>
    clear hconv
    obtain ⟨k, hk, rfl, hrow, hb⟩ := hrel
    by_cases hlt' : k < s.size
    · have hcell : wr.cell? ⟨w.heap.size, k, none⟩ = some (.int .u8 (s[k].toNat : Int)) := hrow.cell k _ (lowVals_at s k hlt')
      have hfree : wr.frozen? ⟨w.heap.size, k, none⟩ = false := hrow.free k (by rw [lowVals_len]; exact hlt')
      have hby := (s[k]).toNat_lt
      have Hr := Lib.hid hrow
      clear hrow
      by_cases h1 : 65 ≤ s[k].toNat
      · by_cases h2 : s[k].toNat ≤ 90
        · go_wp2
          go_roundw
          case rel => exact ⟨k + 1, by omega, by go_num, by rw [← lowVals_set s k hlt' ⟨h1, h2⟩, show ((s[k].toNat : Int) + 32) = (s[k].toNat : Int) + 32 from by omega]; exact Hr.out.set k _, hb.setCell (Nat.le_refl _) _⟩
          case measure => simp [intOf]; omega
        · go_wp2
          go_roundw
          case rel => exact ⟨k + 1, by omega, by go_num, by rw [lowVals_keep s k hlt' (fun h => h2 h.2)]; exact Hr.out, hb⟩
          case measure => simp [intOf]; omega
      · go_wp2
        go_roundw
        case rel => exact ⟨k + 1, by omega, by go_num, by rw [lowVals_keep s k hlt' (fun h => h1 h.1)]; exact Hr.out, hb⟩
        case measure => simp [intOf]; omega
    · obtain rfl : k = s.size := by omega
      have hback := conv_back wr w.heap.size cap (s.data.toList.map lowB) s.size (by rw [List.length_map, Array.length_toList]; rfl) (by rw [← lowVals_end]; exact hrow)
      rw [lowS_eq] at hback
      go_wp2
      go_ret
      exact ⟨rfl, hb⟩
theorem impl_lower (s : ByteArray) (w : World) (hs : s.size ≤ 9223372036854775807) : Calls Tryd.prog 120 #[.string s] w fun e w' => e = .returned (.string (lowS s)) ∧ Below w.heap.size w w' := by
  obtain ⟨cap, W, hconv, hrow, hbel, hlt⟩ := conv_there w s
  have Hrow := Lib.hid hrow
  clear hrow
  go_enter Tryd.func120, Tryd.ntmps120
  go_wp2
  go_loopw [10] (fun i wr => ∃ k : Nat, k ≤ s.size ∧ i = .int .i64 k ∧ RowAt wr w.heap.size (lowVals s k) ∧ Below w.heap.size w wr) (fun i _ => s.size - (intOf i).toNat)
  case atStart => exact ⟨0, Nat.zero_le _, rfl, by rw [lowVals_zero]; exact Hrow.out, hbel⟩
  case round =>
    clear hconv
    obtain ⟨k, hk, rfl, hrow, hb⟩ := hrel
    by_cases hlt' : k < s.size
    · have hcell : wr.cell? ⟨w.heap.size, k, none⟩ = some (.int .u8 (s[k].toNat : Int)) := hrow.cell k _ (lowVals_at s k hlt')
      have hfree : wr.frozen? ⟨w.heap.size, k, none⟩ = false := hrow.free k (by rw [lowVals_len]; exact hlt')
      have hby := (s[k]).toNat_lt
      have Hr := Lib.hid hrow
      clear hrow
      by_cases h1 : 65 ≤ s[k].toNat
      · by_cases h2 : s[k].toNat ≤ 90
        · go_wp2
          go_roundw
          case rel => exact ⟨k + 1, by omega, by go_num, by rw [← lowVals_set s k hlt' ⟨h1, h2⟩, show ((s[k].toNat : Int) + 32) = (s[k].toNat : Int) + 97 - 65 from by omega]; exact Hr.out.set k _, hb.setCell (Nat.le_refl _) _⟩
          case measure => simp [intOf]; omega
        · go_wp2
          go_roundw
          case rel => exact ⟨k + 1, by omega, by go_num, by rw [lowVals_keep s k hlt' (fun h => h2 h.2)]; exact Hr.out, hb⟩
          case measure => simp [intOf]; omega
      · go_wp2
        go_roundw
        case rel => exact ⟨k + 1, by omega, by go_num, by rw [lowVals_keep s k hlt' (fun h => h1 h.1)]; exact Hr.out, hb⟩
        case measure => simp [intOf]; omega
    · obtain rfl : k = s.size := by omega
      have hback := conv_back wr w.heap.size cap (s.data.toList.map lowB) s.size (by rw [List.length_map, Array.length_toList]; rfl) (by rw [← lowVals_end]; exact hrow)
      rw [lowS_eq] at hback
      go_wp2
      go_ret
      exact ⟨rfl, hb⟩

def lowerR (s : ByteArray) : Int × ByteArray := if s.size ≤ 1000 then (0, lowS s) else (2, ByteArray.empty)
end Go.Proofs.YthiogijicknoiaaDoor

/- Names that are alike. -/
namespace Go.Proofs.YthiogijicknoiaaDoor
open Go.RowKit
set_option linter.unusedSimpArgs false
set_option linter.unusedVariables false

def alikeB (a b : ByteArray) : Bool := (lowS a).toList == (lowS b).toList
theorem impl_alike (a b : ByteArray) (hsa : a.size ≤ 9223372036854775807) (hsb : b.size ≤ 9223372036854775807) (w : World) : Calls Tryd.prog 93 #[.string a, .string b] w fun e w' => e = .returned (.bool (alikeB a b)) ∧ Below w.heap.size w w' := by
  go_enter Tryd.func93, Tryd.ntmps93
  go_wp2_with (first | (go_at_call 120; ((with_reducible refine (impl_lower a _ hsa).mono ?_); rintro e w' ⟨rfl, hb⟩; obtain ⟨hc, hf⟩ := bcell hb; have hz := hb.size; (try simp only [World.size_alloc, World.size_setCell, World.size_drew] at hz); obtain ⟨hlt, hle, hn1, hn2, hn3, hn4⟩ := bsize hb; (try simp only [World.size_alloc, World.size_setCell, World.size_drew] at hlt hle hn1 hn2 hn3 hn4); (try have hr0 : w.heap.size < w'.heap.size := by omega); (try have hr1 : w.heap.size + 1 < w'.heap.size := by omega); (try have hs0 : wS.heap.size < w'.heap.size := by omega); (try have hs1 : wG.heap.size < w'.heap.size := by omega))) | (go_at_call 120; ((with_reducible refine (impl_lower b _ hsb).mono ?_); rintro e w' ⟨rfl, hb⟩; obtain ⟨hc, hf⟩ := bcell hb; have hz := hb.size; (try simp only [World.size_alloc, World.size_setCell, World.size_drew] at hz); obtain ⟨hlt, hle, hn1, hn2, hn3, hn4⟩ := bsize hb; (try simp only [World.size_alloc, World.size_setCell, World.size_drew] at hlt hle hn1 hn2 hn3 hn4); (try have hr0 : w.heap.size < w'.heap.size := by omega); (try have hr1 : w.heap.size + 1 < w'.heap.size := by omega); (try have hs0 : wS.heap.size < w'.heap.size := by omega); (try have hs1 : wG.heap.size < w'.heap.size := by omega))))
  go_ret
  exact ⟨rfl, (by first | (with_reducible exact Below.refl _ _) | ((repeat' (first | (with_reducible exact Below.refl _ _) | (with_reducible assumption) | (with_reducible refine below_alloc ?_ _) | (with_reducible refine Below.drew ?_) | (with_reducible refine below_drewN ?_ _) | (with_reducible refine Below.setCell ?_ ?_ _) | refine below_then ?_ (by with_reducible assumption))) <;> (first | omega | (simp; done) | (simp; omega))))⟩
end Go.Proofs.YthiogijicknoiaaDoor

/- A number's decimal digits: both texts write the same. -/
namespace Go.Proofs.YthiogijicknoiaaDoor
open Go.RowKit
set_option linter.unusedSimpArgs false
set_option linter.unusedVariables false

theorem conv_one (c : Int) (w : World) (g : Nat) (h : w.cell? ⟨g, 0, none⟩ = some (.int .u8 c)) : (convert 22 9 (.slice (some ⟨g, 0, none⟩) 1 1)).run Tryd.prog w = .ok (.string ⟨#[UInt8.ofNat c.toNat]⟩) w := by
  have := run_convert_bytes_arg (P := Tryd.prog) w 22 5 Tryd.underlying22 Tryd.underlying5 g 0 1 1 [c] rfl (fun i hi => by
    obtain rfl : i = 0 := by omega
    simpa using h) 9 Tryd.underlying9
  rw [this]; rfl
theorem wrapi (n : Int) (h0 : -9223372036854775808 ≤ n) (h1 : n ≤ 9223372036854775807) : IntKind.i64.wrap n = n := by
  simp only [IntKind.wrap, IntKind.bits, IntKind.signed]
  simp
  omega
theorem wrapb (n : Int) (h0 : 0 ≤ n) (h1 : n < 256) : IntKind.u8.wrap n = n := by
  simp only [IntKind.wrap, IntKind.bits, IntKind.signed]
  simp
  omega
def decS (n : Int) : ByteArray := ⟨(Lib.decDigits n.toNat).toArray⟩
theorem decS_small {k : Nat} (h : k < 10) : decS (k : Int) = ⟨#[UInt8.ofNat (48 + k)]⟩ := by
  unfold decS; rw [Int.toNat_natCast, Lib.decDigits_one h]
theorem decS_big {k : Nat} (h : ¬ k < 10) : decS (k : Int) = decS ((k / 10 : Nat) : Int) ++ ⟨#[UInt8.ofNat (48 + k % 10)]⟩ := by
  unfold decS
  rw [Int.toNat_natCast, Int.toNat_natCast, Lib.decDigits, dif_neg h]
  apply ByteArray.ext
  simp
theorem decS_len (n : Int) (h0 : 0 ≤ n) (h1 : n ≤ 9223372036854775807) : (decS n).size ≤ 21 := by
  obtain ⟨k, rfl⟩ := Int.eq_ofNat_of_zero_le h0
  have := Lib.itoa_length_le (k : Int) (by omega) h1
  rw [Lib.itoa_nonneg] at this
  exact this
/-- The table of the library's that the fast road reads. -/
def Tab (w : World) : Prop := ∃ g, Tryd.prog.globalNamed "internal/strconv.uint64pow10" = some g ∧ g < w.heap.size ∧ Lib.TabIs Tryd.prog w "internal/strconv.uint64pow10" .u64 Lib.pow10Tab
theorem Tab.below {B : Nat} {w w' : World} (h : Tab w) (hb : Below B w w') (hB : w.heap.size ≤ B) : Tab w' := by
  obtain ⟨g, hg, hlt, ht⟩ := h
  exact ⟨g, hg, Nat.lt_of_lt_of_le hlt hb.size, var?_below hb hg (by omega) ht⟩
theorem Tab.then {w w' : World} (h : Tab w) (hb : Below w.heap.size w w') : Tab w' := h.below hb (Nat.le_refl _)
theorem Tab.alloc {w : World} (h : Tab w) (o : Obj) : Tab (w.alloc o) := h.then (below_alloc (Below.refl _ _) o)
theorem Tab.drew {w : World} (h : Tab w) : Tab w.drew := h.then (Below.refl _ _).drew
theorem below_growN (w : World) (k : Nat) (os : Array Obj) : Below w.heap.size w (Sort.grow (w.drewN k) os) :=
  ⟨rfl, rfl, rfl, by show w.heap.size ≤ (w.heap ++ os).size; rw [Array.size_append]; omega, fun j hj => by
    show (w.heap ++ os)[j]? = _
    rw [Array.getElem?_append_left hj]⟩
def numR (n : Int) : Int × ByteArray := if inB n 0 1000000000000000 then (0, decS n) else (3, ByteArray.empty)
theorem numR_yes {n : Int} (h : inB n 0 1000000000000000 = true) : numR n = (0, decS n) := by simp [numR, h]
theorem numR_no {n : Int} (h : inB n 0 1000000000000000 = false) : numR n = (3, ByteArray.empty) := by simp [numR, h]
end Go.Proofs.YthiogijicknoiaaDoor

/- Marks: what is written into rows, and read again. -/
namespace Go.Proofs.YthiogijicknoiaaDoor
open Go.RowKit
set_option linter.unusedSimpArgs false
set_option linter.unusedVariables false

def markS (k : Nat) : ByteArray := if k = 0 then ⟨#[109, 48]⟩ else ⟨#[109]⟩ ++ decS (k : Int)
theorem mark_step {j k0 : Nat} {s : ByteArray} (h : decS (j : Int) ++ s = decS (k0 : Int)) (hj : ¬ j < 10) : decS ((j / 10 : Nat) : Int) ++ (⟨#[48 + UInt8.ofNat (j % 10)]⟩ ++ s) = decS (k0 : Int) := by
  have e8 : (48 : UInt8) + UInt8.ofNat (j % 10) = UInt8.ofNat (48 + j % 10) := by rw [UInt8.ofNat_add]; rfl
  rw [e8, ← h, decS_big hj]
  apply ByteArray.ext
  simp
theorem mark_last {j k0 : Nat} {s : ByteArray} (h : decS (j : Int) ++ s = decS (k0 : Int)) (hj : j < 10) : ⟨#[48 + UInt8.ofNat (j % 10)]⟩ ++ s = decS (k0 : Int) := by
  have e8 : (48 : UInt8) + UInt8.ofNat (j % 10) = UInt8.ofNat (48 + j % 10) := by rw [UInt8.ofNat_add]; rfl
  rw [e8, ← h, decS_small hj, Nat.mod_eq_of_lt hj]
theorem mark_size {j k0 : Nat} {s : ByteArray} (h : decS (j : Int) ++ s = decS (k0 : Int)) (hk : k0 ≤ 1000000000) : s.size ≤ 21 := by
  have h1 := decS_len (k0 : Int) (by omega) (by omega)
  rw [← h, ByteArray.size_append] at h1
  omega
set_option maxHeartbeats 1600000 in
theorem laws_markText (ki : Int) (k0 : Nat) (hki : ki = (k0 : Int)) (hk : k0 ≤ 1000000000) (w : World) : Calls Tryd.prog 109 #[.int .i64 ki] w fun e w' => e = .returned (.string (markS k0)) ∧ Below w.heap.size w w' := by
  subst hki
  by_cases h0 : k0 = 0
  · subst h0
    go_enter Tryd.func109, Tryd.ntmps109
    go_wp2
    go_ret
    exact ⟨rfl, (by first | (with_reducible exact Below.refl _ _) | ((repeat' (first | (with_reducible exact Below.refl _ _) | (with_reducible assumption) | (with_reducible refine below_alloc ?_ _) | (with_reducible refine Below.drew ?_) | (with_reducible refine below_drewN ?_ _) | (with_reducible refine Below.setCell ?_ ?_ _) | refine below_then ?_ (by with_reducible assumption))) <;> (first | omega | (simp; done) | (simp; omega))))⟩
  · have hp : 0 < k0 := by omega
    have e0 : Ending.returned (.string (⟨#[109]⟩ ++ decS (k0 : Int))) = .returned (.string (markS k0)) := by rw [markS, if_neg h0]
    have E0 := Lib.hid e0
    clear e0 h0
    go_enter Tryd.func109, Tryd.ntmps109
    go_wp2
    go_loopw [0, 3] (fun i v wr => ∃ (j : Nat) (s : ByteArray), i = .int .i64 (j : Int) ∧ v = .string s ∧ j ≤ k0 ∧ (0 < j → decS (j : Int) ++ s = decS (k0 : Int)) ∧ (j = 0 → s = decS (k0 : Int)) ∧ Below w.heap.size w wr) (fun i _ _ => (intOf i).toNat)
    case atStart => exact ⟨k0, _, rfl, rfl, Nat.le_refl _, fun _ => by apply ByteArray.ext; simp, fun h => by omega, Below.refl _ _⟩
    case round =>
      obtain ⟨j, s, rfl, rfl, hj, h1, h2, hb⟩ := hrel
      by_cases hlt : 0 < j
      · have h1 := h1 hlt
        have hsz := mark_size h1 hk
        have H1 := Lib.hid h1
        have hcv := conv_one (48 + (j : Int) % 10)
        have hw1 : IntKind.i64.wrap ((j : Int) / 10) = (j : Int) / 10 := wrapi _ (by omega) (by omega)
        have hw2 : IntKind.i64.wrap ((j : Int) % 10) = (j : Int) % 10 := wrapi _ (by omega) (by omega)
        have hw3 : IntKind.i64.wrap (48 + (j : Int) % 10) = 48 + (j : Int) % 10 := wrapi _ (by omega) (by omega)
        have hw4 : IntKind.u8.wrap (48 + (j : Int) % 10) = 48 + (j : Int) % 10 := wrapb _ (by omega) (by omega)
        clear h1 h2
        go_wp2
        go_roundw
        case rel =>
          refine ⟨j / 10, _, by go_num, rfl, by omega, fun h => ?_, fun h => ?_, by exact (by first | (with_reducible exact Below.refl _ _) | ((repeat' (first | (with_reducible exact Below.refl _ _) | (with_reducible assumption) | (with_reducible refine below_alloc ?_ _) | (with_reducible refine Below.drew ?_) | (with_reducible refine below_drewN ?_ _) | (with_reducible refine Below.setCell ?_ ?_ _) | refine below_then ?_ (by with_reducible assumption))) <;> (first | omega | (simp; done) | (simp; omega))))⟩
          · exact mark_step H1.out (by omega)
          · exact mark_last H1.out (by omega)
        case measure => simp [intOf]; omega
      · obtain rfl : j = 0 := by omega
        have H2 := Lib.hid (h2 rfl)
        have hsz := decS_len (k0 : Int) (by omega) (by omega)
        clear h1 h2
        rw [H2.out]
        go_wp2
        go_ret
        exact ⟨E0.out, hb⟩

def marksH (k n : Nat) : List Hd := (List.range n).map fun i => (markS (k + 2 * i), markS (k + 2 * i + 1))
theorem marksH_len (k n : Nat) : (marksH k n).length = n := by simp [marksH]
theorem marksH_succ (k n : Nat) : marksH k (n + 1) = marksH k n ++ [(markS (k + 2 * n), markS (k + 2 * n + 1))] := by simp [marksH, List.range_succ]
theorem marksH_at (k n i : Nat) (h : i < (marksH k n).length) : (marksH k n)[i] = (markS (k + 2 * i), markS (k + 2 * i + 1)) := by simp [marksH]
theorem hV_snoc (l : List Hd) (x y : ByteArray) : hV l ++ [.string x, .string y] = hV (l ++ [(x, y)]) := by simp [hV, cellsOf, hEnc]
theorem put_cell {w : World} {g p : Nat} {A D : List Value} (h : RowAt w g (A ++ D)) (hA : A.length = p) (hD : 1 ≤ D.length) : (∃ v, w.cell? ⟨g, p, none⟩ = some v) ∧ w.frozen? ⟨g, p, none⟩ = false :=
  ⟨⟨_, h.cell p ((A ++ D)[p]'(by rw [List.length_append]; omega)) (List.getElem?_eq_getElem _)⟩, h.free p (by rw [List.length_append]; omega)⟩
set_option maxHeartbeats 1600000 in
theorem laws_markHeaderS (lo hi : Nat) (a : Option Addr) (n c : Nat) (l : List Hd) (hl : l.length = n) (ki : Int) (k : Nat) (hki : ki = (k : Int)) (hk : k ≤ 1000000) (w : World) (hs : SlAt w lo hi a n (hV l)) (hn : n ≤ 10000000) :
    Calls Tryd.prog 74 #[.slice a n c, .int .i64 ki] w fun e w' => e = .returned (.int .i64 (ki + 2 * (n : Int))) ∧ SlAt w' lo hi a n (hV (marksH k n)) ∧ Chg w w' lo hi := by
  subst hki
  rcases hs with ⟨rfl, hnil⟩ | ⟨g, rfl, hlo, hhi, hrow⟩
  · clear hl hnil
    go_enter Tryd.func74, Tryd.ntmps74
    go_wp2
    go_loopw [1, 5] (fun v i wr => v = .int .i64 (k : Int) ∧ i = .int .i64 0 ∧ Below w.heap.size w wr) (fun _ _ _ => 0)
    case atStart => exact ⟨rfl, rfl, Below.refl _ _⟩
    case round =>
      obtain ⟨rfl, rfl, hb⟩ := hrel
      go_wp2
      go_ret
      exact ⟨rfl, .inl ⟨rfl, rfl⟩, .of_below hb _ _⟩
  · have Hrow := Lib.hid hrow
    have Hl := Lib.hid hl
    have hgl := hrow.lt
    clear hrow hl
    go_enter Tryd.func74, Tryd.ntmps74
    go_wp2
    go_loopw [1, 5] (fun v i wr => ∃ j : Nat, j ≤ n ∧ i = .int .i64 (j : Int) ∧ v = .int .i64 ((k : Int) + 2 * (j : Int)) ∧ RowAt wr g (hV (marksH k j) ++ (hV l).drop (j * 2)) ∧ Chg w wr lo hi) (fun _ i _ => n - (intOf i).toNat)
    case atStart => exact ⟨0, Nat.zero_le _, rfl, rfl, by simpa [marksH, hV, cellsOf] using Hrow.out, Chg.refl _ _ _⟩
    case round =>
      obtain ⟨j, hj, rfl, rfl, hrow, hch⟩ := hrel
      by_cases hlt : j < n
      · have hA : (hV (marksH k j)).length = j * 2 := by rw [hV_len, marksH_len]
        have hD : ((hV l).drop (j * 2)).length = n * 2 - j * 2 := by rw [List.length_drop, hV_len, Hl.out]
        have hgr := hrow.lt
        have Hr := Lib.hid hrow
        have HA := Lib.hid hA
        have HD := Lib.hid hD
        clear hrow hA hD
        go_wp2_with (first
          | (go_at_call 109; ((with_reducible refine (laws_markText _ (k + 2 * j) (by omega) (by omega) wr).mono ?_); rintro e w2 ⟨rfl, hb2⟩; have Hr2 := Lib.hid (Hr.out.then hb2); have hg2 := Hr2.out.lt; obtain ⟨⟨v0, hv0⟩, hf0⟩ := put_cell Hr2.out HA.out (by rw [HD.out]; omega); have Hr3 := Lib.hid (Hr2.out.put1 HA.out (by rw [HD.out]; omega) (.string (markS (k + 2 * j))))))
          | (go_at_call 109; ((with_reducible refine (laws_markText _ (k + 2 * j + 1) (by omega) (by omega) _).mono ?_); rintro e w3 ⟨rfl, hb3⟩; have Hr4 := Lib.hid (Hr3.out.then hb3); have hg3 := Hr4.out.lt; obtain ⟨⟨v1, hv1⟩, hf1⟩ := put_cell (p := j * 2 + 1) Hr4.out (by rw [List.length_append, HA.out]; rfl) (by rw [List.length_drop, HD.out]; omega); have Hr5 := Lib.hid (Hr4.out.put1 (p := j * 2 + 1) (by rw [List.length_append, HA.out]; rfl) (by rw [List.length_drop, HD.out]; omega) (.string (markS (k + 2 * j + 1)))))))
        go_roundw
        case rel =>
          refine ⟨j + 1, by omega, by go_num, by go_num, ?_, ?_⟩
          · have h := Hr5.out
            rw [marksH_succ, ← hV_snoc, show (j + 1) * 2 = j * 2 + 1 + 1 from by omega]
            simp only [List.append_assoc, List.drop_drop, List.singleton_append, List.cons_append, List.nil_append] at h ⊢
            exact h
          · exact (((hch.then hb2).set g _ _ hlo hhi).then hb3).set g _ _ hlo hhi
        case measure => simp [intOf]; omega
      · obtain rfl : j = n := by omega
        have Hr := Lib.hid hrow
        clear hrow
        go_wp2
        go_ret
        refine ⟨rfl, .inr ⟨g, rfl, hlo, hhi, ?_⟩, hch⟩
        have h := Hr.out
        rw [List.drop_of_length_le (by rw [hV_len, Hl.out]; exact Nat.le_refl _), List.append_nil] at h
        exact h
theorem gb_row {w : World} {g : Nat} {xs : List Value} (h : RowAt w g xs) (i : Nat) (v : Value) (hv : xs[i]? = some v) (p : Gb w) : p.w.cell? ⟨g, i, none⟩ = some v := (h.then p.h).cell i v hv
set_option maxHeartbeats 1600000 in
theorem laws_heldHeaderS (lo hi : Nat) (a : Option Addr) (n c : Nat) (ki : Int) (k : Nat) (hki : ki = (k : Int)) (hk : k ≤ 1000000) (w : World) (hs : SlAt w lo hi a n (hV (marksH k n))) (hn : n ≤ 10000000) :
    Calls Tryd.prog 75 #[.slice a n c, .int .i64 ki] w fun e w' => e = .returned (.int .i64 (ki + 2 * (n : Int))) ∧ Below w.heap.size w w' := by
  subst hki
  rcases hs with ⟨rfl, hnil⟩ | ⟨g, rfl, hlo, hhi, hrow⟩
  · clear hnil
    go_enter Tryd.func75, Tryd.ntmps75
    go_wp2
    go_loopw [1, 5] (fun v i wr => v = .int .i64 (k : Int) ∧ i = .int .i64 0 ∧ Below w.heap.size w wr) (fun _ _ _ => 0)
    case atStart => exact ⟨rfl, rfl, Below.refl _ _⟩
    case round =>
      obtain ⟨rfl, rfl, hb⟩ := hrel
      go_wp2
      go_ret
      exact ⟨rfl, hb⟩
  · have Hrow := Lib.hid hrow
    clear hrow
    go_enter Tryd.func75, Tryd.ntmps75
    go_wp2
    go_loopw [1, 5] (fun v i wr => ∃ j : Nat, j ≤ n ∧ i = .int .i64 (j : Int) ∧ v = .int .i64 ((k : Int) + 2 * (j : Int)) ∧ Below w.heap.size w wr) (fun _ i _ => n - (intOf i).toNat)
    case atStart => exact ⟨0, Nat.zero_le _, rfl, rfl, Below.refl _ _⟩
    case round =>
      obtain ⟨j, hj, rfl, rfl, hb⟩ := hrel
      by_cases hlt : j < n
      · have hlj : j < (marksH k n).length := by rw [marksH_len]; exact hlt
        have hrw := Hrow.out.then hb
        have g0 := gb_row hrw (j * 2) _ (by have := hV_at0 (marksH k n) j hlj; rw [marksH_at] at this; exact this)
        have g1 : ∀ q : Gb wr, ∀ p : Gb q.w, p.w.cell? ⟨g, j * 2 + 1, none⟩ = some (.string (markS (k + 2 * j + 1))) := fun q p => gb_row (hrw.then q.h) (j * 2 + 1) _ (by have := hV_at1 (marksH k n) j hlj; rw [marksH_at] at this; exact this) p
        clear hrw
        go_wp2
        refine wp_region_below (by kernel_rfl) (by kernel_rfl) ?_
        repeat (quiet_step ((go_at_call 109; exact gb_call (laws_markText _ (k + 2 * j) (by omega) (by omega) _))))
        refine wpQuiet_nil ?_
        intro _ hw'
        obtain ⟨p1, rfl⟩ := hw'
        have g2 := g1 p1
        clear g0 g1
        go_wp2
        refine wp_region_below (by kernel_rfl) (by kernel_rfl) ?_
        repeat (quiet_step ((go_at_call 109; exact gb_call (laws_markText _ (k + 2 * j + 1) (by omega) (by omega) _))))
        refine wpQuiet_nil ?_
        intro _ hw'
        obtain ⟨p2, rfl⟩ := hw'
        have hb2 := hb.trans (p1.h.mono hb.size)
        have hb3 := hb2.trans (p2.h.mono hb2.size)
        go_wp2
        go_roundw
        case rel => exact ⟨j + 1, by omega, by go_num, by go_num, hb3⟩
        case measure => simp [intOf]; omega
      · obtain rfl : j = n := by omega
        go_wp2
        go_ret
        exact ⟨rfl, hb⟩
end Go.Proofs.YthiogijicknoiaaDoor

/- Marks in rows of items. -/
namespace Go.Proofs.YthiogijicknoiaaDoor
open Go.RowKit
set_option linter.unusedSimpArgs false
set_option linter.unusedVariables false

def m3 (k : Nat) : Bool := ((k : Int) % 3 == 0)
def marksI (k n : Nat) : List It := (List.range n).map fun i => (markS (k + 3 * i), m3 (k + 3 * i + 1), markS (k + 3 * i + 2))
theorem marksI_len (k n : Nat) : (marksI k n).length = n := by simp [marksI]
theorem marksI_succ (k n : Nat) : marksI k (n + 1) = marksI k n ++ [(markS (k + 3 * n), m3 (k + 3 * n + 1), markS (k + 3 * n + 2))] := by simp [marksI, List.range_succ]
theorem marksI_at (k n i : Nat) (h : i < (marksI k n).length) : (marksI k n)[i] = (markS (k + 3 * i), m3 (k + 3 * i + 1), markS (k + 3 * i + 2)) := by simp [marksI]
theorem iV_snoc (l : List It) (x : ByteArray) (p : Bool) (y : ByteArray) : iV l ++ [.string x, .bool p, .string y] = iV (l ++ [(x, p, y)]) := by simp [iV, cellsOf, iEnc]
theorem m3_eq (k : Nat) (c : Int) (h : c = ((k : Nat) : Int)) : (c % 3 == 0) = m3 k := by rw [h]; rfl
end Go.Proofs.YthiogijicknoiaaDoor

/- Quotes: both texts write the same bytes. -/
namespace Go.Proofs.YthiogijicknoiaaDoor
open Go.RowKit
set_option linter.unusedSimpArgs false
set_option linter.unusedVariables false

theorem quoteTo_esc (s : ByteArray) (k : Nat) (h : k < s.size) (hb : s[k].toNat = 34 ∨ s[k].toNat = 92) : (quoteTo s k).map byteV ++ [.int .u8 92] ++ [.int .u8 (s[k].toNat : Int)] = (quoteTo s (k + 1)).map byteV := by
  rw [quoteTo_succ s k h, escB, if_pos hb]; simp [byteV]
theorem quoteTo_plain (s : ByteArray) (k : Nat) (h : k < s.size) (hb : ¬ (s[k].toNat = 34 ∨ s[k].toNat = 92)) : (quoteTo s k).map byteV ++ [.int .u8 (s[k].toNat : Int)] = (quoteTo s (k + 1)).map byteV := by
  rw [quoteTo_succ s k h, escB, if_neg hb]; simp [byteV]
theorem quoteTo_esc_len (s : ByteArray) (k : Nat) (h : k < s.size) (hb : s[k].toNat = 34 ∨ s[k].toNat = 92) : (quoteTo s k).length + 1 + 1 = (quoteTo s (k + 1)).length := by
  rw [quoteTo_succ s k h, escB, if_pos hb]; simp
theorem quoteTo_plain_len (s : ByteArray) (k : Nat) (h : k < s.size) (hb : ¬ (s[k].toNat = 34 ∨ s[k].toNat = 92)) : (quoteTo s k).length + 1 = (quoteTo s (k + 1)).length := by
  rw [quoteTo_succ s k h, escB, if_neg hb]; simp

set_option maxHeartbeats 800000 in
theorem spec_l2Quote (s : ByteArray) (w : World) (hs : s.size ≤ 1000000) : Calls Tryd.prog 58 #[.string s] w fun e w' => e = .returned (.string (quoteS s)) ∧ Below w.heap.size w w' := by
  go_enter Tryd.func58, Tryd.ntmps58
  go_wp2
  go_loopw [3, 4] (fun v i wr => ∃ k : Nat, k ≤ s.size ∧ i = .int .i64 k ∧ wr.ownsRow w.heap.size 5 1 v (quoteTo s k).length ((quoteTo s k).map byteV) ∧ Below w.heap.size w wr) (fun _ i _ => s.size - (intOf i).toNat)
  case atStart => exact ⟨0, Nat.zero_le _, rfl, World.ownsRow_lit w _ 1 (Nat.le_refl _) (by unfold maxLen; omega) rfl, below_alloc (Below.refl _ _) _⟩
  case round =>
    obtain ⟨k, hk, rfl, hown, hb⟩ := hrel
    have hql := quoteTo_len s k
    by_cases hlt : k < s.size
    · by_cases h1 : s[k].toNat = 34
      · have g1 : ((s[k].toNat : Int) == 34) = true := by simp; omega
        have H1 := Lib.hid h1
        clear h1
        go_wp2_with (first | (at_builtin; refine app1 rfl _ _ 22 rfl Tryd.underlying22 infoByte rfl (by decide) hown1 hb1 rfl rfl rfl (by intro u hu; simp at hu; subst hu; rfl) (by omega) (by unfold maxLen; omega) ?_; intro v2 w2 hown2 hb2 _ _) | (at_builtin; refine app1 rfl _ _ 22 rfl Tryd.underlying22 infoByte rfl (by decide) hown hb rfl rfl rfl (by intro u hu; simp at hu; subst hu; rfl) (by omega) (by unfold maxLen; omega) ?_; intro v1 w1 hown1 hb1 _ _))
        go_roundw
        case rel => exact ⟨k + 1, by omega, by go_num, own_cast hown2 (quoteTo_esc_len s k hlt (.inl H1.out)) (quoteTo_esc s k hlt (.inl H1.out)), hb2⟩
        case measure => simp [intOf]; omega
      · have g1 : ((s[k].toNat : Int) == 34) = false := by simp; omega
        by_cases h2 : s[k].toNat = 92
        · have g2 : ((s[k].toNat : Int) == 92) = true := by simp; omega
          have H2 := Lib.hid h2
          clear h1 h2
          go_wp2_with (first | (at_builtin; refine app1 rfl _ _ 22 rfl Tryd.underlying22 infoByte rfl (by decide) hown1 hb1 rfl rfl rfl (by intro u hu; simp at hu; subst hu; rfl) (by omega) (by unfold maxLen; omega) ?_; intro v2 w2 hown2 hb2 _ _) | (at_builtin; refine app1 rfl _ _ 22 rfl Tryd.underlying22 infoByte rfl (by decide) hown hb rfl rfl rfl (by intro u hu; simp at hu; subst hu; rfl) (by omega) (by unfold maxLen; omega) ?_; intro v1 w1 hown1 hb1 _ _))
          go_roundw
          case rel => exact ⟨k + 1, by omega, by go_num, own_cast hown2 (quoteTo_esc_len s k hlt (.inr H2.out)) (quoteTo_esc s k hlt (.inr H2.out)), hb2⟩
          case measure => simp [intOf]; omega
        · have g2 : ((s[k].toNat : Int) == 92) = false := by simp; omega
          have H2 := Lib.hid (show ¬ (s[k].toNat = 34 ∨ s[k].toNat = 92) from fun h => h.elim h1 h2)
          clear h1 h2
          go_wp2_with (at_builtin; refine app1 rfl _ _ 22 rfl Tryd.underlying22 infoByte rfl (by decide) hown hb rfl rfl rfl (by intro u hu; simp at hu; subst hu; rfl) (by omega) (by unfold maxLen; omega) ?_; intro v1 w1 hown1 hb1 _ _)
          go_roundw
          case rel => exact ⟨k + 1, by omega, by go_num, own_cast hown1 (quoteTo_plain_len s k hlt H2.out) (quoteTo_plain s k hlt H2.out), hb1⟩
          case measure => simp [intOf]; omega
    · obtain rfl : k = s.size := by omega
      go_wp2_with ((at_builtin; refine app1 rfl _ _ 22 rfl Tryd.underlying22 infoByte rfl (by decide) hown hb rfl rfl rfl (by intro u hu; simp at hu; subst hu; rfl) (by omega) (by unfold maxLen; omega) ?_; intro v1 w1 hown1 hb1 _ _); obtain ⟨g, cap, rfl, hg, hrow⟩ := own_shape hown1; have hcv := conv_back w1 g cap (quoteL s) ((quoteTo s s.size).length + 1) (by rw [← quoteTo_size]; simp) (by rw [← quoteTo_size]; simpa [byteV] using hrow))
      go_ret
      exact ⟨rfl, hb1⟩
set_option maxHeartbeats 800000 in
theorem impl_quote (s : ByteArray) (w : World) (hs : s.size ≤ 1000000) : Calls Tryd.prog 49 #[.string s] w fun e w' => e = .returned (.string (quoteS s)) ∧ Below w.heap.size w w' := by
  go_enter Tryd.func49, Tryd.ntmps49
  go_wp2
  go_loopw [3, 8] (fun v i wr => ∃ k : Nat, k ≤ s.size ∧ i = .int .i64 k ∧ wr.ownsRow w.heap.size 5 1 v (quoteTo s k).length ((quoteTo s k).map byteV) ∧ Below w.heap.size w wr) (fun _ i _ => s.size - (intOf i).toNat)
  case atStart => exact ⟨0, Nat.zero_le _, rfl, World.ownsRow_lit w _ 1 (Nat.le_refl _) (by unfold maxLen; omega) rfl, below_alloc (Below.refl _ _) _⟩
  case round =>
    obtain ⟨k, hk, rfl, hown, hb⟩ := hrel
    have hql := quoteTo_len s k
    by_cases hlt : k < s.size
    · by_cases h1 : s[k].toNat = 34
      · have g1 : ((s[k].toNat : Int) == 34) = true := by simp; omega
        have H1 := Lib.hid h1
        clear h1
        go_wp2_with (first | (at_builtin; refine app1 rfl _ _ 22 rfl Tryd.underlying22 infoByte rfl (by decide) hown1 hb1 rfl rfl rfl (by intro u hu; simp at hu; subst hu; rfl) (by omega) (by unfold maxLen; omega) ?_; intro v2 w2 hown2 hb2 _ _) | (at_builtin; refine app1 rfl _ _ 22 rfl Tryd.underlying22 infoByte rfl (by decide) hown hb rfl rfl rfl (by intro u hu; simp at hu; subst hu; rfl) (by omega) (by unfold maxLen; omega) ?_; intro v1 w1 hown1 hb1 _ _))
        go_roundw
        case rel => exact ⟨k + 1, by omega, by go_num, own_cast hown2 (quoteTo_esc_len s k hlt (.inl H1.out)) (quoteTo_esc s k hlt (.inl H1.out)), hb2⟩
        case measure => simp [intOf]; omega
      · have g1 : ((s[k].toNat : Int) == 34) = false := by simp; omega
        by_cases h2 : s[k].toNat = 92
        · have g2 : ((s[k].toNat : Int) == 92) = true := by simp; omega
          have H2 := Lib.hid h2
          clear h1 h2
          go_wp2_with (first | (at_builtin; refine app1 rfl _ _ 22 rfl Tryd.underlying22 infoByte rfl (by decide) hown1 hb1 rfl rfl rfl (by intro u hu; simp at hu; subst hu; rfl) (by omega) (by unfold maxLen; omega) ?_; intro v2 w2 hown2 hb2 _ _) | (at_builtin; refine app1 rfl _ _ 22 rfl Tryd.underlying22 infoByte rfl (by decide) hown hb rfl rfl rfl (by intro u hu; simp at hu; subst hu; rfl) (by omega) (by unfold maxLen; omega) ?_; intro v1 w1 hown1 hb1 _ _))
          go_roundw
          case rel => exact ⟨k + 1, by omega, by go_num, own_cast hown2 (quoteTo_esc_len s k hlt (.inr H2.out)) (quoteTo_esc s k hlt (.inr H2.out)), hb2⟩
          case measure => simp [intOf]; omega
        · have g2 : ((s[k].toNat : Int) == 92) = false := by simp; omega
          have H2 := Lib.hid (show ¬ (s[k].toNat = 34 ∨ s[k].toNat = 92) from fun h => h.elim h1 h2)
          clear h1 h2
          go_wp2_with (at_builtin; refine app1 rfl _ _ 22 rfl Tryd.underlying22 infoByte rfl (by decide) hown hb rfl rfl rfl (by intro u hu; simp at hu; subst hu; rfl) (by omega) (by unfold maxLen; omega) ?_; intro v1 w1 hown1 hb1 _ _)
          go_roundw
          case rel => exact ⟨k + 1, by omega, by go_num, own_cast hown1 (quoteTo_plain_len s k hlt H2.out) (quoteTo_plain s k hlt H2.out), hb1⟩
          case measure => simp [intOf]; omega
    · obtain rfl : k = s.size := by omega
      go_wp2_with ((at_builtin; refine app1 rfl _ _ 22 rfl Tryd.underlying22 infoByte rfl (by decide) hown hb rfl rfl rfl (by intro u hu; simp at hu; subst hu; rfl) (by omega) (by unfold maxLen; omega) ?_; intro v1 w1 hown1 hb1 _ _); obtain ⟨g, cap, rfl, hg, hrow⟩ := own_shape hown1; have hcv := conv_back w1 g cap (quoteL s) ((quoteTo s s.size).length + 1) (by rw [← quoteTo_size]; simp) (by rw [← quoteTo_size]; simpa [byteV] using hrow))
      go_ret
      exact ⟨rfl, hb1⟩

theorem impl_isPlain (c : Int) (w : World) : Calls Tryd.prog 110 #[.int .u8 c] w fun e w' => e = .returned (.bool (plainB c)) ∧ w = w' := by
  go_enter Tryd.func110, Tryd.ntmps110
  go_wp2
  all_goals (go_ret; exact ⟨ret_bool (by first | (simp_all [plainB]; done) | (rw [Bool.eq_iff_iff]; simp_all [plainB]; omega)), rfl⟩)
theorem spec_l2Plain (c : Int) (w : World) : Calls Tryd.prog 121 #[.int .u8 c] w fun e w' => e = .returned (.bool (plainB c)) ∧ w = w' := by
  go_enter Tryd.func121, Tryd.ntmps121
  go_wp2
  all_goals (go_ret; exact ⟨ret_bool (by first | (simp_all [plainB]; done) | (rw [Bool.eq_iff_iff]; simp_all [plainB]; omega)), rfl⟩)
set_option maxHeartbeats 800000 in
theorem areBytes_plain (s : ByteArray) (lo hi : Int) (w : World) (hs : s.size ≤ 9223372036854775807) : Calls Tryd.prog 33 #[.string s, .int .i64 lo, .int .i64 hi, .func (.func 110) #[] #[]] w fun e w' => e = .returned (.bool (inB s.size lo hi && allB plainB s)) ∧ w = w' := by
  by_cases hb : inB s.size lo hi = true
  · obtain ⟨h1, h2⟩ := inB_iff.1 hb
    have hfin : ∀ v, allB plainB s = v → (inB s.size lo hi && allB plainB s) = v := fun v h => by rw [hb, h]; rfl
    have Hfin := Lib.hid hfin
    clear hfin hb
    go_enter Tryd.func33, Tryd.ntmps33
    go_wp2
    go_loop [22] (fun i => ∃ k : Nat, k ≤ s.size ∧ i = .int .i64 k ∧ allTo plainB s k = true) (fun i => s.size - (intOf i).toNat)
    case atStart => exact ⟨0, Nat.zero_le _, rfl, rfl⟩
    case round =>
      obtain ⟨k, hk, rfl, hall⟩ := hrel
      have Hall := Lib.hid hall
      clear hall
      by_cases hlt : k < s.size
      · have hsn := Lib.hid (allTo_succ plainB s k hlt)
        by_cases hp : plainB (s[k].toNat : Int) = true
        · go_wp2_with (go_at_call 110; ((with_reducible refine (impl_isPlain _ _).mono ?_); rintro e w' ⟨rfl, rfl⟩))
          go_round
          case rel => exact ⟨k + 1, by omega, by go_num, by rw [hsn.out, Hall.out, hp]; rfl⟩
          case measure => simp [intOf]; omega
        · simp only [Bool.not_eq_true] at hp
          go_wp2_with (go_at_call 110; ((with_reducible refine (impl_isPlain _ _).mono ?_); rintro e w' ⟨rfl, rfl⟩))
          go_ret
          exact ⟨ret_bool (Hfin.out _ (allB_false _ _ _ hlt hp)).symm, rfl⟩
      · have hk' : k = s.size := by omega
        have Hk := Lib.hid hk'
        clear hk'
        go_wp2
        go_ret
        refine ⟨ret_bool (Hfin.out _ ?_).symm, rfl⟩
        have h := Hall.out
        rw [Hk.out, allTo_size] at h
        exact h
  · simp only [Bool.not_eq_true] at hb
    have h1 := inB_not.1 hb
    by_cases h2 : (s.size : Int) < lo
    all_goals
      go_enter Tryd.func33, Tryd.ntmps33
      go_wp2
      all_goals
        go_ret
        exact ⟨ret_bool (by first | rfl | (rw [hb]; rfl)), rfl⟩
theorem impl_arePlain (s : ByteArray) (w : World) (hs : s.size ≤ 9223372036854775807) : Calls Tryd.prog 78 #[.string s] w fun e w' => e = .returned (.bool (allB plainB s)) ∧ w = w' := by
  go_enter Tryd.func78, Tryd.ntmps78
  go_wp2_with (go_at_call 33; ((with_reducible refine (areBytes_plain _ _ _ _ hs).mono ?_); rintro e w' ⟨rfl, rfl⟩))
  go_ret
  exact ⟨ret_bool (by simp [inB]), rfl⟩
theorem spec_l2PlainText (s : ByteArray) (w : World) (hs : s.size ≤ 9223372036854775807) : Calls Tryd.prog 94 #[.string s] w fun e w' => e = .returned (.bool (allB plainB s)) ∧ w = w' := by
  have hfin : ∀ v, allB plainB s = v → Ending.returned (.bool v) = .returned (.bool (allB plainB s)) := fun v h => by rw [h]
  have Hfin := Lib.hid hfin
  clear hfin
  go_enter Tryd.func94, Tryd.ntmps94
  go_wp2
  go_loop [3] (fun i => ∃ k : Nat, k ≤ s.size ∧ i = .int .i64 k ∧ allTo plainB s k = true) (fun i => s.size - (intOf i).toNat)
  case atStart => exact ⟨0, Nat.zero_le _, rfl, rfl⟩
  case round =>
    obtain ⟨k, hk, rfl, hall⟩ := hrel
    have Hall := Lib.hid hall
    clear hall
    by_cases hlt : k < s.size
    · have hsn := Lib.hid (allTo_succ plainB s k hlt)
      by_cases hp : plainB (s[k].toNat : Int) = true
      · go_wp2_with (go_at_call 121; ((with_reducible refine (spec_l2Plain _ _).mono ?_); rintro e w' ⟨rfl, rfl⟩))
        go_round
        case rel => exact ⟨k + 1, by omega, by go_num, by rw [hsn.out, Hall.out, hp]; rfl⟩
        case measure => simp [intOf]; omega
      · simp only [Bool.not_eq_true] at hp
        go_wp2_with (go_at_call 121; ((with_reducible refine (spec_l2Plain _ _).mono ?_); rintro e w' ⟨rfl, rfl⟩))
        go_ret
        exact ⟨Hfin.out _ (allB_false _ _ _ hlt hp), rfl⟩
    · have hk' : k = s.size := by omega
      have Hk := Lib.hid hk'
      clear hk'
      go_wp2
      go_ret
      refine ⟨Hfin.out _ ?_, rfl⟩
      have h := Hall.out
      rw [Hk.out, allTo_size] at h
      exact h

def quoteR (s : ByteArray) : Int × ByteArray := if s.size ≤ 1000 then (if allB plainB s = true then (0, quoteS s) else (5, ByteArray.empty)) else (2, ByteArray.empty)
end Go.Proofs.YthiogijicknoiaaDoor

/- Times: their sums and products; a number or a code. -/
namespace Go.Proofs.YthiogijicknoiaaDoor
open Go.RowKit
set_option linter.unusedSimpArgs false
set_option linter.unusedVariables false

def addT (a b : Int) : Int × Int := if inB a 0 1000000000000000 && inB b 0 1000000000000000 then (0, min (a + b) 1000000000000000) else (3, 0)

def mulT (a b : Int) : Int × Int := if inB a 0 1000000000000000 && inB b 0 1000000000000000 then (0, min (a * b) 1000000000000000) else (3, 0)
theorem mul_le {a b : Int} (hb : 0 < b) (h : a * b ≤ 1000000000000000) : a ≤ 1000000000000000 / b := (Int.le_ediv_iff_mul_le hb).2 h
theorem mul_gt {a b : Int} (hb : 0 < b) (h : ¬ a * b ≤ 1000000000000000) : 1000000000000000 / b < a := by
  by_cases h' : 1000000000000000 / b < a
  · exact h'
  · exact absurd ((Int.le_ediv_iff_mul_le hb).1 (by omega)) h

end Go.Proofs.YthiogijicknoiaaDoor

/- Plain law: what stands between the first and the last byte that is no blank. No program in sight. -/
namespace Go.Proofs.YthiogijicknoiaaDoor
open Go.RowKit

def blankB (c : Int) : Bool := decide (c = 32) || decide (c = 9)
def trimL (l : List UInt8) : List UInt8 := Lib.trimS l [32, 9]
def trimT (s : ByteArray) : ByteArray := ⟨(trimL s.data.toList).toArray⟩
theorem blank_has (b : UInt8) : ([32, 9] : List UInt8).contains b = blankB (b.toNat : Int) := by
  simp only [List.contains_cons, List.contains_nil, Bool.or_false, blankB]
  rw [Bool.eq_iff_iff]
  simp only [Bool.or_eq_true, beq_iff_eq, decide_eq_true_eq]
  constructor
  · rintro (h | h)
    · left; subst h; rfl
    · right; subst h; rfl
  · rintro (h | h)
    · left; apply UInt8.toNat_inj.1; show b.toNat = 32; omega
    · right; apply UInt8.toNat_inj.1; show b.toNat = 9; omega
theorem at_byte (s : ByteArray) (j : Nat) (b : UInt8) (h : s.data.toList[j]? = some b) : ∃ hj : j < s.size, b = s[j] := by
  have hj : j < s.data.toList.length := (List.getElem?_eq_some_iff.1 h).1
  have hj' : j < s.size := by rw [Array.length_toList] at hj; exact hj
  refine ⟨hj', ?_⟩
  obtain ⟨_, e⟩ := List.getElem?_eq_some_iff.1 h
  rw [← e]; rfl
/-- What the two loops end with. -/
theorem trim_of (s : ByteArray) (f e : Nat) (hfe : f ≤ e) (he : e ≤ s.size) (h1 : ∀ j (h : j < s.size), j < f → blankB (s[j].toNat : Int) = true)
    (h2 : ∀ h : f < s.size, blankB (s[f].toNat : Int) = false) (h3 : ∀ j (h : j < s.size), e ≤ j → blankB (s[j].toNat : Int) = true)
    (h4 : f < e → ∀ h : e - 1 < s.size, blankB (s[e - 1].toNat : Int) = false) : trimL s.data.toList = (s.data.toList.take e).drop f := by
  have hl : s.data.toList.length = s.size := Array.length_toList
  unfold trimL Lib.trimS
  by_cases hlt : f < e
  · rw [Lib.trimRightS_take _ _ e (by omega) (fun j b hj hb => by
      obtain ⟨hj', rfl⟩ := at_byte s j b hb
      rw [blank_has]; exact h3 j hj' hj) (fun b h0 hb => by
      obtain ⟨hj', rfl⟩ := at_byte s _ b hb
      rw [blank_has]; exact h4 hlt hj')]
    exact Lib.trimLeftS_drop _ _ f (by rw [List.length_take]; omega) (fun j b hj hb => by
      rw [List.getElem?_take, if_pos (by omega)] at hb
      obtain ⟨hj', rfl⟩ := at_byte s j b hb
      rw [blank_has]; exact h1 j hj' hj) (fun b hb => by
      rw [List.getElem?_take, if_pos hlt] at hb
      obtain ⟨hj', rfl⟩ := at_byte s _ b hb
      rw [blank_has]; exact h2 hj')
  · have e' : e = f := by omega
    subst e'
    have hall : ¬ e < s.size := fun h => by
      have a := h2 h
      have b := h3 e h (Nat.le_refl _)
      rw [a] at b; cases b
    rw [Lib.trimRightS_take _ _ 0 (by omega) (fun j b hj hb => by
      obtain ⟨hj', rfl⟩ := at_byte s j b hb
      rw [blank_has]; exact h1 j hj' (by omega)) (fun b h0 hb => by omega)]
    rw [List.drop_of_length_le (by rw [List.length_take]; omega)]
    rfl
/-- It is no longer; and twice is once. -/
theorem trimL_len (l : List UInt8) : (trimL l).length ≤ l.length := by
  unfold trimL Lib.trimS Lib.trimLeftS Lib.trimRightS
  refine Nat.le_trans ((List.dropWhile_sublist _).length_le) ?_
  rw [List.length_reverse]
  refine Nat.le_trans ((List.dropWhile_sublist _).length_le) ?_
  rw [List.length_reverse]
  exact Nat.le_refl _
theorem trimT_size (s : ByteArray) : (trimT s).size ≤ s.size := by
  have h := trimL_len s.data.toList
  rw [Array.length_toList] at h
  have e : (trimT s).size = (trimL s.data.toList).length := rfl
  rw [e]; exact h
def trimR (s : ByteArray) : Int × ByteArray := if s.size ≤ 1000 then (0, trimT s) else (2, ByteArray.empty)
end Go.Proofs.YthiogijicknoiaaDoor

/- What is trimmed: both texts find the same. -/
namespace Go.Proofs.YthiogijicknoiaaDoor
open Go.RowKit
set_option linter.unusedSimpArgs false
set_option linter.unusedVariables false

theorem strings_Trim (s : ByteArray) (w : World) (hs : s.size ≤ 9223372036854775807) : Calls Tryd.prog 53 #[.string s, .string ⟨#[32, 9]⟩] w fun e w' => e = .returned (.string (trimT s)) ∧ Below w.heap.size w w' :=
  Any.strings_Trim_laid Tryd.lays160 (by kernel_rfl) s ⟨#[32, 9]⟩ w hs (by decide) (ascii_of_all (by decide))
theorem spec_l1Blank (c : Int) (w : World) : Calls Tryd.prog 123 #[.int .u8 c] w fun e w' => e = .returned (.bool (blankB c)) ∧ w = w' := by
  go_enter Tryd.func123, Tryd.ntmps123
  go_wp2
  all_goals (go_ret; exact ⟨ret_bool (by first | (simp_all [blankB]; done) | (rw [Bool.eq_iff_iff]; simp_all [blankB])), rfl⟩)
theorem extract_eq (s : ByteArray) (f e : Nat) : s.extract f e = ⟨((s.data.toList.take e).drop f).toArray⟩ := by
  apply ByteArray.ext
  apply Array.toList_inj.1
  simp [ByteArray.data_extract, List.extract_eq_take_drop]
  rw [List.drop_take]
set_option maxHeartbeats 1600000 in
theorem spec_l1Trim (s : ByteArray) (w : World) (hs : s.size ≤ 9223372036854775807) : Calls Tryd.prog 97 #[.string s] w fun e w' => e = .returned (.string (trimT s)) ∧ w = w' := by
  go_enter Tryd.func97, Tryd.ntmps97
  go_wp2
  go_loop [3] (fun i => ∃ k : Nat, k ≤ s.size ∧ i = .int .i64 k ∧ ∀ j (h : j < s.size), j < k → blankB (s[j].toNat : Int) = true) (fun i => s.size - (intOf i).toNat)
  case atStart => exact ⟨0, Nat.zero_le _, rfl, fun j _ h => by omega⟩
  case round =>
    obtain ⟨f, hf, rfl, hall⟩ := hrel
    have Hall := Lib.hid hall
    clear hall
    by_cases hlt : f < s.size
    · by_cases hp : blankB (s[f].toNat : Int) = true
      · have Hp := Lib.hid hp
        go_wp2_with (go_at_call 123; ((with_reducible refine (spec_l1Blank _ _).mono ?_); rintro e w' ⟨rfl, rfl⟩))
        go_round
        case rel =>
          refine ⟨f + 1, by omega, by go_num, fun j h hj => ?_⟩
          by_cases e : j = f
          · subst e; exact Hp.out
          · exact Hall.out j h (by omega)
        case measure => (simp [intOf] <;> omega)
      · simp only [Bool.not_eq_true] at hp
        have hend : ∀ h : f < s.size, blankB (s[f].toNat : Int) = false := fun _ => hp
        have Hend := Lib.hid hend
        clear hend
        go_wp2_with (go_at_call 123; ((with_reducible refine (spec_l1Blank _ _).mono ?_); rintro e w' ⟨rfl, rfl⟩))
        go_loop [4] (fun i => ∃ k : Nat, f ≤ k ∧ k ≤ s.size ∧ i = .int .i64 k ∧ ∀ j (h : j < s.size), k ≤ j → blankB (s[j].toNat : Int) = true) (fun i => (intOf i).toNat)
        case atStart => exact ⟨s.size, hf, Nat.le_refl _, rfl, fun j h hj => by omega⟩
        case round =>
          obtain ⟨e, hfe, he, rfl, hall2⟩ := hrel
          have Hall2 := Lib.hid hall2
          clear hall2
          have hfin : (f < e → ∀ h : e - 1 < s.size, blankB (s[e - 1].toNat : Int) = false) → Ending.returned (.string (s.extract f e)) = .returned (.string (trimT s)) := fun h4 => by
            rw [extract_eq, trimT, trim_of s f e hfe he Hall.out Hend.out Hall2.out h4]
          have Hfin := Lib.hid hfin
          clear hfin
          by_cases hlt2 : f < e
          · obtain ⟨e', rfl⟩ : ∃ e', e = e' + 1 := ⟨e - 1, by omega⟩
            have he' : e' < s.size := by omega
            by_cases hp2 : blankB (s[e'].toNat : Int) = true
            · have Hp2 := Lib.hid hp2
              go_wp2_with (go_at_call 123; ((with_reducible refine (spec_l1Blank _ _).mono ?_); rintro e w' ⟨rfl, rfl⟩))
              go_round
              case rel =>
                refine ⟨e', by omega, by omega, by go_num, fun j h hj => ?_⟩
                by_cases e0 : j = e'
                · subst e0; exact Hp2.out
                · exact Hall2.out j h (by omega)
              case measure => (simp [intOf] <;> omega)
            · simp only [Bool.not_eq_true] at hp2
              have h5 : f < e' + 1 → ∀ h : e' + 1 - 1 < s.size, blankB (s[e' + 1 - 1].toNat : Int) = false := fun _ _ => hp2
              have H5 := Lib.hid h5
              clear h5
              go_wp2_with (go_at_call 123; ((with_reducible refine (spec_l1Blank _ _).mono ?_); rintro e w' ⟨rfl, rfl⟩))
              go_ret
              exact ⟨Hfin.out H5.out, rfl⟩
          · have e0 : e = f := by omega
            subst e0
            have e1 : s.extract e e = ByteArray.empty := by apply ByteArray.ext; simp
            have h6 : Ending.returned (.string ByteArray.empty) = .returned (.string (trimT s)) := by rw [← e1]; exact Hfin.out (fun h => absurd h (Nat.lt_irrefl _))
            have H6 := Lib.hid h6
            clear e1 h6
            go_wp2_with (go_at_call 123; ((with_reducible refine (spec_l1Blank _ _).mono ?_); rintro e w' ⟨rfl, rfl⟩))
            go_ret
            exact ⟨H6.out, rfl⟩
    · have hend : ∀ h : f < s.size, blankB (s[f].toNat : Int) = false := fun h => absurd h hlt
      have Hend := Lib.hid hend
      clear hend
      go_wp2_with (go_at_call 123; ((with_reducible refine (spec_l1Blank _ _).mono ?_); rintro e w' ⟨rfl, rfl⟩))
      go_loop [4] (fun i => ∃ k : Nat, f ≤ k ∧ k ≤ s.size ∧ i = .int .i64 k) (fun i => (intOf i).toNat)
      case atStart => exact ⟨s.size, hf, Nat.le_refl _, rfl⟩
      case round =>
        obtain ⟨e, hfe, he, rfl⟩ := hrel
        obtain rfl : e = f := by omega
        have e1 : s.extract e e = ByteArray.empty := by apply ByteArray.ext; simp
        have h6 : Ending.returned (.string ByteArray.empty) = .returned (.string (trimT s)) := by
          rw [← e1, extract_eq, trimT, trim_of s e e (Nat.le_refl _) hf Hall.out Hend.out (fun j h hj => by omega) (fun h => absurd h (Nat.lt_irrefl _))]
        have H6 := Lib.hid h6
        clear e1 h6
        go_wp2_with (go_at_call 123; ((with_reducible refine (spec_l1Blank _ _).mono ?_); rintro e w' ⟨rfl, rfl⟩))
        go_ret
        exact ⟨H6.out, rfl⟩
theorem trimR_yes {s : ByteArray} (h : s.size ≤ 1000) : trimR s = (0, trimT s) := by simp [trimR, h]
theorem trimR_no {s : ByteArray} (h : ¬ s.size ≤ 1000) : trimR s = (2, ByteArray.empty) := by simp [trimR, h]
end Go.Proofs.YthiogijicknoiaaDoor

/- The values of the head lines of one name. -/
namespace Go.Proofs.YthiogijicknoiaaDoor
open Go.RowKit
set_option linter.unusedSimpArgs false
set_option linter.unusedVariables false

def vals (nm : ByteArray) (l : List Hd) : List ByteArray := (l.filter fun h => alikeB h.1 nm).map (·.2)
theorem vals_yes (nm : ByteArray) (l : List Hd) (k : Nat) (h : k < l.length) (ha : alikeB l[k].1 nm = true) : vals nm (l.take (k + 1)) = vals nm (l.take k) ++ [l[k].2] := by
  unfold vals; rw [List.take_succ_eq_append_getElem h, List.filter_append, List.map_append]
  simp [ha]
theorem vals_no (nm : ByteArray) (l : List Hd) (k : Nat) (h : k < l.length) (ha : alikeB l[k].1 nm = false) : vals nm (l.take (k + 1)) = vals nm (l.take k) := by
  unfold vals; rw [List.take_succ_eq_append_getElem h, List.filter_append, List.map_append]
  simp [ha]
theorem vals_len (nm : ByteArray) (l : List Hd) : (vals nm l).length ≤ l.length := by unfold vals; rw [List.length_map]; exact List.length_filter_le _ _
theorem vals_take_len (nm : ByteArray) (l : List Hd) (k : Nat) : (vals nm (l.take k)).length ≤ k := by
  have h1 := vals_len nm (l.take k)
  have h2 := List.length_take_le k l
  omega
theorem vals_mem {nm : ByteArray} {l : List Hd} {x : ByteArray} (h : x ∈ vals nm l) : ∃ y ∈ l, y.2 = x := by
  obtain ⟨y, hy, e⟩ := List.mem_map.1 h
  exact ⟨y, (List.mem_filter.1 hy).1, e⟩
theorem strV_snoc (l : List ByteArray) (x : ByteArray) : strV l ++ [.string x] = strV (l ++ [x]) := by simp [strV]
theorem vals_size {nm : ByteArray} {l : List Hd} (k : Nat) (hl : l.length ≤ 20) (hs : ∀ h ∈ l, h.2.size ≤ 200) : (joinB commaS (vals nm (l.take k))).size ≤ 5000 := by
  have h1 := joinB_size commaS 200 (vals nm (l.take k)) (fun x hx => by
    obtain ⟨y, hy, rfl⟩ := vals_mem hx
    exact hs y (List.mem_of_mem_take hy))
  have h2 := vals_len nm (l.take k)
  have h3 := List.length_take_le' k l
  have e : commaS.size = 2 := rfl
  have h4 := Nat.mul_le_mul_right (200 + 2) (show (vals nm (l.take k)).length ≤ 20 by omega)
  rw [e] at h1
  omega
end Go.Proofs.YthiogijicknoiaaDoor

/- Plain laws: small letters stay so, what is trimmed stays so, a word bears no blank. No program in sight. -/
namespace Go.Proofs.YthiogijicknoiaaDoor
theorem lowB_twice (b : UInt8) : lowB (lowB b) = lowB b := by
  unfold lowB
  by_cases h : 65 ≤ b.toNat ∧ b.toNat ≤ 90
  · rw [if_pos h, if_neg]
    have : (b + 32).toNat = b.toNat + 32 := by rw [UInt8.toNat_add]; simp; omega
    omega
  · rw [if_neg h, if_neg h]
theorem lowS_twice (s : ByteArray) : lowS (lowS s) = lowS s := by
  apply ByteArray.ext
  show (s.data.map lowB).map lowB = s.data.map lowB
  rw [Array.map_map]
  congr 1
  funext b
  exact lowB_twice b
theorem dw_twice (p : UInt8 → Bool) (l : List UInt8) : (l.dropWhile p).dropWhile p = l.dropWhile p := by
  induction l with
  | nil => rfl
  | cons b l ih =>
    by_cases h : p b = true
    · rw [List.dropWhile_cons_of_pos h, ih]
    · rw [List.dropWhile_cons_of_neg h, List.dropWhile_cons_of_neg h]
theorem dw_all (p : UInt8 → Bool) (l : List UInt8) (h : ∀ b ∈ l, p b = false) : l.dropWhile p = l := by
  cases l with
  | nil => rfl
  | cons b l => exact List.dropWhile_cons_of_neg (by simp [h b (by simp)])
/-- Cut off behind, then before: behind there is still nothing to cut off. -/
theorem trim_twice (l : List UInt8) : trimL (trimL l) = trimL l := by
  unfold trimL Lib.trimS Lib.trimLeftS Lib.trimRightS
  generalize (fun x => ([32, 9] : List UInt8).contains x) = p
  have key : ∀ m : List UInt8, (m.reverse.dropWhile p) = m.reverse → ((m.dropWhile p).reverse.dropWhile p) = (m.dropWhile p).reverse := by
    intro m hm
    by_cases e : m.dropWhile p = []
    · rw [e]; rfl
    · obtain ⟨a, ha⟩ : ∃ a, m = a ++ m.dropWhile p := ⟨m.takeWhile p, (List.takeWhile_append_dropWhile).symm⟩
      generalize m.dropWhile p = d at *
      subst ha
      rw [List.reverse_append] at hm
      cases hd : d.reverse with
      | nil => rfl
      | cons x r =>
        rw [hd, List.cons_append] at hm
        by_cases hx : p x = true
        · rw [List.dropWhile_cons_of_pos hx] at hm
          have h1 := (List.dropWhile_sublist p (l := r ++ a.reverse)).length_le
          rw [hm, List.length_cons] at h1
          omega
        · exact List.dropWhile_cons_of_neg hx
  have h0 : ((l.reverse.dropWhile p).reverse.reverse.dropWhile p) = (l.reverse.dropWhile p).reverse.reverse := by
    rw [List.reverse_reverse, dw_twice]
  rw [key _ h0, List.reverse_reverse, dw_twice]
theorem trimT_twice (s : ByteArray) : trimT (trimT s) = trimT s := by
  unfold trimT
  show (⟨(trimL (trimL s.data.toList)).toArray⟩ : ByteArray) = _
  rw [trim_twice]
theorem word_blank (b : UInt8) (h : wordB (b.toNat : Int) = true) : ([32, 9] : List UInt8).contains b = false := by
  rw [blank_has]
  cases hb : blankB (b.toNat : Int) with
  | false => rfl
  | true =>
    simp only [blankB, Bool.or_eq_true, decide_eq_true_eq] at hb
    rcases hb with e | e <;> (rw [e] at h; revert h; decide)
theorem word_trim (s : ByteArray) (h : wordS s = true) : trimT s = s := by
  unfold wordS at h
  rw [Bool.and_eq_true] at h
  have hall := List.all_eq_true.1 (show (s.data.toList.all fun b => wordB (b.toNat : Int)) = true from h.2)
  have hno : ∀ b ∈ s.data.toList, ([32, 9] : List UInt8).contains b = false := fun b hb => word_blank b (hall b hb)
  have e : trimL s.data.toList = s.data.toList := by
    unfold trimL Lib.trimS Lib.trimLeftS Lib.trimRightS
    rw [dw_all _ _ (fun b hb => hno b (List.mem_reverse.1 hb)), List.reverse_reverse, dw_all _ _ hno]
  unfold trimT
  rw [e]
theorem word_size (s : ByteArray) (h : wordS s = true) : s.size ≤ 64 := by
  unfold wordS at h
  simp only [Bool.and_eq_true, decide_eq_true_eq] at h
  exact h.1.2
end Go.Proofs.YthiogijicknoiaaDoor
