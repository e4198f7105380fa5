/- 'append(x, y...)' of bytes onto a row that a conversion laid. -/
import Derived.Test.YtklnccoknldkcaaDoorFrame
import Derived.Test.YtklnccoknldkcaaDoorBytes
import Derived.Deep.AppendSrc
namespace Go.Proofs.YtklnccoknldkcaaDoor
open Go.RowKit
set_option linter.unusedSimpArgs false
set_option linter.unusedVariables false

theorem RowAt.puts {g : Nat} : ∀ (vs : List Value) (w : World) (A D : List Value) (o : Nat), RowAt w g (A ++ D) → A.length = o → vs.length ≤ D.length → RowAt (w.setCells g o vs) g (A ++ vs ++ D.drop vs.length)
  | [], w, A, D, o, h, _, _ => by simpa [World.setCells] using h
  | v :: r, w, A, D, o, h, hA, hl => by
    simp only [List.length_cons] at hl
    have h1 := h.put1 hA (by omega) v
    have h2 := RowAt.puts r _ (A ++ [v]) (D.drop 1) (o + 1) h1 (by simp [hA]) (by rw [List.length_drop]; omega)
    rw [List.drop_drop] at h2
    simp only [World.setCells, List.length_cons]
    rw [show r.length + 1 = 1 + r.length from by omega]
    simpa using h2
theorem RowAt.pre {w : World} {g : Nat} {A D : List Value} (h : RowAt w g (A ++ D)) : RowAt w g A := by
  obtain ⟨cur, e, lo, hi, hg, ht, hf⟩ := h
  refine ⟨cur, e, lo, hi, hg, ?_, fun i hi => hf i (by rw [List.length_append]; omega)⟩
  have := congrArg (List.take A.length) ht
  rw [List.take_take, List.length_append, Nat.min_eq_left (by omega), List.take_left] at this
  exact this
theorem Chg.sets {lo hi g : Nat} (h1 : lo ≤ g) (h2 : g < hi) : ∀ (vs : List Value) (o : Nat) (a w : World), Chg a w lo hi → Chg a (w.setCells g o vs) lo hi
  | [], _, _, _, h => h
  | v :: r, o, a, w, h => Chg.sets h1 h2 r (o + 1) a _ (h.set g o v h1 h2)
def BRow (w : World) (g n cap : Nat) (xs : List UInt8) : Prop := xs.length = n ∧ ∃ rest : List Value, n + rest.length = cap ∧ RowAt w g (bV xs ++ rest)
theorem bw_brow (w : World) (s : ByteArray) : BRow (Lib.bytesWorld w 5 s) w.heap.size s.size (grownCap w s.size 0 5) s.data.toList := by
  have hge := grownCap_ge w s.size 0 5
  refine ⟨Array.length_toList, List.replicate (grownCap w s.size 0 5 - s.size) (.int .u8 0), by rw [List.length_replicate]; omega, _, _, _, _, Lib.bytesWorld_at_new w 5 s, ?_, ?_⟩
  · have e : (Lib.bytesCells w 5 s).toList = bV s.data.toList ++ List.replicate (grownCap w s.size 0 5 - s.size) (.int .u8 0) := by
      unfold Lib.bytesCells
      rw [Array.toList_append, Array.toList_map, Array.toList_replicate]
      rfl
    rw [e]
    exact List.take_length
  · intro i hi
    have hl : (Lib.bytesCells w 5 s).size = s.size + (grownCap w s.size 0 5 - s.size) := by
      unfold Lib.bytesCells
      rw [Array.size_append, Array.size_map, Array.size_replicate]; rfl
    rw [List.length_append, bV_len, List.length_replicate, Array.length_toList] at hi
    have : s.data.size = s.size := rfl
    omega
theorem one_bV (l : List UInt8) : ∀ u ∈ bV l, u.oneCell' = true := by
  intro u hu
  obtain ⟨b, _, rfl⟩ := List.mem_map.1 hu
  rfl
theorem app_bytes (lo : Nat) (ab : Option Addr) (m c : Nat) (lb : List UInt8) (hlb : lb.length = m) (g n cap : Nat) (xs : List UInt8) (w : World) (hB : BRow w g n cap xs) (hlo : lo ≤ g) (hr : Rd w ab (bV lb)) (hm : n + m ≤ 140737488355328) (ty : TypeId) :
    ∃ g' cap' w', (Builtin.append_ #[22, 22] ty #[.slice (some ⟨g, 0, none⟩) n cap, .slice ab m c]).run Tryd.prog w = .ok (.slice (some ⟨g', 0, none⟩) (n + m) cap') w' ∧ lo ≤ g' ∧ RowAt w' g' (bV (xs ++ lb)) ∧ Chg w w' g (g + 1) := by
  obtain ⟨hxl, rest, hcap, hrow⟩ := hB
  have hxn : (bV xs).length = n := by rw [bV_len, hxl]
  have hmn : (bV lb).length = m := by rw [bV_len, hlb]
  have hinfo : (Tryd.prog.info? 5).map (fun i => (i.zero, i.size, i.bytes)) = some (some (.int .u8 0), 1, 1) := by kernel_rfl
  obtain ⟨i, hi, hz, hs1, hb1⟩ := info_parts hinfo
  have hsrc : Src Tryd.prog i.size 22 (.slice ab m c) m (bV lb) w := by
    rw [hs1]
    cases ab with
    | none =>
      have hnil : lb = [] := by
        cases lb with
        | nil => rfl
        | cons x r => obtain ⟨_, _, h, _⟩ := hr 0 _ rfl; cases h
      subst hnil
      have : m = 0 := hlb.symm
      subst this
      exact Src.ofNil w Tryd.underlying22 c
    | some a =>
      refine Src.ofSlice w Tryd.underlying22 a m c (bV lb) (by rw [hmn, Nat.mul_one]) (fun j u hu => ?_) (one_bV lb)
      obtain ⟨b, off, e, _, hc⟩ := hr j u hu
      cases e
      rw [Addr.add_lit]
      exact hc
  have hbV : bV (xs ++ lb) = bV xs ++ bV lb := by simp [bV]
  have hgl := hrow.lt
  by_cases hroom : n + m ≤ cap
  · have hst := run_append_room_src (P := Tryd.prog) w 22 22 ty 5 i Tryd.underlying22 hi g 0 n cap _ m (bV lb) hsrc hroom
      (fun j hj => by
        rw [hs1, Nat.zero_add, Nat.mul_one]
        have hlt : n + j < (bV xs ++ rest).length := by rw [List.length_append]; omega
        rw [hrow.cell (n + j) _ (List.getElem?_eq_getElem hlt)]; rfl)
      (fun j hj => by
        rw [hs1, Nat.zero_add, Nat.mul_one]
        exact hrow.free (n + j) (by rw [List.length_append]; omega))
    rw [hs1, Nat.zero_add, Nat.mul_one] at hst
    refine ⟨g, cap, _, hst, hlo, ?_, Chg.sets (Nat.le_refl _) (Nat.lt_succ_self _) _ _ _ _ (Chg.refl _ _ _)⟩
    rw [hbV]
    exact (RowAt.puts (bV lb) w (bV xs) rest n hrow hxn (by omega)).pre
  · have hst := run_append_grow_src (P := Tryd.prog) w 22 22 ty 5 i (.int .u8 0) Tryd.underlying22 hi hz (some ⟨g, 0, none⟩) n cap (bV xs)
      (run_firstCells_some w.drew i.size n ⟨g, 0, none⟩ n cap (bV xs) (by rw [hs1, hxn, Nat.mul_one]) (fun j u hu => by
        rw [Addr.add_lit, Nat.zero_add]
        exact (hrow.pre.drew).cell j u hu)) _ m (bV lb) hsrc (by omega) (by omega)
      (by rw [hb1, Nat.mul_one]; have := nextslicecap_le (need := n + m) (old := cap) (by omega); omega)
    refine ⟨_, _, _, hst, by omega, ?_, ((Chg.refl _ _ _).drew).alloc _⟩
    rw [hbV]
    refine RowAt.pre (D := (Builtin.zeroCells (Value.cells (.int .u8 0)) (grownCap w (n + m) cap 5 - (n + m))).toList) ?_
    exact RowAt.of_alloc w.drew _ _ _ (by rw [Array.toList_append])
theorem wpList_appB {P : Program} {ops : Array Oper} {rest : List Oper} {o : Oper} {a : Act} {Q : Exit → Act → World → Prop} (hgd : o.guard = none) (s x : Operand) {t1 t2 : TypeId}
    (ho : o.op = .call { callee := .builtin .append, args := #[s, x], argTypes := #[t1, t2] }) {v xv r : Value} {w w' : World} (hs : a.eval s = v) (hx : a.eval x = xv)
    (hrun : (Builtin.append_ #[t1, t2] o.type #[v, xv]).run P w = .ok r w') (h : wpList P ops Q rest (a.put o.dst r) w') : wpList P ops Q (o :: rest) a w :=
  wpList_plain hgd fun K hK => by
    unfold Oper.wp execOp
    simp only [ho, resolve, invoke, builtin, Sem.run_bind, Sem.run_pure, Result.andThen_ok, List.map_toArray, List.map_cons, List.map_nil, hs, hx, hrun]
    exact hK _ _ h
end Go.Proofs.YtklnccoknldkcaaDoor
