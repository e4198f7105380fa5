/- Joined: AppV. -/
import Derived.Test.YthiogijicknoiaaGreatDoorJB0
import Derived.Test.YthiogijicknoiaaGreatDoorJXDraw
import Derived.Test.YthiogijicknoiaaGreatDoorJB1
/- 'append(x, y...)' onto a row of any element's cells; in a world where a source is asked, too. -/
namespace Go.Proofs.YthiogijicknoiaaGreatDoor
open Go.RowKit
set_option linter.unusedSimpArgs false
set_option linter.unusedVariables false

def VRow (w : World) (g n cap sz : Nat) (xs : List Value) : Prop := xs.length = n * sz ∧ n ≤ cap ∧ ∃ rest : List Value, rest.length = (cap - n) * sz ∧ RowAt w g (xs ++ rest)
theorem VRow.row {w : World} {g n cap sz : Nat} {xs : List Value} (h : VRow w g n cap sz xs) : RowAt w g xs := by
  obtain ⟨_, _, rest, _, hr⟩ := h
  exact hr.pre
theorem VRow.lt {w : World} {g n cap sz : Nat} {xs : List Value} (h : VRow w g n cap sz xs) : g < w.heap.size := h.row.lt
theorem VRow.cap {w : World} {g n cap sz : Nat} {xs : List Value} (h : VRow w g n cap sz xs) : n ≤ cap := h.2.1
theorem VRow.block {w w' : World} {g n cap sz : Nat} {xs : List Value} (h : VRow w g n cap sz xs) (hb : w'.heap[g]? = w.heap[g]?) : VRow w' g n cap sz xs := by
  obtain ⟨hl, hc, rest, hr, hrow⟩ := h
  exact ⟨hl, hc, rest, hr, hrow.block hb⟩
theorem VRow.then {w w' : World} {g n cap sz : Nat} {xs : List Value} (h : VRow w g n cap sz xs) (hb : Below w.heap.size w w') : VRow w' g n cap sz xs := h.block (hb.block g h.lt)
theorem VRow.alloc {w : World} {g n cap sz : Nat} {xs : List Value} (h : VRow w g n cap sz xs) (o : Obj) : VRow (w.alloc o) g n cap sz xs := h.then (below_alloc (Below.refl _ _) o)
theorem VRow.grown {w w' : World} {G g n cap sz : Nat} {xs : List Value} (h : VRow w g n cap sz xs) (hg : w.grownBy w' (some G)) (hne : g ≠ G) : VRow w' g n cap sz xs := h.block (hg.block g h.lt (by intro e; exact hne (Option.some.inj e)))
theorem VRow.start (w : World) (t : TypeId) (sz : Nat) : VRow (w.alloc (.cells #[] t (0, 0))) w.heap.size 0 0 sz [] := ⟨by simp, Nat.le_refl _, [], by simp, RowAt.of_alloc _ _ _ _ rfl⟩
theorem zeros_len (z : Value) (sz : Nat) (h : z.cells.size = sz) (k : Nat) : (Builtin.zeroCells z.cells k).toList.length = k * sz := by
  simp [Builtin.zeroCells, h]
theorem app_vals {t e : TypeId} {z : Value} {sz bytes : Nat} (ht : Tryz.prog.underlying t = some (.slice e)) (hinfo : (Tryz.prog.info? e).map (fun i => (i.zero, i.size, i.bytes)) = some (some z, sz, bytes)) (hzs : z.cells.size = sz)
    (ab : Option Addr) (m c : Nat) (ys : List Value) (hys : ys.length = m * sz) (hone : ∀ u ∈ ys, u.oneCell' = true) (g n cap : Nat) (xs : List Value) (w : World) (hB : VRow w g n cap sz xs) (hr : Rd w ab ys) (hms : ab = none → m = 0) (hm : (n + m) * (2 * bytes + 2) ≤ 1000000000) (hnm : n + m ≤ 1000000) (hby : bytes ≤ 1000) (ty : TypeId) :
    ∃ g' cap' w', (Builtin.append_ #[t, t] ty #[.slice (some ⟨g, 0, none⟩) n cap, .slice ab m c]).run Tryz.prog w = .ok (.slice (some ⟨g', 0, none⟩) (n + m) cap') w' ∧ (g' = g ∨ w.heap.size ≤ g') ∧ VRow w' g' (n + m) cap' sz (xs ++ ys) ∧ Chg w w' g (g + 1) := by
  obtain ⟨hxl, hcn, rest, hrl, hrow⟩ := hB
  obtain ⟨i, hi, hz, hs1, hb1⟩ := info_parts hinfo
  have hsrc : Go.Src Tryz.prog i.size t (.slice ab m c) m ys w := by
    rw [hs1]
    cases ab with
    | none =>
      obtain rfl := hms rfl
      obtain rfl : ys = [] := List.eq_nil_of_length_eq_zero (by omega)
      exact Go.Src.ofNil w ht c
    | some a =>
      refine Go.Src.ofSlice w ht a m c ys hys (fun j u hu => ?_) hone
      obtain ⟨b, off, e, _, hc⟩ := hr j u hu
      cases e
      rw [Addr.add_lit]
      exact hc
  have hgl := hrow.lt
  by_cases hroom : n + m ≤ cap
  · have hmz : n * sz + m * sz ≤ cap * sz := by rw [← Nat.add_mul]; exact Nat.mul_le_mul_right _ hroom
    have hcz : (cap - n) * sz = cap * sz - n * sz := Nat.sub_mul _ _ _
    have hst := run_append_room_src (P := Tryz.prog) w t t ty e i ht hi g 0 n cap _ m ys hsrc hroom
      (fun j hj => by
        rw [hs1, Nat.zero_add]
        have hlt : n * sz + j < (xs ++ rest).length := by rw [List.length_append]; omega
        rw [hrow.cell (n * sz + j) _ (List.getElem?_eq_getElem hlt)]; rfl)
      (fun j hj => by
        rw [hs1, Nat.zero_add]
        exact hrow.free (n * sz + j) (by rw [List.length_append]; omega))
    rw [hs1, Nat.zero_add] at hst
    refine ⟨g, cap, _, hst, .inl rfl, ⟨by rw [List.length_append, hxl, hys, Nat.add_mul], hroom, rest.drop ys.length, by rw [List.length_drop, hrl, hys, ← Nat.sub_mul, Nat.sub_add_eq], ?_⟩, Chg.sets (Nat.le_refl _) (Nat.lt_succ_self _) _ _ _ _ (Chg.refl _ _ _)⟩
    exact RowAt.puts ys w xs rest (n * sz) hrow hxl (by omega)
  · have hst := run_append_grow_src (P := Tryz.prog) w t t ty e i z ht hi hz (some ⟨g, 0, none⟩) n cap xs
      (run_firstCells_some w.drew i.size n ⟨g, 0, none⟩ n cap xs (by rw [hs1, hxl]) (fun j u hu => by
        rw [Addr.add_lit, Nat.zero_add]
        exact (hrow.pre.drew).cell j u hu)) _ m ys hsrc (by omega) (by omega)
      (by
        rw [hb1]
        have h1 := nextslicecap_le (need := n + m) (old := cap) (by omega)
        have h2 : Builtin.nextslicecap (n + m) cap * bytes ≤ 281474976710 * 1000 := Nat.mul_le_mul (by omega) hby
        omega)
    have hge := grownCap_ge w (n + m) cap e
    refine ⟨_, _, _, hst, .inr (Nat.le_refl _), ⟨by rw [List.length_append, hxl, hys, Nat.add_mul], hge, (Builtin.zeroCells (Value.cells z) (grownCap w (n + m) cap e - (n + m))).toList, zeros_len _ _ hzs _, ?_⟩, ((Chg.refl _ _ _).drew).alloc _⟩
    exact RowAt.of_alloc w.drew _ _ _ (by rw [Array.toList_append])
theorem g_chg {G : Nat} {a w w' : World} {g : Nat} (h : a.grownBy w (some G)) (hc : Chg w w' g (g + 1)) (hg : a.heap.size ≤ g) : a.grownBy w' (some G) :=
  ⟨hc.os.trans h.os, hc.tape.trans h.tape, hc.output.trans h.output, Nat.le_trans h.size hc.size, fun k hk hne => (hc.block k (Nat.lt_of_lt_of_le hk h.size) (.inl (by omega))).trans (h.block k hk hne)⟩
theorem src_chg {w w' : World} {G : Nat} {a : Option Addr} {n c K g : Nat} (h : Src w G a n c K) (hc : Chg w w' g (g + 1)) (hg : G < g) : Src w' G a n c K :=
  h.block fun k hk => hc.block k (Nat.lt_of_le_of_lt hk h.lt) (.inl (by omega))
theorem blk_othV {w : World} {g : Nat} {o : Obj} (h : w.heap[g]? = some o) (b k : Nat) (v : Value) (hne : b ≠ g) : (w.setCell ⟨b, k, none⟩ v).heap[g]? = some o := by
  simp [World.setCell, Array.getElem?_modify, h, hne]
/-- l1Long: with what it is at least. -/
theorem spec_l1Long2 (G : Nat) (a : Option Addr) (n c K : Nat) (s0 : ByteArray) (h0 : s0.size ≤ 1001) (w : World) (hs : Src w G a n c K) (hK : K ≤ 990000) :
    Calls Tryz.prog 142 #[.pointer (some ⟨G, 0, none⟩), .string s0] w fun e w' => ∃ r : ByteArray, e = .returned (.string r) ∧ (1000 ≤ r.size ∧ r.size ≤ 1001) ∧ Src w' G a n c (K + 1100) ∧ w.grownBy w' (some G) := by
  have hG := hs.lt
  obtain ⟨hG1, hG2⟩ := gstart hG
  go_enter Tryz.func142, Tryz.ntmps142
  go_wp2
  go_loopw [1] (fun v wr => ∃ s : ByteArray, v = .string s ∧ s0.size ≤ s.size ∧ s.size ≤ 1001 ∧ Src wr G a n c (K + (s.size - s0.size)) ∧ w.grownBy wr (some G)) (fun v _ => 1001 - strZ v)
  case atStart => exact ⟨s0, rfl, Nat.le_refl _, h0, by rw [Nat.sub_self]; exact hs, World.grownBy.refl _ _⟩
  case round =>
    obtain ⟨s, rfl, hs0, hs1, hsr, hgr⟩ := hrel
    have hGr := hsr.lt
    obtain ⟨hG3, hG4⟩ := gstart hGr
    go_wp2_with (go_at_call 55; ((with_reducible refine (spec_l1Pick (fun x => 1000 ≤ x ∧ x ≤ 1001) G a n c _ _ 2 _ _ rfl (by omega) (by omega) (by simp) _ (hsr.alloc _) (by omega) (rd_new _ _ _) (by omega)).mono ?_); rintro e w' ⟨r, rfl, ⟨hr0, hr1⟩, hs2, hg⟩))
    · refine ⟨⟨_, rfl, ?_, ?_, ?_, ?_⟩, ?_⟩
      · rw [ByteArray.size_append]; show _ ≤ _ + 1; omega
      · rw [ByteArray.size_append]; show _ + 1 ≤ _; omega
      · rw [ByteArray.size_append]; exact hs2.mono (by show _ ≤ _ + (_ + 1 - _); omega)
      · exact g_then (g_alloc hgr _) hg
      · show 1001 - (s ++ _).size < 1001 - s.size
        rw [ByteArray.size_append]; show 1001 - (_ + 1) < _; omega
    · go_ret
      exact ⟨_, rfl, ⟨by omega, hs1⟩, hs2.mono (by omega), g_then (g_alloc hgr _) hg⟩
end Go.Proofs.YthiogijicknoiaaGreatDoor
