/- Joined: AppV, Ask, InsP, OpenB, ReadP, MaxL, RspF, Shape. -/
import Derived.Test.YtbiodbggaeglpaaGreatDoorJB0
import Derived.Test.YtbiodbggaeglpaaGreatDoorJB3
import Derived.Test.YtbiodbggaeglpaaGreatDoorJB1
import Derived.Test.YtbiodbggaeglpaaGreatDoorJB4
import Derived.Test.YtbiodbggaeglpaaGreatDoorJB2
import Derived.Test.YtbiodbggaeglpaaGreatDoorJB5
import Derived.Test.YtbiodbggaeglpaaGreatDoorShelf
import Derived.Test.YtbiodbggaeglpaaGreatDoorRows
import Derived.ProofKit
import Derived.Handed
import Derived.HandedShaped
/- 'append(x, y...)' onto a row of any element's cells; in a world where a source is asked, too. -/
namespace Go.Proofs.YtbiodbggaeglpaaGreatDoor
open Go.RowKit
set_option linter.unusedSimpArgs false
set_option linter.unusedVariables false

def VRow (w : World) (g n cap sz : Nat) (xs : List Value) : Prop := xs.length = n * sz ∧ n ≤ cap ∧ ∃ rest : List Value, rest.length = (cap - n) * sz ∧ RowAt w g (xs ++ rest)
theorem VRow.row {w : World} {g n cap sz : Nat} {xs : List Value} (h : VRow w g n cap sz xs) : RowAt w g xs := by
  obtain ⟨_, _, rest, _, hr⟩ := h
  exact hr.pre
theorem VRow.lt {w : World} {g n cap sz : Nat} {xs : List Value} (h : VRow w g n cap sz xs) : g < w.heap.size := h.row.lt
theorem VRow.cap {w : World} {g n cap sz : Nat} {xs : List Value} (h : VRow w g n cap sz xs) : n ≤ cap := h.2.1
theorem VRow.block {w w' : World} {g n cap sz : Nat} {xs : List Value} (h : VRow w g n cap sz xs) (hb : w'.heap[g]? = w.heap[g]?) : VRow w' g n cap sz xs := by
  obtain ⟨hl, hc, rest, hr, hrow⟩ := h
  exact ⟨hl, hc, rest, hr, hrow.block hb⟩
theorem VRow.then {w w' : World} {g n cap sz : Nat} {xs : List Value} (h : VRow w g n cap sz xs) (hb : Below w.heap.size w w') : VRow w' g n cap sz xs := h.block (hb.block g h.lt)
theorem VRow.alloc {w : World} {g n cap sz : Nat} {xs : List Value} (h : VRow w g n cap sz xs) (o : Obj) : VRow (w.alloc o) g n cap sz xs := h.then (below_alloc (Below.refl _ _) o)
theorem VRow.grown {w w' : World} {G g n cap sz : Nat} {xs : List Value} (h : VRow w g n cap sz xs) (hg : w.grownBy w' (some G)) (hne : g ≠ G) : VRow w' g n cap sz xs := h.block (hg.block g h.lt (by intro e; exact hne (Option.some.inj e)))
theorem VRow.start (w : World) (t : TypeId) (sz : Nat) : VRow (w.alloc (.cells #[] t (0, 0))) w.heap.size 0 0 sz [] := ⟨by simp, Nat.le_refl _, [], by simp, RowAt.of_alloc _ _ _ _ rfl⟩
theorem zeros_len (z : Value) (sz : Nat) (h : z.cells.size = sz) (k : Nat) : (Builtin.zeroCells z.cells k).toList.length = k * sz := by
  simp [Builtin.zeroCells, h]
theorem app_vals {t e : TypeId} {z : Value} {sz bytes : Nat} (ht : Tryz.prog.underlying t = some (.slice e)) (hinfo : (Tryz.prog.info? e).map (fun i => (i.zero, i.size, i.bytes)) = some (some z, sz, bytes)) (hzs : z.cells.size = sz)
    (ab : Option Addr) (m c : Nat) (ys : List Value) (hys : ys.length = m * sz) (hone : ∀ u ∈ ys, u.oneCell' = true) (g n cap : Nat) (xs : List Value) (w : World) (hB : VRow w g n cap sz xs) (hr : Rd w ab ys) (hms : ab = none → m = 0) (hm : (n + m) * (2 * bytes + 2) ≤ 1000000000) (hnm : n + m ≤ 1000000) (hby : bytes ≤ 1000) (ty : TypeId) :
    ∃ g' cap' w', (Builtin.append_ #[t, t] ty #[.slice (some ⟨g, 0, none⟩) n cap, .slice ab m c]).run Tryz.prog w = .ok (.slice (some ⟨g', 0, none⟩) (n + m) cap') w' ∧ (g' = g ∨ w.heap.size ≤ g') ∧ VRow w' g' (n + m) cap' sz (xs ++ ys) ∧ Chg w w' g (g + 1) := by
  obtain ⟨hxl, hcn, rest, hrl, hrow⟩ := hB
  obtain ⟨i, hi, hz, hs1, hb1⟩ := info_parts hinfo
  have hsrc : Go.Src Tryz.prog i.size t (.slice ab m c) m ys w := by
    rw [hs1]
    cases ab with
    | none =>
      obtain rfl := hms rfl
      obtain rfl : ys = [] := List.eq_nil_of_length_eq_zero (by omega)
      exact Go.Src.ofNil w ht c
    | some a =>
      refine Go.Src.ofSlice w ht a m c ys hys (fun j u hu => ?_) hone
      obtain ⟨b, off, e, _, hc⟩ := hr j u hu
      cases e
      rw [Addr.add_lit]
      exact hc
  have hgl := hrow.lt
  by_cases hroom : n + m ≤ cap
  · have hmz : n * sz + m * sz ≤ cap * sz := by rw [← Nat.add_mul]; exact Nat.mul_le_mul_right _ hroom
    have hcz : (cap - n) * sz = cap * sz - n * sz := Nat.sub_mul _ _ _
    have hst := run_append_room_src (P := Tryz.prog) w t t ty e i ht hi g 0 n cap _ m ys hsrc hroom
      (fun j hj => by
        rw [hs1, Nat.zero_add]
        have hlt : n * sz + j < (xs ++ rest).length := by rw [List.length_append]; omega
        rw [hrow.cell (n * sz + j) _ (List.getElem?_eq_getElem hlt)]; rfl)
      (fun j hj => by
        rw [hs1, Nat.zero_add]
        exact hrow.free (n * sz + j) (by rw [List.length_append]; omega))
    rw [hs1, Nat.zero_add] at hst
    refine ⟨g, cap, _, hst, .inl rfl, ⟨by rw [List.length_append, hxl, hys, Nat.add_mul], hroom, rest.drop ys.length, by rw [List.length_drop, hrl, hys, ← Nat.sub_mul, Nat.sub_add_eq], ?_⟩, Chg.sets (Nat.le_refl _) (Nat.lt_succ_self _) _ _ _ _ (Chg.refl _ _ _)⟩
    exact RowAt.puts ys w xs rest (n * sz) hrow hxl (by omega)
  · have hst := run_append_grow_src (P := Tryz.prog) w t t ty e i z ht hi hz (some ⟨g, 0, none⟩) n cap xs
      (run_firstCells_some w.drew i.size n ⟨g, 0, none⟩ n cap xs (by rw [hs1, hxl]) (fun j u hu => by
        rw [Addr.add_lit, Nat.zero_add]
        exact (hrow.pre.drew).cell j u hu)) _ m ys hsrc (by omega) (by omega)
      (by
        rw [hb1]
        have h1 := nextslicecap_le (need := n + m) (old := cap) (by omega)
        have h2 : Builtin.nextslicecap (n + m) cap * bytes ≤ 281474976710 * 1000 := Nat.mul_le_mul (by omega) hby
        omega)
    have hge := grownCap_ge w (n + m) cap e
    refine ⟨_, _, _, hst, .inr (Nat.le_refl _), ⟨by rw [List.length_append, hxl, hys, Nat.add_mul], hge, (Builtin.zeroCells (Value.cells z) (grownCap w (n + m) cap e - (n + m))).toList, zeros_len _ _ hzs _, ?_⟩, ((Chg.refl _ _ _).drew).alloc _⟩
    exact RowAt.of_alloc w.drew _ _ _ (by rw [Array.toList_append])
theorem g_chg {G : Nat} {a w w' : World} {g : Nat} (h : a.grownBy w (some G)) (hc : Chg w w' g (g + 1)) (hg : a.heap.size ≤ g) : a.grownBy w' (some G) :=
  ⟨hc.os.trans h.os, hc.tape.trans h.tape, hc.output.trans h.output, Nat.le_trans h.size hc.size, fun k hk hne => (hc.block k (Nat.lt_of_lt_of_le hk h.size) (.inl (by omega))).trans (h.block k hk hne)⟩
theorem src_chg {w w' : World} {G : Nat} {a : Option Addr} {n c K g : Nat} (h : Src w G a n c K) (hc : Chg w w' g (g + 1)) (hg : G < g) : Src w' G a n c K :=
  h.block fun k hk => hc.block k (Nat.lt_of_le_of_lt hk h.lt) (.inl (by omega))
theorem blk_othV {w : World} {g : Nat} {o : Obj} (h : w.heap[g]? = some o) (b k : Nat) (v : Value) (hne : b ≠ g) : (w.setCell ⟨b, k, none⟩ v).heap[g]? = some o := by
  simp [World.setCell, Array.getElem?_modify, h, hne]
/-- l1Long: with what it is at least. -/
theorem spec_l1Long2 (G : Nat) (a : Option Addr) (n c K : Nat) (s0 : ByteArray) (h0 : s0.size ≤ 1001) (w : World) (hs : Src w G a n c K) (hK : K ≤ 990000) :
    Calls Tryz.prog 89 #[.pointer (some ⟨G, 0, none⟩), .string s0] w fun e w' => ∃ r : ByteArray, e = .returned (.string r) ∧ (1000 ≤ r.size ∧ r.size ≤ 1001) ∧ Src w' G a n c (K + 1100) ∧ w.grownBy w' (some G) := by
  have hG := hs.lt
  obtain ⟨hG1, hG2⟩ := gstart hG
  go_enter Tryz.func89, Tryz.ntmps89
  go_wp2
  go_loopw [1] (fun v wr => ∃ s : ByteArray, v = .string s ∧ s0.size ≤ s.size ∧ s.size ≤ 1001 ∧ Src wr G a n c (K + (s.size - s0.size)) ∧ w.grownBy wr (some G)) (fun v _ => 1001 - strZ v)
  case atStart => exact ⟨s0, rfl, Nat.le_refl _, h0, by rw [Nat.sub_self]; exact hs, World.grownBy.refl _ _⟩
  case round =>
    obtain ⟨s, rfl, hs0, hs1, hsr, hgr⟩ := hrel
    have hGr := hsr.lt
    obtain ⟨hG3, hG4⟩ := gstart hGr
    go_wp2_with (go_at_call 28; ((with_reducible refine (spec_l1Pick (fun x => 1000 ≤ x ∧ x ≤ 1001) G a n c _ _ 2 _ _ rfl (by omega) (by omega) (by simp) _ (hsr.alloc _) (by omega) (rd_new _ _ _) (by omega)).mono ?_); rintro e w' ⟨r, rfl, ⟨hr0, hr1⟩, hs2, hg⟩))
    · refine ⟨⟨_, rfl, ?_, ?_, ?_, ?_⟩, ?_⟩
      · rw [ByteArray.size_append]; show _ ≤ _ + 1; omega
      · rw [ByteArray.size_append]; show _ + 1 ≤ _; omega
      · rw [ByteArray.size_append]; exact hs2.mono (by show _ ≤ _ + (_ + 1 - _); omega)
      · exact g_then (g_alloc hgr _) hg
      · show 1001 - (s ++ _).size < 1001 - s.size
        rw [ByteArray.size_append]; show 1001 - (_ + 1) < _; omega
    · go_ret
      exact ⟨_, rfl, ⟨by omega, hs1⟩, hs2.mono (by omega), g_then (g_alloc hgr _) hg⟩
end Go.Proofs.YtbiodbggaeglpaaGreatDoor

/- What is asked of head lines and a name; the head lines without those of a name. -/
namespace Go.Proofs.YtbiodbggaeglpaaGreatDoor
open Go.RowKit
set_option linter.unusedSimpArgs false
set_option linter.unusedVariables false

def askF (nm : ByteArray) (l : List Hd) : Int := if hdsFault l = 0 then (if wordS nm = true then 0 else 5) else hdsFault l
theorem askF_0 {nm : ByteArray} {l : List Hd} (h : askF nm l = 0) : hdsFault l = 0 ∧ wordS nm = true := by
  unfold askF at h
  split at h
  · rename_i h1
    split at h
    · rename_i h2; exact ⟨h1, h2⟩
    · cases h
  · rename_i h1; exact absurd h h1

def dropL (nm : ByteArray) (l : List Hd) : List Hd := l.filter fun h => !alikeB h.1 nm
theorem dropL_yes (nm : ByteArray) (l : List Hd) (k : Nat) (h : k < l.length) (ha : alikeB l[k].1 nm = true) : dropL nm (l.take (k + 1)) = dropL nm (l.take k) := by
  unfold dropL; rw [List.take_succ_eq_append_getElem h, List.filter_append]
  simp [ha]
theorem dropL_no (nm : ByteArray) (l : List Hd) (k : Nat) (h : k < l.length) (ha : alikeB l[k].1 nm = false) : dropL nm (l.take (k + 1)) = dropL nm (l.take k) ++ [l[k]] := by
  unfold dropL; rw [List.take_succ_eq_append_getElem h, List.filter_append]
  simp [ha]
theorem dropL_take_len (nm : ByteArray) (l : List Hd) (k : Nat) : (dropL nm (l.take k)).length ≤ k := by
  have h1 : (dropL nm (l.take k)).length ≤ (l.take k).length := List.length_filter_le _ _
  have h2 := List.length_take_le k l
  omega
theorem hV_snoc1 (l : List Hd) (h : Hd) : hV l ++ [.string h.1, .string h.2] = hV (l ++ [h]) := by simp [hV, cellsOf, hEnc]
set_option maxHeartbeats 1600000 in
theorem spec_l4Drop (nm : ByteArray) (hnm : nm.size ≤ 9223372036854775807) (a : Option Addr) (n c : Nat) (l : List Hd) (hl : l.length = n) (w : World) (hr : Rd w a (hV l)) (hn : n ≤ 100000) (hs : ∀ h ∈ l, h.1.size ≤ 9223372036854775807 ∧ h.2.size ≤ 9223372036854775807) :
    Calls Tryz.prog 45 #[.slice a n c, .string nm] w fun e w' => ∃ g cap, e = .returned (.slice (some ⟨g, 0, none⟩) (dropL nm l).length cap) ∧ w'.ownsRow w.heap.size 77 2 (.slice (some ⟨g, 0, none⟩) (dropL nm l).length cap) (dropL nm l).length (hV (dropL nm l)) ∧ Below w.heap.size w w' := by
  have Hl := Lib.hid hl
  have Hs := Lib.hid hs
  clear hl hs
  go_enter Tryz.func45, Tryz.ntmps45
  go_wp2
  go_loopw [5, 6] (fun v i wr => ∃ (k g cap : Nat), k ≤ n ∧ i = .int .i64 k ∧ v = .slice (some ⟨g, 0, none⟩) (dropL nm (l.take k)).length cap ∧ wr.ownsRow w.heap.size 77 2 v (dropL nm (l.take k)).length (hV (dropL nm (l.take k))) ∧ Below w.heap.size w wr) (fun v i _ => n - (intOf i).toNat)
  case atStart => exact ⟨0, _, _, Nat.zero_le _, rfl, rfl, World.ownsRow_lit (size := 2) (e := 77) w #[] 0 (Nat.le_refl _) (by unfold maxLen; omega) rfl, below_alloc (Below.refl _ _) _⟩
  case round =>
    obtain ⟨k, g, cap, hk, rfl, rfl, hown, hb⟩ := hrel
    have hvl := dropL_take_len nm l k
    have hbr := hb
    obtain ⟨hc, hf⟩ := bcell hb
    have hz := hb.size
    by_cases hlt : k < n
    · have hlk : k < l.length := by rw [Hl.out]; exact hlt
      obtain ⟨b, off, rfl, hbl, hc0, hc1⟩ := (hr.below hb).hdr k hlk
      have hsx := (Hs.out l[k] (List.getElem_mem hlk)).1
      have hcon := fun W => spec_l4Alike l[k].1 nm hsx hnm W
      by_cases hp : alikeB l[k].1 nm = true
      · rw [hp] at hcon
        have Hcon := Lib.hid hcon
        have Hv := Lib.hid (dropL_yes nm l k hlk hp)
        clear hcon hp
        go_wp2_with (go_at_call 76; ((with_reducible refine (Hcon.out _).mono ?_); rintro e w' ⟨rfl, hb⟩; obtain ⟨hc, hf⟩ := bcell hb; have hz := hb.size; (try simp only [World.size_alloc, World.size_setCell, World.size_drew] at hz); obtain ⟨hlt, hle, hn1, hn2, hn3, hn4⟩ := bsize hb; (try simp only [World.size_alloc, World.size_setCell, World.size_drew] at hlt hle hn1 hn2 hn3 hn4); (try have hr0 : w.heap.size < w'.heap.size := by omega); (try have hr1 : w.heap.size + 1 < w'.heap.size := by omega); (try have hs0 : wS.heap.size < w'.heap.size := by omega); (try have hs1 : wG.heap.size < w'.heap.size := by omega)))
        go_roundw
        case rel => exact ⟨k + 1, g, cap, by omega, by go_num, by rw [Hv.out], by rw [Hv.out]; exact own_below hown (by exact (by first | (with_reducible exact Below.refl _ _) | ((repeat' (first | (with_reducible exact Below.refl _ _) | (with_reducible assumption) | (with_reducible refine below_alloc ?_ _) | (with_reducible refine Below.drew ?_) | (with_reducible refine below_drewN ?_ _) | (with_reducible refine Below.setCell ?_ ?_ _) | refine below_then ?_ (by with_reducible assumption))) <;> (first | omega | (simp; done) | (simp; omega))))) (Nat.le_refl _), by exact (by first | (with_reducible exact Below.refl _ _) | ((repeat' (first | (with_reducible exact Below.refl _ _) | (with_reducible assumption) | (with_reducible refine below_alloc ?_ _) | (with_reducible refine Below.drew ?_) | (with_reducible refine below_drewN ?_ _) | (with_reducible refine Below.setCell ?_ ?_ _) | refine below_then ?_ (by with_reducible assumption))) <;> (first | omega | (simp; done) | (simp; omega))))⟩
        case measure => simp [intOf]; omega
      · simp only [Bool.not_eq_true] at hp
        rw [hp] at hcon
        have Hcon := Lib.hid hcon
        have Hv := Lib.hid (dropL_no nm l k hlk hp)
        clear hcon hp
        go_wp2_with (first | (go_at_call 76; ((with_reducible refine (Hcon.out _).mono ?_); rintro e w' ⟨rfl, hb⟩; obtain ⟨hc, hf⟩ := bcell hb; have hz := hb.size; (try simp only [World.size_alloc, World.size_setCell, World.size_drew] at hz); obtain ⟨hlt, hle, hn1, hn2, hn3, hn4⟩ := bsize hb; (try simp only [World.size_alloc, World.size_setCell, World.size_drew] at hlt hle hn1 hn2 hn3 hn4); (try have hr0 : w.heap.size < w'.heap.size := by omega); (try have hr1 : w.heap.size + 1 < w'.heap.size := by omega); (try have hs0 : wS.heap.size < w'.heap.size := by omega); (try have hs1 : wG.heap.size < w'.heap.size := by omega))) | (at_builtin; refine app1 rfl _ _ 25 rfl Tryz.underlying25 infoHdr rfl (by decide) (own_below hown (by exact (by first | (with_reducible exact Below.refl _ _) | ((repeat' (first | (with_reducible exact Below.refl _ _) | (with_reducible assumption) | (with_reducible refine below_alloc ?_ _) | (with_reducible refine Below.drew ?_) | (with_reducible refine below_drewN ?_ _) | (with_reducible refine Below.setCell ?_ ?_ _) | refine below_then ?_ (by with_reducible assumption))) <;> (first | omega | (simp; done) | (simp; omega))))) (Nat.le_refl _)) (by exact (by first | (with_reducible exact Below.refl _ _) | ((repeat' (first | (with_reducible exact Below.refl _ _) | (with_reducible assumption) | (with_reducible refine below_alloc ?_ _) | (with_reducible refine Below.drew ?_) | (with_reducible refine below_drewN ?_ _) | (with_reducible refine Below.setCell ?_ ?_ _) | refine below_then ?_ (by with_reducible assumption))) <;> (first | omega | (simp; done) | (simp; omega))))) rfl rfl rfl (by intro u hu; simp at hu; rcases hu with rfl | rfl <;> rfl) (by omega) (by unfold maxLen; omega) ?_; intro v1 w1 hown1 hb1 _ _; obtain ⟨g1, cap1, rfl, hg1, hrow1⟩ := own_shape hown1))
        go_roundw
        case rel => exact ⟨k + 1, g1, cap1, by omega, by go_num, by rw [Hv.out, List.length_append, List.length_singleton], own_cast hown1 (by rw [Hv.out, List.length_append, List.length_singleton]) (by rw [Hv.out, hV_snoc1]), hb1⟩
        case measure => simp [intOf]; omega
    · have hk' : k = n := by omega
      have et : l.take k = l := List.take_of_length_le (by have := Hl.out; omega)
      have Et := Lib.hid et
      clear et
      rw [Et.out] at hown
      go_wp2
      go_ret
      exact ⟨g, cap, by rw [Et.out]; rfl, hown, hb⟩
set_option maxHeartbeats 1600000 in
theorem impl_dropHeader (nm : ByteArray) (hnm : nm.size ≤ 9223372036854775807) (a : Option Addr) (n c : Nat) (l : List Hd) (hl : l.length = n) (w : World) (hr : Rd w a (hV l)) (hn : n ≤ 100000) (hs : ∀ h ∈ l, h.1.size ≤ 9223372036854775807 ∧ h.2.size ≤ 9223372036854775807) :
    Calls Tryz.prog 34 #[.slice a n c, .string nm] w fun e w' => ∃ g cap, e = .returned (.slice (some ⟨g, 0, none⟩) (dropL nm l).length cap) ∧ w'.ownsRow w.heap.size 77 2 (.slice (some ⟨g, 0, none⟩) (dropL nm l).length cap) (dropL nm l).length (hV (dropL nm l)) ∧ Below w.heap.size w w' := by
  have Hl := Lib.hid hl
  have Hs := Lib.hid hs
  clear hl hs
  go_enter Tryz.func34, Tryz.ntmps34
  go_wp2
  go_loopw [5, 11] (fun v i wr => ∃ (k g cap : Nat), k ≤ n ∧ i = .int .i64 k ∧ v = .slice (some ⟨g, 0, none⟩) (dropL nm (l.take k)).length cap ∧ wr.ownsRow w.heap.size 77 2 v (dropL nm (l.take k)).length (hV (dropL nm (l.take k))) ∧ Below w.heap.size w wr) (fun v i _ => n - (intOf i).toNat)
  case atStart => exact ⟨0, _, _, Nat.zero_le _, rfl, rfl, World.ownsRow_lit (size := 2) (e := 77) w #[] 0 (Nat.le_refl _) (by unfold maxLen; omega) rfl, below_alloc (Below.refl _ _) _⟩
  case round =>
    obtain ⟨k, g, cap, hk, rfl, rfl, hown, hb⟩ := hrel
    have hvl := dropL_take_len nm l k
    have hbr := hb
    obtain ⟨hc, hf⟩ := bcell hb
    have hz := hb.size
    by_cases hlt : k < n
    · have hlk : k < l.length := by rw [Hl.out]; exact hlt
      obtain ⟨b, off, rfl, hbl, hc0, hc1⟩ := (hr.below hb).hdr k hlk
      have hsx := (Hs.out l[k] (List.getElem_mem hlk)).1
      have hcon := fun W => impl_alike l[k].1 nm hsx hnm W
      by_cases hp : alikeB l[k].1 nm = true
      · rw [hp] at hcon
        have Hcon := Lib.hid hcon
        have Hv := Lib.hid (dropL_yes nm l k hlk hp)
        clear hcon hp
        go_wp2_with (go_at_call 70; ((with_reducible refine (Hcon.out _).mono ?_); rintro e w' ⟨rfl, hb⟩; obtain ⟨hc, hf⟩ := bcell hb; have hz := hb.size; (try simp only [World.size_alloc, World.size_setCell, World.size_drew] at hz); obtain ⟨hlt, hle, hn1, hn2, hn3, hn4⟩ := bsize hb; (try simp only [World.size_alloc, World.size_setCell, World.size_drew] at hlt hle hn1 hn2 hn3 hn4); (try have hr0 : w.heap.size < w'.heap.size := by omega); (try have hr1 : w.heap.size + 1 < w'.heap.size := by omega); (try have hs0 : wS.heap.size < w'.heap.size := by omega); (try have hs1 : wG.heap.size < w'.heap.size := by omega)))
        go_roundw
        case rel => exact ⟨k + 1, g, cap, by omega, by go_num, by rw [Hv.out], by rw [Hv.out]; exact own_below hown (by exact (by first | (with_reducible exact Below.refl _ _) | ((repeat' (first | (with_reducible exact Below.refl _ _) | (with_reducible assumption) | (with_reducible refine below_alloc ?_ _) | (with_reducible refine Below.drew ?_) | (with_reducible refine below_drewN ?_ _) | (with_reducible refine Below.setCell ?_ ?_ _) | refine below_then ?_ (by with_reducible assumption))) <;> (first | omega | (simp; done) | (simp; omega))))) (Nat.le_refl _), by exact (by first | (with_reducible exact Below.refl _ _) | ((repeat' (first | (with_reducible exact Below.refl _ _) | (with_reducible assumption) | (with_reducible refine below_alloc ?_ _) | (with_reducible refine Below.drew ?_) | (with_reducible refine below_drewN ?_ _) | (with_reducible refine Below.setCell ?_ ?_ _) | refine below_then ?_ (by with_reducible assumption))) <;> (first | omega | (simp; done) | (simp; omega))))⟩
        case measure => simp [intOf]; omega
      · simp only [Bool.not_eq_true] at hp
        rw [hp] at hcon
        have Hcon := Lib.hid hcon
        have Hv := Lib.hid (dropL_no nm l k hlk hp)
        clear hcon hp
        go_wp2_with (first | (go_at_call 70; ((with_reducible refine (Hcon.out _).mono ?_); rintro e w' ⟨rfl, hb⟩; obtain ⟨hc, hf⟩ := bcell hb; have hz := hb.size; (try simp only [World.size_alloc, World.size_setCell, World.size_drew] at hz); obtain ⟨hlt, hle, hn1, hn2, hn3, hn4⟩ := bsize hb; (try simp only [World.size_alloc, World.size_setCell, World.size_drew] at hlt hle hn1 hn2 hn3 hn4); (try have hr0 : w.heap.size < w'.heap.size := by omega); (try have hr1 : w.heap.size + 1 < w'.heap.size := by omega); (try have hs0 : wS.heap.size < w'.heap.size := by omega); (try have hs1 : wG.heap.size < w'.heap.size := by omega))) | (at_builtin; refine app1 rfl _ _ 25 rfl Tryz.underlying25 infoHdr rfl (by decide) (own_below hown (by exact (by first | (with_reducible exact Below.refl _ _) | ((repeat' (first | (with_reducible exact Below.refl _ _) | (with_reducible assumption) | (with_reducible refine below_alloc ?_ _) | (with_reducible refine Below.drew ?_) | (with_reducible refine below_drewN ?_ _) | (with_reducible refine Below.setCell ?_ ?_ _) | refine below_then ?_ (by with_reducible assumption))) <;> (first | omega | (simp; done) | (simp; omega))))) (Nat.le_refl _)) (by exact (by first | (with_reducible exact Below.refl _ _) | ((repeat' (first | (with_reducible exact Below.refl _ _) | (with_reducible assumption) | (with_reducible refine below_alloc ?_ _) | (with_reducible refine Below.drew ?_) | (with_reducible refine below_drewN ?_ _) | (with_reducible refine Below.setCell ?_ ?_ _) | refine below_then ?_ (by with_reducible assumption))) <;> (first | omega | (simp; done) | (simp; omega))))) rfl rfl rfl (by intro u hu; simp at hu; rcases hu with rfl | rfl <;> rfl) (by omega) (by unfold maxLen; omega) ?_; intro v1 w1 hown1 hb1 _ _; obtain ⟨g1, cap1, rfl, hg1, hrow1⟩ := own_shape hown1))
        go_roundw
        case rel => exact ⟨k + 1, g1, cap1, by omega, by go_num, by rw [Hv.out, List.length_append, List.length_singleton], own_cast hown1 (by rw [Hv.out, List.length_append, List.length_singleton]) (by rw [Hv.out, hV_snoc1]), hb1⟩
        case measure => simp [intOf]; omega
    · have hk' : k = n := by omega
      have et : l.take k = l := List.take_of_length_le (by have := Hl.out; omega)
      have Et := Lib.hid et
      clear et
      rw [Et.out] at hown
      go_wp2
      go_ret
      exact ⟨g, cap, by rw [Et.out]; rfl, hown, hb⟩
end Go.Proofs.YtbiodbggaeglpaaGreatDoor

/- Plain words: a head line set among others. No program in sight. -/
namespace Go.Proofs.YtbiodbggaeglpaaGreatDoor
open Go.RowKit

/-- One line of the name, at the place of the first; the others of it left out. -/
def putG {α : Type} (p : α → Bool) (x : α) : List α → List α
  | [] => []
  | h :: t => if p h = true then x :: t.filter (fun h => !p h) else h :: putG p x t
theorem putG_none {α : Type} {p : α → Bool} {x : α} : ∀ {l : List α}, l.any p = false → putG p x l = l
  | [], _ => rfl
  | h :: t, hn => by
    simp only [List.any_cons, Bool.or_eq_false_iff] at hn
    rw [putG, if_neg (by rw [hn.1]; simp), putG_none hn.2]
theorem putG_no {α : Type} {p : α → Bool} {x y : α} (hy : p y = false) : ∀ (l : List α), putG p x (l ++ [y]) = putG p x l ++ [y]
  | [] => by simp [putG, hy]
  | h :: t => by
    by_cases hh : p h = true
    · simp [putG, hh, hy]
    · rw [List.cons_append, putG, putG, if_neg hh, if_neg hh, putG_no hy t, List.cons_append]
theorem putG_first {α : Type} {p : α → Bool} {x y : α} (hy : p y = true) : ∀ (l : List α), l.any p = false → putG p x (l ++ [y]) = putG p x l ++ [x]
  | [], _ => by simp [putG, hy]
  | h :: t, hn => by
    simp only [List.any_cons, Bool.or_eq_false_iff] at hn
    rw [List.cons_append, putG, putG, if_neg (by rw [hn.1]; simp), if_neg (by rw [hn.1]; simp), putG_first hy t hn.2, List.cons_append]
theorem putG_more {α : Type} {p : α → Bool} {x y : α} (hy : p y = true) : ∀ (l : List α), l.any p = true → putG p x (l ++ [y]) = putG p x l
  | [], hn => by simp at hn
  | h :: t, hn => by
    by_cases hh : p h = true
    · simp [putG, hh, hy]
    · simp only [List.any_cons, hh, Bool.false_or] at hn
      rw [List.cons_append, putG, putG, if_neg hh, if_neg hh, putG_more hy t hn]
theorem putG_at {α : Type} {p : α → Bool} {x : α} : ∀ {l : List α} {i : Nat}, l.findIdx? p = some i → i ≤ (l.filter fun h => !p h).length ∧ putG p x l = (l.filter fun h => !p h).take i ++ x :: (l.filter fun h => !p h).drop i
  | [], i, h => by simp at h
  | h :: t, i, hi => by
    rw [List.findIdx?_cons] at hi
    by_cases hh : p h = true
    · rw [if_pos hh] at hi
      obtain rfl := Option.some.inj hi
      refine ⟨Nat.zero_le _, ?_⟩
      simp [putG, hh]
    · rw [if_neg hh] at hi
      cases ht : t.findIdx? p with
      | none => rw [ht] at hi; cases hi
      | some j =>
        rw [ht] at hi
        obtain rfl := Option.some.inj hi
        obtain ⟨h1, h2⟩ := putG_at (x := x) ht
        have e : (h :: t).filter (fun h => !p h) = h :: t.filter (fun h => !p h) := by simp [hh]
        rw [e]
        refine ⟨by simpa using h1, ?_⟩
        rw [putG, if_neg hh, h2]
        simp
def setL (nm vl : ByteArray) (l : List Hd) : List Hd := if l.any (fun h => alikeB h.1 nm) = true then putG (fun h => alikeB h.1 nm) (nm, vl) l else l ++ [(nm, vl)]
/-- As the reader of one line after the other has it. -/
def setGo (nm vl : ByteArray) (l : List Hd) : List Hd := putG (fun h => alikeB h.1 nm) (nm, vl) l
def setAny (nm : ByteArray) (l : List Hd) : Bool := l.any fun h => alikeB h.1 nm
theorem any_snoc {α : Type} (p : α → Bool) (l : List α) (y : α) : (l ++ [y]).any p = (l.any p || p y) := by rw [List.any_append]; simp
theorem setAny_snoc (nm : ByteArray) (l : List Hd) (y : Hd) : setAny nm (l ++ [y]) = (setAny nm l || alikeB y.1 nm) := any_snoc _ l y
theorem setGo_no (nm vl : ByteArray) (l : List Hd) (k : Nat) (h : k < l.length) (ha : alikeB l[k].1 nm = false) : setGo nm vl (l.take (k + 1)) = setGo nm vl (l.take k) ++ [l[k]] ∧ setAny nm (l.take (k + 1)) = setAny nm (l.take k) := by
  rw [List.take_succ_eq_append_getElem h]
  exact ⟨putG_no (p := fun h : Hd => alikeB h.1 nm) ha _, by rw [setAny_snoc, ha, Bool.or_false]⟩
theorem setGo_first (nm vl : ByteArray) (l : List Hd) (k : Nat) (h : k < l.length) (ha : alikeB l[k].1 nm = true) (hn : setAny nm (l.take k) = false) : setGo nm vl (l.take (k + 1)) = setGo nm vl (l.take k) ++ [(nm, vl)] ∧ setAny nm (l.take (k + 1)) = true := by
  rw [List.take_succ_eq_append_getElem h]
  exact ⟨putG_first (p := fun h : Hd => alikeB h.1 nm) ha _ hn, by rw [setAny_snoc, ha, Bool.or_true]⟩
theorem setGo_more (nm vl : ByteArray) (l : List Hd) (k : Nat) (h : k < l.length) (ha : alikeB l[k].1 nm = true) (hn : setAny nm (l.take k) = true) : setGo nm vl (l.take (k + 1)) = setGo nm vl (l.take k) ∧ setAny nm (l.take (k + 1)) = true := by
  rw [List.take_succ_eq_append_getElem h]
  exact ⟨putG_more (p := fun h : Hd => alikeB h.1 nm) ha _ hn, by rw [setAny_snoc, ha, Bool.or_true]⟩
theorem setL_yes {nm vl : ByteArray} {l : List Hd} (h : setAny nm l = true) : setL nm vl l = setGo nm vl l := if_pos h
theorem setL_no {nm vl : ByteArray} {l : List Hd} (h : setAny nm l = false) : setL nm vl l = setGo nm vl l ++ [(nm, vl)] := by
  have e : setGo nm vl l = l := putG_none h
  have hn : ¬ l.any (fun h => alikeB h.1 nm) = true := by
    intro q
    have h' : l.any (fun h => alikeB h.1 nm) = false := h
    rw [h'] at q; cases q
  rw [e, setL, if_neg hn]
theorem setGo_len (nm vl : ByteArray) (l : List Hd) : (setGo nm vl l).length ≤ l.length := by
  unfold setGo
  induction l with
  | nil => exact Nat.le_refl _
  | cons h t ih =>
    unfold putG
    split
    · simp only [List.length_cons]
      have := List.length_filter_le (fun h : Hd => !alikeB h.1 nm) t
      omega
    · simp only [List.length_cons]; omega
theorem setGo_take_len (nm vl : ByteArray) (l : List Hd) (k : Nat) : (setGo nm vl (l.take k)).length ≤ k := by
  have h1 := setGo_len nm vl (l.take k)
  have h2 := List.length_take_le k l
  omega
theorem setL_len (nm vl : ByteArray) (l : List Hd) : (setL nm vl l).length ≤ l.length + 1 := by
  by_cases h : setAny nm l = true
  · rw [setL_yes h]; have := setGo_len nm vl l; omega
  · simp only [Bool.not_eq_true] at h
    rw [setL_no h, List.length_append]
    have := setGo_len nm vl l
    simp only [List.length_cons, List.length_nil]; omega
/-- As the program has it: the place of the first, the others left out, and the line put in. -/
theorem setL_ins {nm vl : ByteArray} {l : List Hd} {i : Nat} (h : idxI (fun h => alikeB h.1 nm) l = (i : Int)) : i ≤ (dropL nm l).length ∧ setL nm vl l = (dropL nm l).take i ++ (nm, vl) :: (dropL nm l).drop i := by
  unfold idxI at h
  cases hf : l.findIdx? (fun h => alikeB h.1 nm) with
  | none => rw [hf] at h; simp only at h; omega
  | some j =>
    rw [hf] at h
    obtain rfl : j = i := by simp only at h; omega
    have ha : setAny nm l = true := by
      obtain ⟨h1, h2, _⟩ := List.findIdx?_eq_some_iff_getElem.1 hf
      exact List.any_eq_true.2 ⟨_, List.getElem_mem h1, h2⟩
    rw [setL_yes ha]
    exact putG_at (x := (nm, vl)) hf
theorem setL_end {nm vl : ByteArray} {l : List Hd} (h : idxI (fun h => alikeB h.1 nm) l < 0) : setL nm vl l = dropL nm l ++ [(nm, vl)] := by
  unfold idxI at h
  cases hf : l.findIdx? (fun h => alikeB h.1 nm) with
  | some j => rw [hf] at h; simp only at h; omega
  | none =>
    have hn := List.findIdx?_eq_none_iff.1 hf
    have ha : setAny nm l = false := by
      unfold setAny
      rw [Bool.eq_false_iff]
      intro q
      obtain ⟨x, hx, hp⟩ := List.any_eq_true.1 q
      rw [hn x hx] at hp; cases hp
    rw [setL_no ha]
    have e : setGo nm vl l = l := putG_none ha
    have e2 : dropL nm l = l := List.filter_eq_self.2 fun x hx => by simp [hn x hx]
    rw [e, e2]
def setR (nm vl : ByteArray) (l : List Hd) : Int × List Hd :=
  if askF nm l = 0 then (if hdFault (nm, vl) = 0 then (if 20 < (setL nm vl l).length then (2, []) else (0, setL nm vl l)) else (hdFault (nm, vl), [])) else (askF nm l, [])
theorem setR_20 (nm vl : ByteArray) (l : List Hd) : (setR nm vl l).2.length ≤ 20 := by
  unfold setR
  split
  · split
    · split
      · exact Nat.zero_le _
      · simp only; omega
    · exact Nat.zero_le _
  · exact Nat.zero_le _
theorem hV_ins (l m : List Hd) (x : Hd) : hV (l ++ x :: m) = hV l ++ ([.string x.1, .string x.2] ++ hV m) := by simp [hV, cellsOf, hEnc]
theorem hV_app (l m : List Hd) : hV (l ++ m) = hV l ++ hV m := by simp [hV, cellsOf]
theorem hV_take (l : List Hd) (i : Nat) : hV (l.take i) = (hV l).take (i * 2) := by
  induction l generalizing i with
  | nil => simp [hV, cellsOf]
  | cons h t ih =>
    cases i with
    | zero => simp [hV, cellsOf]
    | succ i =>
      have e : hV (h :: t) = .string h.1 :: .string h.2 :: hV t := rfl
      have e2 : hV ((h :: t).take (i + 1)) = .string h.1 :: .string h.2 :: hV (t.take i) := rfl
      rw [e2, e, ih, show (i + 1) * 2 = i * 2 + 1 + 1 from by omega, List.take_succ_cons, List.take_succ_cons]
theorem hV_drop (l : List Hd) (i : Nat) : hV (l.drop i) = (hV l).drop (i * 2) := by
  induction l generalizing i with
  | nil => simp [hV, cellsOf]
  | cons h t ih =>
    cases i with
    | zero => simp [hV, cellsOf]
    | succ i =>
      have e : hV (h :: t) = .string h.1 :: .string h.2 :: hV t := rfl
      rw [List.drop_succ_cons, ih, e, show (i + 1) * 2 = i * 2 + 1 + 1 from by omega, List.drop_succ_cons, List.drop_succ_cons]
end Go.Proofs.YtbiodbggaeglpaaGreatDoor

/- A slice of bytes, opened. -/
namespace Go.Proofs.YtbiodbggaeglpaaGreatDoor
open Go.ChangeShapes Go.WideShapes Go.Deep Go.Joins Go.RowKit
variable {H : Type} {enc : TypeId × Value → H} {P : Program} {w : World} {base : Nat} {spare : Nat → Bool} {held : Bool}
theorem open_bytesR {t e : TypeId} {fuel : Nat} {v : Value} {x : DataW H × List MemPlace} (ht : P.underlying t = some (.slice e)) (he : P.underlying e = some (.int .u8)) (hC : P.cellsOf e = 1) (h : DataW.trod enc P w base spare held fuel t [v] = some x) :
    ∃ (a : Option Addr) (n cap : Nat) (l : List UInt8), v = .slice a n cap ∧ l.length = n ∧ Rd w a (bV l) ∧ n ≤ 9223372036854775807 := by
  obtain ⟨a, n, cap, rfl, hn, hor⟩ := open_cells1 ht hC h
  rcases hor with rfl | ⟨b, off, rfl, hb, hc⟩
  · exact ⟨a, 0, cap, [], rfl, rfl, Rd.nil _ _, hn⟩
  · obtain ⟨l, hl, hp⟩ := list_of (P := fun i (s : UInt8) => w.cell? ⟨b, off + i, none⟩ = some (.int .u8 (s.toNat : Int))) n fun i hi => by
      obtain ⟨u, y, m, hu, hy⟩ := hc i hi
      obtain ⟨s, e1, _, e3⟩ := DataW.trod_int he hy
      cases e1
      have hs : 0 ≤ s ∧ s ≤ 255 := by
        simp [Lit.wf, IntKind.min, IntKind.max] at e3
        obtain ⟨q1, q2⟩ := e3
        constructor
        · have := q1; simp [IntKind.signed] at this; omega
        · have := q2; simp [IntKind.signed, IntKind.bits] at this; omega
      refine ⟨UInt8.ofNat s.toNat, ?_⟩
      rw [hu]
      congr 2
      simp only [UInt8.toNat_ofNat']
      omega
    refine ⟨_, n, cap, l, rfl, hl, fun j v hv => ?_, hn⟩
    unfold bV at hv
    rw [List.getElem?_map] at hv
    obtain ⟨s, hs, rfl⟩ := Option.map_eq_some_iff.1 hv
    exact ⟨b, off, rfl, hb, hp j s hs⟩
end Go.Proofs.YtbiodbggaeglpaaGreatDoor

/- Plain words: the head lines that a text tells. No program in sight. -/
namespace Go.Proofs.YtbiodbggaeglpaaGreatDoor
open Go.RowKit

def ba (l : List UInt8) : ByteArray := ⟨l.toArray⟩
theorem ba_list (l : List UInt8) : (ba l).data.toList = l := by simp [ba]
theorem ba_size (l : List UInt8) : (ba l).size = l.length := by simp [ba, ByteArray.size]
theorem ba_of (s : ByteArray) : ba s.data.toList = s := by apply ByteArray.ext; simp [ba]
theorem map_ba (l : List (List UInt8)) : (l.map ba).map (·.data.toList) = l := by
  rw [List.map_map]
  exact (List.map_congr_left fun x _ => ba_list x).trans (List.map_id _)
/-- The ended lines of a text, and what stands behind the last of them. -/
def linesB (t : ByteArray) : List ByteArray := (linesGo [] t.data.toList).1.map ba
def linesE (t : ByteArray) : List UInt8 := (linesGo [] t.data.toList).2
theorem linesB_split (t : ByteArray) : (linesB t ++ [ba (linesE t)]).map (·.data.toList) = Lib.split t.data.toList [13, 10] := by
  rw [← linesGo_eq, List.map_append, linesB, linesE, map_ba]
  simp [ba]
/-- The head line of a line. -/
def hdOf (s : ByteArray) : Option Hd := if (Lib.cut s.data.toList [58]).2.2 = true then some (ba (Lib.cut s.data.toList [58]).1, trimT (ba (Lib.cut s.data.toList [58]).2.1)) else none
theorem hdOf_at {s : ByteArray} {i : Nat} (hi : i < s.size) (hc : s[i] = 58) (hn : ∀ j (hj : j < s.size), j < i → s[j] ≠ 58) : hdOf s = some (ba (s.data.toList.take i), trimT (ba (s.data.toList.drop (i + 1)))) := by
  have e := cut_at (s := s.data.toList) (c := 58) (i := i) (by rw [Array.length_toList]; exact hi) (by rw [Array.getElem_toList]; exact hc) (fun j hj => by
    have hjs : j < s.size := by omega
    rw [Array.getElem_toList]; exact hn j hjs hj)
  unfold hdOf
  rw [e, if_pos rfl]
theorem hdOf_none {s : ByteArray} (hn : ∀ j (hj : j < s.size), s[j] ≠ 58) : hdOf s = none := by
  have e := cut_none (s := s.data.toList) (c := 58) (fun j hj => by
    rw [Array.length_toList] at hj
    rw [Array.getElem_toList]; exact hn j hj)
  unfold hdOf
  rw [e, if_neg (by simp)]
theorem readAll_succ {α β : Type} {f : α → Option β} {l : List α} {k : Nat} {r : List β} {x : β} (h : (l.take k).mapM f = some r) (hk : k < l.length) (hx : f l[k] = some x) : (l.take (k + 1)).mapM f = some (r ++ [x]) := by
  rw [List.take_succ_eq_append_getElem hk, List.mapM_append, h]
  simp [hx]
theorem readAll_none {α β : Type} {f : α → Option β} {l : List α} {k : Nat} (hk : k < l.length) (hx : f l[k] = none) {r : List β} (h : (l.take k).mapM f = some r) : l.mapM f = none := by
  have e : l.take k ++ l[k] :: l.drop (k + 1) = l := by rw [← List.drop_eq_getElem_cons hk, List.take_append_drop]
  have e2 : (l.take k ++ l[k] :: l.drop (k + 1)).mapM f = none := by rw [List.mapM_append, h, List.mapM_cons, hx]; rfl
  rw [e] at e2
  exact e2
theorem readAll_len {α β : Type} {f : α → Option β} : ∀ {l : List α} {r : List β}, l.mapM f = some r → r.length = l.length
  | [], r, h => by simp at h; subst h; rfl
  | x :: l, r, h => by
    rw [List.mapM_cons] at h
    cases hx : f x with
    | none => simp [hx] at h
    | some y =>
      cases hl : l.mapM f with
      | none => simp [hx, hl] at h
      | some q =>
        simp [hx, hl] at h
        subst h
        simp [readAll_len hl]
theorem readAll_take_len {α β : Type} {f : α → Option β} {l : List α} {k : Nat} {r : List β} (h : (l.take k).mapM f = some r) (hk : k ≤ l.length) : r.length = k := by
  rw [readAll_len h, List.length_take]; omega
/-- What is read of a text. -/
def readR (t : ByteArray) : Int × List Hd :=
  if 6000 < t.size then (2, []) else if linesE t ≠ [] then (5, []) else
    match (linesB t).mapM hdOf with
    | none => (5, [])
    | some l => if hdsFault l = 0 then (0, l) else (hdsFault l, [])
theorem linesGo_len : ∀ (s cur : List UInt8), (linesGo cur s).1.length ≤ s.length
  | [], cur => by simp [linesGo]
  | [b], cur => by simp [linesGo]
  | b :: c :: r, cur => by
    unfold linesGo
    split
    · have := linesGo_len r []
      simp only [List.length_cons]; omega
    · have := linesGo_len (c :: r) (cur ++ [b])
      simp only [List.length_cons] at this ⊢; omega
termination_by s => s.length
theorem linesGo_mem : ∀ (s cur : List UInt8), ∀ x ∈ (linesGo cur s).1, x.length ≤ cur.length + s.length
  | [], cur => by simp [linesGo]
  | [b], cur => by simp [linesGo]
  | b :: c :: r, cur => by
    intro x hx
    unfold linesGo at hx
    split at hx
    · rcases List.mem_cons.1 hx with rfl | hx
      · simp only [List.length_cons]; omega
      · have := linesGo_mem r [] x hx
        simp only [List.length_cons, List.length_nil] at this ⊢; omega
    · have := linesGo_mem (c :: r) (cur ++ [b]) x hx
      simp only [List.length_cons, List.length_append, List.length_nil] at this ⊢; omega
termination_by s => s.length
theorem linesB_len (t : ByteArray) : (linesB t).length ≤ t.size := by
  have := linesGo_len t.data.toList []
  rw [Array.length_toList] at this
  rw [linesB, List.length_map]; exact this
theorem linesB_mem (t : ByteArray) : ∀ x ∈ linesB t, x.size ≤ t.size := by
  intro x hx
  obtain ⟨y, hy, rfl⟩ := List.mem_map.1 hx
  have := linesGo_mem t.data.toList [] y hy
  simp only [Array.length_toList, List.length_nil] at this
  rw [ba_size]
  have e : t.data.size = t.size := rfl
  omega
theorem linesE_nil (t : ByteArray) : linesE t = [] ↔ t.data.toList = [] ∨ [13, 10] <:+ t.data.toList := by
  unfold linesE; rw [linesGo_end]; simp
theorem linesGo_step {s cur : List UInt8} {i : Nat} (h : i + 1 < s.length) (hne : ¬ (s[i] = 13 ∧ s[i + 1] = 10)) : linesGo cur (s.drop i) = linesGo (cur ++ [s[i]]) (s.drop (i + 1)) := by
  rw [List.drop_eq_getElem_cons (by omega : i < s.length), List.drop_eq_getElem_cons h]
  conv => lhs; unfold linesGo
  rw [if_neg hne]
theorem linesGo_line {s cur : List UInt8} {i : Nat} (h : i + 1 < s.length) (h1 : s[i] = 13) (h2 : s[i + 1] = 10) : linesGo cur (s.drop i) = (cur :: (linesGo [] (s.drop (i + 2))).1, (linesGo [] (s.drop (i + 2))).2) := by
  rw [List.drop_eq_getElem_cons (by omega : i < s.length), List.drop_eq_getElem_cons h]
  conv => lhs; unfold linesGo
  rw [if_pos ⟨h1, h2⟩]
theorem linesGo_stop {s cur : List UInt8} {i : Nat} (h : ¬ i + 1 < s.length) : linesGo cur (s.drop i) = ([], cur ++ s.drop i) := by
  by_cases hi : i < s.length
  · rw [List.drop_eq_getElem_cons hi, List.drop_of_length_le (by omega)]
    simp [linesGo]
  · rw [List.drop_of_length_le (by omega)]
    simp [linesGo]
/-- Where a reader of lines stands: at i, the line begun at f, the lines done. -/
def LinesAt (t : ByteArray) (f i : Nat) (done : List ByteArray) : Prop :=
  f ≤ i ∧ i ≤ t.size ∧ linesB t = done ++ (linesGo ((t.data.toList.take i).drop f) (t.data.toList.drop i)).1.map ba ∧ linesE t = (linesGo ((t.data.toList.take i).drop f) (t.data.toList.drop i)).2
theorem LinesAt.start (t : ByteArray) : LinesAt t 0 0 [] := ⟨Nat.le_refl _, Nat.zero_le _, by simp [linesB], by simp [linesE]⟩
theorem take_drop_snoc {s : List UInt8} {f i : Nat} (h : i < s.length) (hf : f ≤ i) : (s.take (i + 1)).drop f = (s.take i).drop f ++ [s[i]] := by
  rw [List.take_succ_eq_append_getElem h, List.drop_append_of_le_length (by rw [List.length_take]; omega)]
theorem LinesAt.step {t : ByteArray} {f i : Nat} {done : List ByteArray} (h : LinesAt t f i done) (hi : i + 1 < t.size) (hne : ¬ (t[i] = 13 ∧ t[i + 1] = 10)) : LinesAt t f (i + 1) done := by
  obtain ⟨h1, h2, h3, h4⟩ := h
  have hl : i + 1 < t.data.toList.length := by rw [Array.length_toList]; exact hi
  have hne' : ¬ (t.data.toList[i] = 13 ∧ t.data.toList[i + 1] = 10) := by rw [Array.getElem_toList, Array.getElem_toList]; exact hne
  rw [linesGo_step hl hne', ← take_drop_snoc (by omega) h1] at h3 h4
  exact ⟨by omega, by omega, h3, h4⟩
theorem LinesAt.line {t : ByteArray} {f i : Nat} {done : List ByteArray} (h : LinesAt t f i done) (hi : i + 1 < t.size) (e1 : t[i] = 13) (e2 : t[i + 1] = 10) : LinesAt t (i + 2) (i + 2) (done ++ [ba ((t.data.toList.take i).drop f)]) := by
  obtain ⟨h1, h2, h3, h4⟩ := h
  have hl : i + 1 < t.data.toList.length := by rw [Array.length_toList]; exact hi
  rw [linesGo_line hl (by rw [Array.getElem_toList]; exact e1) (by rw [Array.getElem_toList]; exact e2)] at h3 h4
  refine ⟨Nat.le_refl _, by omega, ?_, ?_⟩
  · rw [h3, List.drop_take_self]; simp
  · rw [h4, List.drop_take_self]
theorem LinesAt.stop {t : ByteArray} {f i : Nat} {done : List ByteArray} (h : LinesAt t f i done) (hi : ¬ i + 1 < t.size) : linesB t = done ∧ (linesE t = [] ↔ f = t.size) := by
  obtain ⟨h1, h2, h3, h4⟩ := h
  have hl : ¬ i + 1 < t.data.toList.length := by rw [Array.length_toList]; exact hi
  rw [linesGo_stop hl] at h3 h4
  refine ⟨by simpa using h3, ?_⟩
  have e : (t.data.toList.take i).drop f ++ t.data.toList.drop i = t.data.toList.drop f := by
    conv => rhs; rw [← List.take_append_drop i t.data.toList]
    rw [List.drop_append_of_le_length (by rw [List.length_take, Array.length_toList]; have e : t.data.size = t.size := rfl; omega)]
  simp only [] at h4
  rw [e] at h4
  rw [h4, List.drop_eq_nil_iff, Array.length_toList]
  have e2 : t.data.size = t.size := rfl
  omega
end Go.Proofs.YtbiodbggaeglpaaGreatDoor

/- The library's texts cut and split: the contracts of the shelf, where the library's variable MaxLen holds a number. -/
namespace Go.Proofs.YtbiodbggaeglpaaGreatDoor
open Go.RowKit
set_option linter.unusedVariables false

def MaxL (w : World) : Prop := ∃ m : Int, w.cell? ⟨0, 0, none⟩ = some (.int .i64 m)
theorem MaxL.then {w w' : World} (h : MaxL w) (hb : Below w.heap.size w w') : MaxL w' := by
  obtain ⟨m, hm⟩ := h
  exact ⟨m, (hb.cell (p := ⟨0, 0, none⟩) (World.block_lt_of_cell? w _ hm)).trans hm⟩
theorem MaxL.of_shape {w : World} (h : w.ShapedOpen Tryz.prog) : MaxL w := Tryz.laysM145.s1_3 w h
theorem below_drewN' (w : World) (n : Nat) : Below w.heap.size w (w.drewN n) := below_drewN (Below.refl _ _) n
theorem strings_Cut (s sep : ByteArray) (hs : s.size ≤ 100000000) (w : World) (hm : MaxL w) :
    Calls Tryz.prog 29 #[.string s, .string sep] w fun e w' => e = .returned (.tuple #[.string (ba (Lib.cut s.data.toList sep.data.toList).1), .string (ba (Lib.cut s.data.toList sep.data.toList).2.1), .bool (Lib.cut s.data.toList sep.data.toList).2.2]) ∧ Below w.heap.size w w' := by
  obtain ⟨m, hm⟩ := hm
  refine (Tryz.strings_Cut s sep m w (by omega) hm).mono ?_
  rintro e w' ⟨rfl, n, rfl⟩
  exact ⟨rfl, below_drewN' w n⟩
theorem map_inj {l m : List ByteArray} (h : l.map (·.data.toList) = m.map (·.data.toList)) : l = m :=
  List.map_inj_right (f := fun s : ByteArray => s.data.toList) (fun x y e => by apply ByteArray.ext; exact Array.toList_inj.1 e) |>.1 h
theorem row_of_blk {w : World} {g : Nat} {xs : List Value} {e : TypeId} (h : w.heap[g]? = some (.cells xs.toArray e (0, 0))) : RowAt w g xs := ⟨xs.toArray, e, 0, 0, h, by simp, fun i _ => by omega⟩
theorem own_ne {w : World} {lo g gl n cap size : Nat} {e e' : TypeId} {xs : List Value} {C : Array Value} {f : Nat × Nat} (h : w.ownsRow lo e size (.slice (some ⟨g, 0, none⟩) n cap) n xs) (hb : w.heap[gl]? = some (.cells C e' f)) (hne : e ≠ e') : g ≠ gl := by
  intro q
  subst q
  rcases h.2 with ⟨hn, _⟩ | ⟨g', cap', cur, hv, _, hg, _⟩
  · cases hn
  · cases hv
    rw [hg] at hb
    have := Option.some.inj hb
    injection this with _ h2 _
    exact hne h2
theorem own_blk {w w' : World} {gl g n cap : Nat} {o : Obj} (hb : w.heap[gl]? = some o) (h : ∀ k, k < w.heap.size → some k ≠ (Value.slice (some ⟨g, 0, none⟩) n cap).ownBlock → w'.heap[k]? = w.heap[k]?) (hne : g ≠ gl) : w'.heap[gl]? = some o :=
  (h gl (Array.getElem?_eq_some_iff.1 hb).1 (fun e => hne (by have := Option.some.inj (e : some gl = some g); exact this.symm))).trans hb
/-- strings.Split: in the words of the pieces. -/
theorem strings_Split (s sep : ByteArray) (hs : s.size ≤ 100000000) (h1 : 1 ≤ sep.size) (w : World) (hm : MaxL w) (L : List ByteArray) (hL : L.map (·.data.toList) = Lib.split s.data.toList sep.data.toList) :
    Calls Tryz.prog 32 #[.string s, .string sep] w fun e w' => e = .returned (.slice (some ⟨w.heap.size, 0, none⟩) L.length L.length) ∧ w'.heap[w.heap.size]? = some (.cells (strV L).toArray 9 (0, 0)) ∧ Below w.heap.size w w' ∧ w.heap.size < w'.heap.size := by
  obtain ⟨m, hm⟩ := hm
  have hsep : sep.data.toList ≠ [] := by
    intro q
    have : sep.data.toList.length = 0 := by rw [q]; rfl
    rw [Array.length_toList] at this
    have e : sep.data.size = sep.size := rfl
    omega
  have hlen := split_len hsep _ s.data.toList (Nat.le_refl _)
  have hcount : Lib.countB s sep + 1 = L.length := by
    have := congrArg List.length hL
    rw [List.length_map, hlen] at this
    rw [this]
  have hlist : Lib.splitB sep 0 (Lib.countB s sep) s = L := by
    apply map_inj
    rw [hL, Lib.splitB_data]; rfl
  refine (Tryz.strings_Split s sep m w (by omega) hm h1).mono ?_
  rintro e w' ⟨rfl, rfl⟩
  rw [hcount, hlist]
  refine ⟨rfl, ?_, below_alloc (Below.refl _ _) _, by simp⟩
  rw [blk_new]; rfl
end Go.Proofs.YtbiodbggaeglpaaGreatDoor

/- The code of a response. -/
namespace Go.Proofs.YtbiodbggaeglpaaGreatDoor
open Go.RowKit
set_option linter.unusedSimpArgs false
set_option linter.unusedVariables false

def rspFault (t : Int) (l : List Hd) (nb : Nat) : Int := if inB t 200 599 = false then 3 else if hdsFault l ≠ 0 then hdsFault l else if 2000 < nb then 2 else 0
theorem impl_isStatus (t : Int) (w : World) : Calls Tryz.prog 53 #[.int .i64 t] w fun e w' => e = .returned (.bool (inB t 200 599)) ∧ w = w' := by
  go_enter Tryz.func53, Tryz.ntmps53
  go_wp2_with (go_at_call 81; ((with_reducible refine (impl_within _ _ _ _).mono ?_); rintro e w' ⟨rfl, rfl⟩))
  all_goals (go_ret; exact ⟨by first | rfl | (simp [*]; done) | (simp [*]; omega), by first | (with_reducible rfl) | exact (by first | (with_reducible exact Below.refl _ _) | ((repeat' (first | (with_reducible exact Below.refl _ _) | (with_reducible assumption) | (with_reducible refine below_alloc ?_ _) | (with_reducible refine Below.drew ?_) | (with_reducible refine below_drewN ?_ _) | (with_reducible refine Below.setCell ?_ ?_ _) | refine below_then ?_ (by with_reducible assumption))) <;> (first | omega | (simp; done) | (simp; omega))))⟩)
set_option maxHeartbeats 1600000 in
theorem spec_ResponseFault (t : Int) (a : Option Addr) (n c : Nat) (l : List Hd) (hl : l.length = n) (ab : Option Addr) (nb cb : Nat) (w : World) (hr : Rd w a (hV l)) (hn : n ≤ 9223372036854775807) (hnb : nb ≤ 9223372036854775807)
    (hs : ∀ h ∈ l, h.1.size ≤ 9223372036854775807 ∧ h.2.size ≤ 9223372036854775807) : Calls Tryz.prog 21 #[.agg #[.int .i64 t, .slice a n c, .slice ab nb cb]] w fun e w' => e = .returned (.int .i64 (rspFault t l nb)) ∧ Below w.heap.size w w' := by
  have Hl := Lib.hid hl
  have Hs := Lib.hid hs
  clear hl hs
  go_enter Tryz.func21, Tryz.ntmps21
  go_wp2_with (first | (go_at_call 61; ((with_reducible refine (spec_l1In _ _ _ _).mono ?_); rintro e w' ⟨rfl, rfl⟩)) | (go_at_call 57; ((with_reducible refine (spec_HeadersFault _ _ _ l Hl.out _ (by first | (with_reducible assumption) | exact RowAt.rd (by repeat' (first | (with_reducible assumption) | (with_reducible refine RowAt.alloc ?_ _) | (with_reducible refine RowAt.drew ?_) | (with_reducible refine RowAt.other ?_ _ _ (by first | omega | (simp; done) | (simp; omega))) | refine RowAt.then ?_ (by with_reducible assumption))) | exact Rd.below (by with_reducible assumption) (by first | (with_reducible exact Below.refl _ _) | ((repeat' (first | (with_reducible exact Below.refl _ _) | (with_reducible assumption) | (with_reducible refine below_alloc ?_ _) | (with_reducible refine Below.drew ?_) | (with_reducible refine below_drewN ?_ _) | (with_reducible refine Below.setCell ?_ ?_ _) | refine below_then ?_ (by with_reducible assumption))) <;> (first | omega | (simp; done) | (simp; omega))))) hn Hs.out).mono ?_); rintro e w' ⟨rfl, hb⟩; obtain ⟨hc, hf⟩ := bcell hb; have hz := hb.size; (try simp only [World.size_alloc, World.size_setCell, World.size_drew] at hz); obtain ⟨hlt, hle, hn1, hn2, hn3, hn4⟩ := bsize hb; (try simp only [World.size_alloc, World.size_setCell, World.size_drew] at hlt hle hn1 hn2 hn3 hn4); (try have hr0 : w.heap.size < w'.heap.size := by omega); (try have hr1 : w.heap.size + 1 < w'.heap.size := by omega); (try have hs0 : wS.heap.size < w'.heap.size := by omega); (try have hs1 : wG.heap.size < w'.heap.size := by omega))))
  all_goals (go_ret; exact ⟨ret_int (by first | (simp_all [rspFault]; done) | (simp_all [rspFault]; omega)), (by first | (with_reducible exact Below.refl _ _) | ((repeat' (first | (with_reducible exact Below.refl _ _) | (with_reducible assumption) | (with_reducible refine below_alloc ?_ _) | (with_reducible refine Below.drew ?_) | (with_reducible refine below_drewN ?_ _) | (with_reducible refine Below.setCell ?_ ?_ _) | refine below_then ?_ (by with_reducible assumption))) <;> (first | omega | (simp; done) | (simp; omega))))⟩)
set_option maxHeartbeats 1600000 in
theorem impl_ResponseFault (t : Int) (a : Option Addr) (n c : Nat) (l : List Hd) (hl : l.length = n) (ab : Option Addr) (nb cb : Nat) (w : World) (hr : Rd w a (hV l)) (hn : n ≤ 9223372036854775807) (hnb : nb ≤ 9223372036854775807)
    (hs : ∀ h ∈ l, h.1.size ≤ 9223372036854775807 ∧ h.2.size ≤ 9223372036854775807) : Calls Tryz.prog 16 #[.agg #[.int .i64 t, .slice a n c, .slice ab nb cb]] w fun e w' => e = .returned (.int .i64 (rspFault t l nb)) ∧ Below w.heap.size w w' := by
  have Hl := Lib.hid hl
  have Hs := Lib.hid hs
  clear hl hs
  go_enter Tryz.func16, Tryz.ntmps16
  go_wp2_with (first | (go_at_call 53; ((with_reducible refine (impl_isStatus _ _).mono ?_); rintro e w' ⟨rfl, rfl⟩)) | (go_at_call 54; ((with_reducible refine (impl_HeadersFault _ _ _ l Hl.out _ (by first | (with_reducible assumption) | exact RowAt.rd (by repeat' (first | (with_reducible assumption) | (with_reducible refine RowAt.alloc ?_ _) | (with_reducible refine RowAt.drew ?_) | (with_reducible refine RowAt.other ?_ _ _ (by first | omega | (simp; done) | (simp; omega))) | refine RowAt.then ?_ (by with_reducible assumption))) | exact Rd.below (by with_reducible assumption) (by first | (with_reducible exact Below.refl _ _) | ((repeat' (first | (with_reducible exact Below.refl _ _) | (with_reducible assumption) | (with_reducible refine below_alloc ?_ _) | (with_reducible refine Below.drew ?_) | (with_reducible refine below_drewN ?_ _) | (with_reducible refine Below.setCell ?_ ?_ _) | refine below_then ?_ (by with_reducible assumption))) <;> (first | omega | (simp; done) | (simp; omega))))) hn Hs.out).mono ?_); rintro e w' ⟨rfl, hb⟩; obtain ⟨hc, hf⟩ := bcell hb; have hz := hb.size; (try simp only [World.size_alloc, World.size_setCell, World.size_drew] at hz); obtain ⟨hlt, hle, hn1, hn2, hn3, hn4⟩ := bsize hb; (try simp only [World.size_alloc, World.size_setCell, World.size_drew] at hlt hle hn1 hn2 hn3 hn4); (try have hr0 : w.heap.size < w'.heap.size := by omega); (try have hr1 : w.heap.size + 1 < w'.heap.size := by omega); (try have hs0 : wS.heap.size < w'.heap.size := by omega); (try have hs1 : wG.heap.size < w'.heap.size := by omega))))
  all_goals (go_ret; exact ⟨ret_int (by first | (simp_all [rspFault]; done) | (simp_all [rspFault]; omega)), (by first | (with_reducible exact Below.refl _ _) | ((repeat' (first | (with_reducible exact Below.refl _ _) | (with_reducible assumption) | (with_reducible refine below_alloc ?_ _) | (with_reducible refine Below.drew ?_) | (with_reducible refine below_drewN ?_ _) | (with_reducible refine Below.setCell ?_ ?_ _) | refine below_then ?_ (by with_reducible assumption))) <;> (first | omega | (simp; done) | (simp; omega))))⟩)
end Go.Proofs.YtbiodbggaeglpaaGreatDoor

/- From a claim's first world: what is listed, and the shape of the library's variables. -/
namespace Go.Proofs.YtbiodbggaeglpaaGreatDoor
theorem handed_and_shaped {H : Type} {enc : TypeId × Value → H} {a : Assume} {C : Checked} {os : Os} {f : FuncId} {fn : Func} {s : ChangeSpec} {conds : List PathCond} {apart fresh handsOn again : Bool} {X : World → Array Value → Prop}
    (hX : ∀ (w w' : World) (args : Array Value), w.heap = w'.heap → X w args → X w' args)
    (own : ownKnob C.prog.godebug = none) (started : os.Started) (noInit : C.prog.inits.idxOf? f = none) (hfn : C.prog.funcs[f]? = some fn)
    (witness : ∃ (w : World) (tape : Tape) (i : Input), w.os = os ∧ (w.forCall tape i).Shaped C.prog ∧ i.vars = [] ∧ Input.okWide C.prog (w.forCall tape i) .any w.heap.size f i ∧
      ((s.pre enc C.prog fn conds apart (w.forCall tape i).memory i.args ∧ X (w.forCall tape i).memory i.args) ∧ sizedMet enc C.prog fn (OpenSpec.ofChange s) apart (w.forCall tape i).memory i.args) ∧ a.holds C.prog (lone (Frame.enter C.prog f i.args .normal) [] (w.forCall tape i)))
    (contract : ∀ (W : World) (base : Nat) (args : Array Value) (ds gs : List (DataW H)) (before : List MemPlace),
      (∀ (j : Nat) t v, fn.params[j]? = some t → args[j]? = some v → Value.okWide C.prog W .any base t v) →
      DataW.Whole enc C.prog fn.params.toList s.vars apart W args.toList ds gs before →
      conds.all (PathCond.test C.prog ⟨fn.params.toList, ds, s.plain.varTypes C.prog, gs⟩) = true →
      (DataW.weightsEach C.prog (fn.params.toList ++ s.plain.varTypes C.prog) (ds ++ gs)).all (· ≤ reachBytes) = true → X W args →
      W.ShapedOpen C.prog →
      a.holds C.prog (lone (Frame.enter C.prog f args .normal) [] W) →
      Calls C.prog f args W fun e W' => ∃ v, e = .returned v ∧ s.post enc C.prog fn apart fresh handsOn again W args v W') :
    ReturnsInHanded a C os f .any (fun w args => (s.pre enc C.prog fn conds apart w args ∧ X w args) ∧ sizedMet enc C.prog fn (OpenSpec.ofChange s) apart w args) (s.post enc C.prog fn apart fresh handsOn again) := by
  refine returnsInHanded_of_calls own started noInit witness ?_
  intro w tape i _ hsh _ hok hpre hholds
  obtain ⟨_, _, _, fn', hfn', _, _, _, _, hval⟩ := hok
  have e : fn' = fn := Option.some.inj (hfn'.symm.trans hfn)
  subst e
  obtain ⟨⟨⟨ds, gs, before, hw, hc⟩, hx⟩, hz⟩ := hpre
  have hw' := DataW.Whole.of_heap (w' := w.forCall tape i) (by rfl) hw
  refine (contract (w.forCall tape i) w.heap.size i.args ds gs before hval hw' hc (hz.weights hw) (hX _ _ _ (by rfl) hx) hsh hholds).mono fun e W' ⟨v, he, hp⟩ => ?_
  subst he
  exact ChangeSpec.post_blind hp
end Go.Proofs.YtbiodbggaeglpaaGreatDoor
