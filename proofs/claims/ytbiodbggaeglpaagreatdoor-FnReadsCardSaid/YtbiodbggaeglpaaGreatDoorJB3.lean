/- Joined: Draw. -/
import Derived.Test.YtbiodbggaeglpaaGreatDoorJB0
import Derived.StillTailTactics
/- What is drawn: a source that is read on and on. -/
namespace Go.Proofs.YtbiodbggaeglpaaGreatDoor
open Go.RowKit
set_option linter.unusedSimpArgs false
set_option linter.unusedVariables false

/-- Block G is a source over n bytes from a on, asked at most K times. -/
def Src (w : World) (G : Nat) (a : Option Addr) (n c K : Nat) : Prop :=
  ∃ k : Nat, k ≤ K ∧ w.heap[G]? = some (.cells #[.slice a n c, .int .i64 (k : Int)] 86 (0, 0)) ∧ n ≤ 1048576 ∧
    (n = 0 ∨ ∃ b off, a = some ⟨b, off, none⟩ ∧ b < G ∧ ∀ j, j < n → ∃ v : Nat, v < 256 ∧ w.cell? ⟨b, off + j, none⟩ = some (.int .u8 (v : Int)))
theorem Src.lt {w : World} {G : Nat} {a : Option Addr} {n c K : Nat} (h : Src w G a n c K) : G < w.heap.size := by
  obtain ⟨k, _, hg, _⟩ := h
  exact (Array.getElem?_eq_some_iff.1 hg).1
theorem Src.block {w w' : World} {G : Nat} {a : Option Addr} {n c K : Nat} (h : Src w G a n c K) (hb : ∀ k, k ≤ G → w'.heap[k]? = w.heap[k]?) : Src w' G a n c K := by
  obtain ⟨k, hk, hg, hn, hr⟩ := h
  refine ⟨k, hk, (hb G (Nat.le_refl _)).trans hg, hn, ?_⟩
  rcases hr with hr | ⟨b, off, ha, hbG, hr⟩
  · exact .inl hr
  · refine .inr ⟨b, off, ha, hbG, fun j hj => ?_⟩
    obtain ⟨v, hv, hc⟩ := hr j hj
    exact ⟨v, hv, (World.cell?_of_block (w := w) (w' := w') (a := ⟨b, off + j, none⟩) (hb b (by omega))).trans hc⟩
theorem Src.then {w w' : World} {G : Nat} {a : Option Addr} {n c K : Nat} (h : Src w G a n c K) (hb : Below w.heap.size w w') : Src w' G a n c K :=
  h.block fun k hk => hb.block k (Nat.lt_of_le_of_lt hk h.lt)
theorem Src.alloc {w : World} {G : Nat} {a : Option Addr} {n c K : Nat} (h : Src w G a n c K) (o : Obj) : Src (w.alloc o) G a n c K :=
  h.block fun k hk => Below.heap_alloc w o k (Nat.lt_of_le_of_lt hk h.lt)
theorem Src.drew {w : World} {G : Nat} {a : Option Addr} {n c K : Nat} (h : Src w G a n c K) : Src w.drew G a n c K := h
theorem Src.other {w : World} {G : Nat} {a : Option Addr} {n c K : Nat} (h : Src w G a n c K) (p : Addr) (v : Value) (hp : G < p.block) : Src (w.setCell p v) G a n c K :=
  h.block fun k hk => Below.heap_setCell w p v k (by omega)
theorem Src.mono {w : World} {G : Nat} {a : Option Addr} {n c K K' : Nat} (h : Src w G a n c K) (hK : K ≤ K') : Src w G a n c K' := by
  obtain ⟨k, hk, r⟩ := h
  exact ⟨k, Nat.le_trans hk hK, r⟩
theorem tmod_bd (k n : Nat) (hn : 0 < n) : ∃ j : Nat, j < n ∧ Int.tmod (k : Int) (n : Int) = (j : Int) := ⟨k % n, Nat.mod_lt _ hn, by rw [Int.ofNat_tmod]⟩
theorem tdiv_bd (k n : Nat) : ∃ j : Nat, j ≤ k ∧ Int.tdiv (k : Int) (n : Int) = (j : Int) := ⟨k / n, Nat.div_le_self _ _, by rw [Int.ofNat_tdiv]⟩

set_option maxHeartbeats 1600000 in
theorem spec_l1Next (G : Nat) (a : Option Addr) (n c K : Nat) (m : Int) (hm : m ≤ 9223372036854775807) (hm0 : 1 ≤ m) (w : World) (hs : Src w G a n c K) (hK : K ≤ 1000000) :
    Calls Tryz.prog 26 #[.pointer (some ⟨G, 0, none⟩), .int .i64 m] w fun e w' => ∃ r : Int, e = .returned (.int .i64 r) ∧ (0 ≤ r ∧ r < m) ∧ Src w' G a n c (K + 1) ∧ w.grownBy w' (some G) := by
  obtain ⟨k, hk, hg, hn, hr⟩ := hs
  have c0 : w.cell? ⟨G, 0, none⟩ = some (.slice a n c) := by simp [World.cell?, hg]
  have c1 : w.cell? ⟨G, 1, none⟩ = some (.int .i64 (k : Int)) := by simp [World.cell?, hg]
  have f1 : w.frozen? ⟨G, 1, none⟩ = false := by simp [World.frozen?, hg]
  have hpost : ∀ (w' : World), w'.heap = (w.setCell ⟨G, 1, none⟩ (.int .i64 ((k : Int) + 1))).heap → w'.os = w.os → w'.tape = w.tape → w'.output = w.output → Src w' G a n c (K + 1) ∧ w.grownBy w' (some G) := by
    intro w' h1 h2 h3 h4
    have hG : w'.heap[G]? = some (.cells #[.slice a n c, .int .i64 ((k + 1 : Nat) : Int)] 86 (0, 0)) := by
      rw [h1]; exact blk_cast (blk_set hg 1 _) (by simp)
    have hb : ∀ i, i ≠ G → w'.heap[i]? = w.heap[i]? := fun i hi => by rw [h1]; exact Below.heap_setCell w _ _ i hi
    refine ⟨⟨k + 1, by omega, hG, hn, ?_⟩, h2, h3, h4, by rw [h1]; simp [World.setCell], fun i _ hne => hb i fun e => hne (by rw [e])⟩
    rcases hr with hr | ⟨b, off, ha, hbG, hr⟩
    · exact .inl hr
    · refine .inr ⟨b, off, ha, hbG, fun j hj => ?_⟩
      obtain ⟨v, hv, hc⟩ := hr j hj
      exact ⟨v, hv, (World.cell?_of_block (w := w) (w' := w') (a := ⟨b, off + j, none⟩) (hb b (by omega))).trans hc⟩
  have Hpost := Lib.hid hpost
  clear hpost
  rcases hr with rfl | ⟨b, off, rfl, hbG, hr⟩
  · clear hg
    go_enter Tryz.func26, Tryz.ntmps26
    go_wp2
    all_goals (go_ret; exact ⟨_, rfl, ⟨Int.emod_nonneg _ (by omega), Int.emod_lt_of_pos _ (by omega)⟩, Hpost.out _ rfl rfl rfl rfl⟩)
  · by_cases hn0 : 0 < n
    · obtain ⟨j0, hj0, e0⟩ := tmod_bd k n hn0
      obtain ⟨j1, hj1, e1⟩ := tmod_bd (k + 1) n hn0
      obtain ⟨j2, hj2, e2⟩ := tmod_bd (k + 2) n hn0
      obtain ⟨q, hq, e3⟩ := tdiv_bd k n
      obtain ⟨v0, hv0, d0⟩ := hr j0 hj0
      obtain ⟨v1, hv1, d1⟩ := hr j1 hj1
      obtain ⟨v2, hv2, d2⟩ := hr j2 hj2
      rw [Int.natCast_add] at e1 e2
      simp only [Int.cast_ofNat_Int] at e1 e2
      clear hg hr
      by_cases g1 : 200 < m
      · by_cases g2 : 60000 < m
        · go_enter Tryz.func26, Tryz.ntmps26
          go_wp2
          go_quiet (fail)
          go_wp2
          go_quiet (fail)
          go_wp2
          go_quiet (fail)
          go_wp2
          all_goals (go_ret; exact ⟨_, rfl, ⟨Int.emod_nonneg _ (by omega), Int.emod_lt_of_pos _ (by omega)⟩, Hpost.out _ rfl rfl rfl rfl⟩)
        · go_enter Tryz.func26, Tryz.ntmps26
          go_wp2
          go_quiet (fail)
          go_wp2
          go_quiet (fail)
          go_wp2
          all_goals (go_ret; exact ⟨_, rfl, ⟨Int.emod_nonneg _ (by omega), Int.emod_lt_of_pos _ (by omega)⟩, Hpost.out _ rfl rfl rfl rfl⟩)
      · go_enter Tryz.func26, Tryz.ntmps26
        go_wp2
        go_quiet (fail)
        go_wp2
        all_goals (go_ret; exact ⟨_, rfl, ⟨Int.emod_nonneg _ (by omega), Int.emod_lt_of_pos _ (by omega)⟩, Hpost.out _ rfl rfl rfl rfl⟩)
    · obtain rfl : n = 0 := by omega
      clear hg hr
      go_enter Tryz.func26, Tryz.ntmps26
      go_wp2
      all_goals (go_ret; exact ⟨_, rfl, ⟨Int.emod_nonneg _ (by omega), Int.emod_lt_of_pos _ (by omega)⟩, Hpost.out _ rfl rfl rfl rfl⟩)
/-- What a call over a source leaves: more blocks, the source, and all else as it was. -/
theorem src_start (w : World) (a : Option Addr) (n c : Nat) (bs : List UInt8) (hl : bs.length = n) (hn : n ≤ 1048576) (hr : Rd w a (bs.map byteV)) : Src (w.alloc (.cells #[.slice a n c, .int .i64 0] 86)) w.heap.size a n c 0 := by
  refine ⟨0, Nat.le_refl _, blk_new _ _, hn, ?_⟩
  by_cases h0 : n = 0
  · exact .inl h0
  · obtain ⟨b, off, ha, hb, _⟩ := hr 0 (byteV (bs[0]'(by omega))) (by rw [List.getElem?_map, List.getElem?_eq_getElem (by omega)]; rfl)
    refine .inr ⟨b, off, ha, hb, fun j hj => ?_⟩
    have hj' : j < bs.length := by omega
    obtain ⟨b', off', ha', hb', hc⟩ := (hr.alloc (.cells #[.slice a n c, .int .i64 0] 86)) j (byteV bs[j]) (by rw [List.getElem?_map, List.getElem?_eq_getElem hj']; rfl)
    rw [ha] at ha'
    cases ha'
    exact ⟨bs[j].toNat, bs[j].toNat_lt, hc⟩
theorem g_alloc {G : Nat} {a w : World} (h : a.grownBy w (some G)) (o : Obj) : a.grownBy (w.alloc o) (some G) := h.trans (World.grownBy_alloc w o _)
theorem g_drew {G : Nat} {a w : World} (h : a.grownBy w (some G)) : a.grownBy w.drew (some G) := ⟨h.os, h.tape, h.output, h.size, h.block⟩
theorem g_drewN {G : Nat} {a w : World} (h : a.grownBy w (some G)) : ∀ n, a.grownBy (w.drewN n) (some G) := fun n => ⟨h.os, h.tape, h.output, h.size, h.block⟩
theorem g_set {G : Nat} {a w : World} (h : a.grownBy w (some G)) {p : Addr} (hp : a.heap.size ≤ p.block) (v : Value) : a.grownBy (w.setCell p v) (some G) :=
  ⟨h.os, h.tape, h.output, Nat.le_trans h.size (by simp [World.setCell]), fun k hk hne => (Below.heap_setCell w p v k (by omega)).trans (h.block k hk hne)⟩
theorem g_then {G : Nat} {a w w' : World} (h : a.grownBy w (some G)) (hb : w.grownBy w' (some G)) : a.grownBy w' (some G) := h.trans hb
theorem g_below {G : Nat} {a w w' : World} (h : a.grownBy w (some G)) (hb : Below w.heap.size w w') : a.grownBy w' (some G) :=
  h.trans ⟨hb.os, hb.tape, hb.output, hb.size, fun k hk _ => hb.block k hk⟩
theorem g_start {w w' : World} {o : Obj} (h : (w.alloc o).grownBy w' (some w.heap.size)) : Below w.heap.size w w' :=
  (Below.grown (below_alloc (Below.refl _ _) o) h (by simp) (fun k e => by cases e; exact Nat.le_refl _))
theorem rd_new (w : World) (cur : Array Value) (e : TypeId) : Rd (w.alloc (.cells cur e (0, 0))) (some ⟨w.heap.size, 0, none⟩) cur.toList := (RowAt.of_alloc w cur e _ rfl).rd
def strZ : Value → Nat | .string s => s.size | _ => 0
theorem rd_at {w : World} {cur : Array Value} {e : TypeId} {g : Nat} (hg : g = w.heap.size) : Rd (w.alloc (.cells cur e (0, 0))) (some ⟨g, 0, none⟩) cur.toList := by subst hg; exact rd_new w cur e
def smallV (k : Nat) : Value → Bool | .string s => decide (s.size ≤ k) | _ => false
theorem strs_small (k : Nat) (vs : List Value) (h : vs.all (smallV k) = true) : ∀ v ∈ vs, ∃ x, v = .string x ∧ x.size ≤ k := by
  intro v hv
  have := List.all_eq_true.1 h v hv
  cases v <;> simp [smallV] at this
  exact ⟨_, rfl, this⟩
theorem blk_g {G g : Nat} {w w' : World} {o : Obj} (h : w.heap[g]? = some o) (hg : w.grownBy w' (some G)) (hne : g ≠ G) : w'.heap[g]? = some o :=
  (hg.block g (Array.getElem?_eq_some_iff.1 h).1 (by intro e; exact hne (Option.some.inj e))).trans h
/-- What a call that asks the source leaves of the rest: laid into the walk. -/
theorem gcell {G : Nat} {W w1 : World} (hg : W.grownBy w1 (some G)) : (∀ b o, b < W.heap.size → (b = G) = False → w1.cell? ⟨b, o, none⟩ = W.cell? ⟨b, o, none⟩) ∧ (∀ b o, b < W.heap.size → (b = G) = False → w1.frozen? ⟨b, o, none⟩ = W.frozen? ⟨b, o, none⟩) :=
  ⟨fun b o h hne => World.cell?_of_block (w := W) (a := ⟨b, o, none⟩) (hg.block b h (by intro e; exact hne.mp (Option.some.inj e))), fun b o h hne => World.frozen?_of_block (w := W) (a := ⟨b, o, none⟩) (hg.block b h (by intro e; exact hne.mp (Option.some.inj e)))⟩
theorem gsize {G : Nat} {W w1 : World} (hg : W.grownBy w1 (some G)) (hG : G < W.heap.size) : (∀ k, k < W.heap.size → k < w1.heap.size) ∧ (∀ k, k ≤ W.heap.size → k ≤ w1.heap.size) ∧
    (∀ k, k < W.heap.size → (k = w1.heap.size) = False) ∧ (∀ k, k < W.heap.size → (w1.heap.size = k) = False) ∧
    (∀ k i, k < W.heap.size → (k = w1.heap.size + i) = False) ∧ (∀ k i, k < W.heap.size → (w1.heap.size + i = k) = False) ∧ (w1.heap.size = G) = False ∧ (∀ i, (w1.heap.size + i = G) = False) ∧ G < w1.heap.size := by
  have := hg.size
  exact ⟨fun k h => by omega, fun k h => by omega, fun k h => eq_false (by omega), fun k h => eq_false (by omega), fun k i h => eq_false (by omega), fun k i h => eq_false (by omega), eq_false (by omega), fun i => eq_false (by omega), by omega⟩
theorem gstart {G : Nat} {W : World} (hG : G < W.heap.size) : (W.heap.size = G) = False ∧ (∀ i, (W.heap.size + i = G) = False) := ⟨eq_false (by omega), fun i => eq_false (by omega)⟩

theorem spec_l1Source (a : Option Addr) (n c : Nat) (w : World) : Calls Tryz.prog 23 #[.slice a n c] w fun e w' => e = .returned (.pointer (some ⟨w.heap.size, 0, none⟩)) ∧ w' = w.alloc (.cells #[.slice a n c, .int .i64 0] 86) := by
  go_enter Tryz.func23, Tryz.ntmps23
  go_wp2
  go_ret
  exact ⟨rfl, rfl⟩
theorem pick_at {α : Type} {mk : α → Value} {P : α → Prop} {w : World} {g G m : Nat} {vs : List Value} (hr : Rd w (some ⟨g, 0, none⟩) vs) (hne : g ≠ G) (j : Nat) (hj : j < m) (hl : vs.length = m)
    (hv : ∀ v ∈ vs, ∃ x, v = mk x ∧ P x) : ∀ w', w.grownBy w' (some G) → ∃ x, P x ∧ w'.cell? ⟨g, j, none⟩ = some (mk x) := by
  intro w' hg
  have hj' : j < vs.length := by omega
  obtain ⟨x, hx, hP⟩ := hv vs[j] (List.getElem_mem hj')
  obtain ⟨b, off, ha, hb, hc⟩ := hr j vs[j] (List.getElem?_eq_getElem hj')
  cases ha
  have hc2 := (World.cell?_of_block (w := w) (a := ⟨g, 0 + j, none⟩) (hg.block g hb (by intro e; exact hne (Option.some.inj e)))).trans hc
  rw [hx, Nat.zero_add] at hc2
  exact ⟨x, hP, hc2⟩
theorem spec_l1Pick (P : Int → Prop) (G : Nat) (a : Option Addr) (n c K : Nat) (g m cap : Nat) (vs : List Value) (hl : vs.length = m) (hm0 : 1 ≤ m) (hm : m ≤ 1000) (hv : ∀ v ∈ vs, ∃ x, v = .int .i64 x ∧ P x) (w : World) (hs : Src w G a n c K) (hK : K ≤ 1000000)
    (hr : Rd w (some ⟨g, 0, none⟩) vs) (hne : g ≠ G) :
    Calls Tryz.prog 28 #[.pointer (some ⟨G, 0, none⟩), .slice (some ⟨g, 0, none⟩) m cap] w fun e w' => ∃ r : Int, e = .returned (.int .i64 r) ∧ P r ∧ Src w' G a n c (K + 1) ∧ w.grownBy w' (some G) := by
  have Hv := Lib.hid hv
  clear hv
  go_enter Tryz.func28, Tryz.ntmps28
  have Hr := fun j hj => pick_at hr hne j hj hl Hv.out
  clear hr
  go_wp2_with ((go_at_call 26; ((with_reducible refine (spec_l1Next G a n c K (m : Int) (by omega) (by omega) _ hs hK).mono ?_); rintro e w' ⟨r, rfl, ⟨hr0, hr1⟩, hs1, hg⟩)); obtain ⟨j, rfl⟩ := Int.eq_ofNat_of_zero_le hr0; obtain ⟨x, hP, hc⟩ := Hr j (by omega) _ hg; have HP := Lib.hid hP; clear hP; rw [← Int.toNat_natCast j] at hc; simp only [Int.toNat_natCast] at hc)
  go_ret
  exact ⟨_, rfl, HP.out, hs1, hg⟩
theorem spec_l1Word (P : ByteArray → Prop) (G : Nat) (a : Option Addr) (n c K : Nat) (g m cap : Nat) (vs : List Value) (hl : vs.length = m) (hm0 : 1 ≤ m) (hm : m ≤ 1000) (hv : ∀ v ∈ vs, ∃ x, v = .string x ∧ P x) (w : World) (hs : Src w G a n c K) (hK : K ≤ 1000000)
    (hr : Rd w (some ⟨g, 0, none⟩) vs) (hne : g ≠ G) :
    Calls Tryz.prog 27 #[.pointer (some ⟨G, 0, none⟩), .slice (some ⟨g, 0, none⟩) m cap] w fun e w' => ∃ r : ByteArray, e = .returned (.string r) ∧ P r ∧ Src w' G a n c (K + 1) ∧ w.grownBy w' (some G) := by
  have Hv := Lib.hid hv
  clear hv
  go_enter Tryz.func27, Tryz.ntmps27
  have Hr := fun j hj => pick_at hr hne j hj hl Hv.out
  clear hr
  go_wp2_with ((go_at_call 26; ((with_reducible refine (spec_l1Next G a n c K (m : Int) (by omega) (by omega) _ hs hK).mono ?_); rintro e w' ⟨r, rfl, ⟨hr0, hr1⟩, hs1, hg⟩)); obtain ⟨j, rfl⟩ := Int.eq_ofNat_of_zero_le hr0; obtain ⟨x, hP, hc⟩ := Hr j (by omega) _ hg; have HP := Lib.hid hP; clear hP; rw [← Int.toNat_natCast j] at hc; simp only [Int.toNat_natCast] at hc)
  go_ret
  exact ⟨_, rfl, HP.out, hs1, hg⟩
set_option maxHeartbeats 1600000 in
theorem spec_l1Long (G : Nat) (a : Option Addr) (n c K : Nat) (s0 : ByteArray) (h0 : s0.size ≤ 1001) (w : World) (hs : Src w G a n c K) (hK : K ≤ 990000) :
    Calls Tryz.prog 89 #[.pointer (some ⟨G, 0, none⟩), .string s0] w fun e w' => ∃ r : ByteArray, e = .returned (.string r) ∧ r.size ≤ 1001 ∧ Src w' G a n c (K + 1100) ∧ w.grownBy w' (some G) := by
  have hG := hs.lt
  obtain ⟨hG1, hG2⟩ := gstart hG
  go_enter Tryz.func89, Tryz.ntmps89
  go_wp2
  go_loopw [1] (fun v wr => ∃ s : ByteArray, v = .string s ∧ s0.size ≤ s.size ∧ s.size ≤ 1001 ∧ Src wr G a n c (K + (s.size - s0.size)) ∧ w.grownBy wr (some G)) (fun v _ => 1001 - strZ v)
  case atStart => exact ⟨s0, rfl, Nat.le_refl _, h0, by rw [Nat.sub_self]; exact hs, World.grownBy.refl _ _⟩
  case round =>
    obtain ⟨s, rfl, hs0, hs1, hsr, hgr⟩ := hrel
    have hGr := hsr.lt
    obtain ⟨hG3, hG4⟩ := gstart hGr
    go_wp2_with (go_at_call 28; ((with_reducible refine (spec_l1Pick (fun x => x ≤ 1001) G a n c _ _ 2 _ _ rfl (by omega) (by omega) (by simp) _ (hsr.alloc _) (by omega) (rd_new _ _ _) (by omega)).mono ?_); rintro e w' ⟨r, rfl, hr1, hs2, hg⟩))
    · refine ⟨⟨_, rfl, ?_, ?_, ?_, ?_⟩, ?_⟩
      · rw [ByteArray.size_append]; show _ ≤ _ + 1; omega
      · rw [ByteArray.size_append]; show _ + 1 ≤ _; omega
      · rw [ByteArray.size_append]; exact hs2.mono (by show _ ≤ _ + (_ + 1 - _); omega)
      · exact g_then (g_alloc hgr _) hg
      · show 1001 - (s ++ _).size < 1001 - s.size
        rw [ByteArray.size_append]; show 1001 - (_ + 1) < _; omega
    · go_ret
      exact ⟨_, rfl, hs1, hs2.mono (by omega), g_then (g_alloc hgr _) hg⟩
end Go.Proofs.YtbiodbggaeglpaaGreatDoor
