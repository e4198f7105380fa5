/- What is drawn for words and letters. -/
import Derived.Test.YtklnccoknldkcaaDoorDraw
import Derived.Test.YtklnccoknldkcaaDoorMem
namespace Go.Proofs.YtklnccoknldkcaaDoor
open Go.RowKit
set_option linter.unusedSimpArgs false
set_option linter.unusedVariables false

/-- 'append(v, x)' of one element, onto a row of the call's own, where a source was asked before. -/
theorem app1G {ops : Array Oper} {rest : List Oper} {o : Oper} {a : Act} {Q : Exit → Act → World → Prop} (hgd : o.guard = none) (s x : Operand) (t : TypeId)
    (ho : o.op = .call { callee := .builtin .append, args := #[s, x], argTypes := #[t, t] }) {w wr : World} {G : Nat} (hG : G < w.heap.size) {e : TypeId} {z : Value} {size bytes : Nat}
    (ht : Tryd.prog.underlying t = some (.slice e)) (hinfo : (Tryd.prog.info? e).map (fun i => (i.zero, i.size, i.bytes)) = some (some z, size, bytes)) (hzs : z.cells.size = size) (hsz : 0 < size)
    {v : Value} {n : Nat} {xs news : List Value} (hown : wr.ownsRow w.heap.size e size v n xs) (bel : w.grownBy wr (some G)) (hs : a.eval s = v)
    (hx : a.eval x = .slice (some ⟨wr.heap.size, 0, none⟩) 1 1) (hl : news.length = size) (h1 : ∀ u ∈ news, u.oneCell' = true) (hbytes : (n + 1) * bytes ≤ 140737488355328) (hn : n + 1 ≤ maxLen)
    (h : ∀ v' w', w'.ownsRow w.heap.size e size v' (n + 1) (xs ++ news) → w.grownBy w' (some G) → (∀ k, k ≤ G → w'.heap[k]? = wr.heap[k]?) → wpList Tryd.prog ops Q rest (a.put o.dst v') w') :
    wpList Tryd.prog ops Q (o :: rest) a (wr.alloc (.cells news.toArray e)) := by
  obtain ⟨i, hi, hz0, hz1, hz2⟩ := info_parts hinfo
  refine wpList_append_own _ hgd s x t ho w.heap.size e i z size bytes ht hi hz0 hz1 hz2 hzs hsz v n xs hs (hown.alloc _) ⟨wr.heap.size, 0, none⟩ 1 1 news hx (by omega) ?_ h1 hn hbytes (by have := bel.size; simp; omega) ?_
  · intro j u hu
    have hadd : (⟨wr.heap.size, 0, none⟩ : Addr).add j = ⟨wr.heap.size, j, none⟩ := by unfold Addr.add; split <;> simp_all
    rw [hadd]
    exact (RowAt.of_alloc wr news.toArray e news rfl).cell j u hu
  · intro v' w' hown' hg _
    have hsz2 := bel.size
    have hgs := hg.size
    simp only [World.size_alloc] at hgs
    have key : ∀ k, k < w.heap.size → w'.heap[k]? = wr.heap[k]? := fun k hk =>
      (hg.block k (by simp; omega) (fun e => by have := (hown.lt k e.symm).1; omega)).trans (Below.heap_alloc wr _ k (by omega))
    exact h v' w' hown' ⟨hg.os.trans bel.os, hg.tape.trans bel.tape, hg.output.trans bel.output, by omega, fun k hk hne => (key k hk).trans (bel.block k hk hne)⟩ (fun k hk => key k (by omega))
theorem own_g {G lo : Nat} {w w' : World} {e : TypeId} {size : Nat} {v : Value} {n : Nat} {xs : List Value} (h : w.ownsRow lo e size v n xs) (hg : w.grownBy w' (some G)) (hG : G < lo) : w'.ownsRow lo e size v n xs := by
  refine ⟨h.1, ?_⟩
  rcases h.2 with hn | ⟨g, cap, cur, rfl, hlo, hgb, rest⟩
  · exact .inl hn
  · exact .inr ⟨g, cap, cur, rfl, hlo, (hg.block g (Array.getElem?_eq_some_iff.1 hgb).1 (by intro e; have := Option.some.inj e; omega)).trans hgb, rest⟩
theorem byte_of (r : Int) (h0 : 0 ≤ r) (h1 : r < 256) : byteV (UInt8.ofNat r.toNat) = .int .u8 r := by
  unfold byteV
  congr 1
  (simp <;> omega)
set_option maxHeartbeats 1600000 in
theorem spec_l1Some (G : Nat) (a : Option Addr) (n c K m : Nat) (mi : Int) (hmi : mi = (m : Int)) (hm : m ≤ 100) (w : World) (hs : Src w G a n c K) (hK : K ≤ 900000) :
    Calls Tryd.prog 67 #[.pointer (some ⟨G, 0, none⟩), .int .i64 mi] w fun e w' => ∃ (g cap : Nat) (bs : List UInt8), e = .returned (.slice (some ⟨g, 0, none⟩) m cap) ∧ bs.length = m ∧ RowAt w' g (bs.map byteV) ∧ Src w' G a n c (K + m) ∧ w.grownBy w' (some G) := by
  have hG := hs.lt
  subst hmi
  go_enter Tryd.func67, Tryd.ntmps67
  go_wp2
  go_loopw [1, 5] (fun i v wr => ∃ (k g cap : Nat) (bs : List UInt8), i = .int .i64 k ∧ bs.length + k = m ∧ v = .slice (some ⟨g, 0, none⟩) bs.length cap ∧ wr.ownsRow w.heap.size 5 1 v bs.length (bs.map byteV) ∧ Src wr G a n c (K + bs.length) ∧ w.grownBy wr (some G)) (fun i _ _ => (intOf i).toNat)
  case atStart => exact ⟨m, _, _, [], rfl, by simp, rfl, by simpa using World.ownsRow_lit w #[] 0 (Nat.le_refl _) (by unfold maxLen; omega) (size := 1) (e := 5) rfl, hs.alloc _, g_alloc (World.grownBy.refl _ _) _⟩
  case round =>
    obtain ⟨k, g, cap, bs, rfl, hbk, rfl, hown, hsr, hgr⟩ := hrel
    by_cases hk : 0 < k
    · obtain ⟨k, rfl⟩ : ∃ j, k = j + 1 := ⟨k - 1, by omega⟩
      go_wp2_with (first
        | (go_at_call 100; ((with_reducible refine (spec_l1Next G a n c (K + bs.length) 256 (by omega) (by omega) _ hsr (by omega)).mono ?_); rintro e w' ⟨r, rfl, ⟨hr0, hr1⟩, hs2, hg2⟩))
        | (at_builtin; refine app1G rfl _ _ 22 rfl hG Tryd.underlying22 infoByte rfl (by decide) (own_g hown hg2 hG) (g_then hgr hg2) rfl rfl rfl (by intro u hu; simp at hu; subst hu; rfl) (by omega) (by unfold maxLen; omega) ?_; intro v1 w1 hown1 hg3 hk1; obtain ⟨g1, cap1, rfl, hg1, hrow1⟩ := own_shape hown1))
      go_roundw
      case rel =>
        refine ⟨k, g1, cap1, bs ++ [UInt8.ofNat r.toNat], by go_num, by rw [List.length_append, List.length_singleton]; omega, by rw [List.length_append, List.length_singleton], ?_, ?_, hg3⟩
        · exact own_cast hown1 (by rw [List.length_append, List.length_singleton]) (by rw [List.map_append, List.map_singleton, byte_of r hr0 hr1])
        · rw [List.length_append, List.length_singleton]
          exact (hs2.block hk1).mono (by omega)
      case measure => (simp [intOf] <;> omega)
    · obtain rfl : k = 0 := by omega
      obtain rfl : bs.length = m := by omega
      go_wp2
      go_ret
      exact ⟨g, cap, bs, rfl, rfl, RowAt.of_own hown, hsr, hgr⟩
set_option maxHeartbeats 1600000 in
set_option maxRecDepth 100000 in
theorem spec_DrawLowerText (a : Option Addr) (n c : Nat) (bs : List UInt8) (hl : bs.length = n) (hn : n ≤ 1048576) (w : World) (hr : Rd w a (bs.map byteV)) :
    Calls Tryd.prog 11 #[.slice a n c] w fun e w' => ∃ r : ByteArray, e = .returned (.string r) ∧ r.size ≤ 1001 ∧ Below w.heap.size w w' := by
  have hs0 := src_start w a n c bs hl hn hr
  obtain ⟨hG1, hG2⟩ := gstart hs0.lt
  go_enter Tryd.func11, Tryd.ntmps11
  go_wp2_with (first
    | (go_at_call 65; ((with_reducible refine (spec_l1Source a n c _).mono ?_); rintro e w' ⟨rfl, rfl⟩))
    | (go_at_call 67; ((with_reducible refine (spec_l1Some w.heap.size a n c 0 6 (6 : Int) rfl (by omega) _ (by repeat' (first | (with_reducible assumption) | (with_reducible refine Src.alloc ?_ _) | (with_reducible refine Src.drew ?_) | (with_reducible refine Src.other ?_ _ _ (by first | omega | (simp; done) | (simp; omega))) | refine Src.then ?_ (by with_reducible assumption))) (by omega)).mono ?_); rintro e w' ⟨g, cap, b6, rfl, hb6, hrow, hs1, hg1⟩; have hcv := conv_back w' g cap b6 6 hb6 hrow; have hz6 : (⟨b6.toArray⟩ : ByteArray).size = 6 := hb6))
    | (go_at_call 66; ((with_reducible refine (spec_l1Word (fun x => x.size ≤ 10) w.heap.size a n c 6 _ 8 _ _ rfl (by omega) (by omega) (by intro v hv; change v ∈ [_, _, _, _, _, _, _, _] at hv; simp only [List.mem_cons, List.not_mem_nil, or_false] at hv; rcases hv with rfl | rfl | rfl | rfl | rfl | rfl | rfl | rfl <;> exact ⟨_, rfl, by first | decide | omega⟩) _ (by repeat' (first | (with_reducible assumption) | (with_reducible refine Src.alloc ?_ _) | (with_reducible refine Src.drew ?_) | (with_reducible refine Src.other ?_ _ _ (by first | omega | (simp; done) | (simp; omega))) | refine Src.then ?_ (by with_reducible assumption))) (by omega) (rd_at rfl) (by have := hs1.lt; omega)).mono ?_); rintro e w' ⟨t, rfl, ht, hs2, hg2⟩))
    | (go_at_call 68; ((with_reducible refine (spec_l1Chance w.heap.size a n c 7 _ (by omega) (by omega) _ (by repeat' (first | (with_reducible assumption) | (with_reducible refine Src.alloc ?_ _) | (with_reducible refine Src.drew ?_) | (with_reducible refine Src.other ?_ _ _ (by first | omega | (simp; done) | (simp; omega))) | refine Src.then ?_ (by with_reducible assumption))) (by omega)).mono ?_); rintro e w' ⟨b, rfl, hs3, hg3⟩))
    | (go_at_call 69; ((with_reducible refine (spec_l1Long w.heap.size a n c 8 t (by omega) _ (by repeat' (first | (with_reducible assumption) | (with_reducible refine Src.alloc ?_ _) | (with_reducible refine Src.drew ?_) | (with_reducible refine Src.other ?_ _ _ (by first | omega | (simp; done) | (simp; omega))) | refine Src.then ?_ (by with_reducible assumption))) (by omega)).mono ?_); rintro e w' ⟨t2, rfl, ht2, hs4, hg4⟩)))
  all_goals (go_ret; exact ⟨_, rfl, by first | omega | (simp; omega), g_start (by repeat' (first | (with_reducible assumption) | (with_reducible exact World.grownBy.refl _ _) | (with_reducible refine g_alloc ?_ _) | (with_reducible refine g_drew ?_) | (with_reducible refine g_drewN ?_ _) | (with_reducible refine g_set ?_ (by first | omega | (simp; done) | (simp; omega)) _) | refine g_then ?_ (by with_reducible assumption) | refine g_below ?_ (by with_reducible assumption)))⟩)
set_option maxHeartbeats 1600000 in
set_option maxRecDepth 100000 in
theorem spec_DrawIsWord (a : Option Addr) (n c : Nat) (bs : List UInt8) (hl : bs.length = n) (hn : n ≤ 1048576) (w : World) (hr : Rd w a (bs.map byteV)) :
    Calls Tryd.prog 14 #[.slice a n c] w fun e w' => ∃ r : ByteArray, e = .returned (.string r) ∧ r.size ≤ 65 ∧ Below w.heap.size w w' := by
  have hs0 := src_start w a n c bs hl hn hr
  obtain ⟨hG1, hG2⟩ := gstart hs0.lt
  go_enter Tryd.func14, Tryd.ntmps14
  go_wp2_with (first
    | (go_at_call 65; ((with_reducible refine (spec_l1Source a n c _).mono ?_); rintro e w' ⟨rfl, rfl⟩))
    | (go_at_call 66; ((with_reducible refine (spec_l1Word (fun x => x.size ≤ 10) w.heap.size a n c 0 _ 12 _ _ rfl (by omega) (by omega) (strs_small _ _ (by kernel_rfl)) _ (by repeat' (first | (with_reducible assumption) | (with_reducible refine Src.alloc ?_ _) | (with_reducible refine Src.drew ?_) | (with_reducible refine Src.other ?_ _ _ (by first | omega | (simp; done) | (simp; omega))) | refine Src.then ?_ (by with_reducible assumption))) (by omega) (rd_at (by simp)) (by simp)).mono ?_); rintro e w' ⟨t, rfl, ht, hs2, hg2⟩))
    | (go_at_call 68; ((with_reducible refine (spec_l1Chance w.heap.size a n c 1 _ (by omega) (by omega) _ (by repeat' (first | (with_reducible assumption) | (with_reducible refine Src.alloc ?_ _) | (with_reducible refine Src.drew ?_) | (with_reducible refine Src.other ?_ _ _ (by first | omega | (simp; done) | (simp; omega))) | refine Src.then ?_ (by with_reducible assumption))) (by omega)).mono ?_); rintro e w3 ⟨b, rfl, hs3, hg3⟩)))
  · rename_i hbt
    subst hbt
    go_loopw [4] (fun v wr => ∃ s : ByteArray, v = .string s ∧ t.size ≤ s.size ∧ s.size ≤ 65 ∧ Src wr w.heap.size a n c (2 + (s.size - t.size)) ∧ w3.grownBy wr (some w.heap.size)) (fun v _ => 65 - strZ v)
    case atStart => exact ⟨t, rfl, Nat.le_refl _, by omega, by rw [Nat.sub_self]; exact hs3, World.grownBy.refl _ _⟩
    case round =>
      obtain ⟨s, rfl, hz0, hz1, hsr, hgr⟩ := hrel
      have hGr := hsr.lt
      go_wp2_with (go_at_call 72; ((with_reducible refine (spec_l1Pick (fun x => x ≤ 65) w.heap.size a n c (2 + (s.size - t.size)) _ 2 _ _ rfl (by omega) (by omega) (by simp) _ (hsr.alloc _) (by omega) (rd_at rfl) (by omega)).mono ?_); rintro e w' ⟨r, rfl, hr1, hs4, hg4⟩))
      · go_roundw
        case rel =>
          refine ⟨_, rfl, ?_, ?_, ?_, ?_⟩
          · rw [ByteArray.size_append]; show _ ≤ _ + 1; omega
          · rw [ByteArray.size_append]; show _ + 1 ≤ _; omega
          · rw [ByteArray.size_append]; exact hs4.mono (by show _ ≤ _ + (_ + 1 - _); omega)
          · exact g_then (g_alloc hgr _) hg4
        case measure =>
          show 65 - (s ++ _).size < 65 - s.size
          rw [ByteArray.size_append]; show 65 - (_ + 1) < _; omega
      · go_ret
        exact ⟨_, rfl, by omega, g_start (by repeat' (first | (with_reducible assumption) | (with_reducible exact World.grownBy.refl _ _) | (with_reducible refine g_alloc ?_ _) | (with_reducible refine g_drew ?_) | (with_reducible refine g_drewN ?_ _) | (with_reducible refine g_set ?_ (by first | omega | (simp; done) | (simp; omega)) _) | refine g_then ?_ (by with_reducible assumption) | refine g_below ?_ (by with_reducible assumption)))⟩
  · all_goals (go_ret; exact ⟨_, rfl, by first | omega | (simp; omega), g_start (by repeat' (first | (with_reducible assumption) | (with_reducible exact World.grownBy.refl _ _) | (with_reducible refine g_alloc ?_ _) | (with_reducible refine g_drew ?_) | (with_reducible refine g_drewN ?_ _) | (with_reducible refine g_set ?_ (by first | omega | (simp; done) | (simp; omega)) _) | refine g_then ?_ (by with_reducible assumption) | refine g_below ?_ (by with_reducible assumption)))⟩)
end Go.Proofs.YtklnccoknldkcaaDoor
