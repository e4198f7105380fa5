/- Joined: Ins. -/
import Derived.Test.YthiogijicknoiaaGreatDoorJB0
import Derived.Test.YthiogijicknoiaaGreatDoorJB9
import Derived.Test.YthiogijicknoiaaGreatDoorJB12
import Derived.Shelf.Spec.SlicesInsertGrow
/- 'slices.Insert' of one head line: its four roads. -/
namespace Go.Proofs.YthiogijicknoiaaGreatDoor
open Go.RowKit
set_option linter.unusedSimpArgs false
set_option linter.unusedVariables false

theorem one_hV (l : List Hd) : ∀ u ∈ hV l, u.oneCell' = true := by
  intro u hu
  obtain ⟨h, _, hu⟩ := List.mem_flatMap.1 hu
  simp [hEnc] at hu
  rcases hu with rfl | rfl <;> rfl
theorem chg_grown {w w' : World} {g : Nat} (h : w.grownBy w' (some g)) : Chg w w' g (g + 1) :=
  ⟨h.os, h.tape, h.output, h.size, fun b hb hne => h.block b hb (by intro e; have := Option.some.inj e; omega)⟩
theorem own_cur {w : World} {lo g n cap size : Nat} {e : TypeId} {xs : List Value} (h : w.ownsRow lo e size (.slice (some ⟨g, 0, none⟩) n cap) n xs) : lo ≤ g ∧ n ≤ cap ∧ cap ≤ maxLen ∧ ∃ cur : Array Value, w.heap[g]? = some (.cells cur e (0, 0)) ∧ cur.size = cap * size ∧ ∃ rest, cur.toList = xs ++ rest ∧ n * size + rest.length = cap * size := by
  rcases h.2 with ⟨hn, _⟩ | ⟨g', cap', cur, hv, hlo, hg, h1, h2, h3, h4⟩
  · cases hn
  · cases hv
    refine ⟨hlo, h1, h2, cur, hg, h3, cur.toList.drop (n * size), by rw [← h4, List.take_append_drop], ?_⟩
    rw [List.length_drop, Array.length_toList, h3]
    have := Nat.mul_le_mul_right size h1
    omega
theorem row_all {w : World} {g : Nat} {cur : Array Value} {e : TypeId} (h : w.heap[g]? = some (.cells cur e (0, 0))) : RowAt w g cur.toList := ⟨cur, e, 0, 0, h, List.take_length, fun i _ => by omega⟩
set_option maxHeartbeats 4000000 in
set_option maxRecDepth 100000 in
theorem insert_end (lo g n c gv : Nat) (l : List Hd) (x : Hd) (hl : l.length = n) (hn : n ≤ 100000) (w : World) (hown : w.ownsRow lo 112 2 (.slice (some ⟨g, 0, none⟩) n c) n (hV l)) (hlo : lo ≤ w.heap.size) (hv : RowAt w gv [.string x.1, .string x.2]) (i : Nat) (hi : i = n) :
    Calls Tryz.prog 149 #[.slice (some ⟨g, 0, none⟩) n c, .int .i64 i, .slice (some ⟨gv, 0, none⟩) 1 1] w fun e w' => ∃ g' cap', e = .returned (.slice (some ⟨g', 0, none⟩) (n + 1) cap') ∧ lo ≤ g' ∧ RowAt w' g' (hV (l.take i ++ x :: l.drop i)) ∧ Chg w w' g (g + 1) := by
  subst hi
  subst hl
  have e1 : l.take l.length ++ x :: l.drop l.length = l ++ [x] := by simp
  rw [e1]
  obtain ⟨i0, hi0, hz0, hz1, hz2⟩ := info_parts infoHdr
  have Hown := Lib.hid hown
  have Hv := Lib.hid hv
  clear hown hv e1
  go_enter Tryz.func149, Tryz.ntmps149
  go_wp2_with (at_builtin; refine wpList_append_own _ rfl _ _ 24 rfl lo 112 i0 _ 2 32 Tryz.underlying24 hi0 hz0 hz1 hz2 rfl (by decide) _ _ _ rfl Hown.out ⟨gv, 0, none⟩ 1 1 [.string x.1, .string x.2] rfl rfl (fun j u hu => by rw [Addr.add_lit, Nat.zero_add]; exact Hv.out.cell j u hu) (by intro u hu; simp at hu; rcases hu with rfl | rfl <;> rfl) (by unfold maxLen; omega) (by omega) hlo ?_; intro v1 w1 hown1 hg1 _; obtain ⟨g1, cap1, rfl, hlo1, hrow1⟩ := own_shape hown1)
  all_goals (go_ret; first | exact ⟨g1, cap1, rfl, hlo1, by rw [← hV_snoc1]; exact hrow1, chg_grown hg1⟩ | exact ⟨g1, ⟨cap1, rfl⟩, hlo1, by rw [← hV_snoc1]; exact hrow1, chg_grown hg1⟩)
theorem take_app_le {α : Type} {L A E : List α} {k : Nat} (h : L = A ++ E) (hk : A.length ≤ k) : ∃ F, L.take k = A ++ F ∧ F.length = min (k - A.length) E.length := by
  subst h
  exact ⟨E.take (k - A.length), by rw [List.take_append, List.take_of_length_le hk], by rw [List.length_take]⟩
/-- What a row holds when the cells D went up by the length of X and X was put in their place. -/
theorem ins_row {w : World} {g k m : Nat} {L A D X rest : List Value} (hrow : RowAt w g L) (hL : L = A ++ (D ++ rest)) (hA : A.length = k) (hX : X.length = m) (hr : m ≤ rest.length) :
    RowAt (w.setCells g (k + m) D) g (A ++ ((D ++ rest).take m ++ D ++ rest.drop m)) ∧ RowAt ((w.setCells g (k + m) D).setCells g k X) g (A ++ X ++ D) := by
  have hL2 : L = (A ++ (D ++ rest).take m) ++ (D ++ rest).drop m := by rw [hL, List.append_assoc, List.take_append_drop]
  have h1 : RowAt (w.setCells g (k + m) D) g ((A ++ (D ++ rest).take m) ++ D ++ ((D ++ rest).drop m).drop D.length) := by
    refine copyK_row (by rw [← hL2]; exact hrow) (by rw [List.length_append, List.length_take, List.length_append]; omega) (by rw [List.length_drop, List.length_append]; omega)
  have e1 : ((D ++ rest).drop m).drop D.length = rest.drop m := by
    rw [List.drop_drop, Nat.add_comm, ← List.drop_drop, List.drop_left]
  rw [e1] at h1
  have h1' : RowAt (w.setCells g (k + m) D) g (A ++ ((D ++ rest).take m ++ D ++ rest.drop m)) := by simpa using h1
  refine ⟨h1', ?_⟩
  have hT : ((D ++ rest).take m).length = m := by rw [List.length_take, List.length_append]; omega
  have h2 := copyK_row (cs := X) h1' hA (by rw [List.length_append, List.length_append]; omega)
  have e2 : ((D ++ rest).take m ++ D ++ rest.drop m).drop X.length = D ++ rest.drop m := by
    rw [hX, List.append_assoc, List.drop_append_of_le_length (by omega), List.drop_of_length_le (by omega), List.nil_append]
  rw [e2, ← List.append_assoc] at h2
  exact h2.pre
set_option maxHeartbeats 4000000 in
set_option maxRecDepth 100000 in
theorem insert_room (lo g n c gv : Nat) (l : List Hd) (x : Hd) (hl : l.length = n) (hn : n ≤ 100000) (w : World) (hown : w.ownsRow lo 112 2 (.slice (some ⟨g, 0, none⟩) n c) n (hV l)) (hlo : lo ≤ w.heap.size)
    (hv : w.heap[gv]? = some (.cells #[.string x.1, .string x.2] 112 (0, 0))) (hne : gv ≠ g) (i : Nat) (hi : i < n) (hroom : n + 1 ≤ c) :
    Calls Tryz.prog 149 #[.slice (some ⟨g, 0, none⟩) n c, .int .i64 i, .slice (some ⟨gv, 0, none⟩) 1 1] w fun e w' => ∃ g' cap', e = .returned (.slice (some ⟨g', 0, none⟩) (n + 1) cap') ∧ lo ≤ g' ∧ RowAt w' g' (hV (l.take i ++ x :: l.drop i)) ∧ Chg w w' g (g + 1) := by
  obtain ⟨hlog, hnc, hc63, cur, hg, hsz, rest, hcur, hrl⟩ := own_cur hown
  unfold maxLen at hc63
  have hsz2 : (Tryz.prog.info? 112).map (·.size) = some 2 := by kernel_rfl
  have hrow : RowAt w g cur.toList := row_all hg
  have hvr : RowAt w gv [.string x.1, .string x.2] := row_all hv
  have hlV : (hV l).length = n * 2 := by rw [hV_len, hl]
  have hL : cur.toList = (hV l).take (i * 2) ++ ((hV l).drop (i * 2) ++ rest) := by rw [hcur, ← List.append_assoc, List.take_append_drop]
  have hA : ((hV l).take (i * 2)).length = i * 2 := by rw [List.length_take]; omega
  have hDl : ((hV l).drop (i * 2)).length = (n - i) * 2 := by rw [List.length_drop, hlV, Nat.sub_mul]
  obtain ⟨hr1, hr2⟩ := ins_row (X := [.string x.1, .string x.2]) (m := 2) hrow hL hA rfl (by omega)
  have hD1 : ∀ u ∈ (hV l).drop (i * 2), u.oneCell' = true := fun u hu => one_hV l u (List.mem_of_mem_drop hu)
  have hsrc : ∀ j v, ((hV l).drop (i * 2))[j]? = some v → w.cell? ((⟨g, i * 2, none⟩ : Addr).add j) = some v := fun j v hj => by
    rw [Addr.add_lit]
    refine hrow.cell _ _ ?_
    rw [hL, List.getElem?_append_right (by omega), hA, Nat.add_sub_cancel_left, List.getElem?_append_left (List.getElem?_eq_some_iff.1 hj).1]
    exact hj
  have hfin : (hV l).take (i * 2) ++ [.string x.1, .string x.2] ++ (hV l).drop (i * 2) = hV (l.take i ++ x :: l.drop i) := by
    rw [hV_ins, hV_take, hV_drop, List.append_assoc]
  have hL2 : cur.toList = ((hV l).take (i * 2) ++ ((hV l).drop (i * 2) ++ rest).take 2) ++ ((hV l).drop (i * 2) ++ rest).drop 2 := by rw [hL, List.append_assoc, List.take_append_drop]
  have hcp1 := fun ty dc sc => copyK (P := Tryz.prog) w.drew 24 24 112 2 Tryz.underlying24 hsz2 g (i * 2 + 2) (n + 1 - (i + 1)) ⟨g, i * 2, none⟩ (n + 1 - i) (n - i) (by simp only [Nat.min_def]; split <;> omega) _ _ _ hDl (by rw [← hL2]; exact hrow) (by simp only [List.length_append, List.length_take, List.length_drop, hlV]; omega) (by simp only [List.length_append, List.length_take, List.length_drop, hlV]; omega) hsrc hD1 ty dc sc
  generalize hDD : (hV l).drop (i * 2) = D at *
  have hv2 : ∀ j v, ([.string x.1, .string x.2] : List Value)[j]? = some v → (w.setCells g (i * 2 + 2) D).cell? ((⟨gv, 0, none⟩ : Addr).add j) = some v := fun j v hj => by
    rw [Addr.add_lit, Nat.zero_add]
    exact (copyK_chg w g (i * 2 + 2) D).cell (hvr.cell j v hj) (by omega)
  have hcp2 : ∀ (W : World), W.heap = (w.setCells g (i * 2 + 2) D).heap → ∀ ty dc, (Builtin.copy_ #[24, 24] ty #[.slice (some ⟨g, i * 2, none⟩) (n + 1 - i) dc, .slice (some ⟨gv, 0, none⟩) 1 1]).run Tryz.prog W = .ok (goInt 1) (W.setCells g (i * 2) [.string x.1, .string x.2]) := fun W hW ty dc => by
    refine copyK (P := Tryz.prog) W 24 24 112 2 Tryz.underlying24 hsz2 g (i * 2) (n + 1 - i) ⟨gv, 0, none⟩ 1 1 (by simp only [Nat.min_def]; split <;> omega) _ _ _ rfl (hr1.block (by rw [hW])) hA (by rw [List.length_append, List.length_append, List.length_take, List.length_append]; show 2 ≤ _; omega) (fun j v hj => ?_) (by intro u hu; simp at hu; rcases hu with rfl | rfl <;> rfl) ty dc 1
    have := hv2 j v hj
    unfold World.cell? at this ⊢
    rw [hW]
    exact this
  have hsa : w.shape? gv = some (112, 2) := by simp [World.shape?, hv]
  have hsb : w.shape? g = some (112, c * 2) := by simp [World.shape?, hg, hsz]
  have hfa : w.frozen? ⟨gv, 0, none⟩ = false := by simp [World.frozen?, hv]
  have hfe : w.frozen? { block := gv, off := 2 } = false := by simp [World.frozen?, hv]
  have hov : ∀ lb cb, (callFunc 178 #[.slice (some ⟨gv, 0, none⟩) 1 1, .slice (some ⟨g, i * 2 + 2, none⟩) lb cb]).run Tryz.prog w = .ok (.value (.bool false)) w := fun lb cb => by
    rw [run_callFunc_extern Tryz.func178 (by kernel_rfl) (by kernel_rfl) (by kernel_rfl) (e := Extern.SlicesOverlaps.overlaps #[24, 24] #[4]) (by kernel_rfl),
      Lib.run_overlaps_apart w 24 4 112 Tryz.underlying24 2 (fun w => by kernel_rfl) ⟨gv, 0, none⟩ ⟨g, i * 2 + 2, none⟩ 1 1 lb cb hne _ _ _ _ hsa hsb (by omega) hfa hfe]
    rfl
  have hw1 : IntKind.i64.wrap ((i : Int) + 1) = (i : Int) + 1 := wrapi _ (by omega) (by omega)
  have hw2 : IntKind.i64.wrap ((n : Int) + 1) = (n : Int) + 1 := wrapi _ (by omega) (by omega)
  have hb1 : (0 : Int) ≤ (i : Int) + 1 := by omega
  have hin : i ≤ n := by omega
  have hz2 : ¬ ((i : Int) = (n : Int)) := by omega
  have htn : ((i : Int) + 1).toNat = i + 1 := by omega
  have hb2 : ¬ (c = i + 1) := by omega
  have hb3 : (i : Int) ≤ (n : Int) + 1 := by omega
  have hb4 : ¬ (c = i) := by omega
  have Hfin := Lib.hid hfin
  have Hr2 := Lib.hid hr2
  clear hrow hvr hL hL2 hr1 hr2 hsrc hv2 hown hg hv hcur hfin hsa hsb hfa hfe
  have mixed : Tryz.prog.follows .mixedOrders = true := by kernel_rfl
  have e2 : i * 2 + 2 = (i + 1) * 2 := by omega
  rw [e2] at hcp1 hcp2 hov
  rw [e2] at Hr2
  rw [Nat.add_sub_add_right] at hcp1
  clear e2
  have hcp2' := hcp2 (w.drew.setCells g ((i + 1) * 2) D) (by rw [← Go.Proofs.drew_setCells]; rfl)
  clear hcp2
  go_enter Tryz.func149, Tryz.ntmps149
  go_wp2_with (simp only [hov])
  go_region_law_o (refine Go.Proofs.step_copy_runI rfl _ _ 24 24 rfl _ _ (by simp [Act.eval, Act.put]) (by simp [Act.eval, Act.put]) (hcp1 _ _ _) ?_)
  go_wp2_with (at_builtin; refine Go.Proofs.wpList_copy_runI _ rfl _ _ 24 24 rfl _ _ rfl rfl (hcp2' _ _) ?_)
  go_ret
  have hch : Chg w ((w.drew.setCells g ((i + 1) * 2) D).setCells g (i * 2) [.string x.1, .string x.2]) g (g + 1) := ((Chg.refl w g (g + 1)).drew.trans (copyK_chg w.drew g ((i + 1) * 2) D)).trans (copyK_chg _ g (i * 2) _)
  have hrr : RowAt ((w.drew.setCells g ((i + 1) * 2) D).setCells g (i * 2) [.string x.1, .string x.2]) g (hV (l.take i ++ x :: l.drop i)) := by
    rw [← Hfin.out, ← Go.Proofs.drew_setCells, ← Go.Proofs.drew_setCells]; exact Hr2.out
  first | exact ⟨g, c, rfl, hlog, hrr, hch⟩ | exact ⟨g, ⟨c, rfl⟩, hlog, hrr, hch⟩
theorem zeroK_len (z : Array Value) (n : Nat) : (Builtin.zeroCells z n).toList.length = n * z.size := by simp [Builtin.zeroCells]
set_option maxHeartbeats 4000000 in
set_option maxRecDepth 100000 in
theorem insert_grow (lo g n c gv : Nat) (l : List Hd) (x : Hd) (hl : l.length = n) (hn : n ≤ 100000) (w : World) (hown : w.ownsRow lo 112 2 (.slice (some ⟨g, 0, none⟩) n c) n (hV l)) (hlo : lo ≤ w.heap.size)
    (hv : w.heap[gv]? = some (.cells #[.string x.1, .string x.2] 112 (0, 0))) (i : Nat) (hi : i < n) (hroom : c < n + 1) :
    Calls Tryz.prog 149 #[.slice (some ⟨g, 0, none⟩) n c, .int .i64 i, .slice (some ⟨gv, 0, none⟩) 1 1] w fun e w' => ∃ g' cap', e = .returned (.slice (some ⟨g', 0, none⟩) (n + 1) cap') ∧ lo ≤ g' ∧ RowAt w' g' (hV (l.take i ++ x :: l.drop i)) ∧ Chg w w' g (g + 1) := by
  obtain ⟨hlog, hnc, hc63, cur, hg, hsz, rest, hcur, hrl⟩ := own_cur hown
  unfold maxLen at hc63
  obtain ⟨i0, hi0, hz0, hz1, hz2⟩ := info_parts infoHdr
  have hsz2 : (Tryz.prog.info? 112).map (·.size) = some 2 := by kernel_rfl
  have hrow : RowAt w g cur.toList := row_all hg
  have hvr : RowAt w gv [.string x.1, .string x.2] := row_all hv
  have hlV : (hV l).length = n * 2 := by rw [hV_len, hl]
  have hL : cur.toList = (hV l).take (i * 2) ++ ((hV l).drop (i * 2) ++ rest) := by rw [hcur, ← List.append_assoc, List.take_append_drop]
  have hA : ((hV l).take (i * 2)).length = i * 2 := by rw [List.length_take]; omega
  have hDl : ((hV l).drop (i * 2)).length = (n - i) * 2 := by rw [List.length_drop, hlV, Nat.sub_mul]
  have hD1 : ∀ u ∈ (hV l).drop (i * 2), u.oneCell' = true := fun u hu => one_hV l u (List.mem_of_mem_drop hu)
  have hsrcD : ∀ j v, ((hV l).drop (i * 2))[j]? = some v → w.cell? ⟨g, i * 2 + j, none⟩ = some v := fun j v hj => by
    refine hrow.cell _ _ ?_
    rw [hL, List.getElem?_append_right (by omega), hA, Nat.add_sub_cancel_left, List.getElem?_append_left (List.getElem?_eq_some_iff.1 hj).1]
    exact hj
  have hfin : (hV l).take (i * 2) ++ [.string x.1, .string x.2] ++ (hV l).drop (i * 2) = hV (l.take i ++ x :: l.drop i) := by
    rw [hV_ins, hV_take, hV_drop, List.append_assoc]
  have hold : (Builtin.firstCells i0.size i (.slice (some ⟨g, 0, none⟩) i c)).run Tryz.prog w.drew = .ok ((hV l).take (i * 2)).toArray w.drew := by
    rw [hz1]
    exact run_firstCells_some w.drew 2 i ⟨g, 0, none⟩ i c ((hV l).take (i * 2)) hA (fun j v hj => by
      rw [Addr.add_lit, Nat.zero_add]
      refine hrow.cell j v ?_
      rw [hL, List.getElem?_append_left (List.getElem?_eq_some_iff.1 hj).1]
      exact hj)
  have hik : i + (n + 1 - i) = n + 1 := by omega
  have hrz : ∀ ty, (Builtin.append_ #[24, 3] ty #[.slice (some ⟨g, 0, none⟩) i c, .int .i64 (((n + 1 - i : Nat) : Int))]).run Tryz.prog w =
      .ok (.slice (some ⟨w.heap.size, 0, none⟩) (n + 1) (grownCap w (n + 1) c 112)) (w.drew.alloc (.cells (((hV l).take (i * 2)).toArray ++ Builtin.zeroCells (Value.agg #[.string ⟨#[]⟩, .string ⟨#[]⟩]).cells (n + 1 - i) ++ Builtin.zeroCells (Value.agg #[.string ⟨#[]⟩, .string ⟨#[]⟩]).cells (grownCap w (n + 1) c 112 - (n + 1))) 112)) := fun ty => by
    have h := Lib.run_append_grow_zeros w 24 3 ty 112 i0 _ .i64 .i64 Tryz.underlying24 Tryz.underlying3 hi0 hz0 (some ⟨g, 0, none⟩) i c ((hV l).take (i * 2)) hold (n + 1 - i) (by omega) (by omega) (by omega) (by omega) (by rw [hz2]; omega) (by rw [hz2, hik]; exact growslice_fits hroom (by omega))
    rw [hik] at h
    exact h
  have hgl := hrow.lt
  have hvl := hvr.lt
  have hzA : ((Value.agg #[.string ⟨#[]⟩, .string ⟨#[]⟩]).cells).size = 2 := by rfl
  obtain ⟨Z1, hZ1⟩ : ∃ Z, Z = (Builtin.zeroCells (Value.agg #[.string ⟨#[]⟩, .string ⟨#[]⟩]).cells (n + 1 - i)).toList := ⟨_, rfl⟩
  have hZl : Z1.length = (n + 1 - i) * 2 := by rw [hZ1, zeroK_len, hzA]
  obtain ⟨W1, hW1⟩ : ∃ W1, W1 = w.drew.alloc (.cells (((hV l).take (i * 2)).toArray ++ Builtin.zeroCells (Value.agg #[.string ⟨#[]⟩, .string ⟨#[]⟩]).cells (n + 1 - i) ++ Builtin.zeroCells (Value.agg #[.string ⟨#[]⟩, .string ⟨#[]⟩]).cells (grownCap w (n + 1) c 112 - (n + 1))) 112) := ⟨_, rfl⟩
  have hN : RowAt W1 w.heap.size ((hV l).take (i * 2) ++ Z1) := by
    rw [hW1]
    refine RowAt.pre (D := (Builtin.zeroCells (Value.agg #[.string ⟨#[]⟩, .string ⟨#[]⟩]).cells (grownCap w (n + 1) c 112 - (n + 1))).toList) ?_
    exact RowAt.of_alloc w.drew _ _ _ (by rw [Array.toList_append, Array.toList_append, hZ1])
  have hbel : Below w.heap.size w W1 := by rw [hW1]; exact (Below.refl _ _ : Below w.heap.size w w).drew.alloc (Nat.le_refl _) _
  rw [← hW1] at hrz
  generalize hDD : (hV l).drop (i * 2) = D at *
  generalize hAA : (hV l).take (i * 2) = A at *
  have hgn : g ≠ w.heap.size := by omega
  have hvn : gv ≠ w.heap.size := by omega
  have hX1 : ∀ u ∈ ([.string x.1, .string x.2] : List Value), u.oneCell' = true := by intro u hu; simp at hu; rcases hu with rfl | rfl <;> rfl
  have hcpA : ∀ ty dc, (Builtin.copy_ #[24, 24] ty #[.slice (some ⟨w.heap.size, i * 2, none⟩) (n + 1 - i) dc, .slice (some ⟨gv, 0, none⟩) 1 1]).run Tryz.prog W1 = .ok (goInt 1) (W1.setCells w.heap.size (i * 2) [.string x.1, .string x.2]) := fun ty dc =>
    copyK (P := Tryz.prog) W1 24 24 112 2 Tryz.underlying24 hsz2 w.heap.size (i * 2) (n + 1 - i) ⟨gv, 0, none⟩ 1 1 (by simp only [Nat.min_def]; split <;> omega) _ _ _ rfl hN hA (by rw [hZl]; show 2 ≤ _; omega) (fun j v hj => by
      rw [Addr.add_lit, Nat.zero_add]
      exact (hbel.cell (p := ⟨gv, j, none⟩) hvl).trans (hvr.cell j v hj)) hX1 ty dc 1
  have hr1 : RowAt (W1.setCells w.heap.size (i * 2) [.string x.1, .string x.2]) w.heap.size ((A ++ [.string x.1, .string x.2]) ++ Z1.drop 2) := copyK_row hN hA (by rw [hZl]; show 2 ≤ _; omega)
  have hcpB : ∀ ty dc sc, (Builtin.copy_ #[24, 24] ty #[.slice (some ⟨w.heap.size, (i + 1) * 2, none⟩) (n - i) dc, .slice (some ⟨g, i * 2, none⟩) (n - i) sc]).run Tryz.prog (W1.setCells w.heap.size (i * 2) [.string x.1, .string x.2]).drew = .ok (goInt ((n - i : Nat) : Int)) ((W1.setCells w.heap.size (i * 2) [.string x.1, .string x.2]).drew.setCells w.heap.size ((i + 1) * 2) D) := fun ty dc sc =>
    copyK (P := Tryz.prog) (W1.setCells w.heap.size (i * 2) [.string x.1, .string x.2]).drew 24 24 112 2 Tryz.underlying24 hsz2 w.heap.size ((i + 1) * 2) (n - i) ⟨g, i * 2, none⟩ (n - i) (n - i) (Nat.min_self _) _ _ _ hDl (show RowAt (W1.setCells w.heap.size (i * 2) [.string x.1, .string x.2]).drew w.heap.size _ from hr1.drew) (by rw [List.length_append, hA]; show i * 2 + 2 = _; omega) (by rw [List.length_drop, hZl, hDl]; omega) (fun j v hj => by
      rw [Addr.add_lit]
      exact (copyK_chg W1 w.heap.size (i * 2) _).cell ((hbel.cell (p := ⟨g, i * 2 + j, none⟩) hgl).trans (hsrcD j v hj)) (by omega)) hD1 ty dc sc
  have hr2 : RowAt ((W1.setCells w.heap.size (i * 2) [.string x.1, .string x.2]).drew.setCells w.heap.size ((i + 1) * 2) D) w.heap.size (A ++ [.string x.1, .string x.2] ++ D) :=
    (copyK_row (show RowAt (W1.setCells w.heap.size (i * 2) [.string x.1, .string x.2]).drew w.heap.size _ from hr1.drew) (by rw [List.length_append, hA]; show i * 2 + 2 = _; omega) (by rw [List.length_drop, hZl, hDl]; omega)).pre
  rw [hfin] at hr2
  have hbw : Below w.heap.size w ((W1.setCells w.heap.size (i * 2) [.string x.1, .string x.2]).drew.setCells w.heap.size ((i + 1) * 2) D) :=
    Chg.below (((copyK_chg W1 w.heap.size (i * 2) [.string x.1, .string x.2]).drew).trans (copyK_chg _ w.heap.size ((i + 1) * 2) D)) hbel (Nat.le_refl _)
  have hkk : (n : Int) + 1 - (i : Int) = ((n + 1 - i : Nat) : Int) := by omega
  have hGn : n + 1 ≤ grownCap w (n + 1) c 112 := grownCap_ge w _ _ _
  have hG63 : grownCap w (n + 1) c 112 ≤ 9223372036854775807 := by
    have := grownCap_le_maxLen w (n + 1) c 112 (by unfold maxLen; omega)
    unfold maxLen at this
    omega
  obtain ⟨G, hG⟩ : ∃ G, G = grownCap w (n + 1) c 112 := ⟨_, rfl⟩
  rw [← hG] at hrz hGn hG63
  rw [← hkk] at hrz
  have hw1 : IntKind.i64.wrap ((i : Int) + 1) = (i : Int) + 1 := wrapi _ (by omega) (by omega)
  have hw2 : IntKind.i64.wrap ((n : Int) + 1) = (n : Int) + 1 := wrapi _ (by omega) (by omega)
  have hw3 : IntKind.i64.wrap ((n : Int) + 1 - (i : Int)) = (n : Int) + 1 - (i : Int) := wrapi _ (by omega) (by omega)
  have hb1 : (0 : Int) ≤ (i : Int) + 1 := by omega
  have hin : i ≤ n := by omega
  have hz2' : ¬ ((i : Int) = (n : Int)) := by omega
  have hz3 : (c : Int) < (n : Int) + 1 := by omega
  have htn : ((i : Int) + 1).toNat = i + 1 := by omega
  have hb3 : (i : Int) ≤ (n : Int) + 1 := by omega
  have hGi : ¬ (G = i) := by omega
  have hGim : ¬ (G = i + 1) := by omega
  have hci : ¬ (c = i) := by omega
  have mixed : Tryz.prog.follows .mixedOrders = true := by kernel_rfl
  have Hr2 := Lib.hid hr2
  have Hbw := Lib.hid hbw
  clear hrow hvr hL hr1 hN hsrcD hown hg hv hcur hfin hold hik hZ1 hW1 hG hkk hr2 hbw hbel hX1 hD1 hzA
  go_enter Tryz.func149, Tryz.ntmps149
  go_wp2_with (first
    | (at_builtin; refine Lib.wpList_append_run _ rfl _ _ _ _ rfl _ _ rfl rfl _ _ (hrz _) ?_)
    | (at_builtin; refine Go.Proofs.wpList_copy_runI _ rfl _ _ 24 24 rfl _ _ rfl rfl (hcpA _ _) ?_))
  go_region_law_o (refine Go.Proofs.step_copy_runI rfl _ _ 24 24 rfl _ _ (by simp [Act.eval, Act.put]) (by simp [Act.eval, Act.put]) (hcpB _ _ _) ?_)
  go_wp2
  go_ret
  have hch := Chg.of_below Hbw.out g (g + 1)
  first | exact ⟨w.heap.size, G, rfl, hlo, Hr2.out, hch⟩ | exact ⟨w.heap.size, ⟨G, rfl⟩, hlo, Hr2.out, hch⟩
theorem slices_Insert (lo g n c gv : Nat) (l : List Hd) (x : Hd) (hl : l.length = n) (hn : n ≤ 100000) (w : World) (hown : w.ownsRow lo 112 2 (.slice (some ⟨g, 0, none⟩) n c) n (hV l)) (hlo : lo ≤ w.heap.size)
    (hv : w.heap[gv]? = some (.cells #[.string x.1, .string x.2] 112 (0, 0))) (hne : gv ≠ g) (i : Nat) (hi : i ≤ n) :
    Calls Tryz.prog 149 #[.slice (some ⟨g, 0, none⟩) n c, .int .i64 i, .slice (some ⟨gv, 0, none⟩) 1 1] w fun e w' => ∃ g' cap', e = .returned (.slice (some ⟨g', 0, none⟩) (n + 1) cap') ∧ lo ≤ g' ∧ RowAt w' g' (hV (l.take i ++ x :: l.drop i)) ∧ Chg w w' g (g + 1) := by
  by_cases h : i = n
  · exact insert_end lo g n c gv l x hl hn w hown hlo (row_all hv) i h
  · by_cases h2 : n + 1 ≤ c
    · exact insert_room lo g n c gv l x hl hn w hown hlo hv hne i (by omega) h2
    · exact insert_grow lo g n c gv l x hl hn w hown hlo hv i (by omega) (by omega)
end Go.Proofs.YthiogijicknoiaaGreatDoor
