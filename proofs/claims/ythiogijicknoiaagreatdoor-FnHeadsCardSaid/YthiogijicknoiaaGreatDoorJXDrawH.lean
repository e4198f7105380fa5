/- Joined: DrawH. -/
import Derived.Test.YthiogijicknoiaaGreatDoorJXAppV
import Derived.Test.YthiogijicknoiaaGreatDoorJB5
import Derived.Test.YthiogijicknoiaaGreatDoorJB15
/- What is drawn for head lines. -/
namespace Go.Proofs.YthiogijicknoiaaGreatDoor
open Go.RowKit
set_option linter.unusedSimpArgs false
set_option linter.unusedVariables false

/-- All lines are small. -/
def SmH (k : Nat) (l : List Hd) : Prop := ∀ h ∈ l, h.1.size ≤ k ∧ h.2.size ≤ k
theorem SmH.snoc {k : Nat} {l : List Hd} (h : SmH k l) {x y : ByteArray} (hx : x.size ≤ k) (hy : y.size ≤ k) : SmH k (l ++ [(x, y)]) := fun i hi =>
  (List.mem_append.1 hi).elim (fun h' => h i h') (fun h' => by rw [List.mem_singleton.1 h']; exact ⟨hx, hy⟩)
theorem SmH.big {k : Nat} {l : List Hd} (h : SmH k l) (hk : k ≤ 9223372036854775807) : ∀ i ∈ l, i.1.size ≤ 9223372036854775807 ∧ i.2.size ≤ 9223372036854775807 := fun i hi => ⟨Nat.le_trans (h i hi).1 hk, Nat.le_trans (h i hi).2 hk⟩
theorem SmH.mono {k k' : Nat} {l : List Hd} (h : SmH k l) (hk : k ≤ k') : SmH k' l := fun i hi => ⟨Nat.le_trans (h i hi).1 hk, Nat.le_trans (h i hi).2 hk⟩
theorem SmH.nil (k : Nat) : SmH k [] := fun _ h => by cases h
theorem one_hV (l : List Hd) : ∀ u ∈ hV l, u.oneCell' = true := by
  intro u hu
  unfold hV cellsOf at hu
  obtain ⟨i, _, hi⟩ := List.mem_flatMap.1 hu
  simp [hEnc] at hi
  rcases hi with rfl | rfl <;> rfl
theorem hV_app2 (l m : List Hd) : hV (l ++ m) = hV l ++ hV m := by simp [hV, cellsOf]
/-- One line behind a row of lines. -/
theorem app_hdr (g n cap : Nat) (l : List Hd) (hl : l.length = n) (hn : n ≤ 1000) (x y : ByteArray) (w : World) (hB : VRow w g n cap 2 (hV l)) (ty : TypeId) :
    ∃ g' cap' w', (Builtin.append_ #[24, 24] ty #[.slice (some ⟨g, 0, none⟩) n cap, .slice (some ⟨w.heap.size, 0, none⟩) 1 1]).run Tryz.prog (w.alloc (.cells #[.string x, .string y] 112)) = .ok (.slice (some ⟨g', 0, none⟩) (n + 1) cap') w' ∧
      (g' = g ∨ w.heap.size ≤ g') ∧ VRow w' g' (n + 1) cap' 2 (hV (l ++ [(x, y)])) ∧ Chg (w.alloc (.cells #[.string x, .string y] 112)) w' g (g + 1) := by
  obtain ⟨g', cap', w', h1, h2, h3, h4⟩ := app_vals Tryz.underlying24 infoHdr rfl (some ⟨w.heap.size, 0, none⟩) 1 1 (hV [(x, y)]) rfl (one_hV _) g n cap (hV l) (w.alloc (.cells #[.string x, .string y] 112)) (hB.alloc _) (RowAt.rd (RowAt.of_alloc _ _ _ _ rfl)) (fun h => by cases h) (by omega) (by omega) (by omega) ty
  rw [World.size_alloc] at h2
  exact ⟨g', cap', w', h1, by omega, by rw [hV_app2]; exact h3, h4⟩
theorem fzh {w : World} {g : Nat} {cs : Array Value} {t : TypeId} (h : w.heap[g]? = some (.cells cs t (0, 0))) (k : Nat) : w.frozen? ⟨g, k, none⟩ = false := by simp [World.frozen?, h]
set_option maxHeartbeats 6400000 in
theorem spec_l4DrawLine (G : Nat) (a : Option Addr) (n c K : Nat) (w : World) (hs : Src w G a n c K) (hK : K ≤ 900000) :
    Calls Tryz.prog 143 #[.pointer (some ⟨G, 0, none⟩)] w fun e w' => ∃ x y : ByteArray, e = .returned (.agg #[.string x, .string y]) ∧ (x.size ≤ 100 ∧ y.size ≤ 100) ∧ Src w' G a n c (K + 3) ∧ w.grownBy w' (some G) := by
  have hG := hs.lt
  have hne0 : w.heap.size ≠ G := by omega
  obtain ⟨hG1, hG2⟩ := gstart hG
  go_enter Tryz.func143, Tryz.ntmps143
  go_wp2_with (first
    | (go_at_call 71; ((with_reducible refine (spec_l1Next G a n c K _ (by omega) (by omega) _ (hs.alloc _) (by omega)).mono ?_); rintro e w1 ⟨r, rfl, ⟨hr0, hr1⟩, hs1, hg1⟩; have z1 := blk_g (blk_new w (.cells #[.string ⟨#[]⟩, .string ⟨#[]⟩] 112)) hg1 hne0; have l1 := hs1.lt; have fz := fzh z1; obtain ⟨j0, j1⟩ := cells2 z1))
    | (go_at_call 56; ((with_reducible refine (spec_l1Word (fun x => x.size ≤ 100) G a n c (K + 1 + 1) _ 10 _ _ rfl (by omega) (by omega) (strs_small _ _ (by kernel_rfl)) _ (hs2.alloc _) (by omega) (rd_at (by first | rfl | (simp; done))) (by first | omega | (simp; omega))).mono ?_); rintro e w3 ⟨y, rfl, hy, hs3, hg3⟩; have z3 := blk_g (blk_alloc z2 _) hg3 hne0; have fz := fzh z3; obtain ⟨j0, j1⟩ := cells2 z3)) | (go_at_call 56; ((with_reducible refine (spec_l1Word (fun x => x.size ≤ 100) G a n c (K + 1 + 1) _ 3 _ _ rfl (by omega) (by omega) (strs_small _ _ (by kernel_rfl)) _ (hs2.alloc _) (by omega) (rd_at (by first | rfl | (simp; done))) (by first | omega | (simp; omega))).mono ?_); rintro e w3 ⟨y, rfl, hy, hs3, hg3⟩; have z3 := blk_g (blk_alloc z2 _) hg3 hne0; have fz := fzh z3; obtain ⟨j0, j1⟩ := cells2 z3)) | (go_at_call 56; ((with_reducible refine (spec_l1Word (fun x => x.size ≤ 100) G a n c (K + 1 + 1) _ 4 _ _ rfl (by omega) (by omega) (strs_small _ _ (by kernel_rfl)) _ (hs2.alloc _) (by omega) (rd_at (by first | rfl | (simp; done))) (by first | omega | (simp; omega))).mono ?_); rintro e w3 ⟨y, rfl, hy, hs3, hg3⟩; have z3 := blk_g (blk_alloc z2 _) hg3 hne0; have fz := fzh z3; obtain ⟨j0, j1⟩ := cells2 z3))
    | (go_at_call 56; ((with_reducible refine (spec_l1Word (fun x => x.size ≤ 100) G a n c (K + 1) _ 2 _ _ rfl (by omega) (by omega) (strs_small _ _ (by kernel_rfl)) _ (hs1.alloc _) (by omega) (rd_at (by first | rfl | (simp; done))) (by first | omega | (simp; omega))).mono ?_); rintro e w2 ⟨x, rfl, hx, hs2, hg2⟩; have z2 := blk_g (blk_alloc z1 _) hg2 hne0; have l2 := hs2.lt; have fz := fzh z2; obtain ⟨j0, j1⟩ := cells2 z2)) | (go_at_call 56; ((with_reducible refine (spec_l1Word (fun x => x.size ≤ 100) G a n c (K + 1) _ 3 _ _ rfl (by omega) (by omega) (strs_small _ _ (by kernel_rfl)) _ (hs1.alloc _) (by omega) (rd_at (by first | rfl | (simp; done))) (by first | omega | (simp; omega))).mono ?_); rintro e w2 ⟨x, rfl, hx, hs2, hg2⟩; have z2 := blk_g (blk_alloc z1 _) hg2 hne0; have l2 := hs2.lt; have fz := fzh z2; obtain ⟨j0, j1⟩ := cells2 z2)) | (go_at_call 56; ((with_reducible refine (spec_l1Word (fun x => x.size ≤ 100) G a n c (K + 1) _ 4 _ _ rfl (by omega) (by omega) (strs_small _ _ (by kernel_rfl)) _ (hs1.alloc _) (by omega) (rd_at (by first | rfl | (simp; done))) (by first | omega | (simp; omega))).mono ?_); rintro e w2 ⟨x, rfl, hx, hs2, hg2⟩; have z2 := blk_g (blk_alloc z1 _) hg2 hne0; have l2 := hs2.lt; have fz := fzh z2; obtain ⟨j0, j1⟩ := cells2 z2)))
  all_goals first | exact bodyPost_ret (res_row Tryz.results143 _ _ rfl (blk_set (blk_set z3 0 _) 1 _) Tryz.underlying112 rfl _ (by kernel_rfl) rfl) rfl ⟨_, _, rfl, ⟨by first | omega | decide, by first | omega | decide⟩, Src.other (Src.other (Src.mono hs3 (by omega)) _ _ (by show G < w.heap.size; omega)) _ _ (by show G < w.heap.size; omega), by exact (by repeat' (first | (with_reducible assumption) | (with_reducible exact World.grownBy.refl _ _) | (with_reducible refine g_alloc ?_ _) | (with_reducible refine g_drew ?_) | (with_reducible refine g_drewN ?_ _) | (with_reducible refine g_set ?_ (by first | omega | (simp; done) | (simp; omega)) _) | refine g_then ?_ (by with_reducible assumption) | refine g_below ?_ (by with_reducible assumption)))⟩ | exact bodyPost_ret (res_row Tryz.results143 _ _ rfl (blk_set (blk_set z2 0 _) 1 _) Tryz.underlying112 rfl _ (by kernel_rfl) rfl) rfl ⟨_, _, rfl, ⟨by first | omega | decide, by first | omega | decide⟩, Src.other (Src.other (Src.mono hs2 (by omega)) _ _ (by show G < w.heap.size; omega)) _ _ (by show G < w.heap.size; omega), by exact (by repeat' (first | (with_reducible assumption) | (with_reducible exact World.grownBy.refl _ _) | (with_reducible refine g_alloc ?_ _) | (with_reducible refine g_drew ?_) | (with_reducible refine g_drewN ?_ _) | (with_reducible refine g_set ?_ (by first | omega | (simp; done) | (simp; omega)) _) | refine g_then ?_ (by with_reducible assumption) | refine g_below ?_ (by with_reducible assumption)))⟩
end Go.Proofs.YthiogijicknoiaaGreatDoor
