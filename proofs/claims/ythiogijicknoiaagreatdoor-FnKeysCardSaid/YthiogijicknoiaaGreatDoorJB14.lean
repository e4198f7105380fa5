/- Joined: KeyS. -/
import Derived.Test.YthiogijicknoiaaGreatDoorJB11
import Derived.Test.YthiogijicknoiaaGreatDoorJB0
import Derived.Laws.Cover1
import Derived.Sort.Walk0
/- Texts in the order of their bytes: the reference's text. -/
namespace Go.Proofs.YthiogijicknoiaaGreatDoor
open Go.RowKit
set_option linter.unusedSimpArgs false
set_option linter.unusedVariables false

theorem leB_go (x y : ByteArray) : (Op.bytesLess x.toList y.toList || x.toList == y.toList) = leB x y := by
  rw [bytesLess_eq, ByteArray.toList_eq, ByteArray.toList_eq]
  unfold leB leT
  rw [Bool.eq_iff_iff]
  simp only [Bool.or_eq_true, decide_eq_true_eq, beq_iff_eq]
  constructor
  · rintro (h | h)
    · exact List.le_of_lt h
    · rw [h]; exact List.le_refl _
  · intro h
    by_cases q : x.data.toList < y.data.toList
    · exact .inl q
    · exact .inr (List.le_antisymm h q)
theorem sortB_take (xs : List ByteArray) (k : Nat) (h : k < xs.length) : sortB (xs.take (k + 1)) = insG leB xs[k] (sortB (xs.take k)) := by
  rw [List.take_add_one, List.getElem?_eq_getElem h, Option.toList_some]
  exact sortG_snoc leB _ _
set_option maxRecDepth 100000 in
set_option maxHeartbeats 3200000 in
theorem spec_l5Sort (xs : List ByteArray) (a : Option Addr) (n c : Nat) (hl : xs.length = n) (w : World) (hr : Rd w a (strV xs)) (hn : n ≤ 1000) :
    Calls Tryz.prog 162 #[.slice a n c] w fun e w' => ∃ g cap, e = .returned (.slice (some ⟨g, 0, none⟩) n cap) ∧ w.heap.size ≤ g ∧ RowAt w' g (strV (sortB xs)) ∧ Below w.heap.size w w' := by
  go_enter Tryz.func162, Tryz.ntmps162
  go_wp2
  go_loopw [3, 4] (fun v iv wr => ∃ k g cap, k ≤ n ∧ iv = .int .i64 (k : Int) ∧ v = .slice (some ⟨g, 0, none⟩) k cap ∧ w.heap.size ≤ g ∧ SRow wr g k cap (sortB (xs.take k)) ∧ Below w.heap.size w wr) (fun _ iv _ => n - (intOf iv).toNat)
  case atStart => exact ⟨0, _, _, Nat.zero_le _, rfl, rfl, Nat.le_refl _, SRow.start _ _, below_alloc (Below.refl _ _) _⟩
  case round =>
    obtain ⟨k, g, cap, hk, rfl, rfl, hg, hS, hb⟩ := hrel
    by_cases hlt : k < n
    · obtain ⟨b, off, rfl, hbw, hcx⟩ : ∃ b off, a = some ⟨b, off, none⟩ ∧ b < w.heap.size ∧ w.cell? ⟨b, off + k, none⟩ = some (.string (xs[k]'(by omega))) := hr k _ (by rw [strV, List.getElem?_map, List.getElem?_eq_getElem (by omega)]; rfl)
      have hnext := sortB_take xs k (by omega)
      have hsl := hS.1
      generalize xs[k]'(by omega) = x at *
      generalize sortB (xs.take k) = S at *
      have hcx2 := (hb.cell (p := ⟨b, off + k, none⟩) hbw).trans hcx
      have Hnext := Lib.hid hnext
      have HS := Lib.hid hS
      have hgl := hS.lt
      clear hnext hS hcx hr
      generalize wr = wo at *
      go_wp2
      go_loopw [5] (fun jv wq => ∃ j : Nat, jv = .int .i64 (j : Int) ∧ j ≤ k ∧ (∀ i (hi : i < S.length), i < j → leB S[i] x = true) ∧ Below wo.heap.size wo wq) (fun jv _ => k - (intOf jv).toNat)
      case atStart => exact ⟨0, rfl, Nat.zero_le _, fun i hi h => absurd h (Nat.not_lt_zero _), Below.refl _ _⟩
      case round =>
        obtain ⟨j, rfl, hjk, hall, hbq⟩ := hrel
        have Hall := Lib.hid hall
        clear hall
        have hcx3 := (hbq.cell (p := _) (by have := hb.size; show b < wo.heap.size; omega)).trans hcx2
        by_cases hj : j < k
        · have hcj : wr.cell? ⟨g, j, none⟩ = some (.string (S[j]'(by omega))) := (HS.out.row.then hbq).cell j _ (by rw [strV, List.getElem?_map, List.getElem?_eq_getElem (by omega)]; rfl)
          by_cases hle : leB (S[j]'(by omega)) x = true
          · have hgo := leB_go (S[j]'(by omega)) x
            rw [hle] at hgo
            have Hle := Lib.hid hle
            clear hle
            --LEAF go
            go_wp2
            go_quiet (fail)
            go_wp2
            go_roundw
            case rel => exact ⟨j + 1, by go_num, by omega, fun i hi h => by
              by_cases q : i = j
              · subst q; exact Hle.out
              · exact Hall.out i hi (by omega), by exact (by first | (with_reducible exact Below.refl _ _) | ((repeat' (first | (with_reducible exact Below.refl _ _) | (with_reducible assumption) | (with_reducible refine below_alloc ?_ _) | (with_reducible refine Below.drew ?_) | (with_reducible refine below_drewN ?_ _) | (with_reducible refine Below.setCell ?_ ?_ _) | refine below_then ?_ (by with_reducible assumption))) <;> (first | omega | (simp; done) | (simp; omega))))⟩
            case measure => simp [intOf]; omega
            --END
          · simp only [Bool.not_eq_true] at hle
            have hgo := leB_go (S[j]'(by omega)) x
            rw [hle] at hgo
            have hins := insG_at (le := leB) (x := x) (l := S) (k := j) (by omega) (fun i hi h => Hall.out i hi h) (fun h => hle)
            have Hins := Lib.hid hins
            clear hins hle
            --LEAF stop
            go_wp2
            go_quiet (fail)
            have hbz : Below wo.heap.size wo (wr.drewN nq) := by exact (by first | (with_reducible exact Below.refl _ _) | ((repeat' (first | (with_reducible exact Below.refl _ _) | (with_reducible assumption) | (with_reducible refine below_alloc ?_ _) | (with_reducible refine Below.drew ?_) | (with_reducible refine below_drewN ?_ _) | (with_reducible refine Below.setCell ?_ ?_ _) | refine below_then ?_ (by with_reducible assumption))) <;> (first | omega | (simp; done) | (simp; omega))))
            generalize (wr.drewN nq) = wz at *
            have hSz := HS.out.then hbz
            have hzz := hbz.size
            have hbS := hb.size
            have hjc := hSz.cap
            have hrow := hSz.row
            rw [← List.take_append_drop j S, strV_app] at hrow
            have hrd2 := RowAt.rd hrow
            have hltk : (S.take j).length = j := by rw [List.length_take]; omega
            obtain ⟨g1, cap1, W2, d1, d2, d3, d4⟩ := app_str wz.heap.size (some ⟨g, 0, none⟩) j cap (S.take j) hltk wz.heap.size 0 0 [] (wz.alloc (.cells #[] 9 (0, 0))) (SRow.start _ _) (Nat.le_refl _) (by rw [World.size_alloc]; omega) ((RowAt.pre hrow).rd.alloc _) (by omega) 27
            rw [Nat.zero_add] at d1 d3
            rw [List.nil_append] at d3
            have b2 : Below wz.heap.size wz W2 := d4.below (below_alloc (Below.refl _ _) _) (Nat.le_refl _)
            have q1 : wz.heap.size ≤ W2.heap.size := b2.size
            obtain ⟨g2, cap2, W3, e1, e2, e3, e4⟩ := app_str wz.heap.size (some ⟨W2.heap.size, 0, none⟩) 1 1 [x] rfl g1 j cap1 (S.take j) (W2.alloc (.cells #[.string x] 9 (0, 0))) (d3.then (below_alloc (Below.refl _ _) _)) d2 (by rw [World.size_alloc]; omega) (RowAt.rd (RowAt.of_alloc _ _ _ _ rfl)) (by omega) 27
            have b3 : Below wz.heap.size wz W3 := e4.below (below_alloc b2 _) d2
            have q2 : wz.heap.size ≤ W3.heap.size := b3.size
            have gx := (hbz.cell (p := _) (by have := hb.size; show b < wo.heap.size; omega)).trans hcx2
            have gx2 := (b2.cell (p := _) (by show b < wz.heap.size; omega)).trans gx
            have D1 := Lib.hid d1
            have E1 := Lib.hid e1
            have i1 : (0 : Int) ≤ (j : Int) := by omega
            have i2 : (j : Int) ≤ (cap : Int) := by omega
            have i5 : ((cap : Int) - (j : Int)).toNat = cap - j := by omega
            have hrdA : Rd wz (some ⟨g, j, none⟩) (strV (S.drop j)) := by
              have := Rd.from hrd2 j (by rw [strV_len, hltk])
              rw [Nat.zero_add] at this
              exact this
            obtain ⟨g3, cap3, W4, f1, f2, f3, f4⟩ := app_str wz.heap.size (some ⟨g, j, none⟩) (k - j) (cap - j) (S.drop j) (by rw [List.length_drop]; omega) g2 (j + 1) cap2 (S.take j ++ [x]) W3 e3 e2 q2 (hrdA.below b3) (by omega) 27
            have b4 : Below wz.heap.size wz W4 := f4.below b3 e2
            have hk1 : j + 1 + (k - j) = k + 1 := by omega
            rw [hk1] at f1 f3
            rw [List.append_assoc, List.singleton_append, ← Hins.out, ← Hnext.out] at f3
            have F1 := Lib.hid f1
            have F3 := Lib.hid f3
            have B4 := Lib.hid (below_then (below_then hb hbz) b4)
            have i3 : (j : Int) ≤ (k : Int) := by omega
            have i4 : ((k : Int) - (j : Int)).toNat = k - j := by omega
            have hg3 : w.heap.size ≤ g3 := by omega
            clear d1 d3 d4 e1 e3 e4 f1 f3 f4 b3 b4 hSz hrow hrd2 hrdA hbq hcx3 hbz hltk
            go_wp2_with (first
              | (at_builtin; refine wpList_appB (v := .slice (some ⟨wz.heap.size, 0, none⟩) 0 0) (xv := .slice (some ⟨g, 0, none⟩) j cap) rfl _ _ rfl (by rfl) (by rfl) D1.out ?_)
              | (at_builtin; refine wpList_appB (v := .slice (some ⟨g1, 0, none⟩) j cap1) (xv := .slice (some ⟨W2.heap.size, 0, none⟩) 1 1) rfl _ _ rfl (by rfl) (by rfl) E1.out ?_)
              | (at_builtin; refine wpList_appB (v := .slice (some ⟨g2, 0, none⟩) (j + 1) cap2) (xv := .slice (some ⟨g, j, none⟩) (k - j) (cap - j)) rfl _ _ rfl (by rfl) (by rfl) F1.out ?_))
            go_roundw
            case rel => exact ⟨k + 1, g3, cap3, by omega, by go_num, rfl, hg3, F3.out, B4.out⟩
            case measure => simp [intOf]; omega
            --END
        · have hjk2 : k - j = 0 := by omega
          have hkj : j = k := by omega
          subst hkj
          have hins := insG_at (le := leB) (x := x) (l := S) (k := j) (by omega) (fun i hi h => Hall.out i hi h) (fun h => absurd h (by omega))
          have Hins := Lib.hid hins
          clear hins
          --LEAF end
          by_cases hcap : cap = j
          · have hcap2 : j = cap := hcap.symm
            clear hcap
            subst hcap2
            go_wp2
            go_quiet (fail)
            have hbz : Below wo.heap.size wo (wr.drewN nq) := by exact (by first | (with_reducible exact Below.refl _ _) | ((repeat' (first | (with_reducible exact Below.refl _ _) | (with_reducible assumption) | (with_reducible refine below_alloc ?_ _) | (with_reducible refine Below.drew ?_) | (with_reducible refine below_drewN ?_ _) | (with_reducible refine Below.setCell ?_ ?_ _) | refine below_then ?_ (by with_reducible assumption))) <;> (first | omega | (simp; done) | (simp; omega))))
            generalize (wr.drewN nq) = wz at *
            have hSz := HS.out.then hbz
            have hzz := hbz.size
            have hbS := hb.size
            have hjc := hSz.cap
            have hrow := hSz.row
            rw [← List.take_append_drop j S, strV_app] at hrow
            have hrd2 := RowAt.rd hrow
            have hltk : (S.take j).length = j := by rw [List.length_take]; omega
            obtain ⟨g1, cap1, W2, d1, d2, d3, d4⟩ := app_str wz.heap.size (some ⟨g, 0, none⟩) j j (S.take j) hltk wz.heap.size 0 0 [] (wz.alloc (.cells #[] 9 (0, 0))) (SRow.start _ _) (Nat.le_refl _) (by rw [World.size_alloc]; omega) ((RowAt.pre hrow).rd.alloc _) (by omega) 27
            rw [Nat.zero_add] at d1 d3
            rw [List.nil_append] at d3
            have b2 : Below wz.heap.size wz W2 := d4.below (below_alloc (Below.refl _ _) _) (Nat.le_refl _)
            have q1 : wz.heap.size ≤ W2.heap.size := b2.size
            obtain ⟨g2, cap2, W3, e1, e2, e3, e4⟩ := app_str wz.heap.size (some ⟨W2.heap.size, 0, none⟩) 1 1 [x] rfl g1 j cap1 (S.take j) (W2.alloc (.cells #[.string x] 9 (0, 0))) (d3.then (below_alloc (Below.refl _ _) _)) d2 (by rw [World.size_alloc]; omega) (RowAt.rd (RowAt.of_alloc _ _ _ _ rfl)) (by omega) 27
            have b3 : Below wz.heap.size wz W3 := e4.below (below_alloc b2 _) d2
            have q2 : wz.heap.size ≤ W3.heap.size := b3.size
            have gx := (hbz.cell (p := _) (by have := hb.size; show b < wo.heap.size; omega)).trans hcx2
            have gx2 := (b2.cell (p := _) (by show b < wz.heap.size; omega)).trans gx
            have D1 := Lib.hid d1
            have E1 := Lib.hid e1
            have i1 : (0 : Int) ≤ (j : Int) := by omega
            have i2 : (j : Int) ≤ (j : Int) := by omega
            have i5 : ((j : Int) - (j : Int)).toNat = j - j := by omega
            have hdr : S.drop j = [] := List.eq_nil_of_length_eq_zero (by rw [List.length_drop]; omega)
            obtain ⟨g3, cap3, W4, f1, f2, f3, f4⟩ := app_str wz.heap.size (some ⟨g, 0, none⟩) 0 (0) [] rfl g2 (j + 1) cap2 (S.take j ++ [x]) W3 e3 e2 q2 (Rd.nil _ _) (by omega) 27
            have b4 : Below wz.heap.size wz W4 := f4.below b3 e2
            rw [Nat.add_zero] at f1 f3
            rw [List.append_nil] at f3
            have f3 : SRow W4 g3 (j + 1) cap3 (sortB (xs.take (j + 1))) := by rw [Hnext.out, Hins.out, hdr]; exact f3
            have F1 := Lib.hid f1
            have F3 := Lib.hid f3
            have B4 := Lib.hid (below_then (below_then hb hbz) b4)
            have hg3 : w.heap.size ≤ g3 := by omega
            clear d1 d3 d4 e1 e3 e4 f1 f3 b3 hSz hrow hrd2 hbq hcx3 hbz hltk hdr
            go_wp2_with (first
              | (at_builtin; refine wpList_appB (v := .slice (some ⟨wz.heap.size, 0, none⟩) 0 0) (xv := .slice (some ⟨g, 0, none⟩) j j) rfl _ _ rfl (by rfl) (by rfl) D1.out ?_)
              | (at_builtin; refine wpList_appB (v := .slice (some ⟨g1, 0, none⟩) j cap1) (xv := .slice (some ⟨W2.heap.size, 0, none⟩) 1 1) rfl _ _ rfl (by rfl) (by rfl) E1.out ?_)
              | (at_builtin; refine wpList_appB (v := .slice (some ⟨g2, 0, none⟩) (j + 1) cap2) (xv := .slice (some ⟨g, 0, none⟩) 0 (0)) rfl _ _ rfl (by rfl) (by rfl) F1.out ?_))
            go_roundw
            case rel => exact ⟨j + 1, g3, cap3, by omega, by go_num, rfl, hg3, F3.out, B4.out⟩
            case measure => simp [intOf]; omega
          · go_wp2
            go_quiet (fail)
            have hbz : Below wo.heap.size wo (wr.drewN nq) := by exact (by first | (with_reducible exact Below.refl _ _) | ((repeat' (first | (with_reducible exact Below.refl _ _) | (with_reducible assumption) | (with_reducible refine below_alloc ?_ _) | (with_reducible refine Below.drew ?_) | (with_reducible refine below_drewN ?_ _) | (with_reducible refine Below.setCell ?_ ?_ _) | refine below_then ?_ (by with_reducible assumption))) <;> (first | omega | (simp; done) | (simp; omega))))
            generalize (wr.drewN nq) = wz at *
            have hSz := HS.out.then hbz
            have hzz := hbz.size
            have hbS := hb.size
            have hjc := hSz.cap
            have hrow := hSz.row
            rw [← List.take_append_drop j S, strV_app] at hrow
            have hrd2 := RowAt.rd hrow
            have hltk : (S.take j).length = j := by rw [List.length_take]; omega
            obtain ⟨g1, cap1, W2, d1, d2, d3, d4⟩ := app_str wz.heap.size (some ⟨g, 0, none⟩) j cap (S.take j) hltk wz.heap.size 0 0 [] (wz.alloc (.cells #[] 9 (0, 0))) (SRow.start _ _) (Nat.le_refl _) (by rw [World.size_alloc]; omega) ((RowAt.pre hrow).rd.alloc _) (by omega) 27
            rw [Nat.zero_add] at d1 d3
            rw [List.nil_append] at d3
            have b2 : Below wz.heap.size wz W2 := d4.below (below_alloc (Below.refl _ _) _) (Nat.le_refl _)
            have q1 : wz.heap.size ≤ W2.heap.size := b2.size
            obtain ⟨g2, cap2, W3, e1, e2, e3, e4⟩ := app_str wz.heap.size (some ⟨W2.heap.size, 0, none⟩) 1 1 [x] rfl g1 j cap1 (S.take j) (W2.alloc (.cells #[.string x] 9 (0, 0))) (d3.then (below_alloc (Below.refl _ _) _)) d2 (by rw [World.size_alloc]; omega) (RowAt.rd (RowAt.of_alloc _ _ _ _ rfl)) (by omega) 27
            have b3 : Below wz.heap.size wz W3 := e4.below (below_alloc b2 _) d2
            have q2 : wz.heap.size ≤ W3.heap.size := b3.size
            have gx := (hbz.cell (p := _) (by have := hb.size; show b < wo.heap.size; omega)).trans hcx2
            have gx2 := (b2.cell (p := _) (by show b < wz.heap.size; omega)).trans gx
            have D1 := Lib.hid d1
            have E1 := Lib.hid e1
            have i1 : (0 : Int) ≤ (j : Int) := by omega
            have i2 : (j : Int) ≤ (cap : Int) := by omega
            have i5 : ((cap : Int) - (j : Int)).toNat = cap - j := by omega
            have hdr : S.drop j = [] := List.eq_nil_of_length_eq_zero (by rw [List.length_drop]; omega)
            obtain ⟨g3, cap3, W4, f1, f2, f3, f4⟩ := app_str wz.heap.size (some ⟨g, j, none⟩) 0 (cap - j) [] rfl g2 (j + 1) cap2 (S.take j ++ [x]) W3 e3 e2 q2 (Rd.nil _ _) (by omega) 27
            have b4 : Below wz.heap.size wz W4 := f4.below b3 e2
            rw [Nat.add_zero] at f1 f3
            rw [List.append_nil] at f3
            have f3 : SRow W4 g3 (j + 1) cap3 (sortB (xs.take (j + 1))) := by rw [Hnext.out, Hins.out, hdr]; exact f3
            have F1 := Lib.hid f1
            have F3 := Lib.hid f3
            have B4 := Lib.hid (below_then (below_then hb hbz) b4)
            have hg3 : w.heap.size ≤ g3 := by omega
            clear d1 d3 d4 e1 e3 e4 f1 f3 b3 hSz hrow hrd2 hbq hcx3 hbz hltk hdr
            go_wp2_with (first
              | (at_builtin; refine wpList_appB (v := .slice (some ⟨wz.heap.size, 0, none⟩) 0 0) (xv := .slice (some ⟨g, 0, none⟩) j cap) rfl _ _ rfl (by rfl) (by rfl) D1.out ?_)
              | (at_builtin; refine wpList_appB (v := .slice (some ⟨g1, 0, none⟩) j cap1) (xv := .slice (some ⟨W2.heap.size, 0, none⟩) 1 1) rfl _ _ rfl (by rfl) (by rfl) E1.out ?_)
              | (at_builtin; refine wpList_appB (v := .slice (some ⟨g2, 0, none⟩) (j + 1) cap2) (xv := .slice (some ⟨g, j, none⟩) 0 (cap - j)) rfl _ _ rfl (by rfl) (by rfl) F1.out ?_))
            go_roundw
            case rel => exact ⟨j + 1, g3, cap3, by omega, by go_num, rfl, hg3, F3.out, B4.out⟩
            case measure => simp [intOf]; omega
          --END
    · obtain rfl : k = n := by omega
      have htl : xs.take k = xs := List.take_of_length_le (by omega)
      rw [htl] at hS
      have hrow := hS.row
      --LEAF done
      go_wp2
      go_ret
      exact ⟨g, cap, rfl, hg, hrow, hb⟩
      --END
end Go.Proofs.YthiogijicknoiaaGreatDoor
