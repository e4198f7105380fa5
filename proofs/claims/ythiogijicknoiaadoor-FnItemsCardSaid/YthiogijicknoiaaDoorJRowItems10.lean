/- Joined: ItemOf. -/
import Derived.Test.YthiogijicknoiaaDoorJRowItems8
import Derived.Test.YthiogijicknoiaaDoorJRowItems5
import Derived.RegionTactic
import Derived.ChangeAlike
/- The item of a piece: both texts. -/
namespace Go.Proofs.YthiogijicknoiaaDoor
open Go.RowKit
set_option linter.unusedSimpArgs false
set_option linter.unusedVariables false

/-- Two results, of which the first lies in a row. -/
theorem res_row2 {P : Program} {fn : Func} {p q : Tmp} {ty : TypeId} (h : fn.results = #[.cell p ty, .tmp q]) (tmps : Array Value) (w : World) {g : Nat} {t : TypeId} {cs : Array Value} {fr : Nat × Nat} {d : TypeDesc}
    (hp : tmps.getD p undef = .pointer (some ⟨g, 0, none⟩)) (hg : w.heap[g]? = some (.cells cs t fr))
    (hu : P.underlying ty = some d) (hd : (match d with | .struct _ | .array _ _ => true | _ => false) = true) (n : Nat) (hi : (P.info? ty).map (·.size) = some n) (hn : n = cs.size) {v : Value} (hv : tmps.getD q undef = v) :
    (results fn tmps).run P w = .ok (.tuple #[.agg cs, v]) w := by
  have hl := run_loadVar_row (P := P) w g t ty cs fr d hg hu hd (by rw [hi, hn])
  have ha : (asAddr (tmps.getD p undef)).run P w = .ok ⟨g, 0, none⟩ w := by rw [hp]; rfl
  rw [Array.getD_eq_getD_getElem?] at ha hv
  simp only [results, h]
  simp [Sem.run_bind, ha, hl, hv, Result.andThen]
theorem itOf_noname {s : ByteArray} (h : wordS (ba (Lib.cut s.data.toList [61]).1) = false) : itOf s = none := by rw [itOf, if_neg (by rw [h]; decide)]
theorem itOf_bare {s : ByteArray} (h : wordS (ba (Lib.cut s.data.toList [61]).1) = true) (h2 : (Lib.cut s.data.toList [61]).2.2 = false) : itOf s = some (s, false, ⟨#[]⟩) := by rw [itOf, if_pos h, if_neg (by rw [h2]; decide)]
theorem itOf_word {s : ByteArray} (h : wordS (ba (Lib.cut s.data.toList [61]).1) = true) (h2 : (Lib.cut s.data.toList [61]).2.2 = true) (h3 : wordS (ba (Lib.cut s.data.toList [61]).2.1) = true) : itOf s = some (ba (Lib.cut s.data.toList [61]).1, true, ba (Lib.cut s.data.toList [61]).2.1) := by rw [itOf, if_pos h, if_pos h2, if_pos h3]
theorem itOf_quoted {s : ByteArray} {b : List UInt8} (h : wordS (ba (Lib.cut s.data.toList [61]).1) = true) (h2 : (Lib.cut s.data.toList [61]).2.2 = true) (h3 : wordS (ba (Lib.cut s.data.toList [61]).2.1) = false) (h4 : unqO (ba (Lib.cut s.data.toList [61]).2.1) = some b) : itOf s = some (ba (Lib.cut s.data.toList [61]).1, true, ba b) := by
  rw [itOf, if_pos h, if_pos h2, if_neg (by rw [h3]; decide), h4]
theorem itOf_badq {s : ByteArray} (h : wordS (ba (Lib.cut s.data.toList [61]).1) = true) (h2 : (Lib.cut s.data.toList [61]).2.2 = true) (h3 : wordS (ba (Lib.cut s.data.toList [61]).2.1) = false) (h4 : unqO (ba (Lib.cut s.data.toList [61]).2.1) = none) : itOf s = none := by
  rw [itOf, if_pos h, if_pos h2, if_neg (by rw [h3]; decide), h4]
theorem cut_small (s : ByteArray) (c : UInt8) : (ba (Lib.cut s.data.toList [c]).1).size ≤ s.size ∧ (ba (Lib.cut s.data.toList [c]).2.1).size ≤ s.size := by
  unfold Lib.cut
  split
  · exact ⟨by rw [ba_size, List.length_take, Array.length_toList]; exact Nat.min_le_right _ _, by rw [ba_size, List.length_drop, Array.length_toList]; exact Nat.sub_le _ _⟩
  · exact ⟨by rw [ba_size, Array.length_toList]; exact Nat.le_refl _, by rw [ba_size]; exact Nat.zero_le _⟩
set_option maxRecDepth 100000 in
set_option maxHeartbeats 3200000 in
theorem impl_itemOf (s : ByteArray) (hs : s.size ≤ 1000) (w : World) (hm : MaxL w) : Calls Tryd.prog 54 #[.string s] w fun e w' => ∃ x : It, e = .returned (.tuple #[.agg #[.string x.1, .bool x.2.1, .string x.2.2], .bool (itOf s).isSome]) ∧ (∀ y, itOf s = some y → x = y) ∧ Below w.heap.size w w' := by
  obtain ⟨z1, z2⟩ := cut_small s 61
  have hcut := fun W hm => strings_Cut s ⟨#[61]⟩ (by omega) W hm
  have hiw1 := fun W => impl_IsWord (ba (Lib.cut s.data.toList [61]).1) W (by omega)
  have hiw2 := fun W => impl_IsWord (ba (Lib.cut s.data.toList [61]).2.1) W (by omega)
  rw [show (⟨#[61]⟩ : ByteArray).data.toList = [61] from rfl] at hcut
  by_cases h1 : wordS (ba (Lib.cut s.data.toList [61]).1) = true
  · rw [h1] at hiw1
    by_cases h2 : (Lib.cut s.data.toList [61]).2.2 = true
    · rw [h2] at hcut
      by_cases h3 : wordS (ba (Lib.cut s.data.toList [61]).2.1) = true
      · have E := Lib.hid (itOf_word h1 h2 h3)
        rw [h3] at hiw2
        have Hcut := Lib.hid hcut
        have Hiw1 := Lib.hid hiw1
        have Hiw2 := Lib.hid hiw2
        clear hcut hiw1 hiw2 h1 h2 h3
        go_enter Tryd.func54, Tryd.ntmps54
        go_wp2_with (first
          | (go_at_call 30; ((with_reducible refine (Hcut.out _ (MaxL.then hm (by exact (by first | (with_reducible exact Below.refl _ _) | ((repeat' (first | (with_reducible exact Below.refl _ _) | (with_reducible assumption) | (with_reducible refine below_alloc ?_ _) | (with_reducible refine Below.drew ?_) | (with_reducible refine below_drewN ?_ _) | (with_reducible refine Below.setCell ?_ ?_ _) | refine below_then ?_ (by with_reducible assumption))) <;> (first | omega | (simp; done) | (simp; omega))))))).mono ?_); rintro e w' ⟨rfl, hb⟩; obtain ⟨hc, hf⟩ := bcell hb; have hz := hb.size; (try simp only [World.size_alloc, World.size_setCell, World.size_drew] at hz); obtain ⟨hlt, hle, hn1, hn2, hn3, hn4⟩ := bsize hb; (try simp only [World.size_alloc, World.size_setCell, World.size_drew] at hlt hle hn1 hn2 hn3 hn4); (try have hr0 : w.heap.size < w'.heap.size := by omega); (try have hr1 : w.heap.size + 1 < w'.heap.size := by omega); (try have hs0 : wS.heap.size < w'.heap.size := by omega); (try have hs1 : wG.heap.size < w'.heap.size := by omega)))
          | (go_at_call 48; ((with_reducible refine (Hiw1.out _).mono ?_); rintro e w' ⟨rfl, rfl⟩))
          | (go_at_call 48; ((with_reducible refine (Hiw2.out _).mono ?_); rintro e w' ⟨rfl, rfl⟩)))
        exact bodyPost_ret (res_row2 Tryd.results54 _ _ rfl (blk_cast (by repeat' (first | (with_reducible assumption) | (with_reducible exact blk_new _ _) | (with_reducible apply blk_set) | (with_reducible refine blk_alloc ?_ _) | (with_reducible refine blk_drew ?_) | refine blk_then ?_ (by with_reducible assumption))) (by first | (simp; done) | rfl)) Tryd.underlying70 rfl _ (by kernel_rfl) rfl rfl) rfl (by rw [E.out]; exact ⟨(_, _, _), rfl, fun y hy => (by first | (cases hy; rfl) | cases hy), by exact (by first | (with_reducible exact Below.refl _ _) | ((repeat' (first | (with_reducible exact Below.refl _ _) | (with_reducible assumption) | (with_reducible refine below_alloc ?_ _) | (with_reducible refine Below.drew ?_) | (with_reducible refine below_drewN ?_ _) | (with_reducible refine Below.setCell ?_ ?_ _) | refine below_then ?_ (by with_reducible assumption))) <;> (first | omega | (simp; done) | (simp; omega))))⟩)
      · simp only [Bool.not_eq_true] at h3
        rw [h3] at hiw2
        have hun := fun W => impl_UnquoteText (ba (Lib.cut s.data.toList [61]).2.1) W (by omega)
        have Hcut := Lib.hid hcut
        have Hiw1 := Lib.hid hiw1
        have Hiw2 := Lib.hid hiw2
        cases h4 : unqO (ba (Lib.cut s.data.toList [61]).2.1) with
        | some b =>
          have E := Lib.hid (itOf_quoted h1 h2 h3 h4)
          rw [unqR_yes (by omega) h4] at hun
          have Hun := Lib.hid hun
          clear hcut hiw1 hiw2 h1 h2 h3 h4 hun
          go_enter Tryd.func54, Tryd.ntmps54
          go_wp2_with (first
            | (go_at_call 30; ((with_reducible refine (Hcut.out _ (MaxL.then hm (by exact (by first | (with_reducible exact Below.refl _ _) | ((repeat' (first | (with_reducible exact Below.refl _ _) | (with_reducible assumption) | (with_reducible refine below_alloc ?_ _) | (with_reducible refine Below.drew ?_) | (with_reducible refine below_drewN ?_ _) | (with_reducible refine Below.setCell ?_ ?_ _) | refine below_then ?_ (by with_reducible assumption))) <;> (first | omega | (simp; done) | (simp; omega))))))).mono ?_); rintro e w' ⟨rfl, hb⟩; obtain ⟨hc, hf⟩ := bcell hb; have hz := hb.size; (try simp only [World.size_alloc, World.size_setCell, World.size_drew] at hz); obtain ⟨hlt, hle, hn1, hn2, hn3, hn4⟩ := bsize hb; (try simp only [World.size_alloc, World.size_setCell, World.size_drew] at hlt hle hn1 hn2 hn3 hn4); (try have hr0 : w.heap.size < w'.heap.size := by omega); (try have hr1 : w.heap.size + 1 < w'.heap.size := by omega); (try have hs0 : wS.heap.size < w'.heap.size := by omega); (try have hs1 : wG.heap.size < w'.heap.size := by omega)))
            | (go_at_call 48; ((with_reducible refine (Hiw1.out _).mono ?_); rintro e w' ⟨rfl, rfl⟩))
            | (go_at_call 48; ((with_reducible refine (Hiw2.out _).mono ?_); rintro e w' ⟨rfl, rfl⟩))
            | (go_at_call 90; ((with_reducible refine (Hun.out _).mono ?_); rintro e w' ⟨rfl, hb⟩; obtain ⟨hc, hf⟩ := bcell hb; have hz := hb.size; (try simp only [World.size_alloc, World.size_setCell, World.size_drew] at hz); obtain ⟨hlt, hle, hn1, hn2, hn3, hn4⟩ := bsize hb; (try simp only [World.size_alloc, World.size_setCell, World.size_drew] at hlt hle hn1 hn2 hn3 hn4); (try have hr0 : w.heap.size < w'.heap.size := by omega); (try have hr1 : w.heap.size + 1 < w'.heap.size := by omega); (try have hs0 : wS.heap.size < w'.heap.size := by omega); (try have hs1 : wG.heap.size < w'.heap.size := by omega))))
          go_region
          all_goals (go_wp2_with fail)
          all_goals exact bodyPost_ret (res_row2 Tryd.results54 _ _ rfl (blk_cast (by repeat' (first | (with_reducible assumption) | (with_reducible exact blk_new _ _) | (with_reducible apply blk_set) | (with_reducible refine blk_alloc ?_ _) | (with_reducible refine blk_drew ?_) | refine blk_then ?_ (by with_reducible assumption))) (by first | (simp; done) | rfl)) Tryd.underlying70 rfl _ (by kernel_rfl) rfl rfl) rfl (by rw [E.out]; exact ⟨(_, _, _), rfl, fun y hy => (by first | (cases hy; rfl) | cases hy), by exact (by first | (with_reducible exact Below.refl _ _) | ((repeat' (first | (with_reducible exact Below.refl _ _) | (with_reducible assumption) | (with_reducible refine below_alloc ?_ _) | (with_reducible refine Below.drew ?_) | (with_reducible refine below_drewN ?_ _) | (with_reducible refine Below.setCell ?_ ?_ _) | refine below_then ?_ (by with_reducible assumption))) <;> (first | omega | (simp; done) | (simp; omega))))⟩)
        | none =>
          have E := Lib.hid (itOf_badq h1 h2 h3 h4)
          rw [unqR_no (by omega) h4] at hun
          have Hun := Lib.hid hun
          clear hcut hiw1 hiw2 h1 h2 h3 h4 hun
          go_enter Tryd.func54, Tryd.ntmps54
          go_wp2_with (first
            | (go_at_call 30; ((with_reducible refine (Hcut.out _ (MaxL.then hm (by exact (by first | (with_reducible exact Below.refl _ _) | ((repeat' (first | (with_reducible exact Below.refl _ _) | (with_reducible assumption) | (with_reducible refine below_alloc ?_ _) | (with_reducible refine Below.drew ?_) | (with_reducible refine below_drewN ?_ _) | (with_reducible refine Below.setCell ?_ ?_ _) | refine below_then ?_ (by with_reducible assumption))) <;> (first | omega | (simp; done) | (simp; omega))))))).mono ?_); rintro e w' ⟨rfl, hb⟩; obtain ⟨hc, hf⟩ := bcell hb; have hz := hb.size; (try simp only [World.size_alloc, World.size_setCell, World.size_drew] at hz); obtain ⟨hlt, hle, hn1, hn2, hn3, hn4⟩ := bsize hb; (try simp only [World.size_alloc, World.size_setCell, World.size_drew] at hlt hle hn1 hn2 hn3 hn4); (try have hr0 : w.heap.size < w'.heap.size := by omega); (try have hr1 : w.heap.size + 1 < w'.heap.size := by omega); (try have hs0 : wS.heap.size < w'.heap.size := by omega); (try have hs1 : wG.heap.size < w'.heap.size := by omega)))
            | (go_at_call 48; ((with_reducible refine (Hiw1.out _).mono ?_); rintro e w' ⟨rfl, rfl⟩))
            | (go_at_call 48; ((with_reducible refine (Hiw2.out _).mono ?_); rintro e w' ⟨rfl, rfl⟩))
            | (go_at_call 90; ((with_reducible refine (Hun.out _).mono ?_); rintro e w' ⟨rfl, hb⟩; obtain ⟨hc, hf⟩ := bcell hb; have hz := hb.size; (try simp only [World.size_alloc, World.size_setCell, World.size_drew] at hz); obtain ⟨hlt, hle, hn1, hn2, hn3, hn4⟩ := bsize hb; (try simp only [World.size_alloc, World.size_setCell, World.size_drew] at hlt hle hn1 hn2 hn3 hn4); (try have hr0 : w.heap.size < w'.heap.size := by omega); (try have hr1 : w.heap.size + 1 < w'.heap.size := by omega); (try have hs0 : wS.heap.size < w'.heap.size := by omega); (try have hs1 : wG.heap.size < w'.heap.size := by omega))))
          go_region
          all_goals (go_wp2_with fail)
          all_goals exact bodyPost_ret (res_row2 Tryd.results54 _ _ rfl (blk_cast (by repeat' (first | (with_reducible assumption) | (with_reducible exact blk_new _ _) | (with_reducible apply blk_set) | (with_reducible refine blk_alloc ?_ _) | (with_reducible refine blk_drew ?_) | refine blk_then ?_ (by with_reducible assumption))) (by first | (simp; done) | rfl)) Tryd.underlying70 rfl _ (by kernel_rfl) rfl rfl) rfl (by rw [E.out]; exact ⟨(_, _, _), rfl, fun y hy => (by first | (cases hy; rfl) | cases hy), by exact (by first | (with_reducible exact Below.refl _ _) | ((repeat' (first | (with_reducible exact Below.refl _ _) | (with_reducible assumption) | (with_reducible refine below_alloc ?_ _) | (with_reducible refine Below.drew ?_) | (with_reducible refine below_drewN ?_ _) | (with_reducible refine Below.setCell ?_ ?_ _) | refine below_then ?_ (by with_reducible assumption))) <;> (first | omega | (simp; done) | (simp; omega))))⟩)
    · simp only [Bool.not_eq_true] at h2
      have e : (Lib.cut s.data.toList [61]).1 = s.data.toList ∧ (Lib.cut s.data.toList [61]).2.1 = [] := by
        unfold Lib.cut at h2 ⊢
        split
        · rename_i h; rw [if_pos h] at h2; cases h2
        · exact ⟨rfl, rfl⟩
      have E := Lib.hid (itOf_bare h1 h2)
      rw [h2, e.1, e.2, ba_of] at hcut
      rw [e.1, ba_of] at hiw1
      have Hcut := Lib.hid hcut
      have Hiw1 := Lib.hid hiw1
      clear hcut hiw1 hiw2 h1 h2 e
      go_enter Tryd.func54, Tryd.ntmps54
      go_wp2_with (first
        | (go_at_call 30; ((with_reducible refine (Hcut.out _ (MaxL.then hm (by exact (by first | (with_reducible exact Below.refl _ _) | ((repeat' (first | (with_reducible exact Below.refl _ _) | (with_reducible assumption) | (with_reducible refine below_alloc ?_ _) | (with_reducible refine Below.drew ?_) | (with_reducible refine below_drewN ?_ _) | (with_reducible refine Below.setCell ?_ ?_ _) | refine below_then ?_ (by with_reducible assumption))) <;> (first | omega | (simp; done) | (simp; omega))))))).mono ?_); rintro e w' ⟨rfl, hb⟩; obtain ⟨hc, hf⟩ := bcell hb; have hz := hb.size; (try simp only [World.size_alloc, World.size_setCell, World.size_drew] at hz); obtain ⟨hlt, hle, hn1, hn2, hn3, hn4⟩ := bsize hb; (try simp only [World.size_alloc, World.size_setCell, World.size_drew] at hlt hle hn1 hn2 hn3 hn4); (try have hr0 : w.heap.size < w'.heap.size := by omega); (try have hr1 : w.heap.size + 1 < w'.heap.size := by omega); (try have hs0 : wS.heap.size < w'.heap.size := by omega); (try have hs1 : wG.heap.size < w'.heap.size := by omega)))
        | (go_at_call 48; ((with_reducible refine (Hiw1.out _).mono ?_); rintro e w' ⟨rfl, rfl⟩)))
      exact bodyPost_ret (res_row2 Tryd.results54 _ _ rfl (blk_cast (by repeat' (first | (with_reducible assumption) | (with_reducible exact blk_new _ _) | (with_reducible apply blk_set) | (with_reducible refine blk_alloc ?_ _) | (with_reducible refine blk_drew ?_) | refine blk_then ?_ (by with_reducible assumption))) (by first | (simp; done) | rfl)) Tryd.underlying70 rfl _ (by kernel_rfl) rfl rfl) rfl (by rw [E.out]; exact ⟨(_, _, _), rfl, fun y hy => (by first | (cases hy; rfl) | cases hy), by exact (by first | (with_reducible exact Below.refl _ _) | ((repeat' (first | (with_reducible exact Below.refl _ _) | (with_reducible assumption) | (with_reducible refine below_alloc ?_ _) | (with_reducible refine Below.drew ?_) | (with_reducible refine below_drewN ?_ _) | (with_reducible refine Below.setCell ?_ ?_ _) | refine below_then ?_ (by with_reducible assumption))) <;> (first | omega | (simp; done) | (simp; omega))))⟩)
  · simp only [Bool.not_eq_true] at h1
    have E := Lib.hid (itOf_noname h1)
    rw [h1] at hiw1
    have Hiw1 := Lib.hid hiw1
    by_cases h2 : (Lib.cut s.data.toList [61]).2.2 = true
    · rw [h2] at hcut
      have Hcut := Lib.hid hcut
      clear hcut hiw1 hiw2 h1 h2
      go_enter Tryd.func54, Tryd.ntmps54
      go_wp2_with (first
        | (go_at_call 30; ((with_reducible refine (Hcut.out _ (MaxL.then hm (by exact (by first | (with_reducible exact Below.refl _ _) | ((repeat' (first | (with_reducible exact Below.refl _ _) | (with_reducible assumption) | (with_reducible refine below_alloc ?_ _) | (with_reducible refine Below.drew ?_) | (with_reducible refine below_drewN ?_ _) | (with_reducible refine Below.setCell ?_ ?_ _) | refine below_then ?_ (by with_reducible assumption))) <;> (first | omega | (simp; done) | (simp; omega))))))).mono ?_); rintro e w' ⟨rfl, hb⟩; obtain ⟨hc, hf⟩ := bcell hb; have hz := hb.size; (try simp only [World.size_alloc, World.size_setCell, World.size_drew] at hz); obtain ⟨hlt, hle, hn1, hn2, hn3, hn4⟩ := bsize hb; (try simp only [World.size_alloc, World.size_setCell, World.size_drew] at hlt hle hn1 hn2 hn3 hn4); (try have hr0 : w.heap.size < w'.heap.size := by omega); (try have hr1 : w.heap.size + 1 < w'.heap.size := by omega); (try have hs0 : wS.heap.size < w'.heap.size := by omega); (try have hs1 : wG.heap.size < w'.heap.size := by omega)))
        | (go_at_call 48; ((with_reducible refine (Hiw1.out _).mono ?_); rintro e w' ⟨rfl, rfl⟩)))
      exact bodyPost_ret (res_row2 Tryd.results54 _ _ rfl (blk_cast (by repeat' (first | (with_reducible assumption) | (with_reducible exact blk_new _ _) | (with_reducible apply blk_set) | (with_reducible refine blk_alloc ?_ _) | (with_reducible refine blk_drew ?_) | refine blk_then ?_ (by with_reducible assumption))) (by first | (simp; done) | rfl)) Tryd.underlying70 rfl _ (by kernel_rfl) rfl rfl) rfl (by rw [E.out]; exact ⟨(_, _, _), rfl, fun y hy => (by first | (cases hy; rfl) | cases hy), by exact (by first | (with_reducible exact Below.refl _ _) | ((repeat' (first | (with_reducible exact Below.refl _ _) | (with_reducible assumption) | (with_reducible refine below_alloc ?_ _) | (with_reducible refine Below.drew ?_) | (with_reducible refine below_drewN ?_ _) | (with_reducible refine Below.setCell ?_ ?_ _) | refine below_then ?_ (by with_reducible assumption))) <;> (first | omega | (simp; done) | (simp; omega))))⟩)
    · simp only [Bool.not_eq_true] at h2
      rw [h2] at hcut
      have Hcut := Lib.hid hcut
      clear hcut hiw1 hiw2 h1 h2
      go_enter Tryd.func54, Tryd.ntmps54
      go_wp2_with (first
        | (go_at_call 30; ((with_reducible refine (Hcut.out _ (MaxL.then hm (by exact (by first | (with_reducible exact Below.refl _ _) | ((repeat' (first | (with_reducible exact Below.refl _ _) | (with_reducible assumption) | (with_reducible refine below_alloc ?_ _) | (with_reducible refine Below.drew ?_) | (with_reducible refine below_drewN ?_ _) | (with_reducible refine Below.setCell ?_ ?_ _) | refine below_then ?_ (by with_reducible assumption))) <;> (first | omega | (simp; done) | (simp; omega))))))).mono ?_); rintro e w' ⟨rfl, hb⟩; obtain ⟨hc, hf⟩ := bcell hb; have hz := hb.size; (try simp only [World.size_alloc, World.size_setCell, World.size_drew] at hz); obtain ⟨hlt, hle, hn1, hn2, hn3, hn4⟩ := bsize hb; (try simp only [World.size_alloc, World.size_setCell, World.size_drew] at hlt hle hn1 hn2 hn3 hn4); (try have hr0 : w.heap.size < w'.heap.size := by omega); (try have hr1 : w.heap.size + 1 < w'.heap.size := by omega); (try have hs0 : wS.heap.size < w'.heap.size := by omega); (try have hs1 : wG.heap.size < w'.heap.size := by omega)))
        | (go_at_call 48; ((with_reducible refine (Hiw1.out _).mono ?_); rintro e w' ⟨rfl, rfl⟩)))
      exact bodyPost_ret (res_row2 Tryd.results54 _ _ rfl (blk_cast (by repeat' (first | (with_reducible assumption) | (with_reducible exact blk_new _ _) | (with_reducible apply blk_set) | (with_reducible refine blk_alloc ?_ _) | (with_reducible refine blk_drew ?_) | refine blk_then ?_ (by with_reducible assumption))) (by first | (simp; done) | rfl)) Tryd.underlying70 rfl _ (by kernel_rfl) rfl rfl) rfl (by rw [E.out]; exact ⟨(_, _, _), rfl, fun y hy => (by first | (cases hy; rfl) | cases hy), by exact (by first | (with_reducible exact Below.refl _ _) | ((repeat' (first | (with_reducible exact Below.refl _ _) | (with_reducible assumption) | (with_reducible refine below_alloc ?_ _) | (with_reducible refine Below.drew ?_) | (with_reducible refine below_drewN ?_ _) | (with_reducible refine Below.setCell ?_ ?_ _) | refine below_then ?_ (by with_reducible assumption))) <;> (first | omega | (simp; done) | (simp; omega))))⟩)
end Go.Proofs.YthiogijicknoiaaDoor
