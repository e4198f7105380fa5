/- Joined: Parse. -/
import Derived.Test.YthiogijicknoiaaDoorJRowItems13
import Derived.Test.YthiogijicknoiaaDoorJRowItems0
import Derived.Test.YthiogijicknoiaaDoorJRowItems6
/- The items of a text: both texts, and the law. -/
namespace Go.Proofs.YthiogijicknoiaaDoor
open Go.RowKit
set_option linter.unusedSimpArgs false
set_option linter.unusedVariables false

theorem own_cells {w : World} {lo g n cap size : Nat} {e : TypeId} {xs : List Value} (h : w.ownsRow lo e size (.slice (some ⟨g, 0, none⟩) n cap) n xs) : ∃ cur, w.heap[g]? = some (.cells cur e (0, 0)) ∧ cur.toList.take xs.length = xs := by
  rcases h.2 with ⟨hn, _⟩ | ⟨g', cap', cur, hv, _, hg, _, _, _, ht⟩
  · cases hn
  · cases hv
    exact ⟨cur, hg, by rw [h.1]; exact ht⟩
theorem row_cells {w : World} {g : Nat} {cur : Array Value} {e : TypeId} {xs : List Value} (h : w.heap[g]? = some (.cells cur e (0, 0))) (ht : cur.toList.take xs.length = xs) : RowAt w g xs := ⟨cur, e, 0, 0, h, ht, fun i _ => by omega⟩
theorem str_nil (t : ByteArray) : (t.toList == ([] : List UInt8)) = decide (t.data.toList = []) := by
  rw [ByteArray.toList_eq, Bool.eq_iff_iff, beq_iff_eq, decide_eq_true_iff]
theorem itR_some {w : World} {g n lo hi : Nat} {l : List It} (h : RowAt w g (iV l)) (h1 : lo ≤ g) (h2 : g < hi) (hn : l.length = n) : l.length = n ∧ SlAt w lo hi (some ⟨g, 0, none⟩) n (iV l) := ⟨hn, h.sl n h1 h2⟩
theorem itR_none (w : World) (lo hi : Nat) (a : Option Addr) : ([] : List It).length = 0 ∧ SlAt w lo hi a 0 (iV []) := ⟨rfl, SlAt.nil _ _ _ _⟩
theorem spec_l2Item_some' (s : ByteArray) (y : It) (e : itOf s = some y) (hs : s.size ≤ 1000) (w : World) (_ : True) : Calls Tryd.prog 98 #[.string s] w fun e w' => e = .returned (.tuple #[.agg #[.string y.1, .bool y.2.1, .string y.2.2], .bool true]) ∧ Below w.heap.size w w' := spec_l2Item_some s y e hs w
theorem spec_l2Item_none' (s : ByteArray) (e : itOf s = none) (hs : s.size ≤ 1000) (w : World) (_ : True) : Calls Tryd.prog 98 #[.string s] w fun e w' => ∃ x : It, e = .returned (.tuple #[.agg #[.string x.1, .bool x.2.1, .string x.2.2], .bool false]) ∧ Below w.heap.size w w' := spec_l2Item_none s e hs w
set_option maxRecDepth 100000 in
set_option maxHeartbeats 6400000 in
theorem spec_l2Parse (t : ByteArray) (ht : t.size ≤ 1000) (w : World) : Calls Tryd.prog 59 #[.string t] w fun e w' => ∃ (a' : Option Addr) (n' c' : Nat), e = .returned (.tuple #[.slice a' n' c', .int .i64 (parseL t).1]) ∧ ((parseL t).2.length = n' ∧ SlAt w' w.heap.size w'.heap.size a' n' (iV (parseL t).2)) ∧ Below w.heap.size w w' := by
  have hN := piecesB_len t
  have hM := Lib.hid (piecesB_mem t)
  have Hbad := Lib.hid (fun h => parseL_bad (t := t) h)
  have Hmany := Lib.hid (fun l h h2 => parseL_many (t := t) (l := l) h h2)
  have Hok := Lib.hid (fun l h h2 => parseL_ok (t := t) (l := l) h h2)
  go_enter Tryd.func59, Tryd.ntmps59
  go_upto_region 3 with (go_at_call 96; ((with_reducible refine (spec_l2Pieces t (by omega) _).mono ?_); rintro e w' ⟨gp, capp, rfl, hownp, hb⟩; have hbp := hb; obtain ⟨hc, hf⟩ := bcell hb; have hz := hb.size; (try simp only [World.size_alloc, World.size_setCell, World.size_drew] at hz); obtain ⟨hlt, hle, hn1, hn2, hn3, hn4⟩ := bsize hb; (try simp only [World.size_alloc, World.size_setCell, World.size_drew] at hlt hle hn1 hn2 hn3 hn4); (try have hr0 : w.heap.size < w'.heap.size := by omega); (try have hr1 : w.heap.size + 1 < w'.heap.size := by omega); (try have hs0 : wS.heap.size < w'.heap.size := by omega); (try have hs1 : wG.heap.size < w'.heap.size := by omega)))
  obtain ⟨cur, hblk0, ht0⟩ := own_cells hownp
  have Ht := Lib.hid ht0
  clear hownp ht0
  go_wp2
  go_loopw [4, 6] (fun v i wr => ∃ (k g cap : Nat) (r : List It), k ≤ (piecesB t).length ∧ i = .int .i64 (k : Int) ∧ (told ((piecesB t).take k)).mapM itOf = some r ∧ r.length ≤ k ∧ v = .slice (some ⟨g, 0, none⟩) r.length cap ∧ wr.ownsRow (w).heap.size 70 3 v r.length (iV r) ∧ Below (w).heap.size (w) wr ∧ wr.heap[gp]? = some (.cells cur 9 (0, 0))) (fun v i _ => (piecesB t).length - (intOf i).toNat)
  case atStart => exact ⟨0, _, _, [], Nat.zero_le _, rfl, rfl, Nat.le_refl _, rfl, own_below (by simpa [iV, cellsOf] using World.ownsRow_lit (size := 3) (e := 70) (w) #[] 0 (Nat.le_refl _) (by unfold maxLen; omega) rfl) hbp (Nat.le_refl _), by exact (by first | (with_reducible exact Below.refl _ _) | ((repeat' (first | (with_reducible exact Below.refl _ _) | (with_reducible assumption) | (with_reducible refine below_alloc ?_ _) | (with_reducible refine Below.drew ?_) | (with_reducible refine below_drewN ?_ _) | (with_reducible refine Below.setCell ?_ ?_ _) | refine below_then ?_ (by with_reducible assumption))) <;> (first | omega | (simp; done) | (simp; omega)))), hblk0⟩
  case round =>
    obtain ⟨k, g, cap, r, hk, rfl, hr, hrl, rfl, hown, hb, hrc⟩ := hrel
    have hne := own_ne hown hrc (by decide)
    have hrow := row_cells hrc Ht.out
    have hglt := hrow.lt
    have Hr := Lib.hid hr
    have Hrc := Lib.hid hrc
    obtain ⟨hc, hf⟩ := bcell hb
    have hz := hb.size
    (try simp only [World.size_alloc] at hz)
    (try have hq0 : w.heap.size < wr.heap.size := by omega)
    clear hr hrc
    by_cases hlt : k < (piecesB t).length
    · have hcell := hrow.cell k _ (strV_at (piecesB t) k hlt)
      have hsz := hM.out _ (List.getElem_mem hlt)
      have htz := trimT_size (piecesB t)[k]
      have Hskip := Lib.hid (fun he => told_skip (l := piecesB t) hlt he)
      have Hnone := Lib.hid (fun he hx => told_none (l := piecesB t) hlt he Hr.out hx)
      have Hsucc := Lib.hid (fun he x hx => told_succ (l := piecesB t) hlt he Hr.out (x := x) hx)
      have htr := fun W => spec_l1Trim (piecesB t)[k] W (by omega)
      generalize trimT (piecesB t)[k] = q at *
      generalize (piecesB t)[k] = p at *
      have Htr := Lib.hid htr
      clear htr hrow
      by_cases hq : q.data.toList = []
      · have h1 : (q.toList == ([] : List UInt8)) = true := by rw [str_nil]; simp [hq]
        have E := Lib.hid (Hskip.out hq)
        clear hq
        go_wp2_with (go_at_call 97; ((with_reducible refine (Htr.out _).mono ?_); rintro e w' ⟨rfl, rfl⟩))
        go_roundw
        case rel => exact ⟨k + 1, g, cap, r, by omega, by go_num, by rw [E.out]; exact Hr.out, by omega, rfl, own_below hown (by exact (by first | (with_reducible exact Below.refl _ _) | ((repeat' (first | (with_reducible exact Below.refl _ _) | (with_reducible assumption) | (with_reducible refine below_alloc ?_ _) | (with_reducible refine Below.drew ?_) | (with_reducible refine below_drewN ?_ _) | (with_reducible refine Below.setCell ?_ ?_ _) | refine below_then ?_ (by with_reducible assumption))) <;> (first | omega | (simp; done) | (simp; omega))))) (Nat.le_refl _), by exact (by first | (with_reducible exact Below.refl _ _) | ((repeat' (first | (with_reducible exact Below.refl _ _) | (with_reducible assumption) | (with_reducible refine below_alloc ?_ _) | (with_reducible refine Below.drew ?_) | (with_reducible refine below_drewN ?_ _) | (with_reducible refine Below.setCell ?_ ?_ _) | refine below_then ?_ (by with_reducible assumption))) <;> (first | omega | (simp; done) | (simp; omega)))), blk_then Hrc.out (by exact (by first | (with_reducible exact Below.refl _ _) | ((repeat' (first | (with_reducible exact Below.refl _ _) | (with_reducible assumption) | (with_reducible refine below_alloc ?_ _) | (with_reducible refine Below.drew ?_) | (with_reducible refine below_drewN ?_ _) | (with_reducible refine Below.setCell ?_ ?_ _) | refine below_then ?_ (by with_reducible assumption))) <;> (first | omega | (simp; done) | (simp; omega)))))⟩
        case measure => simp [intOf]; omega
      · have h1 : (q.toList == ([] : List UInt8)) = false := by rw [str_nil]; simp [hq]
        cases hx : itOf q with
        | some y =>
          have E := Lib.hid (Hsucc.out hq y hx)
          have Hio := Lib.hid (fun W hm => spec_l2Item_some' q y hx (by omega) W hm)
          clear hx hq
          go_wp2_with (first
            | (go_at_call 97; ((with_reducible refine (Htr.out _).mono ?_); rintro e w' ⟨rfl, rfl⟩))
            | (go_at_call 98; ((with_reducible refine (Hio.out _ True.intro).mono ?_); rintro e w' ⟨rfl, hb⟩; obtain ⟨hc, hf⟩ := bcell hb; have hz := hb.size; (try simp only [World.size_alloc, World.size_setCell, World.size_drew] at hz); obtain ⟨hlt, hle, hn1, hn2, hn3, hn4⟩ := bsize hb; (try simp only [World.size_alloc, World.size_setCell, World.size_drew] at hlt hle hn1 hn2 hn3 hn4); (try have hr0 : w.heap.size < w'.heap.size := by omega); (try have hr1 : w.heap.size + 1 < w'.heap.size := by omega); (try have hs0 : wS.heap.size < w'.heap.size := by omega); (try have hs1 : wG.heap.size < w'.heap.size := by omega)))
            | (at_builtin; refine app1 (w0 := w) (news := [.string y.1, .bool y.2.1, .string y.2.2]) rfl _ _ 35 rfl Tryd.underlying35 infoItem rfl (by decide) (own_below hown (by exact (by first | (with_reducible exact Below.refl _ _) | ((repeat' (first | (with_reducible exact Below.refl _ _) | (with_reducible assumption) | (with_reducible refine below_alloc ?_ _) | (with_reducible refine Below.drew ?_) | (with_reducible refine below_drewN ?_ _) | (with_reducible refine Below.setCell ?_ ?_ _) | refine below_then ?_ (by with_reducible assumption))) <;> (first | omega | (simp; done) | (simp; omega))))) (Nat.le_refl _)) (by exact (by first | (with_reducible exact Below.refl _ _) | ((repeat' (first | (with_reducible exact Below.refl _ _) | (with_reducible assumption) | (with_reducible refine below_alloc ?_ _) | (with_reducible refine Below.drew ?_) | (with_reducible refine below_drewN ?_ _) | (with_reducible refine Below.setCell ?_ ?_ _) | refine below_then ?_ (by with_reducible assumption))) <;> (first | omega | (simp; done) | (simp; omega))))) rfl (by first | rfl | (rw [World.size_alloc]; rfl)) rfl (by intro u hu; simp at hu; rcases hu with rfl | rfl | rfl <;> rfl) (by omega) (by unfold maxLen; omega) ?_; intro v2 w2 hown1 hb1 hkk _; have hblk2 := own_blk (blk_then Hrc.out (by exact (by first | (with_reducible exact Below.refl _ _) | ((repeat' (first | (with_reducible exact Below.refl _ _) | (with_reducible assumption) | (with_reducible refine below_alloc ?_ _) | (with_reducible refine Below.drew ?_) | (with_reducible refine below_drewN ?_ _) | (with_reducible refine Below.setCell ?_ ?_ _) | refine below_then ?_ (by with_reducible assumption))) <;> (first | omega | (simp; done) | (simp; omega)))))) hkk hne; obtain ⟨g1, cap1, rfl, hg1, hrow1⟩ := own_shape hown1))
          go_roundw
          case rel => exact ⟨k + 1, g1, cap1, r ++ [y], by omega, by go_num, E.out, by rw [List.length_append, List.length_singleton]; omega, by rw [List.length_append, List.length_singleton], own_cast hown1 (by rw [List.length_append, List.length_singleton]) (by rw [iV_snoc]), hb1, hblk2⟩
          case measure => simp [intOf]; omega
        | none =>
          have E := Lib.hid (Hbad.out (Hnone.out hq hx))
          have Hio := Lib.hid (fun W hm => spec_l2Item_none' q hx (by omega) W hm)
          clear hx hq
          go_wp2_with (first | (go_at_call 97; ((with_reducible refine (Htr.out _).mono ?_); rintro e w' ⟨rfl, rfl⟩)) | (go_at_call 98; ((with_reducible refine (Hio.out _ True.intro).mono ?_); rintro e w' ⟨x, rfl, hb⟩; obtain ⟨hc, hf⟩ := bcell hb; have hz := hb.size; (try simp only [World.size_alloc, World.size_setCell, World.size_drew] at hz); obtain ⟨hlt, hle, hn1, hn2, hn3, hn4⟩ := bsize hb; (try simp only [World.size_alloc, World.size_setCell, World.size_drew] at hlt hle hn1 hn2 hn3 hn4); (try have hr0 : w.heap.size < w'.heap.size := by omega); (try have hr1 : w.heap.size + 1 < w'.heap.size := by omega); (try have hs0 : wS.heap.size < w'.heap.size := by omega); (try have hs1 : wG.heap.size < w'.heap.size := by omega)))); go_ret2; rw [E.out]; first | exact ⟨none, 0, ⟨0, rfl⟩, itR_none _ _ _ _, by exact (by first | (with_reducible exact Below.refl _ _) | ((repeat' (first | (with_reducible exact Below.refl _ _) | (with_reducible assumption) | (with_reducible refine below_alloc ?_ _) | (with_reducible refine Below.drew ?_) | (with_reducible refine below_drewN ?_ _) | (with_reducible refine Below.setCell ?_ ?_ _) | refine below_then ?_ (by with_reducible assumption))) <;> (first | omega | (simp; done) | (simp; omega))))⟩ | exact ⟨none, 0, 0, rfl, itR_none _ _ _ _, by exact (by first | (with_reducible exact Below.refl _ _) | ((repeat' (first | (with_reducible exact Below.refl _ _) | (with_reducible assumption) | (with_reducible refine below_alloc ?_ _) | (with_reducible refine Below.drew ?_) | (with_reducible refine below_drewN ?_ _) | (with_reducible refine Below.setCell ?_ ?_ _) | refine below_then ?_ (by with_reducible assumption))) <;> (first | omega | (simp; done) | (simp; omega))))⟩
    · obtain rfl : k = (piecesB t).length := by omega
      have et : (piecesB t).take (piecesB t).length = piecesB t := List.take_length
      have hr := Hr.out
      rw [et] at hr
      obtain ⟨ow1, ow2, hrowO⟩ := own_at hown
      (try simp only [World.size_alloc] at ow1)
      by_cases h20 : 20 < r.length
      · have E := Lib.hid (Hmany.out r hr h20)
        clear hr et hrow
        go_wp2; go_ret2; rw [E.out]; first | exact ⟨none, 0, ⟨0, rfl⟩, itR_none _ _ _ _, hb⟩ | exact ⟨none, 0, 0, rfl, itR_none _ _ _ _, hb⟩
      · have E := Lib.hid (Hok.out r hr h20)
        clear hr et hrow
        go_wp2; go_ret2; rw [E.out]; first | exact ⟨_, _, ⟨_, rfl⟩, itR_some hrowO ow1 ow2 rfl, hb⟩ | exact ⟨_, _, _, rfl, itR_some hrowO ow1 ow2 rfl, hb⟩
end Go.Proofs.YthiogijicknoiaaDoor
