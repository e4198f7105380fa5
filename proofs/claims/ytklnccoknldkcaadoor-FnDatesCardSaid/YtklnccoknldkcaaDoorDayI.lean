/- The date that a text tells: the program's own text, and the law. -/
import Derived.Test.YtklnccoknldkcaaDoorDayS
import Derived.Test.YtklnccoknldkcaaDoorFmtI
import Derived.Test.YtklnccoknldkcaaDoorErrV
namespace Go.Proofs.YtklnccoknldkcaaDoor
open Go.RowKit
set_option linter.unusedSimpArgs false
set_option linter.unusedVariables false

theorem if_neg5 (v : Int) (h : v < 0) : (if v < 0 then ((5, 0) : Int × Int) else (0, v)) = (5, 0) := if_pos h
theorem spec_ParseDate (t : ByteArray) (ht : t.size ≤ 1048576) (w : World) : Calls Tryd.prog 28 #[.string t] w fun e w' => e = .returned (.agg #[.int .i64 (parseD t).1, .int .i64 (parseD t).2]) ∧ Below w.heap.size w w' := by
  go_enter Tryd.func28, Tryd.ntmps28
  go_upto_region 2 with (go_at_call 89; ((with_reducible refine (spec_l3Parse _ ht _).mono ?_); rintro e w' ⟨v, rfl, hp, hb⟩; have HP := Lib.hid hp; clear hp; obtain ⟨hc, hf⟩ := bcell hb; have hz := hb.size; (try simp only [World.size_alloc, World.size_setCell, World.size_drew] at hz); obtain ⟨hlt, hle, hn1, hn2, hn3, hn4⟩ := bsize hb; (try simp only [World.size_alloc, World.size_setCell, World.size_drew] at hlt hle hn1 hn2 hn3 hn4); (try have hr0 : w.heap.size < w'.heap.size := by omega); (try have hr1 : w.heap.size + 1 < w'.heap.size := by omega); (try have hs0 : wS.heap.size < w'.heap.size := by omega); (try have hs1 : wG.heap.size < w'.heap.size := by omega)))
  by_cases hv : v < 0
  · have E := Lib.hid (show parseD t = (5, 0) by rw [HP.out, if_pos hv])
    clear HP
    go_wp2
    all_goals exact bodyPost_ret (res_row Tryd.results28 _ _ rfl (blk_cast (by repeat' (first | (with_reducible assumption) | (with_reducible exact blk_new _ _) | (with_reducible apply blk_set) | (with_reducible refine blk_alloc ?_ _) | (with_reducible refine blk_drew ?_) | refine blk_then ?_ (by with_reducible assumption))) (by first | (simp; done) | rfl)) Tryd.underlying42 rfl _ (by kernel_rfl) rfl) rfl ⟨(by rw [E.out]; rfl), by exact (by first | (with_reducible exact Below.refl _ _) | ((repeat' (first | (with_reducible exact Below.refl _ _) | (with_reducible assumption) | (with_reducible refine below_alloc ?_ _) | (with_reducible refine Below.drew ?_) | (with_reducible refine below_drewN ?_ _) | (with_reducible refine Below.setCell ?_ ?_ _) | refine below_then ?_ (by with_reducible assumption))) <;> (first | omega | (simp; done) | (simp; omega))))⟩
  · have E := Lib.hid (show parseD t = (0, v) by rw [HP.out, if_neg hv])
    clear HP
    go_wp2
    all_goals exact bodyPost_ret (res_row Tryd.results28 _ _ rfl (blk_cast (by repeat' (first | (with_reducible assumption) | (with_reducible exact blk_new _ _) | (with_reducible apply blk_set) | (with_reducible refine blk_alloc ?_ _) | (with_reducible refine blk_drew ?_) | refine blk_then ?_ (by with_reducible assumption))) (by first | (simp; done) | rfl)) Tryd.underlying42 rfl _ (by kernel_rfl) rfl) rfl ⟨(by rw [E.out]; rfl), by exact (by first | (with_reducible exact Below.refl _ _) | ((repeat' (first | (with_reducible exact Below.refl _ _) | (with_reducible assumption) | (with_reducible refine below_alloc ?_ _) | (with_reducible refine Below.drew ?_) | (with_reducible refine below_drewN ?_ _) | (with_reducible refine Below.setCell ?_ ?_ _) | refine below_then ?_ (by with_reducible assumption))) <;> (first | omega | (simp; done) | (simp; omega))))⟩
theorem bwb (w : World) (s : ByteArray) : Below w.heap.size w (Lib.bytesWorld w 5 s) := ⟨rfl, rfl, rfl, by rw [Lib.bytesWorld_size]; omega, fun k hk => Lib.bytesWorld_at_old w 5 s k hk⟩
theorem impl_digitsAt (t : ByteArray) (f e : Nat) (h : f ≤ e) (he : e ≤ 29) (h29 : t.size = 29) (w : World) (hE : ErrC w) :
    Calls Tryd.prog 92 #[.string t, .int .i64 (f : Int), .int .i64 (e : Int)] w fun x w' => ∃ v : Int, x = .returned (.int .i64 v) ∧ (∀ n, Lib.parseIntB 64 (t.extract f e).data.toList = .ok n → v = n) ∧ Below w.heap.size w w' := by
  have h1 : (0 : Int) ≤ (f : Int) := by omega
  have h2 : (f : Int) ≤ (e : Int) := by omega
  have h3 : (e : Int) ≤ 29 := by omega
  have hs : (t.extract f e).size ≤ 29 := by rw [ByteArray.size_extract]; omega
  obtain ⟨e1, e2, g1, k1, g2, k2⟩ := hE
  obtain ⟨x, ex⟩ : ∃ x, t.extract f e = x := ⟨_, rfl⟩
  rw [ex] at hs ⊢
  cases hx : Lib.parseIntB 64 x.data.toList with
  | ok v =>
    have hc := Tryd.strconv_ParseInt_10_at64_ok x (by omega) v hx w
    have Hc := Lib.hid hc
    clear hc g1 g2 k1 k2 hx
    go_enter Tryd.func92, Tryd.ntmps92
    go_wp2_with (go_at_call 171; ((with_reducible refine (Hc.out).mono ?_); rintro e' w' ⟨rfl, hw⟩))
    all_goals (go_ret; exact ⟨_, rfl, fun n h => (by cases h; rfl), by rcases hw with e | ⟨q, e⟩ <;> rw [e] <;> first | exact Below.refl _ _ | exact bwb _ _⟩)
  | «syntax» =>
    have hc := Tryd.strconv_ParseInt_10_at64_syntax x (by omega) hx _ w g1 k1
    have Hc := Lib.hid hc
    clear hc g1 g2 k1 k2 hx
    go_enter Tryd.func92, Tryd.ntmps92
    go_wp2_with (go_at_call 171; ((with_reducible refine (Hc.out).mono ?_); rintro e' w' ⟨q, rfl, _, _, hb⟩))
    all_goals (go_ret; exact ⟨_, rfl, fun n h => (by cases h), hb⟩)
  | range =>
    have hc := Tryd.strconv_ParseInt_10_at64_range x (by omega) hx _ w g2 k2
    have Hc := Lib.hid hc
    clear hc g1 g2 k1 k2 hx
    go_enter Tryd.func92, Tryd.ntmps92
    go_wp2_with (go_at_call 171; ((with_reducible refine (Hc.out).mono ?_); rintro e' w' ⟨q, rfl, _, _, hb⟩))
    all_goals (go_ret; exact ⟨_, rfl, fun n h => (by cases h), hb⟩)
theorem monthsV_monL : monthsV = monL.map Value.string := rfl
theorem index_mon (g : Nat) (x : ByteArray) (w : World) (h : RowAt w g monthsV) : Calls Tryd.prog 90 #[.slice (some ⟨g, 0, none⟩) 12 12, .string x] w fun e w' => e = .returned (.int .i64 (Lib.idxOfS monL x)) ∧ w = w' := by
  refine (Tryd.slices_Index_string g 0 12 12 monL x w (by decide) (by omega) (fun j hj => ?_)).mono ?_
  · rw [Nat.zero_add]
    refine h.cell j _ ?_
    rw [monthsV_monL, List.getElem?_map, List.getElem?_eq_getElem hj, List.getD_eq_getElem?_getD, List.getElem?_eq_getElem hj]
    rfl
  · rintro e w' ⟨rfl, rfl⟩
    exact ⟨rfl, rfl⟩
theorem idxFrom_bd (x : ByteArray) : ∀ (l : List ByteArray) (i : Nat), -1 ≤ Lib.idxFromS l x i ∧ Lib.idxFromS l x i ≤ (i : Int) + l.length - 1 ∨ Lib.idxFromS l x i = -1
  | [], i => .inr rfl
  | z :: l, i => by
    unfold Lib.idxFromS
    split
    · left; simp only [List.length_cons]; omega
    · rcases idxFrom_bd x l (i + 1) with h | h
      · left; simp only [List.length_cons]; omega
      · right; exact h
theorem idx_bd (x : ByteArray) : -1 ≤ Lib.idxOfS monL x ∧ Lib.idxOfS monL x ≤ 11 := by
  rcases idxFrom_bd x monL 0 with h | h
  · have e : (monL.length : Int) = 12 := rfl
    unfold Lib.idxOfS; omega
  · unfold Lib.idxOfS; omega
theorem f2_of' {W : World} {g : Nat} {x y : Value} {t : TypeId} (h : W.heap[g]? = some (.cells #[x, y] t (0, 0))) (k : Nat) : W.frozen? ⟨g, k, none⟩ = false := by simp [World.frozen?, h]
set_option maxHeartbeats 6400000 in
theorem impl_ParseDate (t : ByteArray) (ht : t.size ≤ 1048576) (w : World) (hT : Tab w) (hE : ErrC w) : Calls Tryd.prog 29 #[.string t] w fun e w' => e = .returned (.agg #[.int .i64 (parseD t).1, .int .i64 (parseD t).2]) ∧ Below w.heap.size w w' := by
  by_cases h29 : t.size = 29
  · obtain ⟨x, ex⟩ : ∃ x, t.extract 8 11 = x := ⟨_, rfl⟩
    obtain ⟨i1, i2⟩ := idx_bd x
    have hI := fun g W h => index_mon g x W h
    have hof : ∀ Y D H I S : Int, _ := fun Y D H I S => isOf_impl (t := t) (y := Y) (d := D) (h := H) (i := I) (s := S)
    rw [ex] at hof
    obtain ⟨J, eJ⟩ : ∃ J, Lib.idxOfS monL x = J := ⟨_, rfl⟩
    rw [eJ] at hof i1 i2
    simp only [eJ] at hI
    have HI := Lib.hid hI
    have Hof := Lib.hid hof
    have d1 := fun W hW => impl_digitsAt t 12 16 (by omega) (by omega) h29 W hW
    have d2 := fun W hW => impl_digitsAt t 5 7 (by omega) (by omega) h29 W hW
    have d3 := fun W hW => impl_digitsAt t 17 19 (by omega) (by omega) h29 W hW
    have d4 := fun W hW => impl_digitsAt t 20 22 (by omega) (by omega) h29 W hW
    have d5 := fun W hW => impl_digitsAt t 23 25 (by omega) (by omega) h29 W hW
    simp only [Int.cast_ofNat_Int] at d1 d2 d3 d4 d5
    have D1 := Lib.hid d1
    have D2 := Lib.hid d2
    have D3 := Lib.hid d3
    have D4 := Lib.hid d4
    have D5 := Lib.hid d5
    clear d1 d2 d3 d4 d5
    have HT := Lib.hid hT
    have HE := Lib.hid hE
    clear hI hof hT hE eJ
    have wJ : IntKind.i64.wrap (J + 1) = J + 1 := wrapi _ (by omega) (by omega)
    go_enter Tryd.func29, Tryd.ntmps29
    go_upto_region 4 with fail
    have q2 : ((w.alloc (.cells #[.int .i64 0, .int .i64 0] 42)).alloc (.cells #[.int .i64 5, .int .i64 0] 42)).heap[w.heap.size]? = some (.cells #[.int .i64 0, .int .i64 0] 42 (0, 0)) := (by repeat' (first | (with_reducible assumption) | (with_reducible exact blk_new _ _) | (with_reducible apply blk_set) | (with_reducible refine blk_alloc ?_ _) | (with_reducible refine blk_drew ?_) | refine blk_then ?_ (by with_reducible assumption)))
    have q3 : ((w.alloc (.cells #[.int .i64 0, .int .i64 0] 42)).alloc (.cells #[.int .i64 5, .int .i64 0] 42)).heap[w.heap.size + 1]? = some (.cells #[.int .i64 5, .int .i64 0] 42 (0, 0)) := blk_new' _ _ _ (by simp only [World.size_alloc])
    have b0 : Below w.heap.size w ((w.alloc (.cells #[.int .i64 0, .int .i64 0] 42)).alloc (.cells #[.int .i64 5, .int .i64 0] 42)) := (by first | (with_reducible exact Below.refl _ _) | ((repeat' (first | (with_reducible exact Below.refl _ _) | (with_reducible assumption) | (with_reducible refine below_alloc ?_ _) | (with_reducible refine Below.drew ?_) | (with_reducible refine below_drewN ?_ _) | (with_reducible refine Below.setCell ?_ ?_ _) | refine below_then ?_ (by with_reducible assumption))) <;> (first | omega | (simp; done) | (simp; omega))))
    have B0 := Lib.hid b0
    clear b0
    generalize ((w.alloc (.cells #[.int .i64 0, .int .i64 0] 42)).alloc (.cells #[.int .i64 5, .int .i64 0] 42)) = V0 at *
    go_cut [4] (fun s4 wx => s4 = .int .i64 (J + 1) ∧ Below V0.heap.size V0 wx)
    case first =>
      go_region_held3 (fun _ => True) (first | trivial | go_keep) (first | (go_at_call 91; ((with_reducible refine (impl_monthNames _).mono ?_); rintro e w' ⟨v, rfl, hb, g, rfl, hrow⟩; obtain ⟨hc, hf⟩ := bcell hb; have hz := hb.size; (try simp only [World.size_alloc, World.size_setCell, World.size_drew] at hz); obtain ⟨hlt, hle, hn1, hn2, hn3, hn4⟩ := bsize hb; (try simp only [World.size_alloc, World.size_setCell, World.size_drew] at hlt hle hn1 hn2 hn3 hn4); (try have hr0 : w.heap.size < w'.heap.size := by omega); (try have hr1 : w.heap.size + 1 < w'.heap.size := by omega); (try have hs0 : wS.heap.size < w'.heap.size := by omega); (try have hs1 : wG.heap.size < w'.heap.size := by omega))) | (go_at_call 90; ((with_reducible refine (HI.out _ _ (by exact (by repeat' (first | (with_reducible assumption) | (with_reducible refine RowAt.alloc ?_ _) | (with_reducible refine RowAt.drew ?_) | (with_reducible refine RowAt.other ?_ _ _ (by first | omega | (simp; done) | (simp; omega))) | refine RowAt.then ?_ (by with_reducible assumption))))).mono ?_); rintro e w' ⟨rfl, rfl⟩)))
      all_goals (go_wp2_with fail; go_meet; exact ⟨rfl, (by first | (with_reducible exact Below.refl _ _) | ((repeat' (first | (with_reducible exact Below.refl _ _) | (with_reducible assumption) | (with_reducible refine below_alloc ?_ _) | (with_reducible refine Below.drew ?_) | (with_reducible refine below_drewN ?_ _) | (with_reducible refine Below.setCell ?_ ?_ _) | refine below_then ?_ (by with_reducible assumption))) <;> (first | omega | (simp; done) | (simp; omega))))⟩)
    case rest =>
      obtain ⟨rfl, hb⟩ := hcut
      have q2 := blk_then q2 hb
      have q3 := blk_then q3 hb
      have B1 := Lib.hid (B0.out.trans (hb.mono B0.out.size))
      have HE := Lib.hid (HE.out.then B1.out)
      have HT := Lib.hid (HT.out.then B1.out)
      clear hb
      go_upto_region 6 with (first | (go_at_call 92; ((with_reducible refine (D1.out _ (HE.out.then (by exact (by first | (with_reducible exact Below.refl _ _) | ((repeat' (first | (with_reducible exact Below.refl _ _) | (with_reducible assumption) | (with_reducible refine below_alloc ?_ _) | (with_reducible refine Below.drew ?_) | (with_reducible refine below_drewN ?_ _) | (with_reducible refine Below.setCell ?_ ?_ _) | refine below_then ?_ (by with_reducible assumption))) <;> (first | omega | (simp; done) | (simp; omega))))))).mono ?_); rintro e w1 ⟨Y, rfl, hY, hb⟩; have hY := Lib.hid hY; obtain ⟨hc, hf⟩ := bcell hb; have hz := hb.size; (try simp only [World.size_alloc, World.size_setCell, World.size_drew] at hz); obtain ⟨hlt, hle, hn1, hn2, hn3, hn4⟩ := bsize hb; (try simp only [World.size_alloc, World.size_setCell, World.size_drew] at hlt hle hn1 hn2 hn3 hn4); (try have hr0 : w.heap.size < w1.heap.size := by omega); (try have hr1 : w.heap.size + 1 < w1.heap.size := by omega); (try have hs0 : wS.heap.size < w1.heap.size := by omega); (try have hs1 : wG.heap.size < w1.heap.size := by omega))) | (go_at_call 92; ((with_reducible refine (D2.out _ (HE.out.then (by exact (by first | (with_reducible exact Below.refl _ _) | ((repeat' (first | (with_reducible exact Below.refl _ _) | (with_reducible assumption) | (with_reducible refine below_alloc ?_ _) | (with_reducible refine Below.drew ?_) | (with_reducible refine below_drewN ?_ _) | (with_reducible refine Below.setCell ?_ ?_ _) | refine below_then ?_ (by with_reducible assumption))) <;> (first | omega | (simp; done) | (simp; omega))))))).mono ?_); rintro e w2 ⟨D, rfl, hD, hb⟩; have hD := Lib.hid hD; obtain ⟨hc, hf⟩ := bcell hb; have hz := hb.size; (try simp only [World.size_alloc, World.size_setCell, World.size_drew] at hz); obtain ⟨hlt, hle, hn1, hn2, hn3, hn4⟩ := bsize hb; (try simp only [World.size_alloc, World.size_setCell, World.size_drew] at hlt hle hn1 hn2 hn3 hn4); (try have hr0 : w.heap.size < w2.heap.size := by omega); (try have hr1 : w.heap.size + 1 < w2.heap.size := by omega); (try have hs0 : wS.heap.size < w2.heap.size := by omega); (try have hs1 : wG.heap.size < w2.heap.size := by omega))) | (go_at_call 92; ((with_reducible refine (D3.out _ (HE.out.then (by exact (by first | (with_reducible exact Below.refl _ _) | ((repeat' (first | (with_reducible exact Below.refl _ _) | (with_reducible assumption) | (with_reducible refine below_alloc ?_ _) | (with_reducible refine Below.drew ?_) | (with_reducible refine below_drewN ?_ _) | (with_reducible refine Below.setCell ?_ ?_ _) | refine below_then ?_ (by with_reducible assumption))) <;> (first | omega | (simp; done) | (simp; omega))))))).mono ?_); rintro e w3 ⟨H, rfl, hH, hb⟩; have hH := Lib.hid hH; obtain ⟨hc, hf⟩ := bcell hb; have hz := hb.size; (try simp only [World.size_alloc, World.size_setCell, World.size_drew] at hz); obtain ⟨hlt, hle, hn1, hn2, hn3, hn4⟩ := bsize hb; (try simp only [World.size_alloc, World.size_setCell, World.size_drew] at hlt hle hn1 hn2 hn3 hn4); (try have hr0 : w.heap.size < w3.heap.size := by omega); (try have hr1 : w.heap.size + 1 < w3.heap.size := by omega); (try have hs0 : wS.heap.size < w3.heap.size := by omega); (try have hs1 : wG.heap.size < w3.heap.size := by omega))) | (go_at_call 92; ((with_reducible refine (D4.out _ (HE.out.then (by exact (by first | (with_reducible exact Below.refl _ _) | ((repeat' (first | (with_reducible exact Below.refl _ _) | (with_reducible assumption) | (with_reducible refine below_alloc ?_ _) | (with_reducible refine Below.drew ?_) | (with_reducible refine below_drewN ?_ _) | (with_reducible refine Below.setCell ?_ ?_ _) | refine below_then ?_ (by with_reducible assumption))) <;> (first | omega | (simp; done) | (simp; omega))))))).mono ?_); rintro e w4 ⟨I, rfl, hI, hb⟩; have hI := Lib.hid hI; obtain ⟨hc, hf⟩ := bcell hb; have hz := hb.size; (try simp only [World.size_alloc, World.size_setCell, World.size_drew] at hz); obtain ⟨hlt, hle, hn1, hn2, hn3, hn4⟩ := bsize hb; (try simp only [World.size_alloc, World.size_setCell, World.size_drew] at hlt hle hn1 hn2 hn3 hn4); (try have hr0 : w.heap.size < w4.heap.size := by omega); (try have hr1 : w.heap.size + 1 < w4.heap.size := by omega); (try have hs0 : wS.heap.size < w4.heap.size := by omega); (try have hs1 : wG.heap.size < w4.heap.size := by omega))) | (go_at_call 92; ((with_reducible refine (D5.out _ (HE.out.then (by exact (by first | (with_reducible exact Below.refl _ _) | ((repeat' (first | (with_reducible exact Below.refl _ _) | (with_reducible assumption) | (with_reducible refine below_alloc ?_ _) | (with_reducible refine Below.drew ?_) | (with_reducible refine below_drewN ?_ _) | (with_reducible refine Below.setCell ?_ ?_ _) | refine below_then ?_ (by with_reducible assumption))) <;> (first | omega | (simp; done) | (simp; omega))))))).mono ?_); rintro e w5 ⟨S, rfl, hS, hb⟩; have hS := Lib.hid hS; obtain ⟨hc, hf⟩ := bcell hb; have hz := hb.size; (try simp only [World.size_alloc, World.size_setCell, World.size_drew] at hz); obtain ⟨hlt, hle, hn1, hn2, hn3, hn4⟩ := bsize hb; (try simp only [World.size_alloc, World.size_setCell, World.size_drew] at hlt hle hn1 hn2 hn3 hn4); (try have hr0 : w.heap.size < w5.heap.size := by omega); (try have hr1 : w.heap.size + 1 < w5.heap.size := by omega); (try have hs0 : wS.heap.size < w5.heap.size := by omega); (try have hs1 : wG.heap.size < w5.heap.size := by omega))))
      have hof := Hof.out Y D H I S hY.out hD.out hH.out hI.out hS.out
      have q2 : (w5.alloc (.cells #[.int .i64 Y, .int .i64 (J + 1), .int .i64 D, .int .i64 H, .int .i64 I, .int .i64 S] 46)).heap[w.heap.size]? = some (.cells #[.int .i64 0, .int .i64 0] 42 (0, 0)) := (by repeat' (first | (with_reducible assumption) | (with_reducible exact blk_new _ _) | (with_reducible apply blk_set) | (with_reducible refine blk_alloc ?_ _) | (with_reducible refine blk_drew ?_) | refine blk_then ?_ (by with_reducible assumption)))
      have q3 : (w5.alloc (.cells #[.int .i64 Y, .int .i64 (J + 1), .int .i64 D, .int .i64 H, .int .i64 I, .int .i64 S] 46)).heap[w.heap.size + 1]? = some (.cells #[.int .i64 5, .int .i64 0] 42 (0, 0)) := (by repeat' (first | (with_reducible assumption) | (with_reducible exact blk_new _ _) | (with_reducible apply blk_set) | (with_reducible refine blk_alloc ?_ _) | (with_reducible refine blk_drew ?_) | refine blk_then ?_ (by with_reducible assumption)))
      have q4 : (w5.alloc (.cells #[.int .i64 Y, .int .i64 (J + 1), .int .i64 D, .int .i64 H, .int .i64 I, .int .i64 S] 46)).heap[w5.heap.size]? = some (.cells #[.int .i64 Y, .int .i64 (J + 1), .int .i64 D, .int .i64 H, .int .i64 I, .int .i64 S] 46 (0, 0)) := blk_new _ _
      have b0 : Below wc.heap.size wc (w5.alloc (.cells #[.int .i64 Y, .int .i64 (J + 1), .int .i64 D, .int .i64 H, .int .i64 I, .int .i64 S] 46)) := (by first | (with_reducible exact Below.refl _ _) | ((repeat' (first | (with_reducible exact Below.refl _ _) | (with_reducible assumption) | (with_reducible refine below_alloc ?_ _) | (with_reducible refine Below.drew ?_) | (with_reducible refine below_drewN ?_ _) | (with_reducible refine Below.setCell ?_ ?_ _) | refine below_then ?_ (by with_reducible assumption))) <;> (first | omega | (simp; done) | (simp; omega))))
      have B5 := Lib.hid (B1.out.trans (b0.mono B1.out.size))
      have HT := Lib.hid (HT.out.then b0)
      generalize (w5.alloc (.cells #[.int .i64 Y, .int .i64 (J + 1), .int .i64 D, .int .i64 H, .int .i64 I, .int .i64 S] 46)) = V5 at *
      generalize w5.heap.size = g5 at *
      clear hY hD hH hI hS D1 D2 D3 D4 D5 HI Hof HE B0 B1
      have l5 : g5 < V5.heap.size := (Array.getElem?_eq_some_iff.1 q4).1
      have y0 : V5.cell? ⟨g5, 0, none⟩ = some (.int .i64 Y) := by simp [World.cell?, q4]
      have y1 : V5.cell? ⟨g5, 1, none⟩ = some (.int .i64 (J + 1)) := by simp [World.cell?, q4]
      have y2 : V5.cell? ⟨g5, 2, none⟩ = some (.int .i64 D) := by simp [World.cell?, q4]
      have y3 : V5.cell? ⟨g5, 3, none⟩ = some (.int .i64 H) := by simp [World.cell?, q4]
      have y4 : V5.cell? ⟨g5, 4, none⟩ = some (.int .i64 I) := by simp [World.cell?, q4]
      have y5 : V5.cell? ⟨g5, 5, none⟩ = some (.int .i64 S) := by simp [World.cell?, q4]
      obtain ⟨M, eM⟩ : ∃ M, J + 1 = M := ⟨_, rfl⟩
      rw [eM] at hof y1 q4
      simp only [eM]
      by_cases hf : dateFault Y M D H I S = 0
      · obtain ⟨hd, ⟨a1, a2⟩, ⟨a3, a4⟩, a5, a6⟩ := dateFault_0 hf
        obtain ⟨b1, b2⟩ := inB_iff.1 (secs_known hf)
        have hc := fun W => impl_DateFault Y M D H I S W
        rw [hf] at hc
        have hs := fun W => impl_secondsOf Y M D H I S hd a1 a2 a3 a4 a5 a6 W
        have hy : fmtS (secsI Y M D H I S) = t → parseD t = (0, secsI Y M D H I S) := parse_yes hf
        have hn : fmtS (secsI Y M D H I S) ≠ t → parseD t = (5, 0) := fun h => parseD_bad (of_other hof h)
        obtain ⟨N, eN⟩ : ∃ N, secsI Y M D H I S = N := ⟨_, rfl⟩
        rw [eN] at hs hy hn b1 b2
        have hF := fun W hW => impl_formatDate N b1 b2 W hW
        obtain ⟨F, eF⟩ : ∃ F, fmtS N = F := ⟨_, rfl⟩
        rw [eF] at hy hn
        simp only [eF] at hF
        have Hc := Lib.hid hc
        have Hs := Lib.hid hs
        have Hf := Lib.hid hF
        have Hn := Lib.hid hn
        have Hy := Lib.hid hy
        clear hc hs hF hn hy eF eN hf hd a1 a2 a3 a4 a5 a6 hof eM
        by_cases c : F = t
        · have c' : (F.toList == t.toList) = true := by rw [c]; exact beq_self_eq_true _
          have E := Lib.hid (Hy.out c)
          clear c
          go_upto_region 11 with (first | (go_at_call 36; ((with_reducible refine (Hc.out _).mono ?_); rintro e w6 ⟨rfl, hb⟩; obtain ⟨hc, hf⟩ := bcell hb; have hz := hb.size; (try simp only [World.size_alloc, World.size_setCell, World.size_drew] at hz); obtain ⟨hlt, hle, hn1, hn2, hn3, hn4⟩ := bsize hb; (try simp only [World.size_alloc, World.size_setCell, World.size_drew] at hlt hle hn1 hn2 hn3 hn4); (try have hr0 : w.heap.size < w6.heap.size := by omega); (try have hr1 : w.heap.size + 1 < w6.heap.size := by omega); (try have hs0 : wS.heap.size < w6.heap.size := by omega); (try have hs1 : wG.heap.size < w6.heap.size := by omega))) | (go_at_call 93; ((with_reducible refine (Hs.out _).mono ?_); rintro e w7 ⟨rfl, hb⟩; obtain ⟨hc, hf⟩ := bcell hb; have hz := hb.size; (try simp only [World.size_alloc, World.size_setCell, World.size_drew] at hz); obtain ⟨hlt, hle, hn1, hn2, hn3, hn4⟩ := bsize hb; (try simp only [World.size_alloc, World.size_setCell, World.size_drew] at hlt hle hn1 hn2 hn3 hn4); (try have hr0 : w.heap.size < w7.heap.size := by omega); (try have hr1 : w.heap.size + 1 < w7.heap.size := by omega); (try have hs0 : wS.heap.size < w7.heap.size := by omega); (try have hs1 : wG.heap.size < w7.heap.size := by omega))) | (go_at_call 94; ((with_reducible refine (Hf.out _ (HT.out.then (by exact (by first | (with_reducible exact Below.refl _ _) | ((repeat' (first | (with_reducible exact Below.refl _ _) | (with_reducible assumption) | (with_reducible refine below_alloc ?_ _) | (with_reducible refine Below.drew ?_) | (with_reducible refine below_drewN ?_ _) | (with_reducible refine Below.setCell ?_ ?_ _) | refine below_then ?_ (by with_reducible assumption))) <;> (first | omega | (simp; done) | (simp; omega))))))).mono ?_); rintro e w8 ⟨rfl, hb⟩; obtain ⟨hc, hf⟩ := bcell hb; have hz := hb.size; (try simp only [World.size_alloc, World.size_setCell, World.size_drew] at hz); obtain ⟨hlt, hle, hn1, hn2, hn3, hn4⟩ := bsize hb; (try simp only [World.size_alloc, World.size_setCell, World.size_drew] at hlt hle hn1 hn2 hn3 hn4); (try have hr0 : w.heap.size < w8.heap.size := by omega); (try have hr1 : w.heap.size + 1 < w8.heap.size := by omega); (try have hs0 : wS.heap.size < w8.heap.size := by omega); (try have hs1 : wG.heap.size < w8.heap.size := by omega))))
          have p2 : w8.heap[w.heap.size]? = some (.cells #[.int .i64 0, .int .i64 0] 42 (0, 0)) := (by repeat' (first | (with_reducible assumption) | (with_reducible exact blk_new _ _) | (with_reducible apply blk_set) | (with_reducible refine blk_alloc ?_ _) | (with_reducible refine blk_drew ?_) | refine blk_then ?_ (by with_reducible assumption)))
          have bb : Below w.heap.size w w8 := by have := B5.out; exact (by first | (with_reducible exact Below.refl _ _) | ((repeat' (first | (with_reducible exact Below.refl _ _) | (with_reducible assumption) | (with_reducible refine below_alloc ?_ _) | (with_reducible refine Below.drew ?_) | (with_reducible refine below_drewN ?_ _) | (with_reducible refine Below.setCell ?_ ?_ _) | refine below_then ?_ (by with_reducible assumption))) <;> (first | omega | (simp; done) | (simp; omega))))
          have BB := Lib.hid bb
          clear bb
          obtain ⟨z0, z1⟩ := cells2 p2
          have zf := fun k => f2_of' p2 k
          go_wp2
          all_goals exact bodyPost_ret (res_row Tryd.results29 _ _ rfl (blk_cast (by repeat' (first | (with_reducible assumption) | (with_reducible exact blk_new _ _) | (with_reducible apply blk_set) | (with_reducible refine blk_alloc ?_ _) | (with_reducible refine blk_drew ?_) | refine blk_then ?_ (by with_reducible assumption))) (by first | (simp; done) | rfl)) Tryd.underlying42 rfl _ (by kernel_rfl) rfl) rfl ⟨by rw [E.out]; rfl, by have := BB.out; exact (by first | (with_reducible exact Below.refl _ _) | ((repeat' (first | (with_reducible exact Below.refl _ _) | (with_reducible assumption) | (with_reducible refine below_alloc ?_ _) | (with_reducible refine Below.drew ?_) | (with_reducible refine below_drewN ?_ _) | (with_reducible refine Below.setCell ?_ ?_ _) | refine below_then ?_ (by with_reducible assumption))) <;> (first | omega | (simp; done) | (simp; omega))))⟩
        · have c' : (F.toList == t.toList) = false := str_ne c
          have E := Lib.hid (Hn.out c)
          clear c
          go_upto_region 10 with (first | (go_at_call 36; ((with_reducible refine (Hc.out _).mono ?_); rintro e w6 ⟨rfl, hb⟩; obtain ⟨hc, hf⟩ := bcell hb; have hz := hb.size; (try simp only [World.size_alloc, World.size_setCell, World.size_drew] at hz); obtain ⟨hlt, hle, hn1, hn2, hn3, hn4⟩ := bsize hb; (try simp only [World.size_alloc, World.size_setCell, World.size_drew] at hlt hle hn1 hn2 hn3 hn4); (try have hr0 : w.heap.size < w6.heap.size := by omega); (try have hr1 : w.heap.size + 1 < w6.heap.size := by omega); (try have hs0 : wS.heap.size < w6.heap.size := by omega); (try have hs1 : wG.heap.size < w6.heap.size := by omega))) | (go_at_call 93; ((with_reducible refine (Hs.out _).mono ?_); rintro e w7 ⟨rfl, hb⟩; obtain ⟨hc, hf⟩ := bcell hb; have hz := hb.size; (try simp only [World.size_alloc, World.size_setCell, World.size_drew] at hz); obtain ⟨hlt, hle, hn1, hn2, hn3, hn4⟩ := bsize hb; (try simp only [World.size_alloc, World.size_setCell, World.size_drew] at hlt hle hn1 hn2 hn3 hn4); (try have hr0 : w.heap.size < w7.heap.size := by omega); (try have hr1 : w.heap.size + 1 < w7.heap.size := by omega); (try have hs0 : wS.heap.size < w7.heap.size := by omega); (try have hs1 : wG.heap.size < w7.heap.size := by omega))) | (go_at_call 94; ((with_reducible refine (Hf.out _ (HT.out.then (by exact (by first | (with_reducible exact Below.refl _ _) | ((repeat' (first | (with_reducible exact Below.refl _ _) | (with_reducible assumption) | (with_reducible refine below_alloc ?_ _) | (with_reducible refine Below.drew ?_) | (with_reducible refine below_drewN ?_ _) | (with_reducible refine Below.setCell ?_ ?_ _) | refine below_then ?_ (by with_reducible assumption))) <;> (first | omega | (simp; done) | (simp; omega))))))).mono ?_); rintro e w8 ⟨rfl, hb⟩; obtain ⟨hc, hf⟩ := bcell hb; have hz := hb.size; (try simp only [World.size_alloc, World.size_setCell, World.size_drew] at hz); obtain ⟨hlt, hle, hn1, hn2, hn3, hn4⟩ := bsize hb; (try simp only [World.size_alloc, World.size_setCell, World.size_drew] at hlt hle hn1 hn2 hn3 hn4); (try have hr0 : w.heap.size < w8.heap.size := by omega); (try have hr1 : w.heap.size + 1 < w8.heap.size := by omega); (try have hs0 : wS.heap.size < w8.heap.size := by omega); (try have hs1 : wG.heap.size < w8.heap.size := by omega))))
          have p2 : w8.heap[w.heap.size]? = some (.cells #[.int .i64 0, .int .i64 0] 42 (0, 0)) := (by repeat' (first | (with_reducible assumption) | (with_reducible exact blk_new _ _) | (with_reducible apply blk_set) | (with_reducible refine blk_alloc ?_ _) | (with_reducible refine blk_drew ?_) | refine blk_then ?_ (by with_reducible assumption)))
          have p3 : w8.heap[w.heap.size + 1]? = some (.cells #[.int .i64 5, .int .i64 0] 42 (0, 0)) := (by repeat' (first | (with_reducible assumption) | (with_reducible exact blk_new _ _) | (with_reducible apply blk_set) | (with_reducible refine blk_alloc ?_ _) | (with_reducible refine blk_drew ?_) | refine blk_then ?_ (by with_reducible assumption)))
          have bb : Below w.heap.size w w8 := by have := B5.out; exact (by first | (with_reducible exact Below.refl _ _) | ((repeat' (first | (with_reducible exact Below.refl _ _) | (with_reducible assumption) | (with_reducible refine below_alloc ?_ _) | (with_reducible refine Below.drew ?_) | (with_reducible refine below_drewN ?_ _) | (with_reducible refine Below.setCell ?_ ?_ _) | refine below_then ?_ (by with_reducible assumption))) <;> (first | omega | (simp; done) | (simp; omega))))
          have BB := Lib.hid bb
          clear bb
          obtain ⟨z0, z1⟩ := cells2 p2
          obtain ⟨v0, v1⟩ := cells2 p3
          have zf := fun k => f2_of' p2 k
          go_wp2
          all_goals exact bodyPost_ret (res_row Tryd.results29 _ _ rfl (blk_cast (by repeat' (first | (with_reducible assumption) | (with_reducible exact blk_new _ _) | (with_reducible apply blk_set) | (with_reducible refine blk_alloc ?_ _) | (with_reducible refine blk_drew ?_) | refine blk_then ?_ (by with_reducible assumption))) (by first | (simp; done) | rfl)) Tryd.underlying42 rfl _ (by kernel_rfl) rfl) rfl ⟨by rw [E.out]; rfl, by have := BB.out; exact (by first | (with_reducible exact Below.refl _ _) | ((repeat' (first | (with_reducible exact Below.refl _ _) | (with_reducible assumption) | (with_reducible refine below_alloc ?_ _) | (with_reducible refine Below.drew ?_) | (with_reducible refine below_drewN ?_ _) | (with_reducible refine Below.setCell ?_ ?_ _) | refine below_then ?_ (by with_reducible assumption))) <;> (first | omega | (simp; done) | (simp; omega))))⟩
      · have E := Lib.hid (parseD_bad (of_fault hof hf))
        have hc := fun W => impl_DateFault Y M D H I S W
        rw [dateFault_3 hf] at hc
        have Hc := Lib.hid hc
        clear hc hf hof eM
        go_upto_region 7 with (go_at_call 36; ((with_reducible refine (Hc.out _).mono ?_); rintro e w6 ⟨rfl, hb⟩; obtain ⟨hc, hf⟩ := bcell hb; have hz := hb.size; (try simp only [World.size_alloc, World.size_setCell, World.size_drew] at hz); obtain ⟨hlt, hle, hn1, hn2, hn3, hn4⟩ := bsize hb; (try simp only [World.size_alloc, World.size_setCell, World.size_drew] at hlt hle hn1 hn2 hn3 hn4); (try have hr0 : w.heap.size < w6.heap.size := by omega); (try have hr1 : w.heap.size + 1 < w6.heap.size := by omega); (try have hs0 : wS.heap.size < w6.heap.size := by omega); (try have hs1 : wG.heap.size < w6.heap.size := by omega)))
        have p2 : w6.heap[w.heap.size]? = some (.cells #[.int .i64 0, .int .i64 0] 42 (0, 0)) := (by repeat' (first | (with_reducible assumption) | (with_reducible exact blk_new _ _) | (with_reducible apply blk_set) | (with_reducible refine blk_alloc ?_ _) | (with_reducible refine blk_drew ?_) | refine blk_then ?_ (by with_reducible assumption)))
        have p3 : w6.heap[w.heap.size + 1]? = some (.cells #[.int .i64 5, .int .i64 0] 42 (0, 0)) := (by repeat' (first | (with_reducible assumption) | (with_reducible exact blk_new _ _) | (with_reducible apply blk_set) | (with_reducible refine blk_alloc ?_ _) | (with_reducible refine blk_drew ?_) | refine blk_then ?_ (by with_reducible assumption)))
        have bb : Below w.heap.size w w6 := by have := B5.out; exact (by first | (with_reducible exact Below.refl _ _) | ((repeat' (first | (with_reducible exact Below.refl _ _) | (with_reducible assumption) | (with_reducible refine below_alloc ?_ _) | (with_reducible refine Below.drew ?_) | (with_reducible refine below_drewN ?_ _) | (with_reducible refine Below.setCell ?_ ?_ _) | refine below_then ?_ (by with_reducible assumption))) <;> (first | omega | (simp; done) | (simp; omega))))
        have BB := Lib.hid bb
        clear bb
        obtain ⟨z0, z1⟩ := cells2 p2
        obtain ⟨v0, v1⟩ := cells2 p3
        have zf := fun k => f2_of' p2 k
        go_wp2
        all_goals exact bodyPost_ret (res_row Tryd.results29 _ _ rfl (blk_cast (by repeat' (first | (with_reducible assumption) | (with_reducible exact blk_new _ _) | (with_reducible apply blk_set) | (with_reducible refine blk_alloc ?_ _) | (with_reducible refine blk_drew ?_) | refine blk_then ?_ (by with_reducible assumption))) (by first | (simp; done) | rfl)) Tryd.underlying42 rfl _ (by kernel_rfl) rfl) rfl ⟨by rw [E.out]; rfl, by have := BB.out; exact (by first | (with_reducible exact Below.refl _ _) | ((repeat' (first | (with_reducible exact Below.refl _ _) | (with_reducible assumption) | (with_reducible refine below_alloc ?_ _) | (with_reducible refine Below.drew ?_) | (with_reducible refine below_drewN ?_ _) | (with_reducible refine Below.setCell ?_ ?_ _) | refine below_then ?_ (by with_reducible assumption))) <;> (first | omega | (simp; done) | (simp; omega))))⟩
  · have E := Lib.hid (show parseD t = (5, 0) from parseD_bad fun n h1 h2 => by
      have := fmtS_size h1
      rw [h2] at this
      exact h29 this)
    have h29' : ¬ ((t.size : Int) = 29) := by omega
    go_enter Tryd.func29, Tryd.ntmps29
    go_wp2
    all_goals exact bodyPost_ret (res_row Tryd.results29 _ _ rfl (blk_cast (by repeat' (first | (with_reducible assumption) | (with_reducible exact blk_new _ _) | (with_reducible apply blk_set) | (with_reducible refine blk_alloc ?_ _) | (with_reducible refine blk_drew ?_) | refine blk_then ?_ (by with_reducible assumption))) (by first | (simp; done) | rfl)) Tryd.underlying42 rfl _ (by kernel_rfl) rfl) rfl ⟨(by rw [E.out]), by exact (by first | (with_reducible exact Below.refl _ _) | ((repeat' (first | (with_reducible exact Below.refl _ _) | (with_reducible assumption) | (with_reducible refine below_alloc ?_ _) | (with_reducible refine Below.drew ?_) | (with_reducible refine below_drewN ?_ _) | (with_reducible refine Below.setCell ?_ ?_ _) | refine below_then ?_ (by with_reducible assumption))) <;> (first | omega | (simp; done) | (simp; omega))))⟩
theorem FnExactParseDate_walk (t : ByteArray) (hs : t.size ≤ 9223372036854775807) (w : World) (ht : Tab w) (he : ErrC w) : Calls Tryd.prog 5 #[.string t] w fun e w' => e = .returned (.bool true) ∧ Below w.heap.size w w' := by
  by_cases h : t.size ≤ 1048576
  · have h' : (t.size : Int) ≤ 1048576 := by omega
    go_enter Tryd.func5, Tryd.ntmps5
    go_wp2_with (first
      | (go_at_call 28; ((with_reducible refine (spec_ParseDate _ h _).mono ?_); rintro e wS ⟨rfl, hb⟩; obtain ⟨hc, hf⟩ := bcell hb; have hz := hb.size; (try simp only [World.size_alloc, World.size_setCell, World.size_drew] at hz); obtain ⟨hlt, hle, hn1, hn2, hn3, hn4⟩ := bsize hb; (try simp only [World.size_alloc, World.size_setCell, World.size_drew] at hlt hle hn1 hn2 hn3 hn4); (try have hr0 : w.heap.size < wS.heap.size := by omega); (try have hr1 : w.heap.size + 1 < wS.heap.size := by omega); (try have hs0 : wS.heap.size < wS.heap.size := by omega); (try have hs1 : wG.heap.size < wS.heap.size := by omega)))
      | (go_at_call 29; ((with_reducible refine (impl_ParseDate _ h _ (ht.then (by exact (by first | (with_reducible exact Below.refl _ _) | ((repeat' (first | (with_reducible exact Below.refl _ _) | (with_reducible assumption) | (with_reducible refine below_alloc ?_ _) | (with_reducible refine Below.drew ?_) | (with_reducible refine below_drewN ?_ _) | (with_reducible refine Below.setCell ?_ ?_ _) | refine below_then ?_ (by with_reducible assumption))) <;> (first | omega | (simp; done) | (simp; omega)))))) (he.then (by exact (by first | (with_reducible exact Below.refl _ _) | ((repeat' (first | (with_reducible exact Below.refl _ _) | (with_reducible assumption) | (with_reducible refine below_alloc ?_ _) | (with_reducible refine Below.drew ?_) | (with_reducible refine below_drewN ?_ _) | (with_reducible refine Below.setCell ?_ ?_ _) | refine below_then ?_ (by with_reducible assumption))) <;> (first | omega | (simp; done) | (simp; omega))))))).mono ?_); rintro e wG ⟨rfl, hb⟩; obtain ⟨hc, hf⟩ := bcell hb; have hz := hb.size; (try simp only [World.size_alloc, World.size_setCell, World.size_drew] at hz); obtain ⟨hlt, hle, hn1, hn2, hn3, hn4⟩ := bsize hb; (try simp only [World.size_alloc, World.size_setCell, World.size_drew] at hlt hle hn1 hn2 hn3 hn4); (try have hr0 : w.heap.size < wG.heap.size := by omega); (try have hr1 : w.heap.size + 1 < wG.heap.size := by omega); (try have hs0 : wS.heap.size < wG.heap.size := by omega); (try have hs1 : wG.heap.size < wG.heap.size := by omega)))
      | (go_at_call 30; ((with_reducible refine (eqIntResult _ _ _).mono ?_); rintro e w' ⟨rfl, hb⟩; obtain ⟨hc, hf⟩ := bcell hb; have hz := hb.size; (try simp only [World.size_alloc, World.size_setCell, World.size_drew] at hz); obtain ⟨hlt, hle, hn1, hn2, hn3, hn4⟩ := bsize hb; (try simp only [World.size_alloc, World.size_setCell, World.size_drew] at hlt hle hn1 hn2 hn3 hn4); (try have hr0 : w.heap.size < w'.heap.size := by omega); (try have hr1 : w.heap.size + 1 < w'.heap.size := by omega); (try have hs0 : wS.heap.size < w'.heap.size := by omega); (try have hs1 : wG.heap.size < w'.heap.size := by omega))))
    all_goals (go_ret; exact ⟨by first | rfl | (simp [*]; done) | (simp [*]; omega), by first | (with_reducible rfl) | exact (by first | (with_reducible exact Below.refl _ _) | ((repeat' (first | (with_reducible exact Below.refl _ _) | (with_reducible assumption) | (with_reducible refine below_alloc ?_ _) | (with_reducible refine Below.drew ?_) | (with_reducible refine below_drewN ?_ _) | (with_reducible refine Below.setCell ?_ ?_ _) | refine below_then ?_ (by with_reducible assumption))) <;> (first | omega | (simp; done) | (simp; omega))))⟩)
  · have h' : ¬ (t.size : Int) ≤ 1048576 := by omega
    have h2 : (1048576 : Int) < (t.size : Int) := by omega
    go_enter Tryd.func5, Tryd.ntmps5
    go_wp2
    all_goals (go_ret; exact ⟨by first | rfl | (simp [*]; done) | (simp [*]; omega), by first | (with_reducible rfl) | exact (by first | (with_reducible exact Below.refl _ _) | ((repeat' (first | (with_reducible exact Below.refl _ _) | (with_reducible assumption) | (with_reducible refine below_alloc ?_ _) | (with_reducible refine Below.drew ?_) | (with_reducible refine below_drewN ?_ _) | (with_reducible refine Below.setCell ?_ ?_ _) | refine below_then ?_ (by with_reducible assumption))) <;> (first | omega | (simp; done) | (simp; omega))))⟩)
end Go.Proofs.YtklnccoknldkcaaDoor
