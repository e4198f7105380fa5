/- The date that a text tells: the set's own reference. -/
import Derived.Test.YtklnccoknldkcaaDoorDayV
import Derived.Test.YtklnccoknldkcaaDoorFmtS
namespace Go.Proofs.YtklnccoknldkcaaDoor
open Go.RowKit
set_option linter.unusedSimpArgs false
set_option linter.unusedVariables false

theorem spec_l3Number (t : ByteArray) (f k : Nat) (h : f + k ≤ t.size) (h29 : t.size = 29) (w : World) : Calls Tryd.prog 168 #[.string t, .int .i64 (f : Int), .int .i64 (k : Int)] w fun e w' => e = .returned (.int .i64 (deltaI (t.extract f (f + k)))) ∧ w = w' := by
  have hw : IntKind.i64.wrap ((f : Int) + (k : Int)) = (f : Int) + (k : Int) := wrapi _ (by omega) (by omega)
  have h1 : (0 : Int) ≤ (f : Int) := by omega
  have h2 : (f : Int) ≤ (f : Int) + (k : Int) := by omega
  have h3 : (f : Int) + (k : Int) ≤ 29 := by omega
  have h4 : ((f : Int) + (k : Int)).toNat = f + k := by omega
  have hs : (t.extract f (f + k)).size ≤ 9223372036854775807 := by rw [ByteArray.size_extract]; omega
  go_enter Tryd.func168, Tryd.ntmps168
  go_wp2_with (go_at_call 137; ((with_reducible refine (spec_l1Delta _ _ hs).mono ?_); rintro e w' ⟨rfl, rfl⟩))
  go_ret
  exact ⟨rfl, rfl⟩
theorem str_ne {x y : ByteArray} (h : x ≠ y) : (x.toList == y.toList) = false := beq_eq_false_iff_ne.2 fun e => h (ByteArray.ext (Array.toList_inj.1 (by rw [ByteArray.toList_eq, ByteArray.toList_eq] at e; exact e)))
set_option maxHeartbeats 6400000 in
theorem spec_l3Parse (t : ByteArray) (ht : t.size ≤ 1048576) (w : World) : Calls Tryd.prog 89 #[.string t] w fun e w' => ∃ v : Int, e = .returned (.int .i64 v) ∧ (parseD t = if v < 0 then (5, 0) else (0, v)) ∧ Below w.heap.size w w' := by
  by_cases h29 : t.size = 29
  · have hx : (t.extract 8 11).size = 3 := by rw [ByteArray.size_extract]; omega
    obtain ⟨x, ex⟩ : ∃ x, t.extract 8 11 = x := ⟨_, rfl⟩
    obtain ⟨Y, eY⟩ : ∃ Y, deltaI (t.extract 12 16) = Y := ⟨_, rfl⟩
    obtain ⟨D, eD⟩ : ∃ Y, deltaI (t.extract 5 7) = Y := ⟨_, rfl⟩
    obtain ⟨H, eH⟩ : ∃ Y, deltaI (t.extract 17 19) = Y := ⟨_, rfl⟩
    obtain ⟨I, eI⟩ : ∃ Y, deltaI (t.extract 20 22) = Y := ⟨_, rfl⟩
    obtain ⟨S, eS⟩ : ∃ Y, deltaI (t.extract 23 25) = Y := ⟨_, rfl⟩
    have n1 := fun W => spec_l3Number t 12 4 (by omega) h29 W
    have n2 := fun W => spec_l3Number t 5 2 (by omega) h29 W
    have n3 := fun W => spec_l3Number t 17 2 (by omega) h29 W
    have n4 := fun W => spec_l3Number t 20 2 (by omega) h29 W
    have n5 := fun W => spec_l3Number t 23 2 (by omega) h29 W
    simp only [Nat.reduceAdd, Int.cast_ofNat_Int, eY, eD, eH, eI, eS] at n1 n2 n3 n4 n5
    have N1 := Lib.hid n1
    have N2 := Lib.hid n2
    have N3 := Lib.hid n3
    have N4 := Lib.hid n4
    have N5 := Lib.hid n5
    have Is : ∀ m : Nat, 1 ≤ m → m ≤ 12 → x = monthsA.extract (3 * m - 3) (3 * m) → IsOf t Y m D H I S := fun m h1 h2 h3 => by
      have := isOf_spec h1 h2 (ex.trans h3)
      rw [eY, eD, eH, eI, eS] at this
      exact this
    have IS := Lib.hid Is
    clear n1 n2 n3 n4 n5 Is eY eD eH eI eS
    go_enter Tryd.func89, Tryd.ntmps89
    go_wp2
    go_loopw [4] (fun mv wr => ∃ m : Nat, mv = .int .i64 (m : Int) ∧ 1 ≤ m ∧ m ≤ 13 ∧ FromM t m ∧ Below w.heap.size w wr) (fun mv _ => 13 - (intOf mv).toNat)
    case atStart => exact ⟨1, rfl, by omega, by omega, from_1 t, Below.refl _ _⟩
    case round =>
      obtain ⟨m, rfl, hm1, hm2, hF, hb⟩ := hrel
      have HF := Lib.hid hF
      have HB0 := Lib.hid hb
      clear hF hb
      by_cases hlt : m ≤ 12
      · have w3 : IntKind.i64.wrap (3 * (m : Int)) = 3 * (m : Int) := wrapi _ (by omega) (by omega)
        have w4 : IntKind.i64.wrap (3 * (m : Int) - 3) = 3 * (m : Int) - 3 := wrapi _ (by omega) (by omega)
        have c4 : (0 : Int) ≤ 3 * (m : Int) - 3 := by omega
        have c5 : 3 * (m : Int) - 3 ≤ 3 * (m : Int) := by omega
        have c6 : 3 * (m : Int) ≤ 36 := by omega
        have t3 : (3 * (m : Int) - 3).toNat = 3 * m - 3 := by omega
        have t4 : (3 * (m : Int)).toNat = 3 * m := by omega
        obtain ⟨y, ey⟩ : ∃ y, monthsA.extract (3 * m - 3) (3 * m) = y := ⟨_, rfl⟩
        by_cases he : x = y
        · have he' : (x.toList == y.toList) = true := by rw [he]; exact beq_self_eq_true _
          have HI := Lib.hid (IS.out m hm1 hlt (he.trans ey.symm))
          have kY : (13 : Int) ≤ 100 := by omega
          go_wp2
          go_quiet (fail)
          by_cases hf : dateFault Y m D H I S = 0
          · obtain ⟨hd, ⟨a1, a2⟩, ⟨a3, a4⟩, a5, a6⟩ := dateFault_0 hf
            obtain ⟨b1, b2⟩ := inB_iff.1 (secs_known hf)
            have hc := fun W => spec_DateFault Y m D H I S W
            rw [hf] at hc
            have hs := fun W => spec_l3Seconds Y m D H I S hd a1 a2 a3 a4 a5 a6 W
            have hy : fmtS (secsI Y m D H I S) = t → parseD t = (0, secsI Y m D H I S) := parse_yes hf
            have hn : fmtS (secsI Y m D H I S) ≠ t → FromM t (m + 1) := fun h => from_none (of_other HI.out h)
            obtain ⟨N, eN⟩ : ∃ N, secsI Y m D H I S = N := ⟨_, rfl⟩
            rw [eN] at hs hy hn b1 b2
            have hF := fun W => spec_l3Format N b1 b2 W
            obtain ⟨F, eF⟩ : ∃ F, fmtS N = F := ⟨_, rfl⟩
            rw [eF] at hF hy hn
            have Hc := Lib.hid hc
            have Hs := Lib.hid hs
            have Hf := Lib.hid hF
            have Hn := Lib.hid hn
            have Hy := Lib.hid hy
            have HB1 := Lib.hid (below_drewN HB0.out nq)
            generalize wr.drewN nq = V at *
            clear hc hs hF hn hy eF eN hf hd a1 a2 a3 a4 a5 a6 he ey
            by_cases c : F = t
            · have c' : (F.toList == t.toList) = true := by rw [c]; exact beq_self_eq_true _
              have E := Lib.hid (Hy.out c)
              clear c
              go_upto_region 10 with (first | (go_at_call 168; ((with_reducible refine (N1.out _).mono ?_); rintro e w' ⟨rfl, rfl⟩)) | (go_at_call 168; ((with_reducible refine (N2.out _).mono ?_); rintro e w' ⟨rfl, rfl⟩)) | (go_at_call 168; ((with_reducible refine (N3.out _).mono ?_); rintro e w' ⟨rfl, rfl⟩)) | (go_at_call 168; ((with_reducible refine (N4.out _).mono ?_); rintro e w' ⟨rfl, rfl⟩)) | (go_at_call 168; ((with_reducible refine (N5.out _).mono ?_); rintro e w' ⟨rfl, rfl⟩)) | (go_at_call 37; ((with_reducible refine (Hc.out _).mono ?_); rintro e w1 ⟨rfl, hb⟩; obtain ⟨hc, hf⟩ := bcell hb; have hz := hb.size; (try simp only [World.size_alloc, World.size_setCell, World.size_drew] at hz); obtain ⟨hlt, hle, hn1, hn2, hn3, hn4⟩ := bsize hb; (try simp only [World.size_alloc, World.size_setCell, World.size_drew] at hlt hle hn1 hn2 hn3 hn4); (try have hr0 : w.heap.size < w1.heap.size := by omega); (try have hr1 : w.heap.size + 1 < w1.heap.size := by omega); (try have hs0 : wS.heap.size < w1.heap.size := by omega); (try have hs1 : wG.heap.size < w1.heap.size := by omega))) | (go_at_call 170; ((with_reducible refine (Hs.out _).mono ?_); rintro e w2 ⟨rfl, hb⟩; obtain ⟨hc, hf⟩ := bcell hb; have hz := hb.size; (try simp only [World.size_alloc, World.size_setCell, World.size_drew] at hz); obtain ⟨hlt, hle, hn1, hn2, hn3, hn4⟩ := bsize hb; (try simp only [World.size_alloc, World.size_setCell, World.size_drew] at hlt hle hn1 hn2 hn3 hn4); (try have hr0 : w.heap.size < w2.heap.size := by omega); (try have hr1 : w.heap.size + 1 < w2.heap.size := by omega); (try have hs0 : wS.heap.size < w2.heap.size := by omega); (try have hs1 : wG.heap.size < w2.heap.size := by omega))) | (go_at_call 169; ((with_reducible refine (Hf.out _).mono ?_); rintro e w3 ⟨rfl, hb⟩; obtain ⟨hc, hf⟩ := bcell hb; have hz := hb.size; (try simp only [World.size_alloc, World.size_setCell, World.size_drew] at hz); obtain ⟨hlt, hle, hn1, hn2, hn3, hn4⟩ := bsize hb; (try simp only [World.size_alloc, World.size_setCell, World.size_drew] at hlt hle hn1 hn2 hn3 hn4); (try have hr0 : w.heap.size < w3.heap.size := by omega); (try have hr1 : w.heap.size + 1 < w3.heap.size := by omega); (try have hs0 : wS.heap.size < w3.heap.size := by omega); (try have hs1 : wG.heap.size < w3.heap.size := by omega))))
              have xb : w3.heap[V.heap.size]? = some (.cells #[.int .i64 Y, .int .i64 (m : Int), .int .i64 D, .int .i64 H, .int .i64 I, .int .i64 S] 46 (0, 0)) := (by repeat' (first | (with_reducible assumption) | (with_reducible exact blk_new _ _) | (with_reducible apply blk_set) | (with_reducible refine blk_alloc ?_ _) | (with_reducible refine blk_drew ?_) | refine blk_then ?_ (by with_reducible assumption)))
              have x0 : w3.cell? ⟨V.heap.size, 0, none⟩ = some (.int .i64 Y) := by simp [World.cell?, xb]
              have x1 : w3.cell? ⟨V.heap.size, 1, none⟩ = some (.int .i64 (m : Int)) := by simp [World.cell?, xb]
              have x2 : w3.cell? ⟨V.heap.size, 2, none⟩ = some (.int .i64 D) := by simp [World.cell?, xb]
              have x3 : w3.cell? ⟨V.heap.size, 3, none⟩ = some (.int .i64 H) := by simp [World.cell?, xb]
              have x4 : w3.cell? ⟨V.heap.size, 4, none⟩ = some (.int .i64 I) := by simp [World.cell?, xb]
              have x5 : w3.cell? ⟨V.heap.size, 5, none⟩ = some (.int .i64 S) := by simp [World.cell?, xb]
              have bB : Below w.heap.size w w3 := by have := HB1.out; exact (by first | (with_reducible exact Below.refl _ _) | ((repeat' (first | (with_reducible exact Below.refl _ _) | (with_reducible assumption) | (with_reducible refine below_alloc ?_ _) | (with_reducible refine Below.drew ?_) | (with_reducible refine below_drewN ?_ _) | (with_reducible refine Below.setCell ?_ ?_ _) | refine below_then ?_ (by with_reducible assumption))) <;> (first | omega | (simp; done) | (simp; omega))))
              have BB := Lib.hid bB
              clear bB
              go_wp2_with (go_at_call 170; ((with_reducible refine (Hs.out _).mono ?_); rintro e w' ⟨rfl, hb⟩; obtain ⟨hc, hf⟩ := bcell hb; have hz := hb.size; (try simp only [World.size_alloc, World.size_setCell, World.size_drew] at hz); obtain ⟨hlt, hle, hn1, hn2, hn3, hn4⟩ := bsize hb; (try simp only [World.size_alloc, World.size_setCell, World.size_drew] at hlt hle hn1 hn2 hn3 hn4); (try have hr0 : w.heap.size < w'.heap.size := by omega); (try have hr1 : w.heap.size + 1 < w'.heap.size := by omega); (try have hs0 : wS.heap.size < w'.heap.size := by omega); (try have hs1 : wG.heap.size < w'.heap.size := by omega)))
              exact bodyPost_ret (results_tmp Tryd.results89 _ _ _) rfl ⟨_, rfl, by rw [E.out, if_neg (by omega)], by have := BB.out; exact (by first | (with_reducible exact Below.refl _ _) | ((repeat' (first | (with_reducible exact Below.refl _ _) | (with_reducible assumption) | (with_reducible refine below_alloc ?_ _) | (with_reducible refine Below.drew ?_) | (with_reducible refine below_drewN ?_ _) | (with_reducible refine Below.setCell ?_ ?_ _) | refine below_then ?_ (by with_reducible assumption))) <;> (first | omega | (simp; done) | (simp; omega))))⟩
            · have c' : (F.toList == t.toList) = false := str_ne c
              have E := Lib.hid (Hn.out c)
              clear c
              go_wp2_with (first | (go_at_call 168; ((with_reducible refine (N1.out _).mono ?_); rintro e w' ⟨rfl, rfl⟩)) | (go_at_call 168; ((with_reducible refine (N2.out _).mono ?_); rintro e w' ⟨rfl, rfl⟩)) | (go_at_call 168; ((with_reducible refine (N3.out _).mono ?_); rintro e w' ⟨rfl, rfl⟩)) | (go_at_call 168; ((with_reducible refine (N4.out _).mono ?_); rintro e w' ⟨rfl, rfl⟩)) | (go_at_call 168; ((with_reducible refine (N5.out _).mono ?_); rintro e w' ⟨rfl, rfl⟩)) | (go_at_call 37; ((with_reducible refine (Hc.out _).mono ?_); rintro e w' ⟨rfl, hb⟩; obtain ⟨hc, hf⟩ := bcell hb; have hz := hb.size; (try simp only [World.size_alloc, World.size_setCell, World.size_drew] at hz); obtain ⟨hlt, hle, hn1, hn2, hn3, hn4⟩ := bsize hb; (try simp only [World.size_alloc, World.size_setCell, World.size_drew] at hlt hle hn1 hn2 hn3 hn4); (try have hr0 : w.heap.size < w'.heap.size := by omega); (try have hr1 : w.heap.size + 1 < w'.heap.size := by omega); (try have hs0 : wS.heap.size < w'.heap.size := by omega); (try have hs1 : wG.heap.size < w'.heap.size := by omega))) | (go_at_call 170; ((with_reducible refine (Hs.out _).mono ?_); rintro e w' ⟨rfl, hb⟩; obtain ⟨hc, hf⟩ := bcell hb; have hz := hb.size; (try simp only [World.size_alloc, World.size_setCell, World.size_drew] at hz); obtain ⟨hlt, hle, hn1, hn2, hn3, hn4⟩ := bsize hb; (try simp only [World.size_alloc, World.size_setCell, World.size_drew] at hlt hle hn1 hn2 hn3 hn4); (try have hr0 : w.heap.size < w'.heap.size := by omega); (try have hr1 : w.heap.size + 1 < w'.heap.size := by omega); (try have hs0 : wS.heap.size < w'.heap.size := by omega); (try have hs1 : wG.heap.size < w'.heap.size := by omega))) | (go_at_call 169; ((with_reducible refine (Hf.out _).mono ?_); rintro e w' ⟨rfl, hb⟩; obtain ⟨hc, hf⟩ := bcell hb; have hz := hb.size; (try simp only [World.size_alloc, World.size_setCell, World.size_drew] at hz); obtain ⟨hlt, hle, hn1, hn2, hn3, hn4⟩ := bsize hb; (try simp only [World.size_alloc, World.size_setCell, World.size_drew] at hlt hle hn1 hn2 hn3 hn4); (try have hr0 : w.heap.size < w'.heap.size := by omega); (try have hr1 : w.heap.size + 1 < w'.heap.size := by omega); (try have hs0 : wS.heap.size < w'.heap.size := by omega); (try have hs1 : wG.heap.size < w'.heap.size := by omega))))
              all_goals go_round
              case rel => exact ⟨m + 1, by go_num, by omega, by omega, E.out, by have := HB1.out; exact (by first | (with_reducible exact Below.refl _ _) | ((repeat' (first | (with_reducible exact Below.refl _ _) | (with_reducible assumption) | (with_reducible refine below_alloc ?_ _) | (with_reducible refine Below.drew ?_) | (with_reducible refine below_drewN ?_ _) | (with_reducible refine Below.setCell ?_ ?_ _) | refine below_then ?_ (by with_reducible assumption))) <;> (first | omega | (simp; done) | (simp; omega))))⟩
              case measure => simp [intOf]; omega
          · have hc := fun W => spec_DateFault Y m D H I S W
            rw [dateFault_3 hf] at hc
            have Hc := Lib.hid hc
            have HN : Hid (FromM t (m + 1)) := Lib.hid (from_none (of_fault HI.out hf))
            have HB1 := Lib.hid (below_drewN HB0.out nq)
            generalize wr.drewN nq = V at *
            clear hc hf he ey
            go_wp2_with (first | (go_at_call 168; ((with_reducible refine (N1.out _).mono ?_); rintro e w' ⟨rfl, rfl⟩)) | (go_at_call 168; ((with_reducible refine (N2.out _).mono ?_); rintro e w' ⟨rfl, rfl⟩)) | (go_at_call 168; ((with_reducible refine (N3.out _).mono ?_); rintro e w' ⟨rfl, rfl⟩)) | (go_at_call 168; ((with_reducible refine (N4.out _).mono ?_); rintro e w' ⟨rfl, rfl⟩)) | (go_at_call 168; ((with_reducible refine (N5.out _).mono ?_); rintro e w' ⟨rfl, rfl⟩)) | (go_at_call 37; ((with_reducible refine (Hc.out _).mono ?_); rintro e w' ⟨rfl, hb⟩; obtain ⟨hc, hf⟩ := bcell hb; have hz := hb.size; (try simp only [World.size_alloc, World.size_setCell, World.size_drew] at hz); obtain ⟨hlt, hle, hn1, hn2, hn3, hn4⟩ := bsize hb; (try simp only [World.size_alloc, World.size_setCell, World.size_drew] at hlt hle hn1 hn2 hn3 hn4); (try have hr0 : w.heap.size < w'.heap.size := by omega); (try have hr1 : w.heap.size + 1 < w'.heap.size := by omega); (try have hs0 : wS.heap.size < w'.heap.size := by omega); (try have hs1 : wG.heap.size < w'.heap.size := by omega))))
            all_goals go_round
            case rel => exact ⟨m + 1, by go_num, by omega, by omega, HN.out, by have := HB1.out; exact (by first | (with_reducible exact Below.refl _ _) | ((repeat' (first | (with_reducible exact Below.refl _ _) | (with_reducible assumption) | (with_reducible refine below_alloc ?_ _) | (with_reducible refine Below.drew ?_) | (with_reducible refine below_drewN ?_ _) | (with_reducible refine Below.setCell ?_ ?_ _) | refine below_then ?_ (by with_reducible assumption))) <;> (first | omega | (simp; done) | (simp; omega))))⟩
            case measure => simp [intOf]; omega
        · have he' : (x.toList == y.toList) = false := str_ne he
          have HB1 : ∀ q, Below w.heap.size w (wr.drewN q) := fun q => below_drewN HB0.out q
          have HB1 := Lib.hid HB1
          have HN := Lib.hid (from_next HF.out hm1 hlt (by rw [ex, ey]; exact he))
          clear he
          go_wp2
          go_quiet (fail)
          go_wp2
          go_round
          case rel => exact ⟨m + 1, by go_num, by omega, by omega, HN.out, HB1.out _⟩
          case measure => simp [intOf]; omega
      · obtain rfl : m = 13 := by omega
        have HE := Lib.hid (from_13 HF.out)
        go_wp2
        exact bodyPost_ret (results_tmp Tryd.results89 _ _ _) rfl ⟨_, rfl, HE.out, HB0.out⟩
  · have e : parseD t = (5, 0) := parseD_bad fun n h1 h2 => by
      have := fmtS_size h1
      rw [h2] at this
      exact h29 this
    have HE := Lib.hid e
    have h29' : ¬ ((t.size : Int) = 29) := by omega
    clear e
    go_enter Tryd.func89, Tryd.ntmps89
    go_wp2
    exact bodyPost_ret (results_tmp Tryd.results89 _ _ _) rfl ⟨_, rfl, HE.out, Below.refl _ _⟩
end Go.Proofs.YtklnccoknldkcaaDoor
