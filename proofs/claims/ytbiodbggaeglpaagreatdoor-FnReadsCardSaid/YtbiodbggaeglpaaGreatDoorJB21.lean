/- Joined: ReqT. -/
import Derived.Test.YtbiodbggaeglpaaGreatDoorJB20
import Derived.Test.YtbiodbggaeglpaaGreatDoorJB9
/- The request that bytes tell: the reference's text, its end. -/
namespace Go.Proofs.YtbiodbggaeglpaaGreatDoor
open Go.RowKit
set_option linter.unusedSimpArgs false
set_option linter.unusedVariables false

theorem three {α : Type} {l : List α} (h : l.length = 3) : ∃ a b c, l = [a, b, c] := by
  match l, h with
  | [a, b, c], _ => exact ⟨a, b, c, rfl⟩
theorem firstR_small {t : List UInt8} {x y : List UInt8} (h : firstR t = some (x, y)) : x.length ≤ t.length ∧ y.length ≤ t.length := by
  have hc : (Lib.cut t crlf).1.length ≤ t.length ∧ (Lib.cut t crlf).2.1.length ≤ t.length := by
    unfold Lib.cut
    split
    · exact ⟨by rw [List.length_take]; exact Nat.min_le_right _ _, by rw [List.length_drop]; exact Nat.sub_le _ _⟩
    · exact ⟨Nat.le_refl _, Nat.zero_le _⟩
  unfold firstR at h
  split at h
  · have e := Option.some.inj h
    have e1 := congrArg Prod.fst e
    have e2 := congrArg Prod.snd e
    simp only at e1 e2
    rw [← e1, ← e2]
    exact ⟨hc.1, by rw [List.length_take]; omega⟩
  · cases h
theorem spec_l5Words (t : ByteArray) (ht : t.size ≤ 10000) (w : World) : Calls Tryz.prog 44 #[.string t] w fun e w' => ∃ g cap, e = .returned (.tuple #[.slice (some ⟨g, 0, none⟩) (cutB 32 t).length cap, .bool (((cutB 32 t).length : Int) == 3)]) ∧
    w'.ownsRow w.heap.size 9 1 (.slice (some ⟨g, 0, none⟩) (cutB 32 t).length cap) (cutB 32 t).length (strV (cutB 32 t)) ∧ Below w.heap.size w w' := by
  go_enter Tryz.func44, Tryz.ntmps44
  go_wp2_with (go_at_call 75; ((with_reducible refine (spec_l1Cut t ht 32 32 rfl _).mono ?_); rintro e w' ⟨g, cap, rfl, hown, hb⟩))
  go_ret2
  exact ⟨g, cap, rfl, hown, hb⟩
theorem cutB_len (c : UInt8) (t : ByteArray) : (cutB c t).length ≤ t.size + 1 := by
  have h := cutGo_sum c t.data.toList []
  have e : t.data.toList.length = t.size := Array.length_toList
  unfold cutB
  rw [List.length_map]
  simp only [List.length_nil] at h
  omega
theorem cutB_mem (c : UInt8) (t : ByteArray) : ∀ x ∈ cutB c t, x.size ≤ t.size := by
  intro x hx
  obtain ⟨y, hy, rfl⟩ := List.mem_map.1 hx
  have h := cutGo_sum c t.data.toList []
  have e : t.data.toList.length = t.size := Array.length_toList
  have hle : ∀ (l : List (List UInt8)), y ∈ l → y.length + l.length ≤ lenS l + l.length := by
    intro l hl
    induction l with
    | nil => cases hl
    | cons z l ih =>
      rcases List.mem_cons.1 hl with rfl | hl
      · simp only [lenS, List.map_cons, List.sum_cons, List.length_cons]; omega
      · have := ih hl
        simp only [lenS, List.map_cons, List.sum_cons, List.length_cons] at this ⊢; omega
  have h2 := hle _ hy
  have h3 : 1 ≤ (cutGo c [] t.data.toList).length := List.length_pos_of_mem hy
  rw [ba_size]
  simp only [List.length_nil] at h
  omega
theorem reqR_many {t : List UInt8} (h : 8000 < t.length) : reqR t = (2, noRq) := if_pos h
theorem reqR_mid {t : List UInt8} (h : ¬ 8000 < t.length) : reqR t = rqMid (firstR t) := if_neg h
theorem rqMid_some {p : List UInt8 × List UInt8} (h : (readR (ba p.2)).1 = 0) : rqMid (some p) = rqEnd (rqOf p.1 (readR (ba p.2)).2) := if_pos h
theorem rqMid_code {p : List UInt8 × List UInt8} (h : ¬ (readR (ba p.2)).1 = 0) : rqMid (some p) = ((readR (ba p.2)).1, noRq) := if_neg h
theorem rqOf_bad {line : List UInt8} {l : List Hd} (h : ¬ ((Lib.split line [32]).length = 3 ∧ (Lib.split line [32])[2]? = some http11 ∧ (vals hostName l).length = 1)) : rqEnd (rqOf line l) = (5, noRq) := by
  rw [rqOf, if_neg h]; rfl
theorem rqOf_good {line : List UInt8} {l : List Hd} {w0 w1 w2 v0 : ByteArray} (hw : cutB 32 (ba line) = [w0, w1, w2]) (h2 : w2.data.toList = http11) (hv : vals hostName l = [v0]) : rqOf line l = some (w0, v0, w1, dropL hostName l) := by
  have hs := cutB_split 32 (ba line)
  rw [ba_list, hw] at hs
  rw [rqOf, ← hs, hv, if_pos ⟨rfl, by simp [h2], rfl⟩]
  simp only [List.map_cons, List.getElem!_cons_zero, List.getElem!_cons_succ]
  rw [ba_of, ba_of]
theorem split_words (line : List UInt8) : (Lib.split line [32]).length = (cutB 32 (ba line)).length ∧ (Lib.split line [32])[2]? = ((cutB 32 (ba line))[2]?).map (·.data.toList) := by
  have hs := cutB_split 32 (ba line)
  rw [ba_list] at hs
  rw [← hs]
  exact ⟨by rw [List.length_map], by rw [List.getElem?_map]⟩
theorem strV_rd (l : List ByteArray) (k : Nat) (x : ByteArray) (h : l[k]? = some x) : (strV l)[k]? = some (.string x) := by simp [strV, h]
set_option maxRecDepth 100000 in
set_option maxHeartbeats 6400000 in
theorem spec_ReadRequest (a : Option Addr) (n c : Nat) (lb : List UInt8) (hlb : lb.length = n) (w : World) (hr : Rd w a (bV lb)) (hn : n ≤ 9223372036854775807) :
    Calls Tryz.prog 10 #[.slice a n c] w fun e w' => ∃ (a' : Option Addr) (n' c' : Nat), e = .returned (.agg #[.int .i64 (reqR lb).1, .string (reqR lb).2.1, .string (reqR lb).2.2.1, .string (reqR lb).2.2.2.1, .slice a' n' c']) ∧ ((reqR lb).2.2.2.2.length = n' ∧ SlAt w' w.heap.size w'.heap.size a' n' (hV (reqR lb).2.2.2.2)) ∧ Below w.heap.size w w' := by
  by_cases h8 : 8000 < n
  · rw [reqR_many (by omega)]
    clear hr hlb
    go_enter Tryz.func10, Tryz.ntmps10
    go_wp2
    exact bodyPost_ret (res_row Tryz.results10 _ _ rfl (blk_cast (by repeat' (first | (with_reducible assumption) | (with_reducible exact blk_new _ _) | (with_reducible apply blk_set) | (with_reducible refine blk_alloc ?_ _) | (with_reducible refine blk_drew ?_) | refine blk_then ?_ (by with_reducible assumption))) (by first | (simp; done) | rfl)) Tryz.underlying29 rfl _ (by kernel_rfl) rfl) rfl ⟨none, 0, 0, rfl, hdR_none _ _ _, by exact (by first | (with_reducible exact Below.refl _ _) | ((repeat' (first | (with_reducible exact Below.refl _ _) | (with_reducible assumption) | (with_reducible refine below_alloc ?_ _) | (with_reducible refine Below.drew ?_) | (with_reducible refine below_drewN ?_ _) | (with_reducible refine Below.setCell ?_ ?_ _) | refine below_then ?_ (by with_reducible assumption))) <;> (first | omega | (simp; done) | (simp; omega))))⟩
  · rw [reqR_mid (by omega)]
    have hF := fun W => spec_l5First (ba lb) (by rw [ba_size]; omega) W
    rw [ba_list] at hF
    have hcv := fun W hr => conv_rd W a n c lb hlb hr
    have Hcv : ∀ W, Rd W a (bV lb) → (convert 22 9 (.slice a n c)).run Tryz.prog W = .ok (.string (ba lb)) W := hcv
    have hcv0 := Hcv _ (hr.alloc (.cells #[.int .i64 0, .string ⟨#[]⟩, .string ⟨#[]⟩, .string ⟨#[]⟩, .slice none 0 0] 29))
    clear hcv Hcv
    cases hf : firstR lb with
    | none =>
      rw [hf] at hF
      have hF2 : ∀ W, Calls Tryz.prog 42 #[.string (ba lb)] W fun e w' => e = .returned (.tuple #[.string ⟨#[]⟩, .string ⟨#[]⟩, .bool false]) ∧ Below (W).heap.size W w' := hF
      have HF := Lib.hid hF2
      clear hF hF2
      show Calls _ _ _ w fun e w' => ∃ (a' : Option Addr) (n' c' : Nat), e = .returned (.agg #[.int .i64 (((5 : Int), noRq)).1, .string (((5 : Int), noRq)).2.1, .string (((5 : Int), noRq)).2.2.1, .string (((5 : Int), noRq)).2.2.2.1, .slice a' n' c']) ∧ ((((5 : Int), noRq)).2.2.2.2.length = n' ∧ SlAt w' w.heap.size w'.heap.size a' n' (hV (((5 : Int), noRq)).2.2.2.2)) ∧ Below w.heap.size w w'
      --LEAF none
      go_enter Tryz.func10, Tryz.ntmps10
      go_wp2_with (go_at_call 42; ((with_reducible refine (HF.out _).mono ?_); rintro e w' ⟨rfl, hb⟩; obtain ⟨hc, hf⟩ := bcell hb; have hz := hb.size; (try simp only [World.size_alloc, World.size_setCell, World.size_drew] at hz); obtain ⟨hlt, hle, hn1, hn2, hn3, hn4⟩ := bsize hb; (try simp only [World.size_alloc, World.size_setCell, World.size_drew] at hlt hle hn1 hn2 hn3 hn4); (try have hr0 : w.heap.size < w'.heap.size := by omega); (try have hr1 : w.heap.size + 1 < w'.heap.size := by omega); (try have hs0 : wS.heap.size < w'.heap.size := by omega); (try have hs1 : wG.heap.size < w'.heap.size := by omega)))
      exact bodyPost_ret (res_row Tryz.results10 _ _ rfl (blk_cast (by repeat' (first | (with_reducible assumption) | (with_reducible exact blk_new _ _) | (with_reducible apply blk_set) | (with_reducible refine blk_alloc ?_ _) | (with_reducible refine blk_drew ?_) | refine blk_then ?_ (by with_reducible assumption))) (by first | (simp; done) | rfl)) Tryz.underlying29 rfl _ (by kernel_rfl) rfl) rfl ⟨none, 0, 0, rfl, hdR_none _ _ _, by exact (by first | (with_reducible exact Below.refl _ _) | ((repeat' (first | (with_reducible exact Below.refl _ _) | (with_reducible assumption) | (with_reducible refine below_alloc ?_ _) | (with_reducible refine Below.drew ?_) | (with_reducible refine below_drewN ?_ _) | (with_reducible refine Below.setCell ?_ ?_ _) | refine below_then ?_ (by with_reducible assumption))) <;> (first | omega | (simp; done) | (simp; omega))))⟩
      --END
    | some p =>
      obtain ⟨line, hd⟩ := p
      obtain ⟨z1, z2⟩ := firstR_small hf
      rw [hf] at hF
      have hF2 : ∀ W, Calls Tryz.prog 42 #[.string (ba lb)] W fun e w' => e = .returned (.tuple #[.string (ba line), .string (ba hd), .bool true]) ∧ Below (W).heap.size W w' := hF
      have HF := Lib.hid hF2
      clear hF2
      have hR := fun W => spec_ReadHeaders (ba hd) (by rw [ba_size]; omega) W
      clear hF hf
      by_cases hz : (readR (ba hd)).1 = 0
      · have hL := readR_ok hz
        rw [rqMid_some hz]
        rw [hz] at hR
        show Calls _ _ _ w fun e w' => ∃ (a' : Option Addr) (n' c' : Nat), e = .returned (.agg #[.int .i64 ((rqEnd (rqOf line (readR (ba hd)).2))).1, .string ((rqEnd (rqOf line (readR (ba hd)).2))).2.1, .string ((rqEnd (rqOf line (readR (ba hd)).2))).2.2.1, .string ((rqEnd (rqOf line (readR (ba hd)).2))).2.2.2.1, .slice a' n' c']) ∧ (((rqEnd (rqOf line (readR (ba hd)).2))).2.2.2.2.length = n' ∧ SlAt w' w.heap.size w'.heap.size a' n' (hV ((rqEnd (rqOf line (readR (ba hd)).2))).2.2.2.2)) ∧ Below w.heap.size w w'
        generalize (readR (ba hd)).2 = L at *
        obtain ⟨s1, s2⟩ := hds_small hL
        have H20 := Lib.hid s1
        have hW := fun W => spec_l5Words (ba line) (by rw [ba_size]; omega) W
        have hD := fun a n c hl W hr hn => spec_l4Drop hostName size_host a n c L hl W hr hn (fun h hh => by have := s2 h hh; omega)
        have hJ := fun a n c hl W hr hn => spec_l4Join hostName size_host a n c L hl W hr hn (fun h hh => by have := s2 h hh; omega)
        have hwl := cutB_len 32 (ba line)
        have hwm := cutB_mem 32 (ba line)
        rw [ba_size] at hwl
        have hwb : (cutB 32 (ba line)).length ≤ 8001 := by omega
        have HR := Lib.hid hR
        have HW := Lib.hid hW
        have HD := Lib.hid hD
        have HJ := Lib.hid hJ
        have hdv := drop_vals_len hostName L
        clear hR hW hD hJ hwl hz
        by_cases c1 : (cutB 32 (ba line)).length = 3
        · obtain ⟨w0, w1, w2, hw⟩ := three c1
          have m0 := hwm w0 (by rw [hw]; simp)
          have m1 := hwm w1 (by rw [hw]; simp)
          have m2 := hwm w2 (by rw [hw]; simp)
          rw [ba_size] at m0 m1 m2
          have hW2 := HW.out
          rw [hw] at hW2
          have HW := Lib.hid hW2
          clear hW2 hwm hwb c1
          by_cases c2 : w2.data.toList = http11
          · have e2 : (w2.toList == [72, 84, 84, 80, 47, 49, 46, 49]) = true := by rw [eq_str]; exact decide_eq_true c2
            by_cases c3 : (vals hostName L).length = 1
            · obtain ⟨v0, hv0⟩ : ∃ v0, vals hostName L = [v0] := by
                match hq : vals hostName L, c3 with
                | [x], _ => exact ⟨x, rfl⟩
              have hvs : v0.size ≤ 200 := by
                obtain ⟨y, hy, rfl⟩ := vals_mem (show v0 ∈ vals hostName L by rw [hv0]; simp)
                exact (s2 y hy).2
              have e : rqOf line L = some (w0, v0, w1, dropL hostName L) := rqOf_good hw c2 hv0
              have hJ2 := HJ.out
              rw [hv0, joinB_one] at hJ2
              have HJ := Lib.hid hJ2
              have hds : ∀ h ∈ dropL hostName L, h.1.size ≤ 9223372036854775807 ∧ h.2.size ≤ 9223372036854775807 := fun h hh => by
                have := s2 h (List.mem_filter.1 hh).1
                omega
              have hF := fun a n c hl W hr hn => spec_RequestFault w0 v0 w1 (by omega) (by omega) (by omega) a n c (dropL hostName L) hl W hr hn hds
              have hd20 : (dropL hostName L).length ≤ 20 := by omega
              rw [e]
              clear e c2 hw hJ2 hds hL
              by_cases hq : rqFault w0 v0 w1 (dropL hostName L) = 0
              · have e5 : rqEnd (some (w0, v0, w1, dropL hostName L)) = (0, w0, v0, w1, dropL hostName L) := if_pos hq
                rw [e5]
                rw [hq] at hF
                have HFt := Lib.hid hF
                clear e5 hq hF
                --LEAF good
                go_enter Tryz.func10, Tryz.ntmps10
                go_upto_region 12 with (first
                  | (go_at_call 42; ((with_reducible refine (HF.out _).mono ?_); rintro e w' ⟨rfl, hb⟩; obtain ⟨hc, hf⟩ := bcell hb; have hz := hb.size; (try simp only [World.size_alloc, World.size_setCell, World.size_drew] at hz); obtain ⟨hlt, hle, hn1, hn2, hn3, hn4⟩ := bsize hb; (try simp only [World.size_alloc, World.size_setCell, World.size_drew] at hlt hle hn1 hn2 hn3 hn4); (try have hr0 : w.heap.size < w'.heap.size := by omega); (try have hr1 : w.heap.size + 1 < w'.heap.size := by omega); (try have hs0 : wS.heap.size < w'.heap.size := by omega); (try have hs1 : wG.heap.size < w'.heap.size := by omega)))
                  | (go_at_call 43; ((with_reducible refine (HR.out _).mono ?_); rintro e wH ⟨aH, nH, cH, rfl, ⟨hlH, hsH⟩, hb⟩; have rdH := hsH.rd; obtain ⟨hc, hf⟩ := bcell hb; have hz := hb.size; (try simp only [World.size_alloc, World.size_setCell, World.size_drew] at hz); obtain ⟨hlt, hle, hn1, hn2, hn3, hn4⟩ := bsize hb; (try simp only [World.size_alloc, World.size_setCell, World.size_drew] at hlt hle hn1 hn2 hn3 hn4); (try have hr0 : w.heap.size < wH.heap.size := by omega); (try have hr1 : w.heap.size + 1 < wH.heap.size := by omega); (try have hs0 : wS.heap.size < wH.heap.size := by omega); (try have hs1 : wG.heap.size < wH.heap.size := by omega)))
                  | (go_at_call 44; ((with_reducible refine (HW.out _).mono ?_); rintro e wL ⟨gl, capl, rfl, hownL, hb⟩; obtain ⟨gl1, gl2, rowL⟩ := own_at hownL; obtain ⟨hc, hf⟩ := bcell hb; have hz := hb.size; (try simp only [World.size_alloc, World.size_setCell, World.size_drew] at hz); obtain ⟨hlt, hle, hn1, hn2, hn3, hn4⟩ := bsize hb; (try simp only [World.size_alloc, World.size_setCell, World.size_drew] at hlt hle hn1 hn2 hn3 hn4); (try have hr0 : w.heap.size < wL.heap.size := by omega); (try have hr1 : w.heap.size + 1 < wL.heap.size := by omega); (try have hs0 : wS.heap.size < wL.heap.size := by omega); (try have hs1 : wG.heap.size < wL.heap.size := by omega)))
                  | (go_at_call 45; ((with_reducible refine (HD.out _ _ _ hlH _ (by first | (with_reducible assumption) | exact RowAt.rd (by repeat' (first | (with_reducible assumption) | (with_reducible refine RowAt.alloc ?_ _) | (with_reducible refine RowAt.drew ?_) | (with_reducible refine RowAt.other ?_ _ _ (by first | omega | (simp; done) | (simp; omega))) | refine RowAt.then ?_ (by with_reducible assumption))) | exact Rd.below (by with_reducible assumption) (by first | (with_reducible exact Below.refl _ _) | ((repeat' (first | (with_reducible exact Below.refl _ _) | (with_reducible assumption) | (with_reducible refine below_alloc ?_ _) | (with_reducible refine Below.drew ?_) | (with_reducible refine below_drewN ?_ _) | (with_reducible refine Below.setCell ?_ ?_ _) | refine below_then ?_ (by with_reducible assumption))) <;> (first | omega | (simp; done) | (simp; omega))))) (by have := H20.out; omega)).mono ?_); rintro e wD ⟨gd, capd, rfl, hownD, hb⟩; obtain ⟨gd1, gd2, rowD⟩ := own_at hownD; obtain ⟨hc, hf⟩ := bcell hb; have hz := hb.size; (try simp only [World.size_alloc, World.size_setCell, World.size_drew] at hz); obtain ⟨hlt, hle, hn1, hn2, hn3, hn4⟩ := bsize hb; (try simp only [World.size_alloc, World.size_setCell, World.size_drew] at hlt hle hn1 hn2 hn3 hn4); (try have hr0 : w.heap.size < wD.heap.size := by omega); (try have hr1 : w.heap.size + 1 < wD.heap.size := by omega); (try have hs0 : wS.heap.size < wD.heap.size := by omega); (try have hs1 : wG.heap.size < wD.heap.size := by omega)))
                  | (go_at_call 46; ((with_reducible refine (HJ.out _ _ _ hlH _ (by first | (with_reducible assumption) | exact RowAt.rd (by repeat' (first | (with_reducible assumption) | (with_reducible refine RowAt.alloc ?_ _) | (with_reducible refine RowAt.drew ?_) | (with_reducible refine RowAt.other ?_ _ _ (by first | omega | (simp; done) | (simp; omega))) | refine RowAt.then ?_ (by with_reducible assumption))) | exact Rd.below (by with_reducible assumption) (by first | (with_reducible exact Below.refl _ _) | ((repeat' (first | (with_reducible exact Below.refl _ _) | (with_reducible assumption) | (with_reducible refine below_alloc ?_ _) | (with_reducible refine Below.drew ?_) | (with_reducible refine below_drewN ?_ _) | (with_reducible refine Below.setCell ?_ ?_ _) | refine below_then ?_ (by with_reducible assumption))) <;> (first | omega | (simp; done) | (simp; omega))))) (by have := H20.out; omega)).mono ?_); rintro e wJ ⟨rfl, hb⟩; obtain ⟨hc, hf⟩ := bcell hb; have hz := hb.size; (try simp only [World.size_alloc, World.size_setCell, World.size_drew] at hz); obtain ⟨hlt, hle, hn1, hn2, hn3, hn4⟩ := bsize hb; (try simp only [World.size_alloc, World.size_setCell, World.size_drew] at hlt hle hn1 hn2 hn3 hn4); (try have hr0 : w.heap.size < wJ.heap.size := by omega); (try have hr1 : w.heap.size + 1 < wJ.heap.size := by omega); (try have hs0 : wS.heap.size < wJ.heap.size := by omega); (try have hs1 : wG.heap.size < wJ.heap.size := by omega))))
                have rowJ : RowAt wJ gl (strV [w0, w1, w2]) := by exact (by repeat' (first | (with_reducible assumption) | (with_reducible refine RowAt.alloc ?_ _) | (with_reducible refine RowAt.drew ?_) | (with_reducible refine RowAt.other ?_ _ _ (by first | omega | (simp; done) | (simp; omega))) | refine RowAt.then ?_ (by with_reducible assumption)))
                have bkH : wJ.heap[wH.heap.size]? = some (.cells #[.int .i64 0, .slice aH nH cH] 56 (0, 0)) := (by repeat' (first | (with_reducible assumption) | (with_reducible exact blk_new _ _) | (with_reducible apply blk_set) | (with_reducible refine blk_alloc ?_ _) | (with_reducible refine blk_drew ?_) | refine blk_then ?_ (by with_reducible assumption)))
                obtain ⟨kH0, kH1⟩ := cells2 bkH
                clear bkH
                have rowJd : RowAt wJ gd (hV (dropL hostName L)) := by exact (by repeat' (first | (with_reducible assumption) | (with_reducible refine RowAt.alloc ?_ _) | (with_reducible refine RowAt.drew ?_) | (with_reducible refine RowAt.other ?_ _ _ (by first | omega | (simp; done) | (simp; omega))) | refine RowAt.then ?_ (by with_reducible assumption)))
                have q2 : wJ.cell? ⟨gl, 2, none⟩ = some (.string w2) := rowJ.cell 2 _ rfl
                have e3 : (((dropL hostName L).length : Int) != ((nH : Int) - 1)) = false := by rw [bne_eq_false_iff_eq]; omega
                have hn1 : IntKind.i64.wrap ((nH : Int) - 1) = (nH : Int) - 1 := wrapi _ (by omega) (by have := H20.out; omega)
                have hS : ∀ W, Below wJ.heap.size wJ W → W.cell? ⟨gl, 0, none⟩ = some (.string w0) ∧ W.cell? ⟨gl, 1, none⟩ = some (.string w1) := fun W hB => ⟨(rowJ.then hB).cell 0 _ rfl, (rowJ.then hB).cell 1 _ rfl⟩
                have HS := Lib.hid hS
                have RowD := Lib.hid rowJd
                have hgd : w.heap.size < gd ∧ gd < wJ.heap.size := ⟨by omega, rowJd.lt⟩
                have bkJ : wJ.heap[w.heap.size]? = some (.cells #[.int .i64 0, .string ⟨#[]⟩, .string ⟨#[]⟩, .string ⟨#[]⟩, .slice none 0 0] 29 (0, 0)) := (by repeat' (first | (with_reducible assumption) | (with_reducible exact blk_new _ _) | (with_reducible apply blk_set) | (with_reducible refine blk_alloc ?_ _) | (with_reducible refine blk_drew ?_) | refine blk_then ?_ (by with_reducible assumption)))
                have BelJ := Lib.hid (show Below w.heap.size w wJ by exact (by first | (with_reducible exact Below.refl _ _) | ((repeat' (first | (with_reducible exact Below.refl _ _) | (with_reducible assumption) | (with_reducible refine below_alloc ?_ _) | (with_reducible refine Below.drew ?_) | (with_reducible refine below_drewN ?_ _) | (with_reducible refine Below.setCell ?_ ?_ _) | refine below_then ?_ (by with_reducible assumption))) <;> (first | omega | (simp; done) | (simp; omega)))))
                have Hgd := Lib.hid hgd
                clear hS rowJ rowL rowD rowJd hownL hownD hsH rdH hgd gl1 gl2 gd1 gd2 hdv hlH c3 hv0
                go_wp2
                go_region_held3 (fun W => W.cell? ⟨gl, 0, none⟩ = some (.string w0) ∧ W.cell? ⟨gl, 1, none⟩ = some (.string w1)) (first | (exact HS.out _ (by first | (with_reducible exact Below.refl _ _) | ((repeat' (first | (with_reducible exact Below.refl _ _) | (with_reducible assumption) | (with_reducible refine below_alloc ?_ _) | (with_reducible refine Below.drew ?_) | (with_reducible refine below_drewN ?_ _) | (with_reducible refine Below.setCell ?_ ?_ _) | refine below_then ?_ (by with_reducible assumption))) <;> (first | omega | (simp; done) | (simp; omega))))) | go_keep) (fail)
                go_wp2_with (go_at_call 19; ((with_reducible refine (HFt.out _ _ _ rfl _ (RowAt.rd (RowD.out.then (by exact (by first | (with_reducible exact Below.refl _ _) | ((repeat' (first | (with_reducible exact Below.refl _ _) | (with_reducible assumption) | (with_reducible refine below_alloc ?_ _) | (with_reducible refine Below.drew ?_) | (with_reducible refine below_drewN ?_ _) | (with_reducible refine Below.setCell ?_ ?_ _) | refine below_then ?_ (by with_reducible assumption))) <;> (first | omega | (simp; done) | (simp; omega))))))) (by omega)).mono ?_); rintro e w' ⟨rfl, hb⟩; obtain ⟨hc, hf⟩ := bcell hb; have hz := hb.size; (try simp only [World.size_alloc, World.size_setCell, World.size_drew] at hz); obtain ⟨hlt, hle, hn1, hn2, hn3, hn4⟩ := bsize hb; (try simp only [World.size_alloc, World.size_setCell, World.size_drew] at hlt hle hn1 hn2 hn3 hn4); (try have hr0 : w.heap.size < w'.heap.size := by omega); (try have hr1 : w.heap.size + 1 < w'.heap.size := by omega); (try have hs0 : wS.heap.size < w'.heap.size := by omega); (try have hs1 : wG.heap.size < w'.heap.size := by omega)))
                obtain ⟨hg1, hg2⟩ := Hgd.out
                have hwz := hb.size
                simp only [World.size_setCell, World.size_alloc, World.size_drew] at hwz
                exact bodyPost_ret (res_row Tryz.results10 _ _ rfl (blk_cast (by repeat' (first | (with_reducible assumption) | (with_reducible exact blk_new _ _) | (with_reducible apply blk_set) | (with_reducible refine blk_alloc ?_ _) | (with_reducible refine blk_drew ?_) | refine blk_then ?_ (by with_reducible assumption))) (by first | (simp; done) | rfl)) Tryz.underlying29 rfl _ (by kernel_rfl) rfl) rfl ⟨_, _, _, rfl, hdR_some (by have rJ := RowD.out; exact (by repeat' (first | (with_reducible assumption) | (with_reducible refine RowAt.alloc ?_ _) | (with_reducible refine RowAt.drew ?_) | (with_reducible refine RowAt.other ?_ _ _ (by first | omega | (simp; done) | (simp; omega))) | refine RowAt.then ?_ (by with_reducible assumption)))) (by omega) (by first | omega | (simp; omega)) rfl, by have bJ := BelJ.out; exact (by first | (with_reducible exact Below.refl _ _) | ((repeat' (first | (with_reducible exact Below.refl _ _) | (with_reducible assumption) | (with_reducible refine below_alloc ?_ _) | (with_reducible refine Below.drew ?_) | (with_reducible refine below_drewN ?_ _) | (with_reducible refine Below.setCell ?_ ?_ _) | refine below_then ?_ (by with_reducible assumption))) <;> (first | omega | (simp; done) | (simp; omega))))⟩
                --END
              · have e5 : rqEnd (some (w0, v0, w1, dropL hostName L)) = (rqFault w0 v0 w1 (dropL hostName L), noRq) := if_neg hq
                rw [e5]
                have hne : (rqFault w0 v0 w1 (dropL hostName L) != 0) = true := by simpa using hq
                have HFt := Lib.hid hF
                clear e5 hq hF
                --LEAF fault
                go_enter Tryz.func10, Tryz.ntmps10
                go_upto_region 12 with (first
                  | (go_at_call 42; ((with_reducible refine (HF.out _).mono ?_); rintro e w' ⟨rfl, hb⟩; obtain ⟨hc, hf⟩ := bcell hb; have hz := hb.size; (try simp only [World.size_alloc, World.size_setCell, World.size_drew] at hz); obtain ⟨hlt, hle, hn1, hn2, hn3, hn4⟩ := bsize hb; (try simp only [World.size_alloc, World.size_setCell, World.size_drew] at hlt hle hn1 hn2 hn3 hn4); (try have hr0 : w.heap.size < w'.heap.size := by omega); (try have hr1 : w.heap.size + 1 < w'.heap.size := by omega); (try have hs0 : wS.heap.size < w'.heap.size := by omega); (try have hs1 : wG.heap.size < w'.heap.size := by omega)))
                  | (go_at_call 43; ((with_reducible refine (HR.out _).mono ?_); rintro e wH ⟨aH, nH, cH, rfl, ⟨hlH, hsH⟩, hb⟩; have rdH := hsH.rd; obtain ⟨hc, hf⟩ := bcell hb; have hz := hb.size; (try simp only [World.size_alloc, World.size_setCell, World.size_drew] at hz); obtain ⟨hlt, hle, hn1, hn2, hn3, hn4⟩ := bsize hb; (try simp only [World.size_alloc, World.size_setCell, World.size_drew] at hlt hle hn1 hn2 hn3 hn4); (try have hr0 : w.heap.size < wH.heap.size := by omega); (try have hr1 : w.heap.size + 1 < wH.heap.size := by omega); (try have hs0 : wS.heap.size < wH.heap.size := by omega); (try have hs1 : wG.heap.size < wH.heap.size := by omega)))
                  | (go_at_call 44; ((with_reducible refine (HW.out _).mono ?_); rintro e wL ⟨gl, capl, rfl, hownL, hb⟩; obtain ⟨gl1, gl2, rowL⟩ := own_at hownL; obtain ⟨hc, hf⟩ := bcell hb; have hz := hb.size; (try simp only [World.size_alloc, World.size_setCell, World.size_drew] at hz); obtain ⟨hlt, hle, hn1, hn2, hn3, hn4⟩ := bsize hb; (try simp only [World.size_alloc, World.size_setCell, World.size_drew] at hlt hle hn1 hn2 hn3 hn4); (try have hr0 : w.heap.size < wL.heap.size := by omega); (try have hr1 : w.heap.size + 1 < wL.heap.size := by omega); (try have hs0 : wS.heap.size < wL.heap.size := by omega); (try have hs1 : wG.heap.size < wL.heap.size := by omega)))
                  | (go_at_call 45; ((with_reducible refine (HD.out _ _ _ hlH _ (by first | (with_reducible assumption) | exact RowAt.rd (by repeat' (first | (with_reducible assumption) | (with_reducible refine RowAt.alloc ?_ _) | (with_reducible refine RowAt.drew ?_) | (with_reducible refine RowAt.other ?_ _ _ (by first | omega | (simp; done) | (simp; omega))) | refine RowAt.then ?_ (by with_reducible assumption))) | exact Rd.below (by with_reducible assumption) (by first | (with_reducible exact Below.refl _ _) | ((repeat' (first | (with_reducible exact Below.refl _ _) | (with_reducible assumption) | (with_reducible refine below_alloc ?_ _) | (with_reducible refine Below.drew ?_) | (with_reducible refine below_drewN ?_ _) | (with_reducible refine Below.setCell ?_ ?_ _) | refine below_then ?_ (by with_reducible assumption))) <;> (first | omega | (simp; done) | (simp; omega))))) (by have := H20.out; omega)).mono ?_); rintro e wD ⟨gd, capd, rfl, hownD, hb⟩; obtain ⟨gd1, gd2, rowD⟩ := own_at hownD; obtain ⟨hc, hf⟩ := bcell hb; have hz := hb.size; (try simp only [World.size_alloc, World.size_setCell, World.size_drew] at hz); obtain ⟨hlt, hle, hn1, hn2, hn3, hn4⟩ := bsize hb; (try simp only [World.size_alloc, World.size_setCell, World.size_drew] at hlt hle hn1 hn2 hn3 hn4); (try have hr0 : w.heap.size < wD.heap.size := by omega); (try have hr1 : w.heap.size + 1 < wD.heap.size := by omega); (try have hs0 : wS.heap.size < wD.heap.size := by omega); (try have hs1 : wG.heap.size < wD.heap.size := by omega)))
                  | (go_at_call 46; ((with_reducible refine (HJ.out _ _ _ hlH _ (by first | (with_reducible assumption) | exact RowAt.rd (by repeat' (first | (with_reducible assumption) | (with_reducible refine RowAt.alloc ?_ _) | (with_reducible refine RowAt.drew ?_) | (with_reducible refine RowAt.other ?_ _ _ (by first | omega | (simp; done) | (simp; omega))) | refine RowAt.then ?_ (by with_reducible assumption))) | exact Rd.below (by with_reducible assumption) (by first | (with_reducible exact Below.refl _ _) | ((repeat' (first | (with_reducible exact Below.refl _ _) | (with_reducible assumption) | (with_reducible refine below_alloc ?_ _) | (with_reducible refine Below.drew ?_) | (with_reducible refine below_drewN ?_ _) | (with_reducible refine Below.setCell ?_ ?_ _) | refine below_then ?_ (by with_reducible assumption))) <;> (first | omega | (simp; done) | (simp; omega))))) (by have := H20.out; omega)).mono ?_); rintro e wJ ⟨rfl, hb⟩; obtain ⟨hc, hf⟩ := bcell hb; have hz := hb.size; (try simp only [World.size_alloc, World.size_setCell, World.size_drew] at hz); obtain ⟨hlt, hle, hn1, hn2, hn3, hn4⟩ := bsize hb; (try simp only [World.size_alloc, World.size_setCell, World.size_drew] at hlt hle hn1 hn2 hn3 hn4); (try have hr0 : w.heap.size < wJ.heap.size := by omega); (try have hr1 : w.heap.size + 1 < wJ.heap.size := by omega); (try have hs0 : wS.heap.size < wJ.heap.size := by omega); (try have hs1 : wG.heap.size < wJ.heap.size := by omega))))
                have rowJ : RowAt wJ gl (strV [w0, w1, w2]) := by exact (by repeat' (first | (with_reducible assumption) | (with_reducible refine RowAt.alloc ?_ _) | (with_reducible refine RowAt.drew ?_) | (with_reducible refine RowAt.other ?_ _ _ (by first | omega | (simp; done) | (simp; omega))) | refine RowAt.then ?_ (by with_reducible assumption)))
                have bkH : wJ.heap[wH.heap.size]? = some (.cells #[.int .i64 0, .slice aH nH cH] 56 (0, 0)) := (by repeat' (first | (with_reducible assumption) | (with_reducible exact blk_new _ _) | (with_reducible apply blk_set) | (with_reducible refine blk_alloc ?_ _) | (with_reducible refine blk_drew ?_) | refine blk_then ?_ (by with_reducible assumption)))
                obtain ⟨kH0, kH1⟩ := cells2 bkH
                clear bkH
                have rowJd : RowAt wJ gd (hV (dropL hostName L)) := by exact (by repeat' (first | (with_reducible assumption) | (with_reducible refine RowAt.alloc ?_ _) | (with_reducible refine RowAt.drew ?_) | (with_reducible refine RowAt.other ?_ _ _ (by first | omega | (simp; done) | (simp; omega))) | refine RowAt.then ?_ (by with_reducible assumption)))
                have q2 : wJ.cell? ⟨gl, 2, none⟩ = some (.string w2) := rowJ.cell 2 _ rfl
                have e3 : (((dropL hostName L).length : Int) != ((nH : Int) - 1)) = false := by rw [bne_eq_false_iff_eq]; omega
                have hn1 : IntKind.i64.wrap ((nH : Int) - 1) = (nH : Int) - 1 := wrapi _ (by omega) (by have := H20.out; omega)
                have hS : ∀ W, Below wJ.heap.size wJ W → W.cell? ⟨gl, 0, none⟩ = some (.string w0) ∧ W.cell? ⟨gl, 1, none⟩ = some (.string w1) := fun W hB => ⟨(rowJ.then hB).cell 0 _ rfl, (rowJ.then hB).cell 1 _ rfl⟩
                have HS := Lib.hid hS
                have RowD := Lib.hid rowJd
                have hgd : w.heap.size < gd ∧ gd < wJ.heap.size := ⟨by omega, rowJd.lt⟩
                have bkJ : wJ.heap[w.heap.size]? = some (.cells #[.int .i64 0, .string ⟨#[]⟩, .string ⟨#[]⟩, .string ⟨#[]⟩, .slice none 0 0] 29 (0, 0)) := (by repeat' (first | (with_reducible assumption) | (with_reducible exact blk_new _ _) | (with_reducible apply blk_set) | (with_reducible refine blk_alloc ?_ _) | (with_reducible refine blk_drew ?_) | refine blk_then ?_ (by with_reducible assumption)))
                have BelJ := Lib.hid (show Below w.heap.size w wJ by exact (by first | (with_reducible exact Below.refl _ _) | ((repeat' (first | (with_reducible exact Below.refl _ _) | (with_reducible assumption) | (with_reducible refine below_alloc ?_ _) | (with_reducible refine Below.drew ?_) | (with_reducible refine below_drewN ?_ _) | (with_reducible refine Below.setCell ?_ ?_ _) | refine below_then ?_ (by with_reducible assumption))) <;> (first | omega | (simp; done) | (simp; omega)))))
                have Hgd := Lib.hid hgd
                clear hS rowJ rowL rowD rowJd hownL hownD hsH rdH hgd gl1 gl2 gd1 gd2 hdv hlH c3 hv0
                go_wp2
                go_region_held3 (fun W => W.cell? ⟨gl, 0, none⟩ = some (.string w0) ∧ W.cell? ⟨gl, 1, none⟩ = some (.string w1)) (first | (exact HS.out _ (by first | (with_reducible exact Below.refl _ _) | ((repeat' (first | (with_reducible exact Below.refl _ _) | (with_reducible assumption) | (with_reducible refine below_alloc ?_ _) | (with_reducible refine Below.drew ?_) | (with_reducible refine below_drewN ?_ _) | (with_reducible refine Below.setCell ?_ ?_ _) | refine below_then ?_ (by with_reducible assumption))) <;> (first | omega | (simp; done) | (simp; omega))))) | go_keep) (fail)
                go_wp2_with (go_at_call 19; ((with_reducible refine (HFt.out _ _ _ rfl _ (RowAt.rd (RowD.out.then (by exact (by first | (with_reducible exact Below.refl _ _) | ((repeat' (first | (with_reducible exact Below.refl _ _) | (with_reducible assumption) | (with_reducible refine below_alloc ?_ _) | (with_reducible refine Below.drew ?_) | (with_reducible refine below_drewN ?_ _) | (with_reducible refine Below.setCell ?_ ?_ _) | refine below_then ?_ (by with_reducible assumption))) <;> (first | omega | (simp; done) | (simp; omega))))))) (by omega)).mono ?_); rintro e w' ⟨rfl, hb⟩; obtain ⟨hc, hf⟩ := bcell hb; have hz := hb.size; (try simp only [World.size_alloc, World.size_setCell, World.size_drew] at hz); obtain ⟨hlt, hle, hn1, hn2, hn3, hn4⟩ := bsize hb; (try simp only [World.size_alloc, World.size_setCell, World.size_drew] at hlt hle hn1 hn2 hn3 hn4); (try have hr0 : w.heap.size < w'.heap.size := by omega); (try have hr1 : w.heap.size + 1 < w'.heap.size := by omega); (try have hs0 : wS.heap.size < w'.heap.size := by omega); (try have hs1 : wG.heap.size < w'.heap.size := by omega)))
                exact bodyPost_ret (res_row Tryz.results10 _ _ rfl (blk_cast (by repeat' (first | (with_reducible assumption) | (with_reducible exact blk_new _ _) | (with_reducible apply blk_set) | (with_reducible refine blk_alloc ?_ _) | (with_reducible refine blk_drew ?_) | refine blk_then ?_ (by with_reducible assumption))) (by first | (simp; done) | rfl)) Tryz.underlying29 rfl _ (by kernel_rfl) rfl) rfl ⟨none, 0, 0, rfl, hdR_none _ _ _, by exact (by first | (with_reducible exact Below.refl _ _) | ((repeat' (first | (with_reducible exact Below.refl _ _) | (with_reducible assumption) | (with_reducible refine below_alloc ?_ _) | (with_reducible refine Below.drew ?_) | (with_reducible refine below_drewN ?_ _) | (with_reducible refine Below.setCell ?_ ?_ _) | refine below_then ?_ (by with_reducible assumption))) <;> (first | omega | (simp; done) | (simp; omega))))⟩
                --END
            · have e : rqEnd (rqOf line L) = (5, noRq) := rqOf_bad (fun q => c3 q.2.2)
              rw [e]
              have hJ2 := HJ.out
              clear e hw
              by_cases hve : vals hostName L = []
              · rw [hve] at hJ2
                have HJ := Lib.hid hJ2
                clear hJ2 hve c3
                --LEAF nohost
                go_enter Tryz.func10, Tryz.ntmps10
                go_upto_region 12 with (first
                  | (go_at_call 42; ((with_reducible refine (HF.out _).mono ?_); rintro e w' ⟨rfl, hb⟩; obtain ⟨hc, hf⟩ := bcell hb; have hz := hb.size; (try simp only [World.size_alloc, World.size_setCell, World.size_drew] at hz); obtain ⟨hlt, hle, hn1, hn2, hn3, hn4⟩ := bsize hb; (try simp only [World.size_alloc, World.size_setCell, World.size_drew] at hlt hle hn1 hn2 hn3 hn4); (try have hr0 : w.heap.size < w'.heap.size := by omega); (try have hr1 : w.heap.size + 1 < w'.heap.size := by omega); (try have hs0 : wS.heap.size < w'.heap.size := by omega); (try have hs1 : wG.heap.size < w'.heap.size := by omega)))
                  | (go_at_call 43; ((with_reducible refine (HR.out _).mono ?_); rintro e wH ⟨aH, nH, cH, rfl, ⟨hlH, hsH⟩, hb⟩; have rdH := hsH.rd; obtain ⟨hc, hf⟩ := bcell hb; have hz := hb.size; (try simp only [World.size_alloc, World.size_setCell, World.size_drew] at hz); obtain ⟨hlt, hle, hn1, hn2, hn3, hn4⟩ := bsize hb; (try simp only [World.size_alloc, World.size_setCell, World.size_drew] at hlt hle hn1 hn2 hn3 hn4); (try have hr0 : w.heap.size < wH.heap.size := by omega); (try have hr1 : w.heap.size + 1 < wH.heap.size := by omega); (try have hs0 : wS.heap.size < wH.heap.size := by omega); (try have hs1 : wG.heap.size < wH.heap.size := by omega)))
                  | (go_at_call 44; ((with_reducible refine (HW.out _).mono ?_); rintro e wL ⟨gl, capl, rfl, hownL, hb⟩; obtain ⟨gl1, gl2, rowL⟩ := own_at hownL; obtain ⟨hc, hf⟩ := bcell hb; have hz := hb.size; (try simp only [World.size_alloc, World.size_setCell, World.size_drew] at hz); obtain ⟨hlt, hle, hn1, hn2, hn3, hn4⟩ := bsize hb; (try simp only [World.size_alloc, World.size_setCell, World.size_drew] at hlt hle hn1 hn2 hn3 hn4); (try have hr0 : w.heap.size < wL.heap.size := by omega); (try have hr1 : w.heap.size + 1 < wL.heap.size := by omega); (try have hs0 : wS.heap.size < wL.heap.size := by omega); (try have hs1 : wG.heap.size < wL.heap.size := by omega)))
                  | (go_at_call 45; ((with_reducible refine (HD.out _ _ _ hlH _ (by first | (with_reducible assumption) | exact RowAt.rd (by repeat' (first | (with_reducible assumption) | (with_reducible refine RowAt.alloc ?_ _) | (with_reducible refine RowAt.drew ?_) | (with_reducible refine RowAt.other ?_ _ _ (by first | omega | (simp; done) | (simp; omega))) | refine RowAt.then ?_ (by with_reducible assumption))) | exact Rd.below (by with_reducible assumption) (by first | (with_reducible exact Below.refl _ _) | ((repeat' (first | (with_reducible exact Below.refl _ _) | (with_reducible assumption) | (with_reducible refine below_alloc ?_ _) | (with_reducible refine Below.drew ?_) | (with_reducible refine below_drewN ?_ _) | (with_reducible refine Below.setCell ?_ ?_ _) | refine below_then ?_ (by with_reducible assumption))) <;> (first | omega | (simp; done) | (simp; omega))))) (by have := H20.out; omega)).mono ?_); rintro e wD ⟨gd, capd, rfl, hownD, hb⟩; obtain ⟨gd1, gd2, rowD⟩ := own_at hownD; obtain ⟨hc, hf⟩ := bcell hb; have hz := hb.size; (try simp only [World.size_alloc, World.size_setCell, World.size_drew] at hz); obtain ⟨hlt, hle, hn1, hn2, hn3, hn4⟩ := bsize hb; (try simp only [World.size_alloc, World.size_setCell, World.size_drew] at hlt hle hn1 hn2 hn3 hn4); (try have hr0 : w.heap.size < wD.heap.size := by omega); (try have hr1 : w.heap.size + 1 < wD.heap.size := by omega); (try have hs0 : wS.heap.size < wD.heap.size := by omega); (try have hs1 : wG.heap.size < wD.heap.size := by omega)))
                  | (go_at_call 46; ((with_reducible refine (HJ.out _ _ _ hlH _ (by first | (with_reducible assumption) | exact RowAt.rd (by repeat' (first | (with_reducible assumption) | (with_reducible refine RowAt.alloc ?_ _) | (with_reducible refine RowAt.drew ?_) | (with_reducible refine RowAt.other ?_ _ _ (by first | omega | (simp; done) | (simp; omega))) | refine RowAt.then ?_ (by with_reducible assumption))) | exact Rd.below (by with_reducible assumption) (by first | (with_reducible exact Below.refl _ _) | ((repeat' (first | (with_reducible exact Below.refl _ _) | (with_reducible assumption) | (with_reducible refine below_alloc ?_ _) | (with_reducible refine Below.drew ?_) | (with_reducible refine below_drewN ?_ _) | (with_reducible refine Below.setCell ?_ ?_ _) | refine below_then ?_ (by with_reducible assumption))) <;> (first | omega | (simp; done) | (simp; omega))))) (by have := H20.out; omega)).mono ?_); rintro e wJ ⟨rfl, hb⟩; obtain ⟨hc, hf⟩ := bcell hb; have hz := hb.size; (try simp only [World.size_alloc, World.size_setCell, World.size_drew] at hz); obtain ⟨hlt, hle, hn1, hn2, hn3, hn4⟩ := bsize hb; (try simp only [World.size_alloc, World.size_setCell, World.size_drew] at hlt hle hn1 hn2 hn3 hn4); (try have hr0 : w.heap.size < wJ.heap.size := by omega); (try have hr1 : w.heap.size + 1 < wJ.heap.size := by omega); (try have hs0 : wS.heap.size < wJ.heap.size := by omega); (try have hs1 : wG.heap.size < wJ.heap.size := by omega))))
                have rowJ : RowAt wJ gl (strV [w0, w1, w2]) := by exact (by repeat' (first | (with_reducible assumption) | (with_reducible refine RowAt.alloc ?_ _) | (with_reducible refine RowAt.drew ?_) | (with_reducible refine RowAt.other ?_ _ _ (by first | omega | (simp; done) | (simp; omega))) | refine RowAt.then ?_ (by with_reducible assumption)))
                have q2 : wJ.cell? ⟨gl, 2, none⟩ = some (.string w2) := rowJ.cell 2 _ rfl
                clear rowJ rowL rowD hownL hownD hsH rdH gl1 gl2 gd1 gd2
                go_wp2
                exact bodyPost_ret (res_row Tryz.results10 _ _ rfl (blk_cast (by repeat' (first | (with_reducible assumption) | (with_reducible exact blk_new _ _) | (with_reducible apply blk_set) | (with_reducible refine blk_alloc ?_ _) | (with_reducible refine blk_drew ?_) | refine blk_then ?_ (by with_reducible assumption))) (by first | (simp; done) | rfl)) Tryz.underlying29 rfl _ (by kernel_rfl) rfl) rfl ⟨none, 0, 0, rfl, hdR_none _ _ _, by exact (by first | (with_reducible exact Below.refl _ _) | ((repeat' (first | (with_reducible exact Below.refl _ _) | (with_reducible assumption) | (with_reducible refine below_alloc ?_ _) | (with_reducible refine Below.drew ?_) | (with_reducible refine below_drewN ?_ _) | (with_reducible refine Below.setCell ?_ ?_ _) | refine below_then ?_ (by with_reducible assumption))) <;> (first | omega | (simp; done) | (simp; omega))))⟩
                --END
              · have hve2 : (!(vals hostName L).isEmpty) = true := by simpa using hve
                rw [hve2] at hJ2
                have HJ := Lib.hid hJ2
                clear hJ2 hve hve2
                --LEAF hosts
                go_enter Tryz.func10, Tryz.ntmps10
                go_upto_region 12 with (first
                  | (go_at_call 42; ((with_reducible refine (HF.out _).mono ?_); rintro e w' ⟨rfl, hb⟩; obtain ⟨hc, hf⟩ := bcell hb; have hz := hb.size; (try simp only [World.size_alloc, World.size_setCell, World.size_drew] at hz); obtain ⟨hlt, hle, hn1, hn2, hn3, hn4⟩ := bsize hb; (try simp only [World.size_alloc, World.size_setCell, World.size_drew] at hlt hle hn1 hn2 hn3 hn4); (try have hr0 : w.heap.size < w'.heap.size := by omega); (try have hr1 : w.heap.size + 1 < w'.heap.size := by omega); (try have hs0 : wS.heap.size < w'.heap.size := by omega); (try have hs1 : wG.heap.size < w'.heap.size := by omega)))
                  | (go_at_call 43; ((with_reducible refine (HR.out _).mono ?_); rintro e wH ⟨aH, nH, cH, rfl, ⟨hlH, hsH⟩, hb⟩; have rdH := hsH.rd; obtain ⟨hc, hf⟩ := bcell hb; have hz := hb.size; (try simp only [World.size_alloc, World.size_setCell, World.size_drew] at hz); obtain ⟨hlt, hle, hn1, hn2, hn3, hn4⟩ := bsize hb; (try simp only [World.size_alloc, World.size_setCell, World.size_drew] at hlt hle hn1 hn2 hn3 hn4); (try have hr0 : w.heap.size < wH.heap.size := by omega); (try have hr1 : w.heap.size + 1 < wH.heap.size := by omega); (try have hs0 : wS.heap.size < wH.heap.size := by omega); (try have hs1 : wG.heap.size < wH.heap.size := by omega)))
                  | (go_at_call 44; ((with_reducible refine (HW.out _).mono ?_); rintro e wL ⟨gl, capl, rfl, hownL, hb⟩; obtain ⟨gl1, gl2, rowL⟩ := own_at hownL; obtain ⟨hc, hf⟩ := bcell hb; have hz := hb.size; (try simp only [World.size_alloc, World.size_setCell, World.size_drew] at hz); obtain ⟨hlt, hle, hn1, hn2, hn3, hn4⟩ := bsize hb; (try simp only [World.size_alloc, World.size_setCell, World.size_drew] at hlt hle hn1 hn2 hn3 hn4); (try have hr0 : w.heap.size < wL.heap.size := by omega); (try have hr1 : w.heap.size + 1 < wL.heap.size := by omega); (try have hs0 : wS.heap.size < wL.heap.size := by omega); (try have hs1 : wG.heap.size < wL.heap.size := by omega)))
                  | (go_at_call 45; ((with_reducible refine (HD.out _ _ _ hlH _ (by first | (with_reducible assumption) | exact RowAt.rd (by repeat' (first | (with_reducible assumption) | (with_reducible refine RowAt.alloc ?_ _) | (with_reducible refine RowAt.drew ?_) | (with_reducible refine RowAt.other ?_ _ _ (by first | omega | (simp; done) | (simp; omega))) | refine RowAt.then ?_ (by with_reducible assumption))) | exact Rd.below (by with_reducible assumption) (by first | (with_reducible exact Below.refl _ _) | ((repeat' (first | (with_reducible exact Below.refl _ _) | (with_reducible assumption) | (with_reducible refine below_alloc ?_ _) | (with_reducible refine Below.drew ?_) | (with_reducible refine below_drewN ?_ _) | (with_reducible refine Below.setCell ?_ ?_ _) | refine below_then ?_ (by with_reducible assumption))) <;> (first | omega | (simp; done) | (simp; omega))))) (by have := H20.out; omega)).mono ?_); rintro e wD ⟨gd, capd, rfl, hownD, hb⟩; obtain ⟨gd1, gd2, rowD⟩ := own_at hownD; obtain ⟨hc, hf⟩ := bcell hb; have hz := hb.size; (try simp only [World.size_alloc, World.size_setCell, World.size_drew] at hz); obtain ⟨hlt, hle, hn1, hn2, hn3, hn4⟩ := bsize hb; (try simp only [World.size_alloc, World.size_setCell, World.size_drew] at hlt hle hn1 hn2 hn3 hn4); (try have hr0 : w.heap.size < wD.heap.size := by omega); (try have hr1 : w.heap.size + 1 < wD.heap.size := by omega); (try have hs0 : wS.heap.size < wD.heap.size := by omega); (try have hs1 : wG.heap.size < wD.heap.size := by omega)))
                  | (go_at_call 46; ((with_reducible refine (HJ.out _ _ _ hlH _ (by first | (with_reducible assumption) | exact RowAt.rd (by repeat' (first | (with_reducible assumption) | (with_reducible refine RowAt.alloc ?_ _) | (with_reducible refine RowAt.drew ?_) | (with_reducible refine RowAt.other ?_ _ _ (by first | omega | (simp; done) | (simp; omega))) | refine RowAt.then ?_ (by with_reducible assumption))) | exact Rd.below (by with_reducible assumption) (by first | (with_reducible exact Below.refl _ _) | ((repeat' (first | (with_reducible exact Below.refl _ _) | (with_reducible assumption) | (with_reducible refine below_alloc ?_ _) | (with_reducible refine Below.drew ?_) | (with_reducible refine below_drewN ?_ _) | (with_reducible refine Below.setCell ?_ ?_ _) | refine below_then ?_ (by with_reducible assumption))) <;> (first | omega | (simp; done) | (simp; omega))))) (by have := H20.out; omega)).mono ?_); rintro e wJ ⟨rfl, hb⟩; obtain ⟨hc, hf⟩ := bcell hb; have hz := hb.size; (try simp only [World.size_alloc, World.size_setCell, World.size_drew] at hz); obtain ⟨hlt, hle, hn1, hn2, hn3, hn4⟩ := bsize hb; (try simp only [World.size_alloc, World.size_setCell, World.size_drew] at hlt hle hn1 hn2 hn3 hn4); (try have hr0 : w.heap.size < wJ.heap.size := by omega); (try have hr1 : w.heap.size + 1 < wJ.heap.size := by omega); (try have hs0 : wS.heap.size < wJ.heap.size := by omega); (try have hs1 : wG.heap.size < wJ.heap.size := by omega))))
                have rowJ : RowAt wJ gl (strV [w0, w1, w2]) := by exact (by repeat' (first | (with_reducible assumption) | (with_reducible refine RowAt.alloc ?_ _) | (with_reducible refine RowAt.drew ?_) | (with_reducible refine RowAt.other ?_ _ _ (by first | omega | (simp; done) | (simp; omega))) | refine RowAt.then ?_ (by with_reducible assumption)))
                have q2 : wJ.cell? ⟨gl, 2, none⟩ = some (.string w2) := rowJ.cell 2 _ rfl
                have bkH : wJ.heap[wH.heap.size]? = some (.cells #[.int .i64 0, .slice aH nH cH] 56 (0, 0)) := (by repeat' (first | (with_reducible assumption) | (with_reducible exact blk_new _ _) | (with_reducible apply blk_set) | (with_reducible refine blk_alloc ?_ _) | (with_reducible refine blk_drew ?_) | refine blk_then ?_ (by with_reducible assumption)))
                obtain ⟨kH0, kH1⟩ := cells2 bkH
                clear bkH
                have e3 : (((dropL hostName L).length : Int) != ((nH : Int) - 1)) = true := by rw [bne_iff_ne]; omega
                have hn1 : IntKind.i64.wrap ((nH : Int) - 1) = (nH : Int) - 1 := wrapi _ (by omega) (by have := H20.out; omega)
                clear rowJ rowL rowD hownL hownD hsH rdH gl1 gl2 gd1 gd2 c3 hdv hlH
                go_wp2
                exact bodyPost_ret (res_row Tryz.results10 _ _ rfl (blk_cast (by repeat' (first | (with_reducible assumption) | (with_reducible exact blk_new _ _) | (with_reducible apply blk_set) | (with_reducible refine blk_alloc ?_ _) | (with_reducible refine blk_drew ?_) | refine blk_then ?_ (by with_reducible assumption))) (by first | (simp; done) | rfl)) Tryz.underlying29 rfl _ (by kernel_rfl) rfl) rfl ⟨none, 0, 0, rfl, hdR_none _ _ _, by exact (by first | (with_reducible exact Below.refl _ _) | ((repeat' (first | (with_reducible exact Below.refl _ _) | (with_reducible assumption) | (with_reducible refine below_alloc ?_ _) | (with_reducible refine Below.drew ?_) | (with_reducible refine below_drewN ?_ _) | (with_reducible refine Below.setCell ?_ ?_ _) | refine below_then ?_ (by with_reducible assumption))) <;> (first | omega | (simp; done) | (simp; omega))))⟩
                --END
          · have e : rqEnd (rqOf line L) = (5, noRq) := rqOf_bad (fun q => c2 (by
              have h2 := q.2.1
              rw [(split_words line).2, hw] at h2
              simpa using h2))
            have e2 : (w2.toList == [72, 84, 84, 80, 47, 49, 46, 49]) = false := by rw [eq_str]; exact decide_eq_false c2
            rw [e]
            clear e hw
            --LEAF nohttp
            go_enter Tryz.func10, Tryz.ntmps10
            go_upto_region 12 with (first
              | (go_at_call 42; ((with_reducible refine (HF.out _).mono ?_); rintro e w' ⟨rfl, hb⟩; obtain ⟨hc, hf⟩ := bcell hb; have hz := hb.size; (try simp only [World.size_alloc, World.size_setCell, World.size_drew] at hz); obtain ⟨hlt, hle, hn1, hn2, hn3, hn4⟩ := bsize hb; (try simp only [World.size_alloc, World.size_setCell, World.size_drew] at hlt hle hn1 hn2 hn3 hn4); (try have hr0 : w.heap.size < w'.heap.size := by omega); (try have hr1 : w.heap.size + 1 < w'.heap.size := by omega); (try have hs0 : wS.heap.size < w'.heap.size := by omega); (try have hs1 : wG.heap.size < w'.heap.size := by omega)))
              | (go_at_call 43; ((with_reducible refine (HR.out _).mono ?_); rintro e wH ⟨aH, nH, cH, rfl, ⟨hlH, hsH⟩, hb⟩; have rdH := hsH.rd; obtain ⟨hc, hf⟩ := bcell hb; have hz := hb.size; (try simp only [World.size_alloc, World.size_setCell, World.size_drew] at hz); obtain ⟨hlt, hle, hn1, hn2, hn3, hn4⟩ := bsize hb; (try simp only [World.size_alloc, World.size_setCell, World.size_drew] at hlt hle hn1 hn2 hn3 hn4); (try have hr0 : w.heap.size < wH.heap.size := by omega); (try have hr1 : w.heap.size + 1 < wH.heap.size := by omega); (try have hs0 : wS.heap.size < wH.heap.size := by omega); (try have hs1 : wG.heap.size < wH.heap.size := by omega)))
              | (go_at_call 44; ((with_reducible refine (HW.out _).mono ?_); rintro e wL ⟨gl, capl, rfl, hownL, hb⟩; obtain ⟨gl1, gl2, rowL⟩ := own_at hownL; obtain ⟨hc, hf⟩ := bcell hb; have hz := hb.size; (try simp only [World.size_alloc, World.size_setCell, World.size_drew] at hz); obtain ⟨hlt, hle, hn1, hn2, hn3, hn4⟩ := bsize hb; (try simp only [World.size_alloc, World.size_setCell, World.size_drew] at hlt hle hn1 hn2 hn3 hn4); (try have hr0 : w.heap.size < wL.heap.size := by omega); (try have hr1 : w.heap.size + 1 < wL.heap.size := by omega); (try have hs0 : wS.heap.size < wL.heap.size := by omega); (try have hs1 : wG.heap.size < wL.heap.size := by omega)))
              | (go_at_call 45; ((with_reducible refine (HD.out _ _ _ hlH _ (by first | (with_reducible assumption) | exact RowAt.rd (by repeat' (first | (with_reducible assumption) | (with_reducible refine RowAt.alloc ?_ _) | (with_reducible refine RowAt.drew ?_) | (with_reducible refine RowAt.other ?_ _ _ (by first | omega | (simp; done) | (simp; omega))) | refine RowAt.then ?_ (by with_reducible assumption))) | exact Rd.below (by with_reducible assumption) (by first | (with_reducible exact Below.refl _ _) | ((repeat' (first | (with_reducible exact Below.refl _ _) | (with_reducible assumption) | (with_reducible refine below_alloc ?_ _) | (with_reducible refine Below.drew ?_) | (with_reducible refine below_drewN ?_ _) | (with_reducible refine Below.setCell ?_ ?_ _) | refine below_then ?_ (by with_reducible assumption))) <;> (first | omega | (simp; done) | (simp; omega))))) (by have := H20.out; omega)).mono ?_); rintro e wD ⟨gd, capd, rfl, hownD, hb⟩; obtain ⟨gd1, gd2, rowD⟩ := own_at hownD; obtain ⟨hc, hf⟩ := bcell hb; have hz := hb.size; (try simp only [World.size_alloc, World.size_setCell, World.size_drew] at hz); obtain ⟨hlt, hle, hn1, hn2, hn3, hn4⟩ := bsize hb; (try simp only [World.size_alloc, World.size_setCell, World.size_drew] at hlt hle hn1 hn2 hn3 hn4); (try have hr0 : w.heap.size < wD.heap.size := by omega); (try have hr1 : w.heap.size + 1 < wD.heap.size := by omega); (try have hs0 : wS.heap.size < wD.heap.size := by omega); (try have hs1 : wG.heap.size < wD.heap.size := by omega)))
              | (go_at_call 46; ((with_reducible refine (HJ.out _ _ _ hlH _ (by first | (with_reducible assumption) | exact RowAt.rd (by repeat' (first | (with_reducible assumption) | (with_reducible refine RowAt.alloc ?_ _) | (with_reducible refine RowAt.drew ?_) | (with_reducible refine RowAt.other ?_ _ _ (by first | omega | (simp; done) | (simp; omega))) | refine RowAt.then ?_ (by with_reducible assumption))) | exact Rd.below (by with_reducible assumption) (by first | (with_reducible exact Below.refl _ _) | ((repeat' (first | (with_reducible exact Below.refl _ _) | (with_reducible assumption) | (with_reducible refine below_alloc ?_ _) | (with_reducible refine Below.drew ?_) | (with_reducible refine below_drewN ?_ _) | (with_reducible refine Below.setCell ?_ ?_ _) | refine below_then ?_ (by with_reducible assumption))) <;> (first | omega | (simp; done) | (simp; omega))))) (by have := H20.out; omega)).mono ?_); rintro e wJ ⟨rfl, hb⟩; obtain ⟨hc, hf⟩ := bcell hb; have hz := hb.size; (try simp only [World.size_alloc, World.size_setCell, World.size_drew] at hz); obtain ⟨hlt, hle, hn1, hn2, hn3, hn4⟩ := bsize hb; (try simp only [World.size_alloc, World.size_setCell, World.size_drew] at hlt hle hn1 hn2 hn3 hn4); (try have hr0 : w.heap.size < wJ.heap.size := by omega); (try have hr1 : w.heap.size + 1 < wJ.heap.size := by omega); (try have hs0 : wS.heap.size < wJ.heap.size := by omega); (try have hs1 : wG.heap.size < wJ.heap.size := by omega))))
            have rowJ : RowAt wJ gl (strV [w0, w1, w2]) := by exact (by repeat' (first | (with_reducible assumption) | (with_reducible refine RowAt.alloc ?_ _) | (with_reducible refine RowAt.drew ?_) | (with_reducible refine RowAt.other ?_ _ _ (by first | omega | (simp; done) | (simp; omega))) | refine RowAt.then ?_ (by with_reducible assumption)))
            have q2 : wJ.cell? ⟨gl, 2, none⟩ = some (.string w2) := rowJ.cell 2 _ rfl
            clear rowJ rowL rowD hownL hownD hsH rdH gl1 gl2 gd1 gd2
            go_wp2
            all_goals exact bodyPost_ret (res_row Tryz.results10 _ _ rfl (blk_cast (by repeat' (first | (with_reducible assumption) | (with_reducible exact blk_new _ _) | (with_reducible apply blk_set) | (with_reducible refine blk_alloc ?_ _) | (with_reducible refine blk_drew ?_) | refine blk_then ?_ (by with_reducible assumption))) (by first | (simp; done) | rfl)) Tryz.underlying29 rfl _ (by kernel_rfl) rfl) rfl ⟨none, 0, 0, rfl, hdR_none _ _ _, by exact (by first | (with_reducible exact Below.refl _ _) | ((repeat' (first | (with_reducible exact Below.refl _ _) | (with_reducible assumption) | (with_reducible refine below_alloc ?_ _) | (with_reducible refine Below.drew ?_) | (with_reducible refine below_drewN ?_ _) | (with_reducible refine Below.setCell ?_ ?_ _) | refine below_then ?_ (by with_reducible assumption))) <;> (first | omega | (simp; done) | (simp; omega))))⟩
            --END
        · have e : rqEnd (rqOf line L) = (5, noRq) := rqOf_bad (fun q => c1 (by rw [← (split_words line).1]; exact q.1))
          have e1 : (((cutB 32 (ba line)).length : Int) == 3) = false := by rw [beq_eq_false_iff_ne]; omega
          rw [e]
          clear e c1 hwm
          --LEAF words
          go_enter Tryz.func10, Tryz.ntmps10
          go_wp2_with (first
            | (go_at_call 42; ((with_reducible refine (HF.out _).mono ?_); rintro e w' ⟨rfl, hb⟩; obtain ⟨hc, hf⟩ := bcell hb; have hz := hb.size; (try simp only [World.size_alloc, World.size_setCell, World.size_drew] at hz); obtain ⟨hlt, hle, hn1, hn2, hn3, hn4⟩ := bsize hb; (try simp only [World.size_alloc, World.size_setCell, World.size_drew] at hlt hle hn1 hn2 hn3 hn4); (try have hr0 : w.heap.size < w'.heap.size := by omega); (try have hr1 : w.heap.size + 1 < w'.heap.size := by omega); (try have hs0 : wS.heap.size < w'.heap.size := by omega); (try have hs1 : wG.heap.size < w'.heap.size := by omega)))
            | (go_at_call 43; ((with_reducible refine (HR.out _).mono ?_); rintro e wH ⟨aH, nH, cH, rfl, ⟨hlH, hsH⟩, hb⟩; have rdH := hsH.rd; obtain ⟨hc, hf⟩ := bcell hb; have hz := hb.size; (try simp only [World.size_alloc, World.size_setCell, World.size_drew] at hz); obtain ⟨hlt, hle, hn1, hn2, hn3, hn4⟩ := bsize hb; (try simp only [World.size_alloc, World.size_setCell, World.size_drew] at hlt hle hn1 hn2 hn3 hn4); (try have hr0 : w.heap.size < wH.heap.size := by omega); (try have hr1 : w.heap.size + 1 < wH.heap.size := by omega); (try have hs0 : wS.heap.size < wH.heap.size := by omega); (try have hs1 : wG.heap.size < wH.heap.size := by omega)))
            | (go_at_call 44; ((with_reducible refine (HW.out _).mono ?_); rintro e wL ⟨gl, capl, rfl, hownL, hb⟩; obtain ⟨gl1, gl2, rowL⟩ := own_at hownL; obtain ⟨hc, hf⟩ := bcell hb; have hz := hb.size; (try simp only [World.size_alloc, World.size_setCell, World.size_drew] at hz); obtain ⟨hlt, hle, hn1, hn2, hn3, hn4⟩ := bsize hb; (try simp only [World.size_alloc, World.size_setCell, World.size_drew] at hlt hle hn1 hn2 hn3 hn4); (try have hr0 : w.heap.size < wL.heap.size := by omega); (try have hr1 : w.heap.size + 1 < wL.heap.size := by omega); (try have hs0 : wS.heap.size < wL.heap.size := by omega); (try have hs1 : wG.heap.size < wL.heap.size := by omega)))
            | (go_at_call 45; ((with_reducible refine (HD.out _ _ _ hlH _ (by first | (with_reducible assumption) | exact RowAt.rd (by repeat' (first | (with_reducible assumption) | (with_reducible refine RowAt.alloc ?_ _) | (with_reducible refine RowAt.drew ?_) | (with_reducible refine RowAt.other ?_ _ _ (by first | omega | (simp; done) | (simp; omega))) | refine RowAt.then ?_ (by with_reducible assumption))) | exact Rd.below (by with_reducible assumption) (by first | (with_reducible exact Below.refl _ _) | ((repeat' (first | (with_reducible exact Below.refl _ _) | (with_reducible assumption) | (with_reducible refine below_alloc ?_ _) | (with_reducible refine Below.drew ?_) | (with_reducible refine below_drewN ?_ _) | (with_reducible refine Below.setCell ?_ ?_ _) | refine below_then ?_ (by with_reducible assumption))) <;> (first | omega | (simp; done) | (simp; omega))))) (by have := H20.out; omega)).mono ?_); rintro e wD ⟨gd, capd, rfl, hownD, hb⟩; obtain ⟨gd1, gd2, rowD⟩ := own_at hownD; obtain ⟨hc, hf⟩ := bcell hb; have hz := hb.size; (try simp only [World.size_alloc, World.size_setCell, World.size_drew] at hz); obtain ⟨hlt, hle, hn1, hn2, hn3, hn4⟩ := bsize hb; (try simp only [World.size_alloc, World.size_setCell, World.size_drew] at hlt hle hn1 hn2 hn3 hn4); (try have hr0 : w.heap.size < wD.heap.size := by omega); (try have hr1 : w.heap.size + 1 < wD.heap.size := by omega); (try have hs0 : wS.heap.size < wD.heap.size := by omega); (try have hs1 : wG.heap.size < wD.heap.size := by omega)))
            | (go_at_call 46; ((with_reducible refine (HJ.out _ _ _ hlH _ (by first | (with_reducible assumption) | exact RowAt.rd (by repeat' (first | (with_reducible assumption) | (with_reducible refine RowAt.alloc ?_ _) | (with_reducible refine RowAt.drew ?_) | (with_reducible refine RowAt.other ?_ _ _ (by first | omega | (simp; done) | (simp; omega))) | refine RowAt.then ?_ (by with_reducible assumption))) | exact Rd.below (by with_reducible assumption) (by first | (with_reducible exact Below.refl _ _) | ((repeat' (first | (with_reducible exact Below.refl _ _) | (with_reducible assumption) | (with_reducible refine below_alloc ?_ _) | (with_reducible refine Below.drew ?_) | (with_reducible refine below_drewN ?_ _) | (with_reducible refine Below.setCell ?_ ?_ _) | refine below_then ?_ (by with_reducible assumption))) <;> (first | omega | (simp; done) | (simp; omega))))) (by have := H20.out; omega)).mono ?_); rintro e wJ ⟨rfl, hb⟩; obtain ⟨hc, hf⟩ := bcell hb; have hz := hb.size; (try simp only [World.size_alloc, World.size_setCell, World.size_drew] at hz); obtain ⟨hlt, hle, hn1, hn2, hn3, hn4⟩ := bsize hb; (try simp only [World.size_alloc, World.size_setCell, World.size_drew] at hlt hle hn1 hn2 hn3 hn4); (try have hr0 : w.heap.size < wJ.heap.size := by omega); (try have hr1 : w.heap.size + 1 < wJ.heap.size := by omega); (try have hs0 : wS.heap.size < wJ.heap.size := by omega); (try have hs1 : wG.heap.size < wJ.heap.size := by omega))))
          exact bodyPost_ret (res_row Tryz.results10 _ _ rfl (blk_cast (by repeat' (first | (with_reducible assumption) | (with_reducible exact blk_new _ _) | (with_reducible apply blk_set) | (with_reducible refine blk_alloc ?_ _) | (with_reducible refine blk_drew ?_) | refine blk_then ?_ (by with_reducible assumption))) (by first | (simp; done) | rfl)) Tryz.underlying29 rfl _ (by kernel_rfl) rfl) rfl ⟨none, 0, 0, rfl, hdR_none _ _ _, by exact (by first | (with_reducible exact Below.refl _ _) | ((repeat' (first | (with_reducible exact Below.refl _ _) | (with_reducible assumption) | (with_reducible refine below_alloc ?_ _) | (with_reducible refine Below.drew ?_) | (with_reducible refine below_drewN ?_ _) | (with_reducible refine Below.setCell ?_ ?_ _) | refine below_then ?_ (by with_reducible assumption))) <;> (first | omega | (simp; done) | (simp; omega))))⟩
          --END
      · rw [rqMid_code hz]
        have hne : ((readR (ba hd)).1 != 0) = true := by simpa using hz
        have HR := Lib.hid hR
        clear hR hz
        show Calls _ _ _ w fun e w' => ∃ (a' : Option Addr) (n' c' : Nat), e = .returned (.agg #[.int .i64 (((readR (ba hd)).1, noRq)).1, .string (((readR (ba hd)).1, noRq)).2.1, .string (((readR (ba hd)).1, noRq)).2.2.1, .string (((readR (ba hd)).1, noRq)).2.2.2.1, .slice a' n' c']) ∧ ((((readR (ba hd)).1, noRq)).2.2.2.2.length = n' ∧ SlAt w' w.heap.size w'.heap.size a' n' (hV (((readR (ba hd)).1, noRq)).2.2.2.2)) ∧ Below w.heap.size w w'
        generalize (readR (ba hd)).1 = cd at *
        generalize (readR (ba hd)).2 = Ld at *
        --LEAF code
        go_enter Tryz.func10, Tryz.ntmps10
        go_wp2_with (first
          | (go_at_call 42; ((with_reducible refine (HF.out _).mono ?_); rintro e w' ⟨rfl, hb⟩; obtain ⟨hc, hf⟩ := bcell hb; have hz := hb.size; (try simp only [World.size_alloc, World.size_setCell, World.size_drew] at hz); obtain ⟨hlt, hle, hn1, hn2, hn3, hn4⟩ := bsize hb; (try simp only [World.size_alloc, World.size_setCell, World.size_drew] at hlt hle hn1 hn2 hn3 hn4); (try have hr0 : w.heap.size < w'.heap.size := by omega); (try have hr1 : w.heap.size + 1 < w'.heap.size := by omega); (try have hs0 : wS.heap.size < w'.heap.size := by omega); (try have hs1 : wG.heap.size < w'.heap.size := by omega)))
          | (go_at_call 43; ((with_reducible refine (HR.out _).mono ?_); rintro e wH ⟨aH, nH, cH, rfl, ⟨hlH, hsH⟩, hb⟩; obtain ⟨hc, hf⟩ := bcell hb; have hz := hb.size; (try simp only [World.size_alloc, World.size_setCell, World.size_drew] at hz); obtain ⟨hlt, hle, hn1, hn2, hn3, hn4⟩ := bsize hb; (try simp only [World.size_alloc, World.size_setCell, World.size_drew] at hlt hle hn1 hn2 hn3 hn4); (try have hr0 : w.heap.size < wH.heap.size := by omega); (try have hr1 : w.heap.size + 1 < wH.heap.size := by omega); (try have hs0 : wS.heap.size < wH.heap.size := by omega); (try have hs1 : wG.heap.size < wH.heap.size := by omega))))
        exact bodyPost_ret (res_row Tryz.results10 _ _ rfl (blk_cast (by repeat' (first | (with_reducible assumption) | (with_reducible exact blk_new _ _) | (with_reducible apply blk_set) | (with_reducible refine blk_alloc ?_ _) | (with_reducible refine blk_drew ?_) | refine blk_then ?_ (by with_reducible assumption))) (by first | (simp; done) | rfl)) Tryz.underlying29 rfl _ (by kernel_rfl) rfl) rfl ⟨none, 0, 0, rfl, hdR_none _ _ _, by exact (by first | (with_reducible exact Below.refl _ _) | ((repeat' (first | (with_reducible exact Below.refl _ _) | (with_reducible assumption) | (with_reducible refine below_alloc ?_ _) | (with_reducible refine Below.drew ?_) | (with_reducible refine below_drewN ?_ _) | (with_reducible refine Below.setCell ?_ ?_ _) | refine below_then ?_ (by with_reducible assumption))) <;> (first | omega | (simp; done) | (simp; omega))))⟩
        --END
end Go.Proofs.YtbiodbggaeglpaaGreatDoor
