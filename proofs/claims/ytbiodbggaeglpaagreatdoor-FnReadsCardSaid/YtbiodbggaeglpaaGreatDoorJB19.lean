/- Joined: RspI. -/
import Derived.Test.YtbiodbggaeglpaaGreatDoorJB9
import Derived.Test.YtbiodbggaeglpaaGreatDoorJB16
/- The response that bytes tell: the program's own text. -/
namespace Go.Proofs.YtbiodbggaeglpaaGreatDoor
open Go.RowKit
set_option linter.unusedSimpArgs false
set_option linter.unusedVariables false

theorem fieldR1 (x y : Int) (w : World) : (Instr.field 68 (.agg #[.int .i64 x, .int .i64 y]) 1).run Tryz.prog w = .ok (.int .i64 y) w := by kernel_rfl
set_option maxRecDepth 100000 in
set_option maxHeartbeats 6400000 in
theorem impl_ReadResponse (a : Option Addr) (n c : Nat) (lb : List UInt8) (hlb : lb.length = n) (w : World) (hr : Rd w a (bV lb)) (hn : n ≤ 9223372036854775807) (hm : MaxL w) :
    Calls Tryz.prog 9 #[.slice a n c] w (RpR w (rspR lb)) := by
  by_cases h8 : 10000 < n
  · have E := Lib.hid (show rspR lb = (2, noRs) from rspR_many (by omega))
    clear hr hlb
    --LEAF many
    go_enter Tryz.func9, Tryz.ntmps9
    go_wp2
    exact bodyPost_ret (res_row Tryz.results9 _ _ rfl (blk_cast (by repeat' (first | (with_reducible assumption) | (with_reducible exact blk_new _ _) | (with_reducible apply blk_set) | (with_reducible refine blk_alloc ?_ _) | (with_reducible refine blk_drew ?_) | refine blk_then ?_ (by with_reducible assumption))) (by first | (simp; done) | rfl)) Tryz.underlying34 rfl _ (by kernel_rfl) rfl) rfl (RpR.none E.out (by exact (by first | (with_reducible exact Below.refl _ _) | ((repeat' (first | (with_reducible exact Below.refl _ _) | (with_reducible assumption) | (with_reducible refine below_alloc ?_ _) | (with_reducible refine Below.drew ?_) | (with_reducible refine below_drewN ?_ _) | (with_reducible refine Below.setCell ?_ ?_ _) | refine below_then ?_ (by with_reducible assumption))) <;> (first | omega | (simp; done) | (simp; omega))))))
    --END
  · have hC := fun W hm => strings_Cut (ba lb) ⟨#[13, 10, 13, 10]⟩ (by rw [ba_size]; omega) W hm
    rw [ba_list] at hC
    have hcv0 : (convert 22 9 (.slice a n c)).run Tryz.prog (w.alloc (.cells #[.int .i64 0, .int .i64 0, .slice none 0 0, .slice none 0 0] 34)) = .ok (.string (ba lb)) (w.alloc (.cells #[.int .i64 0, .int .i64 0, .slice none 0 0, .slice none 0 0] 34)) := conv_rd _ a n c lb hlb (hr.alloc (.cells #[.int .i64 0, .int .i64 0, .slice none 0 0, .slice none 0 0] 34))
    have hnl : ¬ 10000 < lb.length := by omega
    have hcl := cut_len lb (crlf ++ crlf)
    obtain ⟨head, body, b, hcc⟩ : ∃ head body b, Lib.cut lb (crlf ++ crlf) = (head, body, b) := ⟨_, _, _, rfl⟩
    have hC1 : ∀ W, MaxL W → Calls Tryz.prog 29 #[.string (ba lb), .string ⟨#[13, 10, 13, 10]⟩] W fun e w' => e = .returned (.tuple #[.string (ba head), .string (ba body), .bool b]) ∧ Below (W).heap.size W w' := fun W hm => by
      have := hC W hm
      rw [show (⟨#[13, 10, 13, 10]⟩ : ByteArray).data.toList = crlf ++ crlf from rfl, hcc] at this
      exact this
    have HC1 := Lib.hid hC1
    rw [hcc] at hcl
    simp only at hcl
    clear hC hC1 hr
    cases b with
    | false =>
      have E := Lib.hid (show rspR lb = (5, noRs) from rspR_none hnl (by rw [hcc]))
      clear hcc hcl hlb
      --LEAF nocut
      go_enter Tryz.func9, Tryz.ntmps9
      go_wp2_with (go_at_call 29; ((with_reducible refine (HC1.out _ (MaxL.then hm (by exact (by first | (with_reducible exact Below.refl _ _) | ((repeat' (first | (with_reducible exact Below.refl _ _) | (with_reducible assumption) | (with_reducible refine below_alloc ?_ _) | (with_reducible refine Below.drew ?_) | (with_reducible refine below_drewN ?_ _) | (with_reducible refine Below.setCell ?_ ?_ _) | refine below_then ?_ (by with_reducible assumption))) <;> (first | omega | (simp; done) | (simp; omega))))))).mono ?_); rintro e w' ⟨rfl, hb⟩; obtain ⟨hc, hf⟩ := bcell hb; have hz := hb.size; (try simp only [World.size_alloc, World.size_setCell, World.size_drew] at hz); obtain ⟨hlt, hle, hn1, hn2, hn3, hn4⟩ := bsize hb; (try simp only [World.size_alloc, World.size_setCell, World.size_drew] at hlt hle hn1 hn2 hn3 hn4); (try have hr0 : w.heap.size < w'.heap.size := by omega); (try have hr1 : w.heap.size + 1 < w'.heap.size := by omega); (try have hs0 : wS.heap.size < w'.heap.size := by omega); (try have hs1 : wG.heap.size < w'.heap.size := by omega)))
      exact bodyPost_ret (res_row Tryz.results9 _ _ rfl (blk_cast (by repeat' (first | (with_reducible assumption) | (with_reducible exact blk_new _ _) | (with_reducible apply blk_set) | (with_reducible refine blk_alloc ?_ _) | (with_reducible refine blk_drew ?_) | refine blk_then ?_ (by with_reducible assumption))) (by first | (simp; done) | rfl)) Tryz.underlying34 rfl _ (by kernel_rfl) rfl) rfl (RpR.none E.out (by exact (by first | (with_reducible exact Below.refl _ _) | ((repeat' (first | (with_reducible exact Below.refl _ _) | (with_reducible assumption) | (with_reducible refine below_alloc ?_ _) | (with_reducible refine Below.drew ?_) | (with_reducible refine below_drewN ?_ _) | (with_reducible refine Below.setCell ?_ ?_ _) | refine below_then ?_ (by with_reducible assumption))) <;> (first | omega | (simp; done) | (simp; omega))))))
      --END
    | true =>
      have ER := rspR_some hnl hcc
      obtain ⟨hcl1, hcl2⟩ := hcl
      have hhs : (ba head ++ ⟨#[13, 10]⟩ : ByteArray).data.toList = head ++ crlf := by rw [ByteArray.data_append, Array.toList_append, ba_list]
      have hhz : (ba head ++ ⟨#[13, 10]⟩ : ByteArray).size = head.length + 2 := by rw [ByteArray.size_append, ba_size]; rfl
      have hC := fun W hm => strings_Cut (ba head ++ ⟨#[13, 10]⟩) ⟨#[13, 10]⟩ (by rw [hhz]; omega) W hm
      rw [hhs] at hC
      have hcl3 := cut_len (head ++ crlf) crlf
      obtain ⟨line, rest, b2, hcc2⟩ : ∃ line rest b2, Lib.cut (head ++ crlf) crlf = (line, rest, b2) := ⟨_, _, _, rfl⟩
      have hC2 : ∀ W, MaxL W → Calls Tryz.prog 29 #[.string (ba head ++ ⟨#[13, 10]⟩), .string ⟨#[13, 10]⟩] W fun e w' => e = .returned (.tuple #[.string (ba line), .string (ba rest), .bool b2]) ∧ Below (W).heap.size W w' := fun W hm => by
        have := hC W hm
        rw [show (⟨#[13, 10]⟩ : ByteArray).data.toList = crlf from rfl, hcc2] at this
        exact this
      rw [hcc2] at hcl3 ER
      simp only [List.length_append] at hcl3
      simp only at ER
      rw [show crlf.length = 2 from rfl] at hcl3
      have HC2 := Lib.hid hC2
      have f1 : (9223372036854775807 < (ba head).size + 2) = False := eq_false (by rw [ba_size]; omega)
      have hR := fun W hm => impl_ReadHeaders (ba rest) (by rw [ba_size]; omega) W hm
      clear hC hC2 hcc hcc2 hhs hhz
      by_cases hz0 : (readR (ba rest)).1 = 0
      · have hL := readR_ok hz0
        have E1 : rspR lb = if lineOK line = true then rsEnd (deltaTo (ba (line.drop 9)) 3, (readR (ba rest)).2, body) else (5, noRs) := by rw [ER, rsMid, if_pos hz0]
        rw [hz0] at hR
        generalize (readR (ba rest)).2 = L at *
        obtain ⟨s1, s2⟩ := hds_small hL
        have H20 := Lib.hid s1
        have HR := Lib.hid hR
        rw [lineOK_pre] at E1
        clear hR hL ER
        have hlnz : (ba line).size ≤ 20000 := by rw [ba_size]; omega
        have hP0 := fun W => Tryz.strings_CutPrefix (ba line) ⟨#[72, 84, 84, 80, 47, 49, 46, 49, 32]⟩ W
        have hPe : Lib.hasPrefix (ba line).data.toList (⟨#[72, 84, 84, 80, 47, 49, 46, 49, 32]⟩ : ByteArray).data.toList = Lib.hasPrefix line http11b := by rw [ba_list]
        have hPt : Lib.trimPrefix (ba line).data.toList (⟨#[72, 84, 84, 80, 47, 49, 46, 49, 32]⟩ : ByteArray).data.toList = Lib.trimPrefix line http11b := by rw [ba_list]
        rw [hPe, hPt] at hP0
        have htz : (Lib.trimPrefix line http11b).length ≤ line.length := by
          unfold Lib.trimPrefix
          split
          · rw [List.length_drop]; omega
          · exact Nat.le_refl _
        have ht9 : Lib.hasPrefix line http11b = true → Lib.trimPrefix line http11b = line.drop 9 := fun h => by unfold Lib.trimPrefix; rw [if_pos h]; rfl
        generalize Lib.hasPrefix line http11b = is at *
        generalize htd : Lib.trimPrefix line http11b = tp at *
        have hA0 := fun W => areBytes_digit (ba tp) 3 3 W (by rw [ba_size]; omega)
        have hok : (inB (ba tp).size 3 3 && allB digitB (ba tp)) = true → deltaOk (ba tp) = true ∧ tp.length = 3 := fun h => by
          rw [Bool.and_eq_true] at h
          obtain ⟨g1, g2⟩ := inB_iff.1 h.1
          have h3 : tp.length = 3 := by rw [ba_size] at g1 g2; omega
          refine ⟨?_, h3⟩
          rw [← deltaOk_of, h.2, Bool.and_true]
          exact inB_iff.2 ⟨by omega, by omega⟩
        generalize (inB (ba tp).size 3 3 && allB digitB (ba tp)) = ok at *
        have hP : ∀ W, Calls Tryz.prog 38 #[.string (ba line), .string ⟨#[72, 84, 84, 80, 47, 49, 46, 49, 32]⟩] W fun e w' => e = .returned (.tuple #[.string (ba tp), .bool is]) ∧ w' = W := hP0
        have HP := Lib.hid hP
        have HA := Lib.hid (fun W => (hA0 W).mono fun e w' h => (⟨h.1, h.2.symm⟩ : _ ∧ w' = W))
        clear hP hP0 hPe hPt hA0 htd
        cases is with
        | false =>
          have E := Lib.hid (show rspR lb = (5, noRs) by rw [E1]; simp)
          clear E1 hok ht9
          --LEAF noprefix
          go_enter Tryz.func9, Tryz.ntmps9
          go_wp2_with (first | (go_at_call 29; ((with_reducible refine (HC2.out _ (MaxL.then hm (by exact (by first | (with_reducible exact Below.refl _ _) | ((repeat' (first | (with_reducible exact Below.refl _ _) | (with_reducible assumption) | (with_reducible refine below_alloc ?_ _) | (with_reducible refine Below.drew ?_) | (with_reducible refine below_drewN ?_ _) | (with_reducible refine Below.setCell ?_ ?_ _) | refine below_then ?_ (by with_reducible assumption))) <;> (first | omega | (simp; done) | (simp; omega))))))).mono ?_); rintro e w' ⟨rfl, hb⟩; obtain ⟨hc, hf⟩ := bcell hb; have hz := hb.size; (try simp only [World.size_alloc, World.size_setCell, World.size_drew] at hz); obtain ⟨hlt, hle, hn1, hn2, hn3, hn4⟩ := bsize hb; (try simp only [World.size_alloc, World.size_setCell, World.size_drew] at hlt hle hn1 hn2 hn3 hn4); (try have hr0 : w.heap.size < w'.heap.size := by omega); (try have hr1 : w.heap.size + 1 < w'.heap.size := by omega); (try have hs0 : wS.heap.size < w'.heap.size := by omega); (try have hs1 : wG.heap.size < w'.heap.size := by omega))) | (go_at_call 29; ((with_reducible refine (HC1.out _ (MaxL.then hm (by exact (by first | (with_reducible exact Below.refl _ _) | ((repeat' (first | (with_reducible exact Below.refl _ _) | (with_reducible assumption) | (with_reducible refine below_alloc ?_ _) | (with_reducible refine Below.drew ?_) | (with_reducible refine below_drewN ?_ _) | (with_reducible refine Below.setCell ?_ ?_ _) | refine below_then ?_ (by with_reducible assumption))) <;> (first | omega | (simp; done) | (simp; omega))))))).mono ?_); rintro e w' ⟨rfl, hb⟩; obtain ⟨hc, hf⟩ := bcell hb; have hz := hb.size; (try simp only [World.size_alloc, World.size_setCell, World.size_drew] at hz); obtain ⟨hlt, hle, hn1, hn2, hn3, hn4⟩ := bsize hb; (try simp only [World.size_alloc, World.size_setCell, World.size_drew] at hlt hle hn1 hn2 hn3 hn4); (try have hr0 : w.heap.size < w'.heap.size := by omega); (try have hr1 : w.heap.size + 1 < w'.heap.size := by omega); (try have hs0 : wS.heap.size < w'.heap.size := by omega); (try have hs1 : wG.heap.size < w'.heap.size := by omega))) | (go_at_call 31; ((with_reducible refine (HR.out _ (MaxL.then hm (by exact (by first | (with_reducible exact Below.refl _ _) | ((repeat' (first | (with_reducible exact Below.refl _ _) | (with_reducible assumption) | (with_reducible refine below_alloc ?_ _) | (with_reducible refine Below.drew ?_) | (with_reducible refine below_drewN ?_ _) | (with_reducible refine Below.setCell ?_ ?_ _) | refine below_then ?_ (by with_reducible assumption))) <;> (first | omega | (simp; done) | (simp; omega))))))).mono ?_); rintro e' wH ⟨aH, nH, cH, rfl, ⟨hlH, hsH⟩, hb⟩; obtain ⟨hc, hf⟩ := bcell hb; have hz := hb.size; (try simp only [World.size_alloc, World.size_setCell, World.size_drew] at hz); obtain ⟨hlt, hle, hn1, hn2, hn3, hn4⟩ := bsize hb; (try simp only [World.size_alloc, World.size_setCell, World.size_drew] at hlt hle hn1 hn2 hn3 hn4); (try have hr0 : w.heap.size < wH.heap.size := by omega); (try have hr1 : w.heap.size + 1 < wH.heap.size := by omega); (try have hs0 : wS.heap.size < wH.heap.size := by omega); (try have hs1 : wG.heap.size < wH.heap.size := by omega))) | (go_at_call 38; ((with_reducible refine (HP.out _).mono ?_); rintro e' w' ⟨rfl, rfl⟩)))
          exact bodyPost_ret (res_row Tryz.results9 _ _ rfl (blk_cast (by repeat' (first | (with_reducible assumption) | (with_reducible exact blk_new _ _) | (with_reducible apply blk_set) | (with_reducible refine blk_alloc ?_ _) | (with_reducible refine blk_drew ?_) | refine blk_then ?_ (by with_reducible assumption))) (by first | (simp; done) | rfl)) Tryz.underlying34 rfl _ (by kernel_rfl) rfl) rfl (RpR.none E.out (by exact (by first | (with_reducible exact Below.refl _ _) | ((repeat' (first | (with_reducible exact Below.refl _ _) | (with_reducible assumption) | (with_reducible refine below_alloc ?_ _) | (with_reducible refine Below.drew ?_) | (with_reducible refine below_drewN ?_ _) | (with_reducible refine Below.setCell ?_ ?_ _) | refine below_then ?_ (by with_reducible assumption))) <;> (first | omega | (simp; done) | (simp; omega))))))
          --END
        | true =>
          cases ok with
          | false =>
            have E := Lib.hid (show rspR lb = (5, noRs) by rw [E1]; simp)
            clear E1 hok ht9
            --LEAF nodigits
            go_enter Tryz.func9, Tryz.ntmps9
            go_wp2_with (first | (go_at_call 29; ((with_reducible refine (HC2.out _ (MaxL.then hm (by exact (by first | (with_reducible exact Below.refl _ _) | ((repeat' (first | (with_reducible exact Below.refl _ _) | (with_reducible assumption) | (with_reducible refine below_alloc ?_ _) | (with_reducible refine Below.drew ?_) | (with_reducible refine below_drewN ?_ _) | (with_reducible refine Below.setCell ?_ ?_ _) | refine below_then ?_ (by with_reducible assumption))) <;> (first | omega | (simp; done) | (simp; omega))))))).mono ?_); rintro e w' ⟨rfl, hb⟩; obtain ⟨hc, hf⟩ := bcell hb; have hz := hb.size; (try simp only [World.size_alloc, World.size_setCell, World.size_drew] at hz); obtain ⟨hlt, hle, hn1, hn2, hn3, hn4⟩ := bsize hb; (try simp only [World.size_alloc, World.size_setCell, World.size_drew] at hlt hle hn1 hn2 hn3 hn4); (try have hr0 : w.heap.size < w'.heap.size := by omega); (try have hr1 : w.heap.size + 1 < w'.heap.size := by omega); (try have hs0 : wS.heap.size < w'.heap.size := by omega); (try have hs1 : wG.heap.size < w'.heap.size := by omega))) | (go_at_call 29; ((with_reducible refine (HC1.out _ (MaxL.then hm (by exact (by first | (with_reducible exact Below.refl _ _) | ((repeat' (first | (with_reducible exact Below.refl _ _) | (with_reducible assumption) | (with_reducible refine below_alloc ?_ _) | (with_reducible refine Below.drew ?_) | (with_reducible refine below_drewN ?_ _) | (with_reducible refine Below.setCell ?_ ?_ _) | refine below_then ?_ (by with_reducible assumption))) <;> (first | omega | (simp; done) | (simp; omega))))))).mono ?_); rintro e w' ⟨rfl, hb⟩; obtain ⟨hc, hf⟩ := bcell hb; have hz := hb.size; (try simp only [World.size_alloc, World.size_setCell, World.size_drew] at hz); obtain ⟨hlt, hle, hn1, hn2, hn3, hn4⟩ := bsize hb; (try simp only [World.size_alloc, World.size_setCell, World.size_drew] at hlt hle hn1 hn2 hn3 hn4); (try have hr0 : w.heap.size < w'.heap.size := by omega); (try have hr1 : w.heap.size + 1 < w'.heap.size := by omega); (try have hs0 : wS.heap.size < w'.heap.size := by omega); (try have hs1 : wG.heap.size < w'.heap.size := by omega))) | (go_at_call 31; ((with_reducible refine (HR.out _ (MaxL.then hm (by exact (by first | (with_reducible exact Below.refl _ _) | ((repeat' (first | (with_reducible exact Below.refl _ _) | (with_reducible assumption) | (with_reducible refine below_alloc ?_ _) | (with_reducible refine Below.drew ?_) | (with_reducible refine below_drewN ?_ _) | (with_reducible refine Below.setCell ?_ ?_ _) | refine below_then ?_ (by with_reducible assumption))) <;> (first | omega | (simp; done) | (simp; omega))))))).mono ?_); rintro e' wH ⟨aH, nH, cH, rfl, ⟨hlH, hsH⟩, hb⟩; obtain ⟨hc, hf⟩ := bcell hb; have hz := hb.size; (try simp only [World.size_alloc, World.size_setCell, World.size_drew] at hz); obtain ⟨hlt, hle, hn1, hn2, hn3, hn4⟩ := bsize hb; (try simp only [World.size_alloc, World.size_setCell, World.size_drew] at hlt hle hn1 hn2 hn3 hn4); (try have hr0 : w.heap.size < wH.heap.size := by omega); (try have hr1 : w.heap.size + 1 < wH.heap.size := by omega); (try have hs0 : wS.heap.size < wH.heap.size := by omega); (try have hs1 : wG.heap.size < wH.heap.size := by omega))) | (go_at_call 38; ((with_reducible refine (HP.out _).mono ?_); rintro e' w' ⟨rfl, rfl⟩)) | (go_at_call 39; ((with_reducible refine (HA.out _).mono ?_); rintro e' w' ⟨rfl, rfl⟩)))
            exact bodyPost_ret (res_row Tryz.results9 _ _ rfl (blk_cast (by repeat' (first | (with_reducible assumption) | (with_reducible exact blk_new _ _) | (with_reducible apply blk_set) | (with_reducible refine blk_alloc ?_ _) | (with_reducible refine blk_drew ?_) | refine blk_then ?_ (by with_reducible assumption))) (by first | (simp; done) | rfl)) Tryz.underlying34 rfl _ (by kernel_rfl) rfl) rfl (RpR.none E.out (by exact (by first | (with_reducible exact Below.refl _ _) | ((repeat' (first | (with_reducible exact Below.refl _ _) | (with_reducible assumption) | (with_reducible refine below_alloc ?_ _) | (with_reducible refine Below.drew ?_) | (with_reducible refine below_drewN ?_ _) | (with_reducible refine Below.setCell ?_ ?_ _) | refine below_then ?_ (by with_reducible assumption))) <;> (first | omega | (simp; done) | (simp; omega))))))
            --END
          | true =>
            obtain ⟨hdk, h3⟩ := hok rfl
            have htp := ht9 rfl
            have E2 : rspR lb = rsEnd (deltaTo (ba tp) 3, L, body) := by rw [E1, htp]; simp
            have hD0 := fun W => impl_DeltaOf (ba tp) W (by rw [ba_size]; omega)
            have hdr : deltaR (ba tp) = (0, deltaTo (ba tp) 3) := by unfold deltaR; rw [if_pos hdk, ba_size, h3]
            rw [hdr] at hD0
            simp only at hD0
            have hdb := (deltaOk_bd hdk)
            rw [ba_size, h3] at hdb
            obtain ⟨hdb1, hdb2⟩ := hdb
            generalize deltaTo (ba tp) 3 = st at *
            clear hok ht9 E1 hdr hdk htp htz
            generalize ba tp = dg at *
            have HD := Lib.hid hD0
            clear hD0 h3
            have hsF := fun a n' c (hl : L.length = n') ab cb W hr hn hnb => impl_ResponseFault st a n' c L hl ab body.length cb W hr hn hnb (fun h hh => by have := s2 h hh; omega)
            have hbl : body.length ≤ 10000 := by omega
            by_cases hq : rspFault st L body.length = 0
            · have E := Lib.hid (show rspR lb = (0, st, L, body) by rw [E2, rsEnd, if_pos hq])
              rw [hq] at hsF
              have HFt := Lib.hid hsF
              clear hq hsF E2
              --LEAF good
              go_enter Tryz.func9, Tryz.ntmps9
              go_upto_region 13 with (first | (go_at_call 29; ((with_reducible refine (HC2.out _ (MaxL.then hm (by exact (by first | (with_reducible exact Below.refl _ _) | ((repeat' (first | (with_reducible exact Below.refl _ _) | (with_reducible assumption) | (with_reducible refine below_alloc ?_ _) | (with_reducible refine Below.drew ?_) | (with_reducible refine below_drewN ?_ _) | (with_reducible refine Below.setCell ?_ ?_ _) | refine below_then ?_ (by with_reducible assumption))) <;> (first | omega | (simp; done) | (simp; omega))))))).mono ?_); rintro e w' ⟨rfl, hb⟩; obtain ⟨hc, hf⟩ := bcell hb; have hz := hb.size; (try simp only [World.size_alloc, World.size_setCell, World.size_drew] at hz); obtain ⟨hlt, hle, hn1, hn2, hn3, hn4⟩ := bsize hb; (try simp only [World.size_alloc, World.size_setCell, World.size_drew] at hlt hle hn1 hn2 hn3 hn4); (try have hr0 : w.heap.size < w'.heap.size := by omega); (try have hr1 : w.heap.size + 1 < w'.heap.size := by omega); (try have hs0 : wS.heap.size < w'.heap.size := by omega); (try have hs1 : wG.heap.size < w'.heap.size := by omega))) | (go_at_call 29; ((with_reducible refine (HC1.out _ (MaxL.then hm (by exact (by first | (with_reducible exact Below.refl _ _) | ((repeat' (first | (with_reducible exact Below.refl _ _) | (with_reducible assumption) | (with_reducible refine below_alloc ?_ _) | (with_reducible refine Below.drew ?_) | (with_reducible refine below_drewN ?_ _) | (with_reducible refine Below.setCell ?_ ?_ _) | refine below_then ?_ (by with_reducible assumption))) <;> (first | omega | (simp; done) | (simp; omega))))))).mono ?_); rintro e w' ⟨rfl, hb⟩; obtain ⟨hc, hf⟩ := bcell hb; have hz := hb.size; (try simp only [World.size_alloc, World.size_setCell, World.size_drew] at hz); obtain ⟨hlt, hle, hn1, hn2, hn3, hn4⟩ := bsize hb; (try simp only [World.size_alloc, World.size_setCell, World.size_drew] at hlt hle hn1 hn2 hn3 hn4); (try have hr0 : w.heap.size < w'.heap.size := by omega); (try have hr1 : w.heap.size + 1 < w'.heap.size := by omega); (try have hs0 : wS.heap.size < w'.heap.size := by omega); (try have hs1 : wG.heap.size < w'.heap.size := by omega))) | (go_at_call 31; ((with_reducible refine (HR.out _ (MaxL.then hm (by exact (by first | (with_reducible exact Below.refl _ _) | ((repeat' (first | (with_reducible exact Below.refl _ _) | (with_reducible assumption) | (with_reducible refine below_alloc ?_ _) | (with_reducible refine Below.drew ?_) | (with_reducible refine below_drewN ?_ _) | (with_reducible refine Below.setCell ?_ ?_ _) | refine below_then ?_ (by with_reducible assumption))) <;> (first | omega | (simp; done) | (simp; omega))))))).mono ?_); rintro e' wH ⟨aH, nH, cH, rfl, ⟨hlH, hsH⟩, hb⟩; obtain ⟨hc, hf⟩ := bcell hb; have hz := hb.size; (try simp only [World.size_alloc, World.size_setCell, World.size_drew] at hz); obtain ⟨hlt, hle, hn1, hn2, hn3, hn4⟩ := bsize hb; (try simp only [World.size_alloc, World.size_setCell, World.size_drew] at hlt hle hn1 hn2 hn3 hn4); (try have hr0 : w.heap.size < wH.heap.size := by omega); (try have hr1 : w.heap.size + 1 < wH.heap.size := by omega); (try have hs0 : wS.heap.size < wH.heap.size := by omega); (try have hs1 : wG.heap.size < wH.heap.size := by omega))) | (go_at_call 38; ((with_reducible refine (HP.out _).mono ?_); rintro e' w' ⟨rfl, rfl⟩)) | (go_at_call 39; ((with_reducible refine (HA.out _).mono ?_); rintro e' w' ⟨rfl, rfl⟩)))
              have bkH : (wH.alloc (.cells #[.int .i64 0, .slice aH nH cH] 56)).heap[wH.heap.size]? = some (.cells #[.int .i64 0, .slice aH nH cH] 56 (0, 0)) := blk_new _ _
              have bkR : (wH.alloc (.cells #[.int .i64 0, .slice aH nH cH] 56)).heap[w.heap.size]? = some (.cells #[.int .i64 0, .int .i64 0, .slice none 0 0, .slice none 0 0] 34 (0, 0)) := (by repeat' (first | (with_reducible assumption) | (with_reducible exact blk_new _ _) | (with_reducible apply blk_set) | (with_reducible refine blk_alloc ?_ _) | (with_reducible refine blk_drew ?_) | refine blk_then ?_ (by with_reducible assumption)))
              have slV : SlAt (wH.alloc (.cells #[.int .i64 0, .slice aH nH cH] 56)) (w.heap.size + 1) wH.heap.size aH nH (hV L) := (hsH.mono (by omega) (Nat.le_refl _)).alloc _
              have rdV := slV.rd
              have belV : Below w.heap.size w (wH.alloc (.cells #[.int .i64 0, .slice aH nH cH] 56)) := by exact (by first | (with_reducible exact Below.refl _ _) | ((repeat' (first | (with_reducible exact Below.refl _ _) | (with_reducible assumption) | (with_reducible refine below_alloc ?_ _) | (with_reducible refine Below.drew ?_) | (with_reducible refine below_drewN ?_ _) | (with_reducible refine Below.setCell ?_ ?_ _) | refine below_then ?_ (by with_reducible assumption))) <;> (first | omega | (simp; done) | (simp; omega))))
              have hbH : w.heap.size < wH.heap.size := by omega
              have hvz : wH.heap.size < (wH.alloc (.cells #[.int .i64 0, .slice aH nH cH] 56)).heap.size := by simp
              clear hsH hb hc hf hz
              generalize (wH.alloc (.cells #[.int .i64 0, .slice aH nH cH] 56)) = V at *
              generalize wH.heap.size = bH at *
              have hk : ∀ W, Below V.heap.size V W → W.cell? ⟨bH, 0, none⟩ = some (.int .i64 0) ∧ W.cell? ⟨bH, 1, none⟩ = some (.slice aH nH cH) := fun W hB => cells2 (blk_then bkH hB)
              refine wp_region_last (fun W => Below V.heap.size V W) (fun _ w w' => Below w.heap.size w w') (rrF [.string dg, .agg #[.int .i64 0, .int .i64 st], .int .i64 st, .pointer (some ⟨bH, 1, none⟩), .slice aH nH cH, .string (ba body)] 6 7 8 st (.slice aH nH cH) body.length body V.heap.size) 9 rfl (by kernel_rfl) (by kernel_rfl) (by kernel_rfl) (Below.refl _ _).drew (fun _ _ _ h1 h2 => below_then h1 h2) (fun _ _ _ _ _ _ _ h1 h2 => rrF_keep _ _ _ _ h2 h1) ?_ rfl ?_
              · repeat' (refine And.intro ?_ ?_)
                · intro ρ W hI hbase hdep
                  have b10 : ρ (.tmp 10) = .string dg := hbase (.tmp 10) (base_tmpL (by kernel_rfl))
                  simp only [execOp, b10]
                  go_simp
                  exact ⟨Below.refl _ _, rfl⟩
                · intro ρ W hI hbase hdep
                  have hc : ∀ v, ρ (.const v) = v := fun v => hbase _ (fun _ _ _ _ _ _ e => by cases e)
                  have hfn : ∀ f, ρ (.func f) = .func (.func f) #[] #[] := fun v => hbase _ (fun _ _ _ _ _ _ e => by cases e)
                  have p0 : ρ (.tmp 56) = .string dg := (Option.some.inj (hdep ⟨0, .data⟩ (by simp) rfl _ 56 rfl rfl : some (.string dg) = some (ρ (.tmp 56)))).symm
                  simp only [execOp, hc, hfn, p0]
                  go_simp
                  exact ⟨rfl, (HD.out W).mono fun e w' h => ⟨_, h.1, h.2, rfl⟩⟩
                · intro ρ W hI hbase hdep
                  have p1 : ρ (.tmp 57) = .agg #[.int .i64 0, .int .i64 st] := (Option.some.inj (hdep ⟨1, .data⟩ (by simp) rfl _ 57 rfl rfl : some (.agg #[.int .i64 0, .int .i64 st]) = some (ρ (.tmp 57)))).symm
                  simp only [execOp, p1]
                  exact good_val (fieldR1 _ _ _) ⟨Below.refl _ _, rfl⟩
                · intro ρ W hI hbase hdep
                  have b9 : ρ (.tmp 9) = .pointer (some ⟨bH, 0, none⟩) := hbase (.tmp 9) (base_tmpL (by kernel_rfl))
                  simp only [execOp, b9]
                  go_simp
                  exact ⟨Below.refl _ _, rfl⟩
                · intro ρ W hI hbase hdep
                  have p3 : ρ (.tmp 59) = .pointer (some ⟨bH, 1, none⟩) := (Option.some.inj (hdep ⟨3, .data⟩ (by simp) rfl _ 59 rfl rfl : some (.pointer (some ⟨bH, 1, none⟩)) = some (ρ (.tmp 59)))).symm
                  obtain ⟨k0, k1⟩ := hk W hI
                  simp only [execOp, p3]
                  go_simp
                  exact ⟨Below.refl _ _, rfl⟩
                · intro ρ W hI hbase hdep
                  have b4 : ρ (.tmp 4) = .string (ba body) := hbase (.tmp 4) (base_tmpL (by kernel_rfl))
                  simp only [execOp, b4]
                  go_simp
                  exact ⟨Below.refl _ _, rfl⟩
                · intro ρ W hI hbase hdep
                  have p5 : ρ (.tmp 61) = .string (ba body) := (Option.some.inj (hdep ⟨5, .data⟩ (by simp) rfl _ 61 rfl rfl : some (.string (ba body)) = some (ρ (.tmp 61)))).symm
                  simp only [execOp, p5]
                  obtain ⟨g, cap, W', e1, e2, e3, e4⟩ := bw_good (ba body) W V.heap.size hI.size
                  rw [ba_list] at e3
                  rw [ba_size] at e1
                  exact good_val e1 ⟨e4, g, cap, rfl, e2, e3⟩
                · intro ρ W hI hbase hdep
                  have p2 : ρ (.tmp 58) = .int .i64 st := (Option.some.inj (hdep ⟨2, .data⟩ (by simp) rfl _ 58 rfl rfl : some (.int .i64 st) = some (ρ (.tmp 58)))).symm
                  have p4 : ρ (.tmp 60) = .slice aH nH cH := (Option.some.inj (hdep ⟨4, .data⟩ (by simp) rfl _ 60 rfl rfl : some (.slice aH nH cH) = some (ρ (.tmp 60)))).symm
                  obtain ⟨g, cap, p6, hsp⟩ : ∃ g cap, ρ (.tmp 62) = .slice (some ⟨g, 0, none⟩) body.length cap ∧ V.heap.size ≤ g ∧ RowAt W g (bV body) := hdep ⟨6, .data⟩ (by simp) rfl _ 62 rfl rfl
                  simp only [execOp, p2, p4, p6]
                  go_simp
                  exact ⟨Below.refl _ _, g, cap, rfl, hsp⟩
                · intro ρ W hI hbase hdep
                  simp only [execOp]
                  go_simp
                  exact ⟨below_alloc (Below.refl _ _) _, _, rfl, hI.size, blk_new _ _⟩
                · trivial
              · intro a' W hI ha hdf hall hrest
                have e0 : a'.tmps.getD 56 undef = .string dg := (Option.some.inj (hall 0 _ 56 (by decide) rfl rfl : some (.string dg) = some (a'.tmps.getD 56 undef))).symm
                have e1 : a'.tmps.getD 57 undef = .agg #[.int .i64 0, .int .i64 st] := (Option.some.inj (hall 1 _ 57 (by decide) rfl rfl : some (.agg #[.int .i64 0, .int .i64 st]) = some (a'.tmps.getD 57 undef))).symm
                have e2 : a'.tmps.getD 58 undef = .int .i64 st := (Option.some.inj (hall 2 _ 58 (by decide) rfl rfl : some (.int .i64 st) = some (a'.tmps.getD 58 undef))).symm
                have e3 : a'.tmps.getD 59 undef = .pointer (some ⟨bH, 1, none⟩) := (Option.some.inj (hall 3 _ 59 (by decide) rfl rfl : some (.pointer (some ⟨bH, 1, none⟩)) = some (a'.tmps.getD 59 undef))).symm
                have e4 : a'.tmps.getD 60 undef = .slice aH nH cH := (Option.some.inj (hall 4 _ 60 (by decide) rfl rfl : some (.slice aH nH cH) = some (a'.tmps.getD 60 undef))).symm
                have e5 : a'.tmps.getD 61 undef = .string (ba body) := (Option.some.inj (hall 5 _ 61 (by decide) rfl rfl : some (.string (ba body)) = some (a'.tmps.getD 61 undef))).symm
                obtain ⟨g6, c6, e6, _, _⟩ : ∃ g cap, a'.tmps.getD 62 undef = .slice (some ⟨g, 0, none⟩) body.length cap ∧ V.heap.size ≤ g ∧ RowAt W g (bV body) := hall 6 _ 62 (by decide) rfl rfl
                obtain ⟨gB, capB, e7, hgB, rowB⟩ : ∃ g cap, a'.tmps.getD 63 undef = .agg #[.int .i64 st, .slice aH nH cH, .slice (some ⟨g, 0, none⟩) body.length cap] ∧ V.heap.size ≤ g ∧ RowAt W g (bV body) := hall 7 _ 63 (by decide) rfl rfl
                obtain ⟨G, e8, hG, bkG⟩ : ∃ G, a'.tmps.getD 12 undef = .pointer (some ⟨G, 0, none⟩) ∧ V.heap.size ≤ G ∧ W.heap[G]? = some (.cells #[.int .i64 0, .slice none 0 0, .slice none 0 0] 32 (0, 0)) := hall 8 _ 12 (by decide) rfl rfl
                have ea := after_last [(56, _), (57, _), (58, _), (59, _), (60, _), (61, _), (62, _), (63, _), (12, _)] ha hdf hrest (by kernel_rfl) (by simp only [List.forall_mem_cons]; exact ⟨e0, e1, e2, e3, e4, e5, e6, e7, e8, fun _ h => by cases h⟩)
                subst ea
                simp only [List.foldl_cons, List.foldl_nil, List.setIfInBounds_toArray, List.set_cons_zero, List.set_cons_succ]
                have belW := below_then belV hI
                have bkRW := blk_then bkR hI
                obtain ⟨x0, x1, x2, x3⟩ := cells4 bkRW
                obtain ⟨y0, y1, y2⟩ := cells3 bkG
                have hfz := fzr bkRW
                have hfG := fzr bkG
                have hWz := hI.size
                have hGW : G < W.heap.size := (Array.getElem?_eq_some_iff.1 bkG).1
                have hgW := rowB.lt
                have hwW : w.heap.size < W.heap.size := by omega
                have hwG : w.heap.size < G := by omega
                have rowC := row_store3 rowB bkG (.int .i64 st) (.slice aH nH cH) (.slice (some ⟨gB, 0, none⟩) body.length capB)
                have BkRW := Lib.hid bkRW
                have RowC := Lib.hid rowC
                have BelW := Lib.hid belW
                have RdV := Lib.hid rdV
                have SlV := Lib.hid slV
                have BkG := Lib.hid bkG
                clear e0 e1 e2 e3 e4 e5 e6 e7 e8 hall hrest ha hdf rowC belW hk bkR bkH rdV belV bkRW bkG rowB slV
                go_wp2_with (go_at_call 16; ((with_reducible refine (HFt.out _ _ _ hlH _ _ _ (RdV.out.below (by exact (by first | (with_reducible exact Below.refl _ _) | ((repeat' (first | (with_reducible exact Below.refl _ _) | (with_reducible assumption) | (with_reducible refine below_alloc ?_ _) | (with_reducible refine Below.drew ?_) | (with_reducible refine below_drewN ?_ _) | (with_reducible refine Below.setCell ?_ ?_ _) | refine below_then ?_ (by with_reducible assumption))) <;> (first | omega | (simp; done) | (simp; omega)))))) (by have := H20.out; omega) (by omega)).mono ?_); rintro e w' ⟨rfl, hb⟩; have hbF := hb; have bkF : w'.heap[w.heap.size]? = some (.cells #[.int .i64 0, .int .i64 0, .slice none 0 0, .slice none 0 0] 34 (0, 0)) := (by have pp := BkRW.out; exact (by repeat' (first | (with_reducible assumption) | (with_reducible exact blk_new _ _) | (with_reducible apply blk_set) | (with_reducible refine blk_new' _ _ _ (by first | omega | (simp only [World.size_alloc]; first | done | omega))) | (with_reducible refine blk_other ?_ _ _ _ (by omega)) | (with_reducible refine blk_drew ?_) | (with_reducible refine blk_alloc ?_ _) | refine blk_then ?_ (by with_reducible assumption)))); obtain ⟨v0', v1', v2', v3'⟩ := cells4 bkF; have fzF := fzr bkF; obtain ⟨hc, hf⟩ := bcell hb; have hz := hb.size; (try simp only [World.size_alloc, World.size_setCell, World.size_drew] at hz); obtain ⟨hlt, hle, hn1, hn2, hn3, hn4⟩ := bsize hb; (try simp only [World.size_alloc, World.size_setCell, World.size_drew] at hlt hle hn1 hn2 hn3 hn4); (try have hr0 : w.heap.size < w'.heap.size := by omega); (try have hr1 : w.heap.size + 1 < w'.heap.size := by omega); (try have hs0 : wS.heap.size < w'.heap.size := by omega); (try have hs1 : wG.heap.size < w'.heap.size := by omega)))
                have hwz := hbF.size
                (try simp only [World.size_setCell, World.size_alloc, World.size_drew] at hwz)
                have slF : SlAt w' (w.heap.size + 1) V.heap.size aH nH (hV L) := (SlV.out.mono (Nat.le_refl _) (by omega)).then (by exact (by first | (with_reducible exact Below.refl _ _) | ((repeat' (first | (with_reducible exact Below.refl _ _) | (with_reducible assumption) | (with_reducible refine below_alloc ?_ _) | (with_reducible refine Below.drew ?_) | (with_reducible refine below_drewN ?_ _) | (with_reducible refine Below.setCell ?_ ?_ _) | refine below_then ?_ (by with_reducible assumption))) <;> (first | omega | (simp; done) | (simp; omega)))))
                have rowF := RowC.out.then hbF
                exact bodyPost_ret (res_row Tryz.results9 _ _ rfl (blk_cast (by repeat' (first | (with_reducible assumption) | (with_reducible exact blk_new _ _) | (with_reducible apply blk_set) | (with_reducible refine blk_alloc ?_ _) | (with_reducible refine blk_drew ?_) | refine blk_then ?_ (by with_reducible assumption))) (by first | (simp; done) | rfl)) Tryz.underlying34 rfl _ (by kernel_rfl) rfl) rfl (by rw [E.out]; exact ⟨_, _, _, _, _, _, V.heap.size, rfl, ⟨hlH, rfl⟩, ⟨by omega, by first | omega | (simp; omega)⟩, (show SlAt _ (w.heap.size + 1) V.heap.size aH nH (hV L) by exact (by repeat' (first | (with_reducible assumption) | (with_reducible refine SlAt.alloc ?_ _) | (with_reducible refine SlAt.drew ?_) | (with_reducible refine SlAt.other ?_ _ _ (by first | omega | (simp; done) | (simp; omega))) | refine SlAt.then ?_ (by with_reducible assumption)))).mono (by omega) (Nat.le_refl _), RowAt.sl (by exact (by repeat' (first | (with_reducible assumption) | (with_reducible refine RowAt.alloc ?_ _) | (with_reducible refine RowAt.drew ?_) | (with_reducible refine RowAt.other ?_ _ _ (by first | omega | (simp; done) | (simp; omega))) | refine RowAt.then ?_ (by with_reducible assumption)))) _ (by omega) (by first | omega | (simp; omega)), by have bW := BelW.out; exact (by first | (with_reducible exact Below.refl _ _) | ((repeat' (first | (with_reducible exact Below.refl _ _) | (with_reducible assumption) | (with_reducible refine below_alloc ?_ _) | (with_reducible refine Below.drew ?_) | (with_reducible refine below_drewN ?_ _) | (with_reducible refine Below.setCell ?_ ?_ _) | refine below_then ?_ (by with_reducible assumption))) <;> (first | omega | (simp; done) | (simp; omega))))⟩)
              --END
            · have E := Lib.hid (show rspR lb = (rspFault st L body.length, noRs) by rw [E2, rsEnd, if_neg hq])
              have hne : (rspFault st L body.length != 0) = true := by simpa using hq
              generalize rspFault st L body.length = cf at *
              have HFt := Lib.hid hsF
              clear hq hsF E2
              --LEAF fault
              go_enter Tryz.func9, Tryz.ntmps9
              go_upto_region 13 with (first | (go_at_call 29; ((with_reducible refine (HC2.out _ (MaxL.then hm (by exact (by first | (with_reducible exact Below.refl _ _) | ((repeat' (first | (with_reducible exact Below.refl _ _) | (with_reducible assumption) | (with_reducible refine below_alloc ?_ _) | (with_reducible refine Below.drew ?_) | (with_reducible refine below_drewN ?_ _) | (with_reducible refine Below.setCell ?_ ?_ _) | refine below_then ?_ (by with_reducible assumption))) <;> (first | omega | (simp; done) | (simp; omega))))))).mono ?_); rintro e w' ⟨rfl, hb⟩; obtain ⟨hc, hf⟩ := bcell hb; have hz := hb.size; (try simp only [World.size_alloc, World.size_setCell, World.size_drew] at hz); obtain ⟨hlt, hle, hn1, hn2, hn3, hn4⟩ := bsize hb; (try simp only [World.size_alloc, World.size_setCell, World.size_drew] at hlt hle hn1 hn2 hn3 hn4); (try have hr0 : w.heap.size < w'.heap.size := by omega); (try have hr1 : w.heap.size + 1 < w'.heap.size := by omega); (try have hs0 : wS.heap.size < w'.heap.size := by omega); (try have hs1 : wG.heap.size < w'.heap.size := by omega))) | (go_at_call 29; ((with_reducible refine (HC1.out _ (MaxL.then hm (by exact (by first | (with_reducible exact Below.refl _ _) | ((repeat' (first | (with_reducible exact Below.refl _ _) | (with_reducible assumption) | (with_reducible refine below_alloc ?_ _) | (with_reducible refine Below.drew ?_) | (with_reducible refine below_drewN ?_ _) | (with_reducible refine Below.setCell ?_ ?_ _) | refine below_then ?_ (by with_reducible assumption))) <;> (first | omega | (simp; done) | (simp; omega))))))).mono ?_); rintro e w' ⟨rfl, hb⟩; obtain ⟨hc, hf⟩ := bcell hb; have hz := hb.size; (try simp only [World.size_alloc, World.size_setCell, World.size_drew] at hz); obtain ⟨hlt, hle, hn1, hn2, hn3, hn4⟩ := bsize hb; (try simp only [World.size_alloc, World.size_setCell, World.size_drew] at hlt hle hn1 hn2 hn3 hn4); (try have hr0 : w.heap.size < w'.heap.size := by omega); (try have hr1 : w.heap.size + 1 < w'.heap.size := by omega); (try have hs0 : wS.heap.size < w'.heap.size := by omega); (try have hs1 : wG.heap.size < w'.heap.size := by omega))) | (go_at_call 31; ((with_reducible refine (HR.out _ (MaxL.then hm (by exact (by first | (with_reducible exact Below.refl _ _) | ((repeat' (first | (with_reducible exact Below.refl _ _) | (with_reducible assumption) | (with_reducible refine below_alloc ?_ _) | (with_reducible refine Below.drew ?_) | (with_reducible refine below_drewN ?_ _) | (with_reducible refine Below.setCell ?_ ?_ _) | refine below_then ?_ (by with_reducible assumption))) <;> (first | omega | (simp; done) | (simp; omega))))))).mono ?_); rintro e' wH ⟨aH, nH, cH, rfl, ⟨hlH, hsH⟩, hb⟩; obtain ⟨hc, hf⟩ := bcell hb; have hz := hb.size; (try simp only [World.size_alloc, World.size_setCell, World.size_drew] at hz); obtain ⟨hlt, hle, hn1, hn2, hn3, hn4⟩ := bsize hb; (try simp only [World.size_alloc, World.size_setCell, World.size_drew] at hlt hle hn1 hn2 hn3 hn4); (try have hr0 : w.heap.size < wH.heap.size := by omega); (try have hr1 : w.heap.size + 1 < wH.heap.size := by omega); (try have hs0 : wS.heap.size < wH.heap.size := by omega); (try have hs1 : wG.heap.size < wH.heap.size := by omega))) | (go_at_call 38; ((with_reducible refine (HP.out _).mono ?_); rintro e' w' ⟨rfl, rfl⟩)) | (go_at_call 39; ((with_reducible refine (HA.out _).mono ?_); rintro e' w' ⟨rfl, rfl⟩)))
              have bkH : (wH.alloc (.cells #[.int .i64 0, .slice aH nH cH] 56)).heap[wH.heap.size]? = some (.cells #[.int .i64 0, .slice aH nH cH] 56 (0, 0)) := blk_new _ _
              have bkR : (wH.alloc (.cells #[.int .i64 0, .slice aH nH cH] 56)).heap[w.heap.size]? = some (.cells #[.int .i64 0, .int .i64 0, .slice none 0 0, .slice none 0 0] 34 (0, 0)) := (by repeat' (first | (with_reducible assumption) | (with_reducible exact blk_new _ _) | (with_reducible apply blk_set) | (with_reducible refine blk_alloc ?_ _) | (with_reducible refine blk_drew ?_) | refine blk_then ?_ (by with_reducible assumption)))
              have slV : SlAt (wH.alloc (.cells #[.int .i64 0, .slice aH nH cH] 56)) (w.heap.size + 1) wH.heap.size aH nH (hV L) := (hsH.mono (by omega) (Nat.le_refl _)).alloc _
              have rdV := slV.rd
              have belV : Below w.heap.size w (wH.alloc (.cells #[.int .i64 0, .slice aH nH cH] 56)) := by exact (by first | (with_reducible exact Below.refl _ _) | ((repeat' (first | (with_reducible exact Below.refl _ _) | (with_reducible assumption) | (with_reducible refine below_alloc ?_ _) | (with_reducible refine Below.drew ?_) | (with_reducible refine below_drewN ?_ _) | (with_reducible refine Below.setCell ?_ ?_ _) | refine below_then ?_ (by with_reducible assumption))) <;> (first | omega | (simp; done) | (simp; omega))))
              have hbH : w.heap.size < wH.heap.size := by omega
              have hvz : wH.heap.size < (wH.alloc (.cells #[.int .i64 0, .slice aH nH cH] 56)).heap.size := by simp
              clear hsH hb hc hf hz
              generalize (wH.alloc (.cells #[.int .i64 0, .slice aH nH cH] 56)) = V at *
              generalize wH.heap.size = bH at *
              have hk : ∀ W, Below V.heap.size V W → W.cell? ⟨bH, 0, none⟩ = some (.int .i64 0) ∧ W.cell? ⟨bH, 1, none⟩ = some (.slice aH nH cH) := fun W hB => cells2 (blk_then bkH hB)
              refine wp_region_last (fun W => Below V.heap.size V W) (fun _ w w' => Below w.heap.size w w') (rrF [.string dg, .agg #[.int .i64 0, .int .i64 st], .int .i64 st, .pointer (some ⟨bH, 1, none⟩), .slice aH nH cH, .string (ba body)] 6 7 8 st (.slice aH nH cH) body.length body V.heap.size) 9 rfl (by kernel_rfl) (by kernel_rfl) (by kernel_rfl) (Below.refl _ _).drew (fun _ _ _ h1 h2 => below_then h1 h2) (fun _ _ _ _ _ _ _ h1 h2 => rrF_keep _ _ _ _ h2 h1) ?_ rfl ?_
              · repeat' (refine And.intro ?_ ?_)
                · intro ρ W hI hbase hdep
                  have b10 : ρ (.tmp 10) = .string dg := hbase (.tmp 10) (base_tmpL (by kernel_rfl))
                  simp only [execOp, b10]
                  go_simp
                  exact ⟨Below.refl _ _, rfl⟩
                · intro ρ W hI hbase hdep
                  have hc : ∀ v, ρ (.const v) = v := fun v => hbase _ (fun _ _ _ _ _ _ e => by cases e)
                  have hfn : ∀ f, ρ (.func f) = .func (.func f) #[] #[] := fun v => hbase _ (fun _ _ _ _ _ _ e => by cases e)
                  have p0 : ρ (.tmp 56) = .string dg := (Option.some.inj (hdep ⟨0, .data⟩ (by simp) rfl _ 56 rfl rfl : some (.string dg) = some (ρ (.tmp 56)))).symm
                  simp only [execOp, hc, hfn, p0]
                  go_simp
                  exact ⟨rfl, (HD.out W).mono fun e w' h => ⟨_, h.1, h.2, rfl⟩⟩
                · intro ρ W hI hbase hdep
                  have p1 : ρ (.tmp 57) = .agg #[.int .i64 0, .int .i64 st] := (Option.some.inj (hdep ⟨1, .data⟩ (by simp) rfl _ 57 rfl rfl : some (.agg #[.int .i64 0, .int .i64 st]) = some (ρ (.tmp 57)))).symm
                  simp only [execOp, p1]
                  exact good_val (fieldR1 _ _ _) ⟨Below.refl _ _, rfl⟩
                · intro ρ W hI hbase hdep
                  have b9 : ρ (.tmp 9) = .pointer (some ⟨bH, 0, none⟩) := hbase (.tmp 9) (base_tmpL (by kernel_rfl))
                  simp only [execOp, b9]
                  go_simp
                  exact ⟨Below.refl _ _, rfl⟩
                · intro ρ W hI hbase hdep
                  have p3 : ρ (.tmp 59) = .pointer (some ⟨bH, 1, none⟩) := (Option.some.inj (hdep ⟨3, .data⟩ (by simp) rfl _ 59 rfl rfl : some (.pointer (some ⟨bH, 1, none⟩)) = some (ρ (.tmp 59)))).symm
                  obtain ⟨k0, k1⟩ := hk W hI
                  simp only [execOp, p3]
                  go_simp
                  exact ⟨Below.refl _ _, rfl⟩
                · intro ρ W hI hbase hdep
                  have b4 : ρ (.tmp 4) = .string (ba body) := hbase (.tmp 4) (base_tmpL (by kernel_rfl))
                  simp only [execOp, b4]
                  go_simp
                  exact ⟨Below.refl _ _, rfl⟩
                · intro ρ W hI hbase hdep
                  have p5 : ρ (.tmp 61) = .string (ba body) := (Option.some.inj (hdep ⟨5, .data⟩ (by simp) rfl _ 61 rfl rfl : some (.string (ba body)) = some (ρ (.tmp 61)))).symm
                  simp only [execOp, p5]
                  obtain ⟨g, cap, W', e1, e2, e3, e4⟩ := bw_good (ba body) W V.heap.size hI.size
                  rw [ba_list] at e3
                  rw [ba_size] at e1
                  exact good_val e1 ⟨e4, g, cap, rfl, e2, e3⟩
                · intro ρ W hI hbase hdep
                  have p2 : ρ (.tmp 58) = .int .i64 st := (Option.some.inj (hdep ⟨2, .data⟩ (by simp) rfl _ 58 rfl rfl : some (.int .i64 st) = some (ρ (.tmp 58)))).symm
                  have p4 : ρ (.tmp 60) = .slice aH nH cH := (Option.some.inj (hdep ⟨4, .data⟩ (by simp) rfl _ 60 rfl rfl : some (.slice aH nH cH) = some (ρ (.tmp 60)))).symm
                  obtain ⟨g, cap, p6, hsp⟩ : ∃ g cap, ρ (.tmp 62) = .slice (some ⟨g, 0, none⟩) body.length cap ∧ V.heap.size ≤ g ∧ RowAt W g (bV body) := hdep ⟨6, .data⟩ (by simp) rfl _ 62 rfl rfl
                  simp only [execOp, p2, p4, p6]
                  go_simp
                  exact ⟨Below.refl _ _, g, cap, rfl, hsp⟩
                · intro ρ W hI hbase hdep
                  simp only [execOp]
                  go_simp
                  exact ⟨below_alloc (Below.refl _ _) _, _, rfl, hI.size, blk_new _ _⟩
                · trivial
              · intro a' W hI ha hdf hall hrest
                have e0 : a'.tmps.getD 56 undef = .string dg := (Option.some.inj (hall 0 _ 56 (by decide) rfl rfl : some (.string dg) = some (a'.tmps.getD 56 undef))).symm
                have e1 : a'.tmps.getD 57 undef = .agg #[.int .i64 0, .int .i64 st] := (Option.some.inj (hall 1 _ 57 (by decide) rfl rfl : some (.agg #[.int .i64 0, .int .i64 st]) = some (a'.tmps.getD 57 undef))).symm
                have e2 : a'.tmps.getD 58 undef = .int .i64 st := (Option.some.inj (hall 2 _ 58 (by decide) rfl rfl : some (.int .i64 st) = some (a'.tmps.getD 58 undef))).symm
                have e3 : a'.tmps.getD 59 undef = .pointer (some ⟨bH, 1, none⟩) := (Option.some.inj (hall 3 _ 59 (by decide) rfl rfl : some (.pointer (some ⟨bH, 1, none⟩)) = some (a'.tmps.getD 59 undef))).symm
                have e4 : a'.tmps.getD 60 undef = .slice aH nH cH := (Option.some.inj (hall 4 _ 60 (by decide) rfl rfl : some (.slice aH nH cH) = some (a'.tmps.getD 60 undef))).symm
                have e5 : a'.tmps.getD 61 undef = .string (ba body) := (Option.some.inj (hall 5 _ 61 (by decide) rfl rfl : some (.string (ba body)) = some (a'.tmps.getD 61 undef))).symm
                obtain ⟨g6, c6, e6, _, _⟩ : ∃ g cap, a'.tmps.getD 62 undef = .slice (some ⟨g, 0, none⟩) body.length cap ∧ V.heap.size ≤ g ∧ RowAt W g (bV body) := hall 6 _ 62 (by decide) rfl rfl
                obtain ⟨gB, capB, e7, hgB, rowB⟩ : ∃ g cap, a'.tmps.getD 63 undef = .agg #[.int .i64 st, .slice aH nH cH, .slice (some ⟨g, 0, none⟩) body.length cap] ∧ V.heap.size ≤ g ∧ RowAt W g (bV body) := hall 7 _ 63 (by decide) rfl rfl
                obtain ⟨G, e8, hG, bkG⟩ : ∃ G, a'.tmps.getD 12 undef = .pointer (some ⟨G, 0, none⟩) ∧ V.heap.size ≤ G ∧ W.heap[G]? = some (.cells #[.int .i64 0, .slice none 0 0, .slice none 0 0] 32 (0, 0)) := hall 8 _ 12 (by decide) rfl rfl
                have ea := after_last [(56, _), (57, _), (58, _), (59, _), (60, _), (61, _), (62, _), (63, _), (12, _)] ha hdf hrest (by kernel_rfl) (by simp only [List.forall_mem_cons]; exact ⟨e0, e1, e2, e3, e4, e5, e6, e7, e8, fun _ h => by cases h⟩)
                subst ea
                simp only [List.foldl_cons, List.foldl_nil, List.setIfInBounds_toArray, List.set_cons_zero, List.set_cons_succ]
                have belW := below_then belV hI
                have bkRW := blk_then bkR hI
                obtain ⟨x0, x1, x2, x3⟩ := cells4 bkRW
                obtain ⟨y0, y1, y2⟩ := cells3 bkG
                have hfz := fzr bkRW
                have hfG := fzr bkG
                have hWz := hI.size
                have hGW : G < W.heap.size := (Array.getElem?_eq_some_iff.1 bkG).1
                have hgW := rowB.lt
                have hwW : w.heap.size < W.heap.size := by omega
                have hwG : w.heap.size < G := by omega
                have rowC := row_store3 rowB bkG (.int .i64 st) (.slice aH nH cH) (.slice (some ⟨gB, 0, none⟩) body.length capB)
                have BkRW := Lib.hid bkRW
                have RowC := Lib.hid rowC
                have BelW := Lib.hid belW
                have RdV := Lib.hid rdV
                have SlV := Lib.hid slV
                have BkG := Lib.hid bkG
                clear e0 e1 e2 e3 e4 e5 e6 e7 e8 hall hrest ha hdf rowC belW hk bkR bkH rdV belV bkRW bkG rowB slV
                go_wp2_with (go_at_call 16; ((with_reducible refine (HFt.out _ _ _ hlH _ _ _ (RdV.out.below (by exact (by first | (with_reducible exact Below.refl _ _) | ((repeat' (first | (with_reducible exact Below.refl _ _) | (with_reducible assumption) | (with_reducible refine below_alloc ?_ _) | (with_reducible refine Below.drew ?_) | (with_reducible refine below_drewN ?_ _) | (with_reducible refine Below.setCell ?_ ?_ _) | refine below_then ?_ (by with_reducible assumption))) <;> (first | omega | (simp; done) | (simp; omega)))))) (by have := H20.out; omega) (by omega)).mono ?_); rintro e w' ⟨rfl, hb⟩; have hbF := hb; have bkF : w'.heap[w.heap.size]? = some (.cells #[.int .i64 0, .int .i64 0, .slice none 0 0, .slice none 0 0] 34 (0, 0)) := (by have pp := BkRW.out; exact (by repeat' (first | (with_reducible assumption) | (with_reducible exact blk_new _ _) | (with_reducible apply blk_set) | (with_reducible refine blk_new' _ _ _ (by first | omega | (simp only [World.size_alloc]; first | done | omega))) | (with_reducible refine blk_other ?_ _ _ _ (by omega)) | (with_reducible refine blk_drew ?_) | (with_reducible refine blk_alloc ?_ _) | refine blk_then ?_ (by with_reducible assumption)))); obtain ⟨v0', v1', v2', v3'⟩ := cells4 bkF; have fzF := fzr bkF; obtain ⟨hc, hf⟩ := bcell hb; have hz := hb.size; (try simp only [World.size_alloc, World.size_setCell, World.size_drew] at hz); obtain ⟨hlt, hle, hn1, hn2, hn3, hn4⟩ := bsize hb; (try simp only [World.size_alloc, World.size_setCell, World.size_drew] at hlt hle hn1 hn2 hn3 hn4); (try have hr0 : w.heap.size < w'.heap.size := by omega); (try have hr1 : w.heap.size + 1 < w'.heap.size := by omega); (try have hs0 : wS.heap.size < w'.heap.size := by omega); (try have hs1 : wG.heap.size < w'.heap.size := by omega)))
                exact bodyPost_ret (res_row Tryz.results9 _ _ rfl (blk_cast (by repeat' (first | (with_reducible assumption) | (with_reducible exact blk_new _ _) | (with_reducible apply blk_set) | (with_reducible refine blk_alloc ?_ _) | (with_reducible refine blk_drew ?_) | refine blk_then ?_ (by with_reducible assumption))) (by first | (simp; done) | rfl)) Tryz.underlying34 rfl _ (by kernel_rfl) rfl) rfl (RpR.none E.out (by have bW := BelW.out; exact (by first | (with_reducible exact Below.refl _ _) | ((repeat' (first | (with_reducible exact Below.refl _ _) | (with_reducible assumption) | (with_reducible refine below_alloc ?_ _) | (with_reducible refine Below.drew ?_) | (with_reducible refine below_drewN ?_ _) | (with_reducible refine Below.setCell ?_ ?_ _) | refine below_then ?_ (by with_reducible assumption))) <;> (first | omega | (simp; done) | (simp; omega))))))
              --END
      · have E := Lib.hid (show rspR lb = ((readR (ba rest)).1, noRs) by rw [ER, rsMid, if_neg hz0])
        generalize (readR (ba rest)).1 = cd at *
        generalize (readR (ba rest)).2 = L at *
        have HR := Lib.hid hR
        have hne : (cd != 0) = true := by simpa using hz0
        clear hR ER
        --LEAF code
        go_enter Tryz.func9, Tryz.ntmps9
        go_wp2_with (first | (go_at_call 29; ((with_reducible refine (HC2.out _ (MaxL.then hm (by exact (by first | (with_reducible exact Below.refl _ _) | ((repeat' (first | (with_reducible exact Below.refl _ _) | (with_reducible assumption) | (with_reducible refine below_alloc ?_ _) | (with_reducible refine Below.drew ?_) | (with_reducible refine below_drewN ?_ _) | (with_reducible refine Below.setCell ?_ ?_ _) | refine below_then ?_ (by with_reducible assumption))) <;> (first | omega | (simp; done) | (simp; omega))))))).mono ?_); rintro e w' ⟨rfl, hb⟩; obtain ⟨hc, hf⟩ := bcell hb; have hz := hb.size; (try simp only [World.size_alloc, World.size_setCell, World.size_drew] at hz); obtain ⟨hlt, hle, hn1, hn2, hn3, hn4⟩ := bsize hb; (try simp only [World.size_alloc, World.size_setCell, World.size_drew] at hlt hle hn1 hn2 hn3 hn4); (try have hr0 : w.heap.size < w'.heap.size := by omega); (try have hr1 : w.heap.size + 1 < w'.heap.size := by omega); (try have hs0 : wS.heap.size < w'.heap.size := by omega); (try have hs1 : wG.heap.size < w'.heap.size := by omega))) | (go_at_call 29; ((with_reducible refine (HC1.out _ (MaxL.then hm (by exact (by first | (with_reducible exact Below.refl _ _) | ((repeat' (first | (with_reducible exact Below.refl _ _) | (with_reducible assumption) | (with_reducible refine below_alloc ?_ _) | (with_reducible refine Below.drew ?_) | (with_reducible refine below_drewN ?_ _) | (with_reducible refine Below.setCell ?_ ?_ _) | refine below_then ?_ (by with_reducible assumption))) <;> (first | omega | (simp; done) | (simp; omega))))))).mono ?_); rintro e w' ⟨rfl, hb⟩; obtain ⟨hc, hf⟩ := bcell hb; have hz := hb.size; (try simp only [World.size_alloc, World.size_setCell, World.size_drew] at hz); obtain ⟨hlt, hle, hn1, hn2, hn3, hn4⟩ := bsize hb; (try simp only [World.size_alloc, World.size_setCell, World.size_drew] at hlt hle hn1 hn2 hn3 hn4); (try have hr0 : w.heap.size < w'.heap.size := by omega); (try have hr1 : w.heap.size + 1 < w'.heap.size := by omega); (try have hs0 : wS.heap.size < w'.heap.size := by omega); (try have hs1 : wG.heap.size < w'.heap.size := by omega))) | (go_at_call 31; ((with_reducible refine (HR.out _ (MaxL.then hm (by exact (by first | (with_reducible exact Below.refl _ _) | ((repeat' (first | (with_reducible exact Below.refl _ _) | (with_reducible assumption) | (with_reducible refine below_alloc ?_ _) | (with_reducible refine Below.drew ?_) | (with_reducible refine below_drewN ?_ _) | (with_reducible refine Below.setCell ?_ ?_ _) | refine below_then ?_ (by with_reducible assumption))) <;> (first | omega | (simp; done) | (simp; omega))))))).mono ?_); rintro e' wH ⟨aH, nH, cH, rfl, ⟨hlH, hsH⟩, hb⟩; obtain ⟨hc, hf⟩ := bcell hb; have hz := hb.size; (try simp only [World.size_alloc, World.size_setCell, World.size_drew] at hz); obtain ⟨hlt, hle, hn1, hn2, hn3, hn4⟩ := bsize hb; (try simp only [World.size_alloc, World.size_setCell, World.size_drew] at hlt hle hn1 hn2 hn3 hn4); (try have hr0 : w.heap.size < wH.heap.size := by omega); (try have hr1 : w.heap.size + 1 < wH.heap.size := by omega); (try have hs0 : wS.heap.size < wH.heap.size := by omega); (try have hs1 : wG.heap.size < wH.heap.size := by omega))))
        exact bodyPost_ret (res_row Tryz.results9 _ _ rfl (blk_cast (by repeat' (first | (with_reducible assumption) | (with_reducible exact blk_new _ _) | (with_reducible apply blk_set) | (with_reducible refine blk_alloc ?_ _) | (with_reducible refine blk_drew ?_) | refine blk_then ?_ (by with_reducible assumption))) (by first | (simp; done) | rfl)) Tryz.underlying34 rfl _ (by kernel_rfl) rfl) rfl (RpR.none E.out (by exact (by first | (with_reducible exact Below.refl _ _) | ((repeat' (first | (with_reducible exact Below.refl _ _) | (with_reducible assumption) | (with_reducible refine below_alloc ?_ _) | (with_reducible refine Below.drew ?_) | (with_reducible refine below_drewN ?_ _) | (with_reducible refine Below.setCell ?_ ?_ _) | refine below_then ?_ (by with_reducible assumption))) <;> (first | omega | (simp; done) | (simp; omega))))))
        --END
end Go.Proofs.YtbiodbggaeglpaaGreatDoor
