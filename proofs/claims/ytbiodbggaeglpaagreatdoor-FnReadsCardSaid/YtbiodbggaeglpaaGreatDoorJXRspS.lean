/- Joined: RspS. -/
import Derived.Test.YtbiodbggaeglpaaGreatDoorJB21
import Derived.Test.YtbiodbggaeglpaaGreatDoorJB9
import Derived.Test.YtbiodbggaeglpaaGreatDoorJB0
import Derived.Test.YtbiodbggaeglpaaGreatDoorJXCopyK
/- The response that bytes tell: the reference's text. -/
namespace Go.Proofs.YtbiodbggaeglpaaGreatDoor
open Go.RowKit
set_option linter.unusedSimpArgs false
set_option linter.unusedVariables false

theorem spec_l1Copy (a : Option Addr) (n c : Nat) (lb : List UInt8) (hlb : lb.length = n) (w : World) (hr : Rd w a (bV lb)) (hn : n ≤ 1000000) :
    Calls Tryz.prog 48 #[.slice a n c] w fun e w' => ∃ g cap, e = .returned (.slice (some ⟨g, 0, none⟩) n cap) ∧ w.heap.size ≤ g ∧ RowAt w' g (bV lb) ∧ Below w.heap.size w w' := by
  have hB : BRow (w.alloc (.cells #[] 5 (0, 0))) w.heap.size 0 0 [] := ⟨rfl, [], rfl, RowAt.of_alloc _ _ _ _ rfl⟩
  obtain ⟨g', cap', w2, d1, d2, d3, d4⟩ := app_bytes w.heap.size a n c lb hlb w.heap.size 0 0 [] (w.alloc (.cells #[] 5 (0, 0))) hB (Nat.le_refl _) (hr.alloc _) (by omega) 22
  have D1 := Lib.hid d1
  have D3 := Lib.hid d3
  have D4 := Lib.hid d4
  clear d1 d3 d4 hB
  go_enter Tryz.func48, Tryz.ntmps48
  go_wp2_with (at_builtin; refine wpList_appB (v := .slice (some ⟨w.heap.size, 0, none⟩) 0 0) (xv := .slice a n c) rfl _ _ rfl ?c1 ?c2 D1.out ?_)
  case c1 => rfl
  case c2 => rfl
  go_wp2
  go_ret
  exact ⟨g', cap', rfl, d2, D3.out, D4.out.below (below_alloc (Below.refl _ _) _) (Nat.le_refl _)⟩
theorem ext_mid (t : ByteArray) (j : Nat) : (t.extract j (j + 4)).data.toList = (t.data.toList.drop j).take 4 := by
  have h := congrArg (fun x : ByteArray => x.data.toList) (extract_eq t j (j + 4))
  have h2 : (t.extract j (j + 4)).data.toList = (t.data.toList.take (j + 4)).drop j := by simpa using h
  rw [h2, List.drop_take, Nat.add_sub_cancel_left]
/-- Where the first empty line stands. -/
theorem rsp_cut {lb : List UInt8} {e : Nat} (he : e + 4 ≤ lb.length) (hm : (lb.drop e).take 4 = crlf ++ crlf) (hn : ∀ j, j < e → (lb.drop j).take 4 ≠ crlf ++ crlf) :
    Lib.cut lb (crlf ++ crlf) = (lb.take e, lb.drop (e + 4), true) ∧ firstR (lb.take (e + 4)) = some ((Lib.cut (lb.take e ++ crlf) crlf).1, (Lib.cut (lb.take e ++ crlf) crlf).2.1) := by
  refine ⟨cut_first (by omega) hm hn, ?_⟩
  have h4 : lb.take (e + 4) = lb.take e ++ crlf ++ crlf := by
    rw [List.take_add, hm, List.append_assoc]
  rw [h4]
  exact (firstR_head _).2
theorem rsp_never {lb : List UInt8} (hn : ∀ j, j + 4 ≤ lb.length → (lb.drop j).take 4 ≠ crlf ++ crlf) : Lib.cut lb (crlf ++ crlf) = (lb, [], false) := cut_never hn
set_option maxRecDepth 100000 in
set_option maxHeartbeats 6400000 in
theorem spec_ReadResponse (a : Option Addr) (n c : Nat) (lb : List UInt8) (hlb : lb.length = n) (w : World) (hr : Rd w a (bV lb)) (hn : n ≤ 9223372036854775807) (hcn : n ≤ c) :
    Calls Tryz.prog 11 #[.slice a n c] w (RpR w (rspR lb)) := by
  by_cases h8 : 10000 < n
  · have E := Lib.hid (show rspR lb = (2, noRs) from rspR_many (by omega))
    clear hr hlb
    --LEAF many
    go_enter Tryz.func11, Tryz.ntmps11
    go_wp2
    exact bodyPost_ret (res_row Tryz.results11 _ _ rfl (blk_cast (by repeat' (first | (with_reducible assumption) | (with_reducible exact blk_new _ _) | (with_reducible apply blk_set) | (with_reducible refine blk_alloc ?_ _) | (with_reducible refine blk_drew ?_) | refine blk_then ?_ (by with_reducible assumption))) (by first | (simp; done) | rfl)) Tryz.underlying34 rfl _ (by kernel_rfl) rfl) rfl (RpR.none E.out (by exact (by first | (with_reducible exact Below.refl _ _) | ((repeat' (first | (with_reducible exact Below.refl _ _) | (with_reducible assumption) | (with_reducible refine below_alloc ?_ _) | (with_reducible refine Below.drew ?_) | (with_reducible refine below_drewN ?_ _) | (with_reducible refine Below.setCell ?_ ?_ _) | refine below_then ?_ (by with_reducible assumption))) <;> (first | omega | (simp; done) | (simp; omega))))))
    --END
  · have hcv0 := conv_rd _ a n c lb hlb ((hr.alloc (.cells #[.int .i64 0, .int .i64 0, .slice none 0 0, .slice none 0 0] 34)).alloc (.cells #[.int .i64 5, .int .i64 0, .slice none 0 0, .slice none 0 0] 34))
    have hz : (ba lb).size = n := by rw [ba_size]; exact hlb
    have Hlb := Lib.hid hlb
    obtain ⟨t, et⟩ : ∃ t, ba lb = t := ⟨_, rfl⟩
    have etl : t.data.toList = lb := by rw [← et, ba_list]
    have Etl := Lib.hid etl
    have hcv1 : (convert 22 9 (.slice a n c)).run Tryz.prog ((w.alloc (.cells #[.int .i64 0, .int .i64 0, .slice none 0 0, .slice none 0 0] 34)).alloc (.cells #[.int .i64 5, .int .i64 0, .slice none 0 0, .slice none 0 0] 34)) = .ok (.string t) ((w.alloc (.cells #[.int .i64 0, .int .i64 0, .slice none 0 0, .slice none 0 0] 34)).alloc (.cells #[.int .i64 5, .int .i64 0, .slice none 0 0, .slice none 0 0] 34)) := by rw [← et]; exact hcv0
    rw [et] at hz
    have Hr := Lib.hid hr
    clear hcv0 hlb et etl hr
    go_enter Tryz.func11, Tryz.ntmps11
    go_wp2
    go_loop [5, 6] (fun ev iv => ∃ i : Nat, iv = .int .i64 (i : Int) ∧ i ≤ t.size ∧ ((ev = .int .i64 (-1) ∧ ∀ j, j < i → (lb.drop j).take 4 ≠ crlf ++ crlf) ∨ ∃ e : Nat, ev = .int .i64 (e : Int) ∧ e + 4 ≤ t.size ∧ (lb.drop e).take 4 = crlf ++ crlf ∧ ∀ j, j < e → (lb.drop j).take 4 ≠ crlf ++ crlf)) (fun _ iv => t.size - (intOf iv).toNat)
    case atStart => exact ⟨0, rfl, Nat.zero_le _, .inl ⟨rfl, fun j hj => absurd hj (Nat.not_lt_zero _)⟩⟩
    case round =>
      obtain ⟨i, rfl, hit, hor⟩ := hrel
      refine hor.elim (fun q => ?_) (fun q => ?_)
      · obtain ⟨rfl, hno⟩ := q
        have Hno := Lib.hid hno
        clear hno hor
        by_cases hlt : i + 3 < t.size
        · have hw4 : IntKind.i64.wrap ((i : Int) + 4) = (i : Int) + 4 := wrapi _ (by omega) (by omega)
          have h41 : (i : Int) ≤ (i : Int) + 4 := by omega
          have h42 : (i : Int) + 4 ≤ (t.size : Int) := by omega
          have h43 : ((i : Int) + 4).toNat = i + 4 := by omega
          by_cases hm : (t.extract i (i + 4)).data.toList = crlf ++ crlf
          · have e1 : ((t.extract i (i + 4)).toList == [13, 10, 13, 10]) = true := by rw [eq_str]; exact decide_eq_true hm
            have Hm := Lib.hid (show (lb.drop i).take 4 = crlf ++ crlf by rw [← hm, ext_mid, Etl.out])
            clear hm
            --LEAF hit
            go_wp2
            go_round
            case rel => exact ⟨i + 1, by go_num, by omega, .inr ⟨i, rfl, by omega, Hm.out, Hno.out⟩⟩
            case measure => simp [intOf]; omega
            --END
          · have e1 : ((t.extract i (i + 4)).toList == [13, 10, 13, 10]) = false := by rw [eq_str]; exact decide_eq_false hm
            have Hm := Lib.hid (show (lb.drop i).take 4 ≠ crlf ++ crlf by rw [← Etl.out, ← ext_mid]; exact hm)
            clear hm
            --LEAF miss
            go_wp2
            go_round
            case rel => exact ⟨i + 1, by go_num, by omega, .inl ⟨rfl, fun j hj => by
              by_cases q : j = i
              · subst q; exact Hm.out
              · exact Hno.out j (by omega)⟩⟩
            case measure => simp [intOf]; omega
            --END
        · have E := Lib.hid (show rspR lb = (5, noRs) from rspR_none (by have := Hlb.out; omega) (by rw [rsp_never (fun j hj => Hno.out j (by have := Hlb.out; omega))]))
          --LEAF none
          go_wp2
          exact bodyPost_ret (res_row Tryz.results11 _ _ rfl (blk_cast (by repeat' (first | (with_reducible assumption) | (with_reducible exact blk_new _ _) | (with_reducible apply blk_set) | (with_reducible refine blk_alloc ?_ _) | (with_reducible refine blk_drew ?_) | refine blk_then ?_ (by with_reducible assumption))) (by first | (simp; done) | rfl)) Tryz.underlying34 rfl _ (by kernel_rfl) rfl) rfl (RpR.none E.out (by exact (by first | (with_reducible exact Below.refl _ _) | ((repeat' (first | (with_reducible exact Below.refl _ _) | (with_reducible assumption) | (with_reducible refine below_alloc ?_ _) | (with_reducible refine Below.drew ?_) | (with_reducible refine below_drewN ?_ _) | (with_reducible refine Below.setCell ?_ ?_ _) | refine below_then ?_ (by with_reducible assumption))) <;> (first | omega | (simp; done) | (simp; omega))))))
          --END
      · obtain ⟨e, rfl, he4, hm, hno⟩ := q
        clear hor
        obtain ⟨f1, f2⟩ := rsp_cut (lb := lb) (e := e) (by have := Hlb.out; omega) hm hno
        have ER := Lib.hid (rspR_some (by have := Hlb.out; omega) f1)
        obtain ⟨line, el⟩ : ∃ x, (Lib.cut (lb.take e ++ crlf) crlf).1 = x := ⟨_, rfl⟩
        obtain ⟨rest, es⟩ : ∃ x, (Lib.cut (lb.take e ++ crlf) crlf).2.1 = x := ⟨_, rfl⟩
        rw [el, es] at f2
        have ER2 := ER.out
        rw [el, es] at ER2
        have ER := Lib.hid ER2
        have F2 := Lib.hid f2
        clear f1 f2 el es ER2 hm hno
        go_upto_region 7 with fail
        go_cut [28] (fun s wx => s = .bool false ∧ wx = (w.alloc (.cells #[.int .i64 0, .int .i64 0, .slice none 0 0, .slice none 0 0] 34)).alloc (.cells #[.int .i64 5, .int .i64 0, .slice none 0 0, .slice none 0 0] 34))
        case first =>
          --LEAF guard
          by_cases hlt : i + 3 < t.size
          · go_wp2
            go_meet
            exact ⟨rfl, rfl⟩
          · go_wp2
            go_meet
            exact ⟨rfl, rfl⟩
          --END
        case rest =>
          obtain ⟨rfl, rfl⟩ := hcut
          have hw4 : IntKind.i64.wrap ((e : Int) + 4) = (e : Int) + 4 := wrapi _ (by omega) (by omega)
          have h41 : (0 : Int) ≤ (e : Int) + 4 := by omega
          have h42 : (e : Int) + 4 ≤ (t.size : Int) := by omega
          have h43 : ((e : Int) + 4).toNat = e + 4 := by omega
          have hut : (t.extract 0 (e + 4)).data.toList = lb.take (e + 4) := by rw [ext_to, Etl.out, ba_list]
          have hus : (t.extract 0 (e + 4)).size ≤ 100000 := by rw [ByteArray.size_extract]; omega
          obtain ⟨u, eu⟩ : ∃ u, t.extract 0 (e + 4) = u := ⟨_, rfl⟩
          rw [eu] at hut hus
          have hF := fun W => spec_l5First u hus W
          rw [hut, F2.out] at hF
          have hF2 : ∀ W, Calls Tryz.prog 42 #[.string u] W fun e w' => e = .returned (.tuple #[.string (ba line), .string (ba rest), .bool true]) ∧ Below (W).heap.size W w' := hF
          have HF := Lib.hid hF2
          obtain ⟨z1, z2⟩ := firstR_small F2.out
          rw [List.length_take] at z1 z2
          have hR := fun W => spec_ReadHeaders (ba rest) (by rw [ba_size]; omega) W
          have hls : (ba line).size = line.length := ba_size _
          clear hF hF2 hut hus F2
          by_cases hz0 : (readR (ba rest)).1 = 0
          · have hL := readR_ok hz0
            have E1 : rspR lb = if lineOK line = true then rsEnd (deltaTo (ba (line.drop 9)) 3, (readR (ba rest)).2, lb.drop (e + 4)) else (5, noRs) := by
              rw [ER.out, rsMid, if_pos hz0]
            rw [hz0] at hR
            generalize (readR (ba rest)).2 = L at *
            obtain ⟨s1, s2⟩ := hds_small hL
            have H20 := Lib.hid s1
            have HR := Lib.hid hR
            have HE1 := Lib.hid E1
            clear hR E1 hL s1 ER
            obtain ⟨LN, eLN⟩ : ∃ x, ba line = x := ⟨_, rfl⟩
            have hex : LN.extract 9 LN.size = ba (line.drop 9) := by rw [← eLN, ext_from, ba_list]
            have hx0 : (LN.extract 0 9).data.toList = line.take 9 := by rw [← eLN, ext_to, ba_list, ba_list]
            rw [eLN] at hls HF
            by_cases c1 : line.length = 12
            · have k1 : LN.size = 12 := by omega
              rw [k1] at hex
              by_cases c2 : line.take 9 = http11b
              · have e2 : ((LN.extract 0 9).toList == [72, 84, 84, 80, 47, 49, 46, 49, 32]) = true := by rw [eq_str]; exact decide_eq_true (hx0.trans c2)
                by_cases c3 : deltaOk (ba (line.drop 9)) = true
                · have E := Lib.hid (show rspR lb = rsEnd (deltaTo (ba (line.drop 9)) 3, L, lb.drop (e + 4)) by rw [HE1.out, if_pos (by simp [lineOK, c1, c2, c3])])
                  have k9 : (ba (line.drop 9)).size ≤ 9223372036854775807 := by rw [ba_size, List.length_drop]; omega
                  have hD := fun W => spec_l1Delta (ba (line.drop 9)) W k9
                  have h3 : (ba (line.drop 9)).size = 3 := by rw [ba_size, List.length_drop]; omega
                  have hd1 : deltaI (ba (line.drop 9)) = deltaTo (ba (line.drop 9)) 3 := by rw [deltaI, if_pos c3, h3]
                  rw [hd1] at hD
                  have hdb := (deltaOk_bd c3).1
                  rw [h3] at hdb
                  generalize deltaTo (ba (line.drop 9)) 3 = st at *
                  have hb3 : (lb.drop (e + 4)).length = n - (e + 4) := by rw [List.length_drop, Hlb.out]
                  obtain ⟨b, off, ea, hrb⟩ : ∃ b off, a = some ⟨b, off, none⟩ ∧ Rd w (some ⟨b, off + (e + 4), none⟩) (bV (lb.drop (e + 4))) := by
                    have hlb := Hlb.out
                    obtain ⟨v, hv⟩ : ∃ v, (bV lb)[0]? = some v := ⟨_, List.getElem?_eq_getElem (by rw [bV_len, hlb]; omega)⟩
                    obtain ⟨b, off, ea, _, _⟩ := Hr.out 0 v hv
                    refine ⟨b, off, ea, ?_⟩
                    have h2 := Hr.out
                    rw [ea, ← List.take_append_drop (e + 4) lb, show bV (lb.take (e + 4) ++ lb.drop (e + 4)) = bV (lb.take (e + 4)) ++ bV (lb.drop (e + 4)) by simp [bV]] at h2
                    exact h2.from (e + 4) (by rw [bV_len, List.length_take]; omega)
                  obtain ⟨A, eA⟩ : ∃ A : Option Addr, (if c = e + 4 then some (⟨b, off, none⟩ : Addr) else some ⟨b, off + (e + 4), none⟩) = A := ⟨_, rfl⟩
                  have hrb : Rd w A (bV (lb.drop (e + 4))) := by
                    rw [← eA]
                    split
                    · have : lb.drop (e + 4) = [] := List.eq_nil_of_length_eq_zero (by omega)
                      rw [this]
                      exact Rd.nil _ _
                    · exact hrb
                  have hC := fun W hr => spec_l1Copy A (n - (e + 4)) (c - (e + 4)) (lb.drop (e + 4)) hb3 W hr (by omega)
                  have HC := Lib.hid hC
                  have HRB := Lib.hid hrb
                  have hsF := fun a n' c (hl : L.length = n') ab cb W hr hn hnb => spec_ResponseFault st a n' c L hl ab (n - (e + 4)) cb W hr hn hnb (fun h hh => by have := s2 h hh; omega)
                  have g1 : (e : Int) + 4 ≤ (n : Int) := by omega
                  have g2 : (n : Int) ≤ (c : Int) := by omega
                  have g3 : ((n : Int) - ((e : Int) + 4)).toNat = n - (e + 4) := by omega
                  have g4 : ((c : Int) - ((e : Int) + 4)).toNat = c - (e + 4) := by omega
                  have hex9 : LN.extract 9 LN.size = ba (line.drop 9) := by rw [k1]; exact hex
                  have HD0 := Lib.hid hD
                  have hD2 : ∀ W, Calls Tryz.prog 47 #[.string (ba (line.drop 9))] W fun e w' => e = .returned (.int .i64 st) ∧ Below (W).heap.size W w' := fun W => (hD W).mono fun _ _ h => ⟨h.1, h.2 ▸ Below.refl _ _⟩
                  have HD := Lib.hid hD2
                  have Hb3 := Lib.hid hb3
                  clear hD2 hD
                  generalize ba (line.drop 9) = dg at *
                  have Hdg := Lib.hid hex9
                  have hl12 : line.length = 12 := c1
                  subst ea
                  clear hd1 hrb hC h3 hex9
                  by_cases hq : rspFault st L (n - (e + 4)) = 0
                  · have E := Lib.hid (show rspR lb = (0, st, L, lb.drop (e + 4)) by rw [E.out, rsEnd]; simp only [hb3]; rw [if_pos hq])
                    simp only [hq] at hsF
                    have HFt := Lib.hid hsF
                    clear hq hsF
                    --LEAF good
                    go_upto_region 17 with (first
                      | (go_at_call 42; ((with_reducible refine (HF.out _).mono ?_); rintro e w' ⟨rfl, hb⟩; obtain ⟨hc, hf⟩ := bcell hb; have hz := hb.size; (try simp only [World.size_alloc, World.size_setCell, World.size_drew] at hz); obtain ⟨hlt, hle, hn1, hn2, hn3, hn4⟩ := bsize hb; (try simp only [World.size_alloc, World.size_setCell, World.size_drew] at hlt hle hn1 hn2 hn3 hn4); (try have hr0 : w.heap.size < w'.heap.size := by omega); (try have hr1 : w.heap.size + 1 < w'.heap.size := by omega); (try have hs0 : wS.heap.size < w'.heap.size := by omega); (try have hs1 : wG.heap.size < w'.heap.size := by omega)))
                      | (go_at_call 43; ((with_reducible refine (HR.out _).mono ?_); rintro e' wH ⟨aH, nH, cH, rfl, ⟨hlH, hsH⟩, hb⟩; obtain ⟨hc, hf⟩ := bcell hb; have hz := hb.size; (try simp only [World.size_alloc, World.size_setCell, World.size_drew] at hz); obtain ⟨hlt, hle, hn1, hn2, hn3, hn4⟩ := bsize hb; (try simp only [World.size_alloc, World.size_setCell, World.size_drew] at hlt hle hn1 hn2 hn3 hn4); (try have hr0 : w.heap.size < wH.heap.size := by omega); (try have hr1 : w.heap.size + 1 < wH.heap.size := by omega); (try have hs0 : wS.heap.size < wH.heap.size := by omega); (try have hs1 : wG.heap.size < wH.heap.size := by omega))))
                    have p2 : (wH.alloc (.cells #[.int .i64 0, .slice aH nH cH] 56)).heap[w.heap.size]? = some (.cells #[.int .i64 0, .int .i64 0, .slice none 0 0, .slice none 0 0] 34) := (by repeat' (first | (with_reducible assumption) | (with_reducible exact blk_new _ _) | (with_reducible apply blk_set) | (with_reducible refine blk_new' _ _ _ (by first | omega | (simp only [World.size_alloc]; first | done | omega))) | (with_reducible refine blk_other ?_ _ _ _ (by omega)) | (with_reducible refine blk_drew ?_) | (with_reducible refine blk_alloc ?_ _) | refine blk_then ?_ (by with_reducible assumption)))
                    have p3 : (wH.alloc (.cells #[.int .i64 0, .slice aH nH cH] 56)).heap[w.heap.size + 1]? = some (.cells #[.int .i64 5, .int .i64 0, .slice none 0 0, .slice none 0 0] 34) := (by repeat' (first | (with_reducible assumption) | (with_reducible exact blk_new _ _) | (with_reducible apply blk_set) | (with_reducible refine blk_new' _ _ _ (by first | omega | (simp only [World.size_alloc]; first | done | omega))) | (with_reducible refine blk_other ?_ _ _ _ (by omega)) | (with_reducible refine blk_drew ?_) | (with_reducible refine blk_alloc ?_ _) | refine blk_then ?_ (by with_reducible assumption)))
                    have pH : (wH.alloc (.cells #[.int .i64 0, .slice aH nH cH] 56)).heap[wH.heap.size]? = some (.cells #[.int .i64 0, .slice aH nH cH] 56 (0, 0)) := blk_new _ _
                    have bV : Below w.heap.size w (wH.alloc (.cells #[.int .i64 0, .slice aH nH cH] 56)) := by exact (by first | (with_reducible exact Below.refl _ _) | ((repeat' (first | (with_reducible exact Below.refl _ _) | (with_reducible assumption) | (with_reducible refine below_alloc ?_ _) | (with_reducible refine Below.drew ?_) | (with_reducible refine below_drewN ?_ _) | (with_reducible refine Below.setCell ?_ ?_ _) | refine below_then ?_ (by with_reducible assumption))) <;> (first | omega | (simp; done) | (simp; omega))))
                    have BV := Lib.hid bV
                    have sH : SlAt (wH.alloc (.cells #[.int .i64 0, .slice aH nH cH] 56)) (w.heap.size + 1) wH.heap.size aH nH (hV L) := (hsH.mono (by omega) (Nat.le_refl _)).alloc _
                    have SH := Lib.hid sH
                    have lH : wH.heap.size < (wH.alloc (.cells #[.int .i64 0, .slice aH nH cH] 56)).heap.size := by simp
                    have l2 : w.heap.size < wH.heap.size := by omega
                    clear hsH bV sH
                    generalize (wH.alloc (.cells #[.int .i64 0, .slice aH nH cH] 56)) = V at *
                    generalize wH.heap.size = bH at *
                    obtain ⟨x0, x1, x2, x3⟩ := cells4 p2
                    obtain ⟨y0, y1, y2, y3⟩ := cells4 p3
                    obtain ⟨h0, h1⟩ := cells2 pH
                    have fz : ∀ k, V.frozen? ⟨w.heap.size, k, none⟩ = false := fun k => by simp [World.frozen?, p2]
                    have BV1 := BV.out
                    have slV := SH.out
                    have rdV := slV.rd
                    have hk : ∀ W, Below V.heap.size V W → W.cell? ⟨bH, 0, none⟩ = some (.int .i64 0) ∧ W.cell? ⟨bH, 1, none⟩ = some (.slice aH nH cH) := fun W hB => cells2 (blk_then pH hB)
                    go_upto_region 19 with (go_at_call 47; ((with_reducible refine (HD0.out _).mono ?_); rintro e w' ⟨rfl, rfl⟩))
                    refine wp_region_last (fun W => Below V.heap.size V W) (fun _ w w' => Below w.heap.size w w') (rrF [.string LN, .string dg, .int .i64 st, .pointer (some ⟨bH, 1, none⟩), .slice aH nH cH, .slice (some ⟨b, off, none⟩) n c, .int .i64 (e : Int), .int .i64 ((e : Int) + 4), .slice A (n - (e + 4)) (c - (e + 4))] 9 10 11 st (.slice aH nH cH) (n - (e + 4)) (lb.drop (e + 4)) V.heap.size) 12 rfl (by kernel_rfl) (by kernel_rfl) (by kernel_rfl) (Below.refl _ _).drew (fun _ _ _ h1 h2 => below_then h1 h2) (fun _ _ _ _ _ _ _ h1 h2 => rrF_keep _ _ _ _ h2 h1) ?_ rfl ?_
                    · repeat' (refine And.intro ?_ ?_)
                      · intro ρ W hI hbase hdep
                        have hc : ∀ v, ρ (.const v) = v := fun v => hbase _ (fun _ _ _ _ _ _ e => by cases e)
                        have b7 : ρ (.tmp 7) = .string LN := hbase (.tmp 7) (base_tmpL (by kernel_rfl))
                        simp only [execOp, hc, b7]
                        go_simp
                        exact ⟨Below.refl _ _, rfl⟩
                      · intro ρ W hI hbase hdep
                        have hc : ∀ v, ρ (.const v) = v := fun v => hbase _ (fun _ _ _ _ _ _ e => by cases e)
                        have p0 : ρ (.tmp 73) = .string LN := (Option.some.inj (hdep ⟨0, .data⟩ (by simp) rfl _ 73 rfl rfl : some (.string LN) = some (ρ (.tmp 73)))).symm
                        simp only [execOp, hc, p0]
                        go_simp
                        exact ⟨Below.refl _ _, by first | rfl | exact congrArg (fun x => some (Value.string x)) Hdg.out.symm⟩
                      · intro ρ W hI hbase hdep
                        have hc : ∀ v, ρ (.const v) = v := fun v => hbase _ (fun _ _ _ _ _ _ e => by cases e)
                        have hfn : ∀ f, ρ (.func f) = .func (.func f) #[] #[] := fun v => hbase _ (fun _ _ _ _ _ _ e => by cases e)
                        have p1 : ρ (.tmp 74) = .string dg := (Option.some.inj (hdep ⟨1, .data⟩ (by simp) rfl _ 74 rfl rfl : some (.string dg) = some (ρ (.tmp 74)))).symm
                        simp only [execOp, hc, hfn, p1]
                        go_simp
                        exact ⟨rfl, (HD.out W).mono fun e w' h => ⟨_, h.1, h.2, rfl⟩⟩
                      · intro ρ W hI hbase hdep
                        have hc : ∀ v, ρ (.const v) = v := fun v => hbase _ (fun _ _ _ _ _ _ e => by cases e)
                        have b10 : ρ (.tmp 10) = .pointer (some ⟨bH, 0, none⟩) := hbase (.tmp 10) (base_tmpL (by kernel_rfl))
                        simp only [execOp, hc, b10]
                        go_simp
                        exact ⟨Below.refl _ _, rfl⟩
                      · intro ρ W hI hbase hdep
                        have hc : ∀ v, ρ (.const v) = v := fun v => hbase _ (fun _ _ _ _ _ _ e => by cases e)
                        have p3 : ρ (.tmp 76) = .pointer (some ⟨bH, 1, none⟩) := (Option.some.inj (hdep ⟨3, .data⟩ (by simp) rfl _ 76 rfl rfl : some (.pointer (some ⟨bH, 1, none⟩)) = some (ρ (.tmp 76)))).symm
                        obtain ⟨k0, k1⟩ := hk W hI
                        simp only [execOp, hc, p3]
                        go_simp
                        exact ⟨Below.refl _ _, rfl⟩
                      · intro ρ W hI hbase hdep
                        have hc : ∀ v, ρ (.const v) = v := fun v => hbase _ (fun _ _ _ _ _ _ e => by cases e)
                        have b0 : ρ (.tmp 0) = .slice (some ⟨b, off, none⟩) n c := hbase (.tmp 0) (base_tmpL (by kernel_rfl))
                        simp only [execOp, hc, b0]
                        go_simp
                        exact ⟨Below.refl _ _, rfl⟩
                      · intro ρ W hI hbase hdep
                        have hc : ∀ v, ρ (.const v) = v := fun v => hbase _ (fun _ _ _ _ _ _ e => by cases e)
                        have b5 : ρ (.tmp 5) = .int .i64 (e : Int) := hbase (.tmp 5) (base_tmpL (by kernel_rfl))
                        simp only [execOp, hc, b5]
                        go_simp
                        exact ⟨Below.refl _ _, rfl⟩
                      · intro ρ W hI hbase hdep
                        have hc : ∀ v, ρ (.const v) = v := fun v => hbase _ (fun _ _ _ _ _ _ e => by cases e)
                        have p6 : ρ (.tmp 79) = .int .i64 (e : Int) := (Option.some.inj (hdep ⟨6, .data⟩ (by simp) rfl _ 79 rfl rfl : some (.int .i64 (e : Int)) = some (ρ (.tmp 79)))).symm
                        simp only [execOp, hc, p6]
                        go_simp
                        exact ⟨Below.refl _ _, rfl⟩
                      · intro ρ W hI hbase hdep
                        have hc : ∀ v, ρ (.const v) = v := fun v => hbase _ (fun _ _ _ _ _ _ e => by cases e)
                        have p5 : ρ (.tmp 78) = .slice (some ⟨b, off, none⟩) n c := (Option.some.inj (hdep ⟨5, .data⟩ (by simp) rfl _ 78 rfl rfl : some (.slice (some ⟨b, off, none⟩) n c) = some (ρ (.tmp 78)))).symm
                        have p7 : ρ (.tmp 80) = .int .i64 ((e : Int) + 4) := (Option.some.inj (hdep ⟨7, .data⟩ (by simp) rfl _ 80 rfl rfl : some (.int .i64 ((e : Int) + 4)) = some (ρ (.tmp 80)))).symm
                        simp only [execOp, hc, p5, p7]
                        go_simp
                        exact ⟨Below.refl _ _, rfl⟩
                      · intro ρ W hI hbase hdep
                        have hc : ∀ v, ρ (.const v) = v := fun v => hbase _ (fun _ _ _ _ _ _ e => by cases e)
                        have hfn : ∀ f, ρ (.func f) = .func (.func f) #[] #[] := fun v => hbase _ (fun _ _ _ _ _ _ e => by cases e)
                        have p8 : ρ (.tmp 81) = .slice A (n - (e + 4)) (c - (e + 4)) := (Option.some.inj (hdep ⟨8, .data⟩ (by simp) rfl _ 81 rfl rfl : some (.slice A (n - (e + 4)) (c - (e + 4))) = some (ρ (.tmp 81)))).symm
                        simp only [execOp, hc, hfn, p8]
                        go_simp
                        exact ⟨rfl, (HC.out W (HRB.out.below (below_then BV.out hI))).mono fun e w' ⟨g, cap, h1, h2, h3, h4⟩ => ⟨_, h1, h4, g, cap, rfl, Nat.le_trans hI.size h2, h3⟩⟩
                      · intro ρ W hI hbase hdep
                        have hc : ∀ v, ρ (.const v) = v := fun v => hbase _ (fun _ _ _ _ _ _ e => by cases e)
                        have p2 : ρ (.tmp 75) = .int .i64 st := (Option.some.inj (hdep ⟨2, .data⟩ (by simp) rfl _ 75 rfl rfl : some (.int .i64 st) = some (ρ (.tmp 75)))).symm
                        have p4 : ρ (.tmp 77) = .slice aH nH cH := (Option.some.inj (hdep ⟨4, .data⟩ (by simp) rfl _ 77 rfl rfl : some (.slice aH nH cH) = some (ρ (.tmp 77)))).symm
                        obtain ⟨g, cap, p9, hsp⟩ : ∃ g cap, ρ (.tmp 82) = .slice (some ⟨g, 0, none⟩) (n - (e + 4)) cap ∧ V.heap.size ≤ g ∧ RowAt W g (bV (lb.drop (e + 4))) := hdep ⟨9, .data⟩ (by simp) rfl _ 82 rfl rfl
                        simp only [execOp, hc, p2, p4, p9]
                        go_simp
                        exact ⟨Below.refl _ _, g, cap, rfl, hsp⟩
                      · intro ρ W hI hbase hdep
                        have hc : ∀ v, ρ (.const v) = v := fun v => hbase _ (fun _ _ _ _ _ _ e => by cases e)
                        simp only [execOp]
                        go_simp
                        exact ⟨below_alloc (Below.refl _ _) _, _, rfl, hI.size, blk_new _ _⟩
                      · trivial
                    · intro a' W hI ha hdf hall hrest
                      have e0 : a'.tmps.getD 73 undef = .string LN := (Option.some.inj (hall 0 _ 73 (by decide) rfl rfl : some (.string LN) = some (a'.tmps.getD 73 undef))).symm
                      have e1 : a'.tmps.getD 74 undef = .string dg := (Option.some.inj (hall 1 _ 74 (by decide) rfl rfl : some (.string dg) = some (a'.tmps.getD 74 undef))).symm
                      have e2 : a'.tmps.getD 75 undef = .int .i64 st := (Option.some.inj (hall 2 _ 75 (by decide) rfl rfl : some (.int .i64 st) = some (a'.tmps.getD 75 undef))).symm
                      have e3 : a'.tmps.getD 76 undef = .pointer (some ⟨bH, 1, none⟩) := (Option.some.inj (hall 3 _ 76 (by decide) rfl rfl : some (.pointer (some ⟨bH, 1, none⟩)) = some (a'.tmps.getD 76 undef))).symm
                      have e4 : a'.tmps.getD 77 undef = .slice aH nH cH := (Option.some.inj (hall 4 _ 77 (by decide) rfl rfl : some (.slice aH nH cH) = some (a'.tmps.getD 77 undef))).symm
                      have e5 : a'.tmps.getD 78 undef = .slice (some ⟨b, off, none⟩) n c := (Option.some.inj (hall 5 _ 78 (by decide) rfl rfl : some (.slice (some ⟨b, off, none⟩) n c) = some (a'.tmps.getD 78 undef))).symm
                      have e6 : a'.tmps.getD 79 undef = .int .i64 (e : Int) := (Option.some.inj (hall 6 _ 79 (by decide) rfl rfl : some (.int .i64 (e : Int)) = some (a'.tmps.getD 79 undef))).symm
                      have e7 : a'.tmps.getD 80 undef = .int .i64 ((e : Int) + 4) := (Option.some.inj (hall 7 _ 80 (by decide) rfl rfl : some (.int .i64 ((e : Int) + 4)) = some (a'.tmps.getD 80 undef))).symm
                      have e8 : a'.tmps.getD 81 undef = .slice A (n - (e + 4)) (c - (e + 4)) := (Option.some.inj (hall 8 _ 81 (by decide) rfl rfl : some (.slice A (n - (e + 4)) (c - (e + 4))) = some (a'.tmps.getD 81 undef))).symm
                      obtain ⟨g6, c6, e9, _, _⟩ : ∃ g cap, a'.tmps.getD 82 undef = .slice (some ⟨g, 0, none⟩) (n - (e + 4)) cap ∧ V.heap.size ≤ g ∧ RowAt W g (bV (lb.drop (e + 4))) := hall 9 _ 82 (by decide) rfl rfl
                      obtain ⟨gB, capB, e10, hgB, rowB⟩ : ∃ g cap, a'.tmps.getD 83 undef = .agg #[.int .i64 st, .slice aH nH cH, .slice (some ⟨g, 0, none⟩) (n - (e + 4)) cap] ∧ V.heap.size ≤ g ∧ RowAt W g (bV (lb.drop (e + 4))) := hall 10 _ 83 (by decide) rfl rfl
                      obtain ⟨G, e11, hG, bkG⟩ : ∃ G, a'.tmps.getD 11 undef = .pointer (some ⟨G, 0, none⟩) ∧ V.heap.size ≤ G ∧ W.heap[G]? = some (.cells #[.int .i64 0, .slice none 0 0, .slice none 0 0] 32 (0, 0)) := hall 11 _ 11 (by decide) rfl rfl
                      have ea := after_last [(73, _), (74, _), (75, _), (76, _), (77, _), (78, _), (79, _), (80, _), (81, _), (82, _), (83, _), (11, _)] ha hdf hrest (by kernel_rfl) (by simp only [List.forall_mem_cons]; exact ⟨e0, e1, e2, e3, e4, e5, e6, e7, e8, e9, e10, e11, fun _ h => by cases h⟩)
                      subst ea
                      simp only [List.foldl_cons, List.foldl_nil, List.setIfInBounds_toArray, List.set_cons_zero, List.set_cons_succ]
                      have belW := below_then BV.out hI
                      have bkRW := blk_then p2 hI
                      obtain ⟨x0, x1, x2, x3⟩ := cells4 bkRW
                      obtain ⟨y0, y1, y2⟩ := cells3 bkG
                      have hfz := fzr bkRW
                      have hfG := fzr bkG
                      have hWz := hI.size
                      have hGW : G < W.heap.size := (Array.getElem?_eq_some_iff.1 bkG).1
                      have hgW := rowB.lt
                      have hwW : w.heap.size < W.heap.size := by omega
                      have hwG : w.heap.size < G := by omega
                      have rowC := row_store3 rowB bkG (.int .i64 st) (.slice aH nH cH) (.slice (some ⟨gB, 0, none⟩) (n - (e + 4)) capB)
                      have BkRW := Lib.hid bkRW
                      have RowC := Lib.hid rowC
                      have BelW := Lib.hid belW
                      have RdV := Lib.hid rdV
                      have SlV := Lib.hid slV
                      clear e0 e1 e2 e3 e4 e5 e6 e7 e8 e9 e10 e11 hall hrest ha hdf rowC belW hk pH p2 p3 rdV bkRW bkG rowB slV
                      go_wp2_with (go_at_call 21; ((with_reducible refine (HFt.out _ _ _ hlH _ _ _ (RdV.out.below (by exact (by first | (with_reducible exact Below.refl _ _) | ((repeat' (first | (with_reducible exact Below.refl _ _) | (with_reducible assumption) | (with_reducible refine below_alloc ?_ _) | (with_reducible refine Below.drew ?_) | (with_reducible refine below_drewN ?_ _) | (with_reducible refine Below.setCell ?_ ?_ _) | refine below_then ?_ (by with_reducible assumption))) <;> (first | omega | (simp; done) | (simp; omega)))))) (by have := H20.out; omega) (by omega)).mono ?_); rintro e w' ⟨rfl, hb⟩; have hbF := hb; have bkF : w'.heap[w.heap.size]? = some (.cells #[.int .i64 0, .int .i64 0, .slice none 0 0, .slice none 0 0] 34 (0, 0)) := (by have pp := BkRW.out; exact (by repeat' (first | (with_reducible assumption) | (with_reducible exact blk_new _ _) | (with_reducible apply blk_set) | (with_reducible refine blk_new' _ _ _ (by first | omega | (simp only [World.size_alloc]; first | done | omega))) | (with_reducible refine blk_other ?_ _ _ _ (by omega)) | (with_reducible refine blk_drew ?_) | (with_reducible refine blk_alloc ?_ _) | refine blk_then ?_ (by with_reducible assumption)))); obtain ⟨v0', v1', v2', v3'⟩ := cells4 bkF; have fzF := fzr bkF; obtain ⟨hc, hf⟩ := bcell hb; have hz := hb.size; (try simp only [World.size_alloc, World.size_setCell, World.size_drew] at hz); obtain ⟨hlt, hle, hn1, hn2, hn3, hn4⟩ := bsize hb; (try simp only [World.size_alloc, World.size_setCell, World.size_drew] at hlt hle hn1 hn2 hn3 hn4); (try have hr0 : w.heap.size < w'.heap.size := by omega); (try have hr1 : w.heap.size + 1 < w'.heap.size := by omega); (try have hs0 : wS.heap.size < w'.heap.size := by omega); (try have hs1 : wG.heap.size < w'.heap.size := by omega)))
                      have hwz := hbF.size
                      (try simp only [World.size_setCell, World.size_alloc, World.size_drew] at hwz)
                      have slF : SlAt w' (w.heap.size + 1) V.heap.size aH nH (hV L) := (SlV.out.mono (Nat.le_refl _) (by omega)).then (by exact (by first | (with_reducible exact Below.refl _ _) | ((repeat' (first | (with_reducible exact Below.refl _ _) | (with_reducible assumption) | (with_reducible refine below_alloc ?_ _) | (with_reducible refine Below.drew ?_) | (with_reducible refine below_drewN ?_ _) | (with_reducible refine Below.setCell ?_ ?_ _) | refine below_then ?_ (by with_reducible assumption))) <;> (first | omega | (simp; done) | (simp; omega)))))
                      have rowF := RowC.out.then hbF
                      exact bodyPost_ret (res_row Tryz.results11 _ _ rfl (blk_cast (by repeat' (first | (with_reducible assumption) | (with_reducible exact blk_new _ _) | (with_reducible apply blk_set) | (with_reducible refine blk_alloc ?_ _) | (with_reducible refine blk_drew ?_) | refine blk_then ?_ (by with_reducible assumption))) (by first | (simp; done) | rfl)) Tryz.underlying34 rfl _ (by kernel_rfl) rfl) rfl (by rw [E.out]; exact ⟨_, _, _, _, _, _, V.heap.size, rfl, ⟨hlH, Hb3.out⟩, ⟨by omega, by first | omega | (simp; omega)⟩, (show SlAt _ (w.heap.size + 1) V.heap.size aH nH (hV L) by exact (by repeat' (first | (with_reducible assumption) | (with_reducible refine SlAt.alloc ?_ _) | (with_reducible refine SlAt.drew ?_) | (with_reducible refine SlAt.other ?_ _ _ (by first | omega | (simp; done) | (simp; omega))) | refine SlAt.then ?_ (by with_reducible assumption)))).mono (by omega) (Nat.le_refl _), RowAt.sl (by exact (by repeat' (first | (with_reducible assumption) | (with_reducible refine RowAt.alloc ?_ _) | (with_reducible refine RowAt.drew ?_) | (with_reducible refine RowAt.other ?_ _ _ (by first | omega | (simp; done) | (simp; omega))) | refine RowAt.then ?_ (by with_reducible assumption)))) _ (by omega) (by first | omega | (simp; omega)), by have bW := BelW.out; exact (by first | (with_reducible exact Below.refl _ _) | ((repeat' (first | (with_reducible exact Below.refl _ _) | (with_reducible assumption) | (with_reducible refine below_alloc ?_ _) | (with_reducible refine Below.drew ?_) | (with_reducible refine below_drewN ?_ _) | (with_reducible refine Below.setCell ?_ ?_ _) | refine below_then ?_ (by with_reducible assumption))) <;> (first | omega | (simp; done) | (simp; omega))))⟩)
                    --END
                  · have E := Lib.hid (show rspR lb = (rspFault st L (n - (e + 4)), noRs) by rw [E.out, rsEnd]; simp only [hb3]; rw [if_neg hq])
                    have hne : (rspFault st L (n - (e + 4)) != 0) = true := by simpa using hq
                    generalize rspFault st L (n - (e + 4)) = cf at *
                    have HFt := Lib.hid hsF
                    clear hq hsF
                    --LEAF fault
                    go_upto_region 17 with (first
                      | (go_at_call 42; ((with_reducible refine (HF.out _).mono ?_); rintro e w' ⟨rfl, hb⟩; obtain ⟨hc, hf⟩ := bcell hb; have hz := hb.size; (try simp only [World.size_alloc, World.size_setCell, World.size_drew] at hz); obtain ⟨hlt, hle, hn1, hn2, hn3, hn4⟩ := bsize hb; (try simp only [World.size_alloc, World.size_setCell, World.size_drew] at hlt hle hn1 hn2 hn3 hn4); (try have hr0 : w.heap.size < w'.heap.size := by omega); (try have hr1 : w.heap.size + 1 < w'.heap.size := by omega); (try have hs0 : wS.heap.size < w'.heap.size := by omega); (try have hs1 : wG.heap.size < w'.heap.size := by omega)))
                      | (go_at_call 43; ((with_reducible refine (HR.out _).mono ?_); rintro e' wH ⟨aH, nH, cH, rfl, ⟨hlH, hsH⟩, hb⟩; obtain ⟨hc, hf⟩ := bcell hb; have hz := hb.size; (try simp only [World.size_alloc, World.size_setCell, World.size_drew] at hz); obtain ⟨hlt, hle, hn1, hn2, hn3, hn4⟩ := bsize hb; (try simp only [World.size_alloc, World.size_setCell, World.size_drew] at hlt hle hn1 hn2 hn3 hn4); (try have hr0 : w.heap.size < wH.heap.size := by omega); (try have hr1 : w.heap.size + 1 < wH.heap.size := by omega); (try have hs0 : wS.heap.size < wH.heap.size := by omega); (try have hs1 : wG.heap.size < wH.heap.size := by omega))))
                    have p2 : (wH.alloc (.cells #[.int .i64 0, .slice aH nH cH] 56)).heap[w.heap.size]? = some (.cells #[.int .i64 0, .int .i64 0, .slice none 0 0, .slice none 0 0] 34) := (by repeat' (first | (with_reducible assumption) | (with_reducible exact blk_new _ _) | (with_reducible apply blk_set) | (with_reducible refine blk_new' _ _ _ (by first | omega | (simp only [World.size_alloc]; first | done | omega))) | (with_reducible refine blk_other ?_ _ _ _ (by omega)) | (with_reducible refine blk_drew ?_) | (with_reducible refine blk_alloc ?_ _) | refine blk_then ?_ (by with_reducible assumption)))
                    have p3 : (wH.alloc (.cells #[.int .i64 0, .slice aH nH cH] 56)).heap[w.heap.size + 1]? = some (.cells #[.int .i64 5, .int .i64 0, .slice none 0 0, .slice none 0 0] 34) := (by repeat' (first | (with_reducible assumption) | (with_reducible exact blk_new _ _) | (with_reducible apply blk_set) | (with_reducible refine blk_new' _ _ _ (by first | omega | (simp only [World.size_alloc]; first | done | omega))) | (with_reducible refine blk_other ?_ _ _ _ (by omega)) | (with_reducible refine blk_drew ?_) | (with_reducible refine blk_alloc ?_ _) | refine blk_then ?_ (by with_reducible assumption)))
                    have pH : (wH.alloc (.cells #[.int .i64 0, .slice aH nH cH] 56)).heap[wH.heap.size]? = some (.cells #[.int .i64 0, .slice aH nH cH] 56 (0, 0)) := blk_new _ _
                    have bV : Below w.heap.size w (wH.alloc (.cells #[.int .i64 0, .slice aH nH cH] 56)) := by exact (by first | (with_reducible exact Below.refl _ _) | ((repeat' (first | (with_reducible exact Below.refl _ _) | (with_reducible assumption) | (with_reducible refine below_alloc ?_ _) | (with_reducible refine Below.drew ?_) | (with_reducible refine below_drewN ?_ _) | (with_reducible refine Below.setCell ?_ ?_ _) | refine below_then ?_ (by with_reducible assumption))) <;> (first | omega | (simp; done) | (simp; omega))))
                    have BV := Lib.hid bV
                    have sH : SlAt (wH.alloc (.cells #[.int .i64 0, .slice aH nH cH] 56)) (w.heap.size + 1) wH.heap.size aH nH (hV L) := (hsH.mono (by omega) (Nat.le_refl _)).alloc _
                    have SH := Lib.hid sH
                    have lH : wH.heap.size < (wH.alloc (.cells #[.int .i64 0, .slice aH nH cH] 56)).heap.size := by simp
                    have l2 : w.heap.size < wH.heap.size := by omega
                    clear hsH bV sH
                    generalize (wH.alloc (.cells #[.int .i64 0, .slice aH nH cH] 56)) = V at *
                    generalize wH.heap.size = bH at *
                    obtain ⟨x0, x1, x2, x3⟩ := cells4 p2
                    obtain ⟨y0, y1, y2, y3⟩ := cells4 p3
                    obtain ⟨h0, h1⟩ := cells2 pH
                    have fz : ∀ k, V.frozen? ⟨w.heap.size, k, none⟩ = false := fun k => by simp [World.frozen?, p2]
                    have BV1 := BV.out
                    have slV := SH.out
                    have rdV := slV.rd
                    have hk : ∀ W, Below V.heap.size V W → W.cell? ⟨bH, 0, none⟩ = some (.int .i64 0) ∧ W.cell? ⟨bH, 1, none⟩ = some (.slice aH nH cH) := fun W hB => cells2 (blk_then pH hB)
                    go_upto_region 19 with (go_at_call 47; ((with_reducible refine (HD0.out _).mono ?_); rintro e w' ⟨rfl, rfl⟩))
                    refine wp_region_last (fun W => Below V.heap.size V W) (fun _ w w' => Below w.heap.size w w') (rrF [.string LN, .string dg, .int .i64 st, .pointer (some ⟨bH, 1, none⟩), .slice aH nH cH, .slice (some ⟨b, off, none⟩) n c, .int .i64 (e : Int), .int .i64 ((e : Int) + 4), .slice A (n - (e + 4)) (c - (e + 4))] 9 10 11 st (.slice aH nH cH) (n - (e + 4)) (lb.drop (e + 4)) V.heap.size) 12 rfl (by kernel_rfl) (by kernel_rfl) (by kernel_rfl) (Below.refl _ _).drew (fun _ _ _ h1 h2 => below_then h1 h2) (fun _ _ _ _ _ _ _ h1 h2 => rrF_keep _ _ _ _ h2 h1) ?_ rfl ?_
                    · repeat' (refine And.intro ?_ ?_)
                      · intro ρ W hI hbase hdep
                        have hc : ∀ v, ρ (.const v) = v := fun v => hbase _ (fun _ _ _ _ _ _ e => by cases e)
                        have b7 : ρ (.tmp 7) = .string LN := hbase (.tmp 7) (base_tmpL (by kernel_rfl))
                        simp only [execOp, hc, b7]
                        go_simp
                        exact ⟨Below.refl _ _, rfl⟩
                      · intro ρ W hI hbase hdep
                        have hc : ∀ v, ρ (.const v) = v := fun v => hbase _ (fun _ _ _ _ _ _ e => by cases e)
                        have p0 : ρ (.tmp 73) = .string LN := (Option.some.inj (hdep ⟨0, .data⟩ (by simp) rfl _ 73 rfl rfl : some (.string LN) = some (ρ (.tmp 73)))).symm
                        simp only [execOp, hc, p0]
                        go_simp
                        exact ⟨Below.refl _ _, by first | rfl | exact congrArg (fun x => some (Value.string x)) Hdg.out.symm⟩
                      · intro ρ W hI hbase hdep
                        have hc : ∀ v, ρ (.const v) = v := fun v => hbase _ (fun _ _ _ _ _ _ e => by cases e)
                        have hfn : ∀ f, ρ (.func f) = .func (.func f) #[] #[] := fun v => hbase _ (fun _ _ _ _ _ _ e => by cases e)
                        have p1 : ρ (.tmp 74) = .string dg := (Option.some.inj (hdep ⟨1, .data⟩ (by simp) rfl _ 74 rfl rfl : some (.string dg) = some (ρ (.tmp 74)))).symm
                        simp only [execOp, hc, hfn, p1]
                        go_simp
                        exact ⟨rfl, (HD.out W).mono fun e w' h => ⟨_, h.1, h.2, rfl⟩⟩
                      · intro ρ W hI hbase hdep
                        have hc : ∀ v, ρ (.const v) = v := fun v => hbase _ (fun _ _ _ _ _ _ e => by cases e)
                        have b10 : ρ (.tmp 10) = .pointer (some ⟨bH, 0, none⟩) := hbase (.tmp 10) (base_tmpL (by kernel_rfl))
                        simp only [execOp, hc, b10]
                        go_simp
                        exact ⟨Below.refl _ _, rfl⟩
                      · intro ρ W hI hbase hdep
                        have hc : ∀ v, ρ (.const v) = v := fun v => hbase _ (fun _ _ _ _ _ _ e => by cases e)
                        have p3 : ρ (.tmp 76) = .pointer (some ⟨bH, 1, none⟩) := (Option.some.inj (hdep ⟨3, .data⟩ (by simp) rfl _ 76 rfl rfl : some (.pointer (some ⟨bH, 1, none⟩)) = some (ρ (.tmp 76)))).symm
                        obtain ⟨k0, k1⟩ := hk W hI
                        simp only [execOp, hc, p3]
                        go_simp
                        exact ⟨Below.refl _ _, rfl⟩
                      · intro ρ W hI hbase hdep
                        have hc : ∀ v, ρ (.const v) = v := fun v => hbase _ (fun _ _ _ _ _ _ e => by cases e)
                        have b0 : ρ (.tmp 0) = .slice (some ⟨b, off, none⟩) n c := hbase (.tmp 0) (base_tmpL (by kernel_rfl))
                        simp only [execOp, hc, b0]
                        go_simp
                        exact ⟨Below.refl _ _, rfl⟩
                      · intro ρ W hI hbase hdep
                        have hc : ∀ v, ρ (.const v) = v := fun v => hbase _ (fun _ _ _ _ _ _ e => by cases e)
                        have b5 : ρ (.tmp 5) = .int .i64 (e : Int) := hbase (.tmp 5) (base_tmpL (by kernel_rfl))
                        simp only [execOp, hc, b5]
                        go_simp
                        exact ⟨Below.refl _ _, rfl⟩
                      · intro ρ W hI hbase hdep
                        have hc : ∀ v, ρ (.const v) = v := fun v => hbase _ (fun _ _ _ _ _ _ e => by cases e)
                        have p6 : ρ (.tmp 79) = .int .i64 (e : Int) := (Option.some.inj (hdep ⟨6, .data⟩ (by simp) rfl _ 79 rfl rfl : some (.int .i64 (e : Int)) = some (ρ (.tmp 79)))).symm
                        simp only [execOp, hc, p6]
                        go_simp
                        exact ⟨Below.refl _ _, rfl⟩
                      · intro ρ W hI hbase hdep
                        have hc : ∀ v, ρ (.const v) = v := fun v => hbase _ (fun _ _ _ _ _ _ e => by cases e)
                        have p5 : ρ (.tmp 78) = .slice (some ⟨b, off, none⟩) n c := (Option.some.inj (hdep ⟨5, .data⟩ (by simp) rfl _ 78 rfl rfl : some (.slice (some ⟨b, off, none⟩) n c) = some (ρ (.tmp 78)))).symm
                        have p7 : ρ (.tmp 80) = .int .i64 ((e : Int) + 4) := (Option.some.inj (hdep ⟨7, .data⟩ (by simp) rfl _ 80 rfl rfl : some (.int .i64 ((e : Int) + 4)) = some (ρ (.tmp 80)))).symm
                        simp only [execOp, hc, p5, p7]
                        go_simp
                        exact ⟨Below.refl _ _, rfl⟩
                      · intro ρ W hI hbase hdep
                        have hc : ∀ v, ρ (.const v) = v := fun v => hbase _ (fun _ _ _ _ _ _ e => by cases e)
                        have hfn : ∀ f, ρ (.func f) = .func (.func f) #[] #[] := fun v => hbase _ (fun _ _ _ _ _ _ e => by cases e)
                        have p8 : ρ (.tmp 81) = .slice A (n - (e + 4)) (c - (e + 4)) := (Option.some.inj (hdep ⟨8, .data⟩ (by simp) rfl _ 81 rfl rfl : some (.slice A (n - (e + 4)) (c - (e + 4))) = some (ρ (.tmp 81)))).symm
                        simp only [execOp, hc, hfn, p8]
                        go_simp
                        exact ⟨rfl, (HC.out W (HRB.out.below (below_then BV.out hI))).mono fun e w' ⟨g, cap, h1, h2, h3, h4⟩ => ⟨_, h1, h4, g, cap, rfl, Nat.le_trans hI.size h2, h3⟩⟩
                      · intro ρ W hI hbase hdep
                        have hc : ∀ v, ρ (.const v) = v := fun v => hbase _ (fun _ _ _ _ _ _ e => by cases e)
                        have p2 : ρ (.tmp 75) = .int .i64 st := (Option.some.inj (hdep ⟨2, .data⟩ (by simp) rfl _ 75 rfl rfl : some (.int .i64 st) = some (ρ (.tmp 75)))).symm
                        have p4 : ρ (.tmp 77) = .slice aH nH cH := (Option.some.inj (hdep ⟨4, .data⟩ (by simp) rfl _ 77 rfl rfl : some (.slice aH nH cH) = some (ρ (.tmp 77)))).symm
                        obtain ⟨g, cap, p9, hsp⟩ : ∃ g cap, ρ (.tmp 82) = .slice (some ⟨g, 0, none⟩) (n - (e + 4)) cap ∧ V.heap.size ≤ g ∧ RowAt W g (bV (lb.drop (e + 4))) := hdep ⟨9, .data⟩ (by simp) rfl _ 82 rfl rfl
                        simp only [execOp, hc, p2, p4, p9]
                        go_simp
                        exact ⟨Below.refl _ _, g, cap, rfl, hsp⟩
                      · intro ρ W hI hbase hdep
                        have hc : ∀ v, ρ (.const v) = v := fun v => hbase _ (fun _ _ _ _ _ _ e => by cases e)
                        simp only [execOp]
                        go_simp
                        exact ⟨below_alloc (Below.refl _ _) _, _, rfl, hI.size, blk_new _ _⟩
                      · trivial
                    · intro a' W hI ha hdf hall hrest
                      have e0 : a'.tmps.getD 73 undef = .string LN := (Option.some.inj (hall 0 _ 73 (by decide) rfl rfl : some (.string LN) = some (a'.tmps.getD 73 undef))).symm
                      have e1 : a'.tmps.getD 74 undef = .string dg := (Option.some.inj (hall 1 _ 74 (by decide) rfl rfl : some (.string dg) = some (a'.tmps.getD 74 undef))).symm
                      have e2 : a'.tmps.getD 75 undef = .int .i64 st := (Option.some.inj (hall 2 _ 75 (by decide) rfl rfl : some (.int .i64 st) = some (a'.tmps.getD 75 undef))).symm
                      have e3 : a'.tmps.getD 76 undef = .pointer (some ⟨bH, 1, none⟩) := (Option.some.inj (hall 3 _ 76 (by decide) rfl rfl : some (.pointer (some ⟨bH, 1, none⟩)) = some (a'.tmps.getD 76 undef))).symm
                      have e4 : a'.tmps.getD 77 undef = .slice aH nH cH := (Option.some.inj (hall 4 _ 77 (by decide) rfl rfl : some (.slice aH nH cH) = some (a'.tmps.getD 77 undef))).symm
                      have e5 : a'.tmps.getD 78 undef = .slice (some ⟨b, off, none⟩) n c := (Option.some.inj (hall 5 _ 78 (by decide) rfl rfl : some (.slice (some ⟨b, off, none⟩) n c) = some (a'.tmps.getD 78 undef))).symm
                      have e6 : a'.tmps.getD 79 undef = .int .i64 (e : Int) := (Option.some.inj (hall 6 _ 79 (by decide) rfl rfl : some (.int .i64 (e : Int)) = some (a'.tmps.getD 79 undef))).symm
                      have e7 : a'.tmps.getD 80 undef = .int .i64 ((e : Int) + 4) := (Option.some.inj (hall 7 _ 80 (by decide) rfl rfl : some (.int .i64 ((e : Int) + 4)) = some (a'.tmps.getD 80 undef))).symm
                      have e8 : a'.tmps.getD 81 undef = .slice A (n - (e + 4)) (c - (e + 4)) := (Option.some.inj (hall 8 _ 81 (by decide) rfl rfl : some (.slice A (n - (e + 4)) (c - (e + 4))) = some (a'.tmps.getD 81 undef))).symm
                      obtain ⟨g6, c6, e9, _, _⟩ : ∃ g cap, a'.tmps.getD 82 undef = .slice (some ⟨g, 0, none⟩) (n - (e + 4)) cap ∧ V.heap.size ≤ g ∧ RowAt W g (bV (lb.drop (e + 4))) := hall 9 _ 82 (by decide) rfl rfl
                      obtain ⟨gB, capB, e10, hgB, rowB⟩ : ∃ g cap, a'.tmps.getD 83 undef = .agg #[.int .i64 st, .slice aH nH cH, .slice (some ⟨g, 0, none⟩) (n - (e + 4)) cap] ∧ V.heap.size ≤ g ∧ RowAt W g (bV (lb.drop (e + 4))) := hall 10 _ 83 (by decide) rfl rfl
                      obtain ⟨G, e11, hG, bkG⟩ : ∃ G, a'.tmps.getD 11 undef = .pointer (some ⟨G, 0, none⟩) ∧ V.heap.size ≤ G ∧ W.heap[G]? = some (.cells #[.int .i64 0, .slice none 0 0, .slice none 0 0] 32 (0, 0)) := hall 11 _ 11 (by decide) rfl rfl
                      have ea := after_last [(73, _), (74, _), (75, _), (76, _), (77, _), (78, _), (79, _), (80, _), (81, _), (82, _), (83, _), (11, _)] ha hdf hrest (by kernel_rfl) (by simp only [List.forall_mem_cons]; exact ⟨e0, e1, e2, e3, e4, e5, e6, e7, e8, e9, e10, e11, fun _ h => by cases h⟩)
                      subst ea
                      simp only [List.foldl_cons, List.foldl_nil, List.setIfInBounds_toArray, List.set_cons_zero, List.set_cons_succ]
                      have belW := below_then BV.out hI
                      have bkRW := blk_then p2 hI
                      obtain ⟨x0, x1, x2, x3⟩ := cells4 bkRW
                      obtain ⟨y0, y1, y2⟩ := cells3 bkG
                      have hfz := fzr bkRW
                      have hfG := fzr bkG
                      have hWz := hI.size
                      have hGW : G < W.heap.size := (Array.getElem?_eq_some_iff.1 bkG).1
                      have hgW := rowB.lt
                      have hwW : w.heap.size < W.heap.size := by omega
                      have hwG : w.heap.size < G := by omega
                      have rowC := row_store3 rowB bkG (.int .i64 st) (.slice aH nH cH) (.slice (some ⟨gB, 0, none⟩) (n - (e + 4)) capB)
                      have BkRW := Lib.hid bkRW
                      have RowC := Lib.hid rowC
                      have BelW := Lib.hid belW
                      have RdV := Lib.hid rdV
                      have SlV := Lib.hid slV
                      clear e0 e1 e2 e3 e4 e5 e6 e7 e8 e9 e10 e11 hall hrest ha hdf rowC belW hk pH p2 p3 rdV bkRW bkG rowB slV
                      go_wp2_with (go_at_call 21; ((with_reducible refine (HFt.out _ _ _ hlH _ _ _ (RdV.out.below (by exact (by first | (with_reducible exact Below.refl _ _) | ((repeat' (first | (with_reducible exact Below.refl _ _) | (with_reducible assumption) | (with_reducible refine below_alloc ?_ _) | (with_reducible refine Below.drew ?_) | (with_reducible refine below_drewN ?_ _) | (with_reducible refine Below.setCell ?_ ?_ _) | refine below_then ?_ (by with_reducible assumption))) <;> (first | omega | (simp; done) | (simp; omega)))))) (by have := H20.out; omega) (by omega)).mono ?_); rintro e w' ⟨rfl, hb⟩; have hbF := hb; have bkF : w'.heap[w.heap.size]? = some (.cells #[.int .i64 0, .int .i64 0, .slice none 0 0, .slice none 0 0] 34 (0, 0)) := (by have pp := BkRW.out; exact (by repeat' (first | (with_reducible assumption) | (with_reducible exact blk_new _ _) | (with_reducible apply blk_set) | (with_reducible refine blk_new' _ _ _ (by first | omega | (simp only [World.size_alloc]; first | done | omega))) | (with_reducible refine blk_other ?_ _ _ _ (by omega)) | (with_reducible refine blk_drew ?_) | (with_reducible refine blk_alloc ?_ _) | refine blk_then ?_ (by with_reducible assumption)))); obtain ⟨v0', v1', v2', v3'⟩ := cells4 bkF; have fzF := fzr bkF; obtain ⟨hc, hf⟩ := bcell hb; have hz := hb.size; (try simp only [World.size_alloc, World.size_setCell, World.size_drew] at hz); obtain ⟨hlt, hle, hn1, hn2, hn3, hn4⟩ := bsize hb; (try simp only [World.size_alloc, World.size_setCell, World.size_drew] at hlt hle hn1 hn2 hn3 hn4); (try have hr0 : w.heap.size < w'.heap.size := by omega); (try have hr1 : w.heap.size + 1 < w'.heap.size := by omega); (try have hs0 : wS.heap.size < w'.heap.size := by omega); (try have hs1 : wG.heap.size < w'.heap.size := by omega)))
                      exact bodyPost_ret (res_row Tryz.results11 _ _ rfl (blk_cast (by repeat' (first | (with_reducible assumption) | (with_reducible exact blk_new _ _) | (with_reducible apply blk_set) | (with_reducible refine blk_alloc ?_ _) | (with_reducible refine blk_drew ?_) | refine blk_then ?_ (by with_reducible assumption))) (by first | (simp; done) | rfl)) Tryz.underlying34 rfl _ (by kernel_rfl) rfl) rfl (RpR.none E.out (by have bW := BelW.out; exact (by first | (with_reducible exact Below.refl _ _) | ((repeat' (first | (with_reducible exact Below.refl _ _) | (with_reducible assumption) | (with_reducible refine below_alloc ?_ _) | (with_reducible refine Below.drew ?_) | (with_reducible refine below_drewN ?_ _) | (with_reducible refine Below.setCell ?_ ?_ _) | refine below_then ?_ (by with_reducible assumption))) <;> (first | omega | (simp; done) | (simp; omega))))))
                    --END
                · have E := Lib.hid (show rspR lb = (5, noRs) by rw [HE1.out, if_neg (by simp [lineOK, c3])])
                  have k9 : (ba (line.drop 9)).size ≤ 9223372036854775807 := by rw [ba_size, List.length_drop]; omega
                  have hD := fun W => spec_l1Delta (ba (line.drop 9)) W k9
                  have hd1 : deltaI (ba (line.drop 9)) = -1 := by rw [deltaI, if_neg c3]
                  rw [hd1] at hD
                  have HD := Lib.hid hD
                  clear hD hd1
                  --LEAF nodelta
                  go_upto_region 17 with (first
                    | (go_at_call 42; ((with_reducible refine (HF.out _).mono ?_); rintro e w' ⟨rfl, hb⟩; obtain ⟨hc, hf⟩ := bcell hb; have hz := hb.size; (try simp only [World.size_alloc, World.size_setCell, World.size_drew] at hz); obtain ⟨hlt, hle, hn1, hn2, hn3, hn4⟩ := bsize hb; (try simp only [World.size_alloc, World.size_setCell, World.size_drew] at hlt hle hn1 hn2 hn3 hn4); (try have hr0 : w.heap.size < w'.heap.size := by omega); (try have hr1 : w.heap.size + 1 < w'.heap.size := by omega); (try have hs0 : wS.heap.size < w'.heap.size := by omega); (try have hs1 : wG.heap.size < w'.heap.size := by omega)))
                    | (go_at_call 43; ((with_reducible refine (HR.out _).mono ?_); rintro e' wH ⟨aH, nH, cH, rfl, ⟨hlH, hsH⟩, hb⟩; obtain ⟨hc, hf⟩ := bcell hb; have hz := hb.size; (try simp only [World.size_alloc, World.size_setCell, World.size_drew] at hz); obtain ⟨hlt, hle, hn1, hn2, hn3, hn4⟩ := bsize hb; (try simp only [World.size_alloc, World.size_setCell, World.size_drew] at hlt hle hn1 hn2 hn3 hn4); (try have hr0 : w.heap.size < wH.heap.size := by omega); (try have hr1 : w.heap.size + 1 < wH.heap.size := by omega); (try have hs0 : wS.heap.size < wH.heap.size := by omega); (try have hs1 : wG.heap.size < wH.heap.size := by omega))))
                  have p2 : (wH.alloc (.cells #[.int .i64 0, .slice aH nH cH] 56)).heap[w.heap.size]? = some (.cells #[.int .i64 0, .int .i64 0, .slice none 0 0, .slice none 0 0] 34) := (by repeat' (first | (with_reducible assumption) | (with_reducible exact blk_new _ _) | (with_reducible apply blk_set) | (with_reducible refine blk_new' _ _ _ (by first | omega | (simp only [World.size_alloc]; first | done | omega))) | (with_reducible refine blk_other ?_ _ _ _ (by omega)) | (with_reducible refine blk_drew ?_) | (with_reducible refine blk_alloc ?_ _) | refine blk_then ?_ (by with_reducible assumption)))
                  have p3 : (wH.alloc (.cells #[.int .i64 0, .slice aH nH cH] 56)).heap[w.heap.size + 1]? = some (.cells #[.int .i64 5, .int .i64 0, .slice none 0 0, .slice none 0 0] 34) := (by repeat' (first | (with_reducible assumption) | (with_reducible exact blk_new _ _) | (with_reducible apply blk_set) | (with_reducible refine blk_new' _ _ _ (by first | omega | (simp only [World.size_alloc]; first | done | omega))) | (with_reducible refine blk_other ?_ _ _ _ (by omega)) | (with_reducible refine blk_drew ?_) | (with_reducible refine blk_alloc ?_ _) | refine blk_then ?_ (by with_reducible assumption)))
                  have pH : (wH.alloc (.cells #[.int .i64 0, .slice aH nH cH] 56)).heap[wH.heap.size]? = some (.cells #[.int .i64 0, .slice aH nH cH] 56 (0, 0)) := blk_new _ _
                  have bV : Below w.heap.size w (wH.alloc (.cells #[.int .i64 0, .slice aH nH cH] 56)) := by exact (by first | (with_reducible exact Below.refl _ _) | ((repeat' (first | (with_reducible exact Below.refl _ _) | (with_reducible assumption) | (with_reducible refine below_alloc ?_ _) | (with_reducible refine Below.drew ?_) | (with_reducible refine below_drewN ?_ _) | (with_reducible refine Below.setCell ?_ ?_ _) | refine below_then ?_ (by with_reducible assumption))) <;> (first | omega | (simp; done) | (simp; omega))))
                  have BV := Lib.hid bV
                  have sH : SlAt (wH.alloc (.cells #[.int .i64 0, .slice aH nH cH] 56)) (w.heap.size + 1) wH.heap.size aH nH (hV L) := (hsH.mono (by omega) (Nat.le_refl _)).alloc _
                  have SH := Lib.hid sH
                  have lH : wH.heap.size < (wH.alloc (.cells #[.int .i64 0, .slice aH nH cH] 56)).heap.size := by simp
                  have l2 : w.heap.size < wH.heap.size := by omega
                  clear hsH bV sH
                  generalize (wH.alloc (.cells #[.int .i64 0, .slice aH nH cH] 56)) = V at *
                  generalize wH.heap.size = bH at *
                  obtain ⟨x0, x1, x2, x3⟩ := cells4 p2
                  obtain ⟨y0, y1, y2, y3⟩ := cells4 p3
                  obtain ⟨h0, h1⟩ := cells2 pH
                  have fz : ∀ k, V.frozen? ⟨w.heap.size, k, none⟩ = false := fun k => by simp [World.frozen?, p2]
                  have BV1 := BV.out
                  go_wp2_with (go_at_call 47; ((with_reducible refine (HD.out _).mono ?_); rintro e' w' ⟨rfl, rfl⟩))
                  exact bodyPost_ret (res_row Tryz.results11 _ _ rfl (blk_cast (by repeat' (first | (with_reducible assumption) | (with_reducible exact blk_new _ _) | (with_reducible apply blk_set) | (with_reducible refine blk_alloc ?_ _) | (with_reducible refine blk_drew ?_) | refine blk_then ?_ (by with_reducible assumption))) (by first | (simp; done) | rfl)) Tryz.underlying34 rfl _ (by kernel_rfl) rfl) rfl (RpR.none E.out (by exact (by first | (with_reducible exact Below.refl _ _) | ((repeat' (first | (with_reducible exact Below.refl _ _) | (with_reducible assumption) | (with_reducible refine below_alloc ?_ _) | (with_reducible refine Below.drew ?_) | (with_reducible refine below_drewN ?_ _) | (with_reducible refine Below.setCell ?_ ?_ _) | refine below_then ?_ (by with_reducible assumption))) <;> (first | omega | (simp; done) | (simp; omega))))))
                  --END
              · have e2 : ((LN.extract 0 9).toList == [72, 84, 84, 80, 47, 49, 46, 49, 32]) = false := by rw [eq_str]; exact decide_eq_false (fun q => c2 (hx0.symm.trans q))
                have E := Lib.hid (show rspR lb = (5, noRs) by rw [HE1.out, if_neg (by simp [lineOK, c2])])
                --LEAF nohttp
                go_upto_region 17 with (first
                  | (go_at_call 42; ((with_reducible refine (HF.out _).mono ?_); rintro e w' ⟨rfl, hb⟩; obtain ⟨hc, hf⟩ := bcell hb; have hz := hb.size; (try simp only [World.size_alloc, World.size_setCell, World.size_drew] at hz); obtain ⟨hlt, hle, hn1, hn2, hn3, hn4⟩ := bsize hb; (try simp only [World.size_alloc, World.size_setCell, World.size_drew] at hlt hle hn1 hn2 hn3 hn4); (try have hr0 : w.heap.size < w'.heap.size := by omega); (try have hr1 : w.heap.size + 1 < w'.heap.size := by omega); (try have hs0 : wS.heap.size < w'.heap.size := by omega); (try have hs1 : wG.heap.size < w'.heap.size := by omega)))
                  | (go_at_call 43; ((with_reducible refine (HR.out _).mono ?_); rintro e' wH ⟨aH, nH, cH, rfl, ⟨hlH, hsH⟩, hb⟩; obtain ⟨hc, hf⟩ := bcell hb; have hz := hb.size; (try simp only [World.size_alloc, World.size_setCell, World.size_drew] at hz); obtain ⟨hlt, hle, hn1, hn2, hn3, hn4⟩ := bsize hb; (try simp only [World.size_alloc, World.size_setCell, World.size_drew] at hlt hle hn1 hn2 hn3 hn4); (try have hr0 : w.heap.size < wH.heap.size := by omega); (try have hr1 : w.heap.size + 1 < wH.heap.size := by omega); (try have hs0 : wS.heap.size < wH.heap.size := by omega); (try have hs1 : wG.heap.size < wH.heap.size := by omega))))
                have p2 : (wH.alloc (.cells #[.int .i64 0, .slice aH nH cH] 56)).heap[w.heap.size]? = some (.cells #[.int .i64 0, .int .i64 0, .slice none 0 0, .slice none 0 0] 34) := (by repeat' (first | (with_reducible assumption) | (with_reducible exact blk_new _ _) | (with_reducible apply blk_set) | (with_reducible refine blk_new' _ _ _ (by first | omega | (simp only [World.size_alloc]; first | done | omega))) | (with_reducible refine blk_other ?_ _ _ _ (by omega)) | (with_reducible refine blk_drew ?_) | (with_reducible refine blk_alloc ?_ _) | refine blk_then ?_ (by with_reducible assumption)))
                have p3 : (wH.alloc (.cells #[.int .i64 0, .slice aH nH cH] 56)).heap[w.heap.size + 1]? = some (.cells #[.int .i64 5, .int .i64 0, .slice none 0 0, .slice none 0 0] 34) := (by repeat' (first | (with_reducible assumption) | (with_reducible exact blk_new _ _) | (with_reducible apply blk_set) | (with_reducible refine blk_new' _ _ _ (by first | omega | (simp only [World.size_alloc]; first | done | omega))) | (with_reducible refine blk_other ?_ _ _ _ (by omega)) | (with_reducible refine blk_drew ?_) | (with_reducible refine blk_alloc ?_ _) | refine blk_then ?_ (by with_reducible assumption)))
                have pH : (wH.alloc (.cells #[.int .i64 0, .slice aH nH cH] 56)).heap[wH.heap.size]? = some (.cells #[.int .i64 0, .slice aH nH cH] 56 (0, 0)) := blk_new _ _
                have bV : Below w.heap.size w (wH.alloc (.cells #[.int .i64 0, .slice aH nH cH] 56)) := by exact (by first | (with_reducible exact Below.refl _ _) | ((repeat' (first | (with_reducible exact Below.refl _ _) | (with_reducible assumption) | (with_reducible refine below_alloc ?_ _) | (with_reducible refine Below.drew ?_) | (with_reducible refine below_drewN ?_ _) | (with_reducible refine Below.setCell ?_ ?_ _) | refine below_then ?_ (by with_reducible assumption))) <;> (first | omega | (simp; done) | (simp; omega))))
                have BV := Lib.hid bV
                have sH : SlAt (wH.alloc (.cells #[.int .i64 0, .slice aH nH cH] 56)) (w.heap.size + 1) wH.heap.size aH nH (hV L) := (hsH.mono (by omega) (Nat.le_refl _)).alloc _
                have SH := Lib.hid sH
                have lH : wH.heap.size < (wH.alloc (.cells #[.int .i64 0, .slice aH nH cH] 56)).heap.size := by simp
                have l2 : w.heap.size < wH.heap.size := by omega
                clear hsH bV sH
                generalize (wH.alloc (.cells #[.int .i64 0, .slice aH nH cH] 56)) = V at *
                generalize wH.heap.size = bH at *
                obtain ⟨x0, x1, x2, x3⟩ := cells4 p2
                obtain ⟨y0, y1, y2, y3⟩ := cells4 p3
                obtain ⟨h0, h1⟩ := cells2 pH
                have fz : ∀ k, V.frozen? ⟨w.heap.size, k, none⟩ = false := fun k => by simp [World.frozen?, p2]
                have BV1 := BV.out
                go_wp2
                exact bodyPost_ret (res_row Tryz.results11 _ _ rfl (blk_cast (by repeat' (first | (with_reducible assumption) | (with_reducible exact blk_new _ _) | (with_reducible apply blk_set) | (with_reducible refine blk_alloc ?_ _) | (with_reducible refine blk_drew ?_) | refine blk_then ?_ (by with_reducible assumption))) (by first | (simp; done) | rfl)) Tryz.underlying34 rfl _ (by kernel_rfl) rfl) rfl (RpR.none E.out (by exact (by first | (with_reducible exact Below.refl _ _) | ((repeat' (first | (with_reducible exact Below.refl _ _) | (with_reducible assumption) | (with_reducible refine below_alloc ?_ _) | (with_reducible refine Below.drew ?_) | (with_reducible refine below_drewN ?_ _) | (with_reducible refine Below.setCell ?_ ?_ _) | refine below_then ?_ (by with_reducible assumption))) <;> (first | omega | (simp; done) | (simp; omega))))))
                --END
            · have k1 : ¬ ((LN.size : Int) = 12) := by omega
              have E := Lib.hid (show rspR lb = (5, noRs) by rw [HE1.out, if_neg (by simp [lineOK, c1])])
              --LEAF length
              go_upto_region 17 with (first
                | (go_at_call 42; ((with_reducible refine (HF.out _).mono ?_); rintro e w' ⟨rfl, hb⟩; obtain ⟨hc, hf⟩ := bcell hb; have hz := hb.size; (try simp only [World.size_alloc, World.size_setCell, World.size_drew] at hz); obtain ⟨hlt, hle, hn1, hn2, hn3, hn4⟩ := bsize hb; (try simp only [World.size_alloc, World.size_setCell, World.size_drew] at hlt hle hn1 hn2 hn3 hn4); (try have hr0 : w.heap.size < w'.heap.size := by omega); (try have hr1 : w.heap.size + 1 < w'.heap.size := by omega); (try have hs0 : wS.heap.size < w'.heap.size := by omega); (try have hs1 : wG.heap.size < w'.heap.size := by omega)))
                | (go_at_call 43; ((with_reducible refine (HR.out _).mono ?_); rintro e' wH ⟨aH, nH, cH, rfl, ⟨hlH, hsH⟩, hb⟩; obtain ⟨hc, hf⟩ := bcell hb; have hz := hb.size; (try simp only [World.size_alloc, World.size_setCell, World.size_drew] at hz); obtain ⟨hlt, hle, hn1, hn2, hn3, hn4⟩ := bsize hb; (try simp only [World.size_alloc, World.size_setCell, World.size_drew] at hlt hle hn1 hn2 hn3 hn4); (try have hr0 : w.heap.size < wH.heap.size := by omega); (try have hr1 : w.heap.size + 1 < wH.heap.size := by omega); (try have hs0 : wS.heap.size < wH.heap.size := by omega); (try have hs1 : wG.heap.size < wH.heap.size := by omega))))
              have p2 : (wH.alloc (.cells #[.int .i64 0, .slice aH nH cH] 56)).heap[w.heap.size]? = some (.cells #[.int .i64 0, .int .i64 0, .slice none 0 0, .slice none 0 0] 34) := (by repeat' (first | (with_reducible assumption) | (with_reducible exact blk_new _ _) | (with_reducible apply blk_set) | (with_reducible refine blk_new' _ _ _ (by first | omega | (simp only [World.size_alloc]; first | done | omega))) | (with_reducible refine blk_other ?_ _ _ _ (by omega)) | (with_reducible refine blk_drew ?_) | (with_reducible refine blk_alloc ?_ _) | refine blk_then ?_ (by with_reducible assumption)))
              have p3 : (wH.alloc (.cells #[.int .i64 0, .slice aH nH cH] 56)).heap[w.heap.size + 1]? = some (.cells #[.int .i64 5, .int .i64 0, .slice none 0 0, .slice none 0 0] 34) := (by repeat' (first | (with_reducible assumption) | (with_reducible exact blk_new _ _) | (with_reducible apply blk_set) | (with_reducible refine blk_new' _ _ _ (by first | omega | (simp only [World.size_alloc]; first | done | omega))) | (with_reducible refine blk_other ?_ _ _ _ (by omega)) | (with_reducible refine blk_drew ?_) | (with_reducible refine blk_alloc ?_ _) | refine blk_then ?_ (by with_reducible assumption)))
              have pH : (wH.alloc (.cells #[.int .i64 0, .slice aH nH cH] 56)).heap[wH.heap.size]? = some (.cells #[.int .i64 0, .slice aH nH cH] 56 (0, 0)) := blk_new _ _
              have bV : Below w.heap.size w (wH.alloc (.cells #[.int .i64 0, .slice aH nH cH] 56)) := by exact (by first | (with_reducible exact Below.refl _ _) | ((repeat' (first | (with_reducible exact Below.refl _ _) | (with_reducible assumption) | (with_reducible refine below_alloc ?_ _) | (with_reducible refine Below.drew ?_) | (with_reducible refine below_drewN ?_ _) | (with_reducible refine Below.setCell ?_ ?_ _) | refine below_then ?_ (by with_reducible assumption))) <;> (first | omega | (simp; done) | (simp; omega))))
              have BV := Lib.hid bV
              have sH : SlAt (wH.alloc (.cells #[.int .i64 0, .slice aH nH cH] 56)) (w.heap.size + 1) wH.heap.size aH nH (hV L) := (hsH.mono (by omega) (Nat.le_refl _)).alloc _
              have SH := Lib.hid sH
              have lH : wH.heap.size < (wH.alloc (.cells #[.int .i64 0, .slice aH nH cH] 56)).heap.size := by simp
              have l2 : w.heap.size < wH.heap.size := by omega
              clear hsH bV sH
              generalize (wH.alloc (.cells #[.int .i64 0, .slice aH nH cH] 56)) = V at *
              generalize wH.heap.size = bH at *
              obtain ⟨x0, x1, x2, x3⟩ := cells4 p2
              obtain ⟨y0, y1, y2, y3⟩ := cells4 p3
              obtain ⟨h0, h1⟩ := cells2 pH
              have fz : ∀ k, V.frozen? ⟨w.heap.size, k, none⟩ = false := fun k => by simp [World.frozen?, p2]
              have BV1 := BV.out
              go_wp2
              exact bodyPost_ret (res_row Tryz.results11 _ _ rfl (blk_cast (by repeat' (first | (with_reducible assumption) | (with_reducible exact blk_new _ _) | (with_reducible apply blk_set) | (with_reducible refine blk_alloc ?_ _) | (with_reducible refine blk_drew ?_) | refine blk_then ?_ (by with_reducible assumption))) (by first | (simp; done) | rfl)) Tryz.underlying34 rfl _ (by kernel_rfl) rfl) rfl (RpR.none E.out (by exact (by first | (with_reducible exact Below.refl _ _) | ((repeat' (first | (with_reducible exact Below.refl _ _) | (with_reducible assumption) | (with_reducible refine below_alloc ?_ _) | (with_reducible refine Below.drew ?_) | (with_reducible refine below_drewN ?_ _) | (with_reducible refine Below.setCell ?_ ?_ _) | refine below_then ?_ (by with_reducible assumption))) <;> (first | omega | (simp; done) | (simp; omega))))))
              --END
          · have E := Lib.hid (show rspR lb = ((readR (ba rest)).1, noRs) by rw [ER.out, rsMid, if_neg hz0])
            generalize (readR (ba rest)).1 = cd at *
            generalize (readR (ba rest)).2 = L at *
            have HR := Lib.hid hR
            have hne : (cd != 0) = true := by simpa using hz0
            clear hR ER
            --LEAF code
            go_wp2_with (first
              | (go_at_call 42; ((with_reducible refine (HF.out _).mono ?_); rintro e w' ⟨rfl, hb⟩; obtain ⟨hc, hf⟩ := bcell hb; have hz := hb.size; (try simp only [World.size_alloc, World.size_setCell, World.size_drew] at hz); obtain ⟨hlt, hle, hn1, hn2, hn3, hn4⟩ := bsize hb; (try simp only [World.size_alloc, World.size_setCell, World.size_drew] at hlt hle hn1 hn2 hn3 hn4); (try have hr0 : w.heap.size < w'.heap.size := by omega); (try have hr1 : w.heap.size + 1 < w'.heap.size := by omega); (try have hs0 : wS.heap.size < w'.heap.size := by omega); (try have hs1 : wG.heap.size < w'.heap.size := by omega)))
              | (go_at_call 43; ((with_reducible refine (HR.out _).mono ?_); rintro e wH ⟨aH, nH, cH, rfl, ⟨hlH, hsH⟩, hb⟩; obtain ⟨hc, hf⟩ := bcell hb; have hz := hb.size; (try simp only [World.size_alloc, World.size_setCell, World.size_drew] at hz); obtain ⟨hlt, hle, hn1, hn2, hn3, hn4⟩ := bsize hb; (try simp only [World.size_alloc, World.size_setCell, World.size_drew] at hlt hle hn1 hn2 hn3 hn4); (try have hr0 : w.heap.size < wH.heap.size := by omega); (try have hr1 : w.heap.size + 1 < wH.heap.size := by omega); (try have hs0 : wS.heap.size < wH.heap.size := by omega); (try have hs1 : wG.heap.size < wH.heap.size := by omega))))
            exact bodyPost_ret (res_row Tryz.results11 _ _ rfl (blk_cast (by repeat' (first | (with_reducible assumption) | (with_reducible exact blk_new _ _) | (with_reducible apply blk_set) | (with_reducible refine blk_alloc ?_ _) | (with_reducible refine blk_drew ?_) | refine blk_then ?_ (by with_reducible assumption))) (by first | (simp; done) | rfl)) Tryz.underlying34 rfl _ (by kernel_rfl) rfl) rfl (RpR.none E.out (by exact (by first | (with_reducible exact Below.refl _ _) | ((repeat' (first | (with_reducible exact Below.refl _ _) | (with_reducible assumption) | (with_reducible refine below_alloc ?_ _) | (with_reducible refine Below.drew ?_) | (with_reducible refine below_drewN ?_ _) | (with_reducible refine Below.setCell ?_ ?_ _) | refine below_then ?_ (by with_reducible assumption))) <;> (first | omega | (simp; done) | (simp; omega))))))
            --END
end Go.Proofs.YtbiodbggaeglpaaGreatDoor
