/- Joined: KeyK. -/
import Derived.Test.YthiogijicknoiaaGreatDoorJB14
import Derived.Test.YthiogijicknoiaaGreatDoorJB25
import Derived.Test.YthiogijicknoiaaGreatDoorJB0
/- The key of a request: the reference's text. -/
namespace Go.Proofs.YthiogijicknoiaaGreatDoor
open Go.RowKit
set_option linter.unusedSimpArgs false
set_option linter.unusedVariables false

theorem queryT_one (l : List ByteArray) (h : 0 < l.length) : queryT (l.take 1) = ⟨#[63]⟩ ++ l[0] := by
  cases l with
  | nil => cases h
  | cons x r =>
    show queryT [x] = _
    unfold queryT
    rw [if_neg (by simp), joinB_one]
    rfl
theorem queryT_next (l : List ByteArray) (k : Nat) (h : k < l.length) (h0 : 0 < k) : queryT (l.take (k + 1)) = queryT (l.take k) ++ ⟨#[38]⟩ ++ l[k] := by
  have hne : l.take k ≠ [] := fun e => by
    have := congrArg List.length e
    rw [List.length_take, List.length_nil] at this
    omega
  rw [List.take_add_one, List.getElem?_eq_getElem h, Option.toList_some]
  unfold queryT
  rw [if_neg hne, if_neg (fun e => by have := congrArg List.length e; rw [List.length_append, List.length_singleton, List.length_nil] at this; omega), joinB_snoc _ _ _ hne]
  apply ByteArray.ext
  simp [ByteArray.data_append, ampS]
theorem queryT_size (l : List ByteArray) (h : ∀ x ∈ l, x.size ≤ 100) : (queryT l).size ≤ 1 + l.length * 101 := by
  unfold queryT
  split
  · exact Nat.zero_le _
  · have := joinB_size ampS 100 l h
    rw [show ampS.size = 1 from rfl] at this
    rw [ByteArray.size_append]
    show 1 + _ ≤ _
    omega
theorem nemB_snoc (l : List ByteArray) (k : Nat) (h : k < l.length) : nemB (l.take (k + 1)) = nemB (l.take k) ++ (if l[k].toList.isEmpty = true then [] else [l[k]]) := by
  unfold nemB
  rw [List.take_add_one, List.getElem?_eq_getElem h, Option.toList_some, List.filter_append]
  congr 1
  cases hx : l[k].toList.isEmpty <;> simp [hx]
set_option maxRecDepth 100000 in
set_option maxHeartbeats 6400000 in
theorem spec_l5Key (G : Nat) (m h p : ByteArray) (v : Value) (hh : h.size ≤ 100) (hp : p.size ≤ 100) (w : World) (hG : w.heap[G]? = some (.cells #[.string m, .string h, .string p, v] 26 (0, 0))) : Calls Tryz.prog 112 #[.pointer (some ⟨G, 0, none⟩)] w fun e w' => e = .returned (.string (keyT h p)) ∧ Below w.heap.size w w' := by
  obtain ⟨a, q, b, hcc, hna, hcase⟩ := cut_one p.data.toList 63
  have hpl : p.data.toList.length = p.size := Array.length_toList
  have hal : a.length ≤ p.size := by
    rcases hcase with ⟨_, e⟩ | ⟨_, _, e⟩
    · have := congrArg List.length e
      rw [List.length_append, List.length_cons] at this; omega
    · rw [← hpl, e]; exact Nat.le_refl _
  have hkey : keyT h p = lowS h ++ ba a ++ queryT (sortB (nemB (cutB 38 (ba q)))) := by rw [sorted_nem]; unfold keyT; rw [hcc]
  have hext : p.extract 0 a.length = ba a := by
    rw [ext_to]
    rcases hcase with ⟨_, e⟩ | ⟨_, _, e⟩
    · rw [e, List.take_left' rfl]
    · rw [e, List.take_length]
  have hget : ∀ i (hi : i < p.size), i < a.length → ((p[i].toNat : Int) != 63) = true := fun i hi h => by
    have h1 : p[i] = a[i] := by
      have e1 : p.data.toList[i]'(by rw [hpl]; exact hi) = p[i] := rfl
      rw [← e1]
      rcases hcase with ⟨_, e⟩ | ⟨_, _, e⟩
      · simp only [e]; rw [List.getElem_append_left h]
      · simp only [e]
    have h2 := hna a[i] (List.getElem_mem h)
    rw [← h1] at h2
    rw [bne_iff_ne]
    intro e
    exact h2 (UInt8.toNat_inj.1 (by show _ = 63; omega))
  have hstop : ∀ (hi : a.length < p.size), b = true ∧ ((p[a.length].toNat : Int) != 63) = false := fun hi => by
    rcases hcase with ⟨hb, e⟩ | ⟨_, _, e⟩
    · refine ⟨hb, ?_⟩
      have e1 : p.data.toList[a.length]'(by rw [hpl]; exact hi) = p[a.length] := rfl
      rw [← e1]
      simp [e]
    · have := congrArg List.length e; omega
  have hx := cells4 hG
  obtain ⟨x0, x1, x2, x3⟩ := hx
  have hGl : G < w.heap.size := (Array.getElem?_eq_some_iff.1 hG).1
  have Hget := Lib.hid hget
  have Hstop := Lib.hid hstop
  have HG := Lib.hid hG
  have Hcase := Lib.hid hcase
  clear hget hstop hG hna hcase hcc
  go_enter Tryz.func112, Tryz.ntmps112
  go_wp2
  go_loop [3] (fun iv => ∃ i : Nat, iv = .int .i64 (i : Int) ∧ i ≤ a.length) (fun iv => a.length - (intOf iv).toNat)
  case atStart => exact ⟨0, rfl, Nat.zero_le _⟩
  case round =>
    obtain ⟨i, rfl, hi⟩ := hrel
    by_cases hlt : i < a.length
    · have hip : i < p.size := by omega
      have hg := Hget.out i hip hlt
      --LEAF find
      go_wp2
      go_round
      case rel => exact ⟨i + 1, by go_num, by omega⟩
      case measure => simp [intOf]; omega
      --END
    · obtain rfl : i = a.length := by omega
      have hlz := lowS_size h
      have hlw := fun W => spec_l1Lower h W (by omega)
      have haz : (ba a).size ≤ 100 := by rw [ba_size]; omega
      have f1 : (9223372036854775807 < (lowS h).size + (ba a).size) = False := eq_false (by omega)
      have q1 : (a.length : Int) ≤ (p.size : Int) := by omega
      have f1b : (9223372036854775807 < (lowS h).size + p.size) = False := eq_false (by omega)
      have HLW := Lib.hid hlw
      clear hlz hlw
      have y0 := fun z : Gb w => (cells4 (blk_then HG.out z.h)).1
      have y1 := fun z : Gb w => (cells4 (blk_then HG.out z.h)).2.1
      have y2 := fun z : Gb w => (cells4 (blk_then HG.out z.h)).2.2.1
      by_cases hip : a.length < p.size
      · have hg := (Hstop.out hip).2
        have hne : ((a.length : Int) == (p.size : Int)) = false := by rw [beq_eq_false_iff_ne]; omega
        have g1 : IntKind.i64.wrap ((a.length : Int) + 1) = (a.length : Int) + 1 := wrapi _ (by omega) (by omega)
        have g2 : (0 : Int) ≤ (a.length : Int) + 1 := by omega
        have g3 : (a.length : Int) + 1 ≤ (p.size : Int) := by omega
        have g4 : ((a.length : Int) + 1).toNat = a.length + 1 := by omega
        have hq2 : p.extract (a.length + 1) p.size = ba q := by
          rw [ext_from]
          rcases Hcase.out with ⟨_, e⟩ | ⟨_, _, e⟩
          · rw [e, show a ++ 63 :: q = (a ++ [63]) ++ q by simp, List.drop_left' (by simp)]
          · have := congrArg List.length e; omega
        have hqz : q.length ≤ p.size := by
          rcases Hcase.out with ⟨_, e⟩ | ⟨_, _, e⟩
          · have := congrArg List.length e
            rw [List.length_append, List.length_cons] at this; omega
          · have := congrArg List.length e; omega
        have hcu := fun W => spec_l1Cut (ba q) (by rw [ba_size]; omega) 38 38 rfl W
        have hLn := cutB_len 38 (ba q)
        have hLm := cutB_mem 38 (ba q)
        rw [ba_size] at hLn hLm
        have hbz : (lowS h ++ ba a).size ≤ 200 := by rw [ByteArray.size_append, lowS_size]; omega
        generalize cutB 38 (ba q) = L at *
        generalize ba q = Q at *
        have HCU := Lib.hid hcu
        have HLM := Lib.hid hLm
        have Hkey := Lib.hid hkey
        clear hcu hLm hkey
        --LEAF more
        go_wp2
        refine wp_region_below (by kernel_rfl) (by kernel_rfl) ?_
        repeat (quiet_step ((go_at_call 118; exact gb_call (HLW.out _))))
        refine wpQuiet_nil ?_
        intro _ hw'
        obtain ⟨pz, rfl⟩ := hw'
        have hz2 : Below w.heap.size w pz.w := pz.h
        have hGz := blk_then HG.out hz2
        clear y0 y1 y2
        generalize pz.w = z at *
        obtain ⟨z0, z1, z2, z3⟩ := cells4 hGz
        have HGz := Lib.hid hGz
        have lGz : G < z.heap.size := (Array.getElem?_eq_some_iff.1 hGz).1
        clear hGz
        go_upto_region 9 with (go_at_call 137; ((with_reducible refine (HCU.out _).mono ?_); rintro e wC ⟨gl, capl, rfl, hownl, hb⟩; obtain ⟨ol1, ol2, rowl⟩ := own_at hownl; obtain ⟨hc, hf⟩ := bcell hb; have hz := hb.size; (try simp only [World.size_alloc, World.size_setCell, World.size_drew] at hz); obtain ⟨hlt, hle, hn1, hn2, hn3, hn4⟩ := bsize hb; (try simp only [World.size_alloc, World.size_setCell, World.size_drew] at hlt hle hn1 hn2 hn3 hn4); (try have hr0 : w.heap.size < wC.heap.size := by omega); (try have hr1 : w.heap.size + 1 < wC.heap.size := by omega); (try have hs0 : wS.heap.size < wC.heap.size := by omega); (try have hs1 : wG.heap.size < wC.heap.size := by omega)))
        have hS0 : SRow wC z.heap.size 0 0 [] := (SRow.start z 9).then hb
        have hneg : z.heap.size ≠ gl := by simp only [World.size_alloc] at ol1; omega
        have bC : Below z.heap.size z wC := by exact (by first | (with_reducible exact Below.refl _ _) | ((repeat' (first | (with_reducible exact Below.refl _ _) | (with_reducible assumption) | (with_reducible refine below_alloc ?_ _) | (with_reducible refine Below.drew ?_) | (with_reducible refine below_drewN ?_ _) | (with_reducible refine Below.setCell ?_ ?_ _) | refine below_then ?_ (by with_reducible assumption))) <;> (first | omega | (simp; done) | (simp; omega))))
        clear hownl ol1 hc hf hz
        generalize lowS h ++ ba a = K at *
        go_wp2
        go_loopw [5, 7] (fun v i wr => ∃ k g cap, k ≤ L.length ∧ i = .int .i64 (k : Int) ∧ v = .slice (some ⟨g, 0, none⟩) (nemB (L.take k)).length cap ∧ (z.heap.size ≤ g ∧ g ≠ gl) ∧ SRow wr g (nemB (L.take k)).length cap (nemB (L.take k)) ∧ RowAt wr gl (strV L) ∧ Below z.heap.size z wr) (fun _ i _ => L.length - (intOf i).toNat)
        case atStart => exact ⟨0, z.heap.size, 0, Nat.zero_le _, rfl, rfl, ⟨Nat.le_refl _, hneg⟩, hS0, rowl, bC⟩
        case round =>
          obtain ⟨k, g, cap, hk, rfl, rfl, ⟨hg0, hgl⟩, hS, hrl, hbr⟩ := hrel
          have hkL : (nemB (L.take k)).length ≤ k := Nat.le_trans (nemB_le _) (by rw [List.length_take]; omega)
          have hrlt := hrl.lt
          have hglt := hS.lt
          by_cases hlt : k < L.length
          · have hcx := hrl.cell k _ (strV_at L k hlt)
            have hsn := nemB_snoc L k hlt
            have hxz := HLM.out _ (List.getElem_mem hlt)
            generalize nemB (L.take k) = r at *
            generalize L[k] = x at *
            cases hx : x.toList.isEmpty with
            | true =>
              rw [hx, if_pos rfl, List.append_nil] at hsn
              have Hsn := Lib.hid hsn
              have hx2 : (x.toList == ([] : List UInt8)) = true := by rw [← hx]; cases x.toList <;> rfl
              have HS := Lib.hid hS
              have HRL := Lib.hid hrl
              clear hsn hS hrl
              go_wp2
              go_roundw
              case rel => exact ⟨k + 1, g, cap, by omega, by go_num, by rw [Hsn.out], ⟨hg0, hgl⟩, by rw [Hsn.out]; exact HS.out, HRL.out, hbr⟩
              case measure => simp [intOf]; omega
            | false =>
              rw [hx, if_neg (by decide)] at hsn
              have Hsn := Lib.hid hsn
              have hx2 : (x.toList == ([] : List UInt8)) = false := by rw [← hx]; cases x.toList <;> rfl
              obtain ⟨g', cap', W2, d1, ⟨d2, d5⟩, d3, d4⟩ := app_str2 z.heap.size (some ⟨wr.heap.size, 0, none⟩) 1 1 [x] rfl g r.length cap r (wr.alloc (.cells #[.string x] 9 (0, 0))) (hS.then (below_alloc (Below.refl _ _) _)) hg0 (by rw [World.size_alloc]; have := hbr.size; omega) (RowAt.rd (RowAt.of_alloc _ _ _ _ rfl)) (by omega) 27
              rw [World.size_alloc] at d5
              have D1 := Lib.hid d1
              have D3 := Lib.hid d3
              have HB2 := Lib.hid (d4.below (below_alloc hbr _) hg0)
              have HRL := Lib.hid ((hrl.alloc (.cells #[.string x] 9 (0, 0))).block (d4.block gl (by rw [World.size_alloc]; omega) (by omega)))
              have hgl2 : g' ≠ gl := by omega
              clear hsn hS hrl d1 d3 d4
              go_wp2_with (at_builtin; refine wpList_appB (v := .slice (some ⟨g, 0, none⟩) r.length cap) (xv := .slice (some ⟨wr.heap.size, 0, none⟩) 1 1) rfl _ _ rfl (by rfl) (by rfl) D1.out ?_)
              go_roundw
              case rel => exact ⟨k + 1, g', cap', by omega, by go_num, by rw [Hsn.out, List.length_append]; rfl, ⟨d2, hgl2⟩, by rw [Hsn.out, List.length_append]; exact D3.out, HRL.out, HB2.out⟩
              case measure => simp [intOf]; omega
          · obtain rfl : k = L.length := by omega
            rw [List.take_length] at *
            have hSl := sortB_len (nemB L)
            have hSm : ∀ x ∈ sortB (nemB L), x.size ≤ 100 := fun x hx => Nat.le_trans (HLM.out x (List.mem_filter.1 (insG_mem2 hx)).1) (by omega)
            have hso := fun W hr => spec_l5Sort (nemB L) (some ⟨g, 0, none⟩) (nemB L).length cap rfl W hr (by omega)
            have hrdS := hS.row.rd
            have hqs : ∀ k, k ≤ (sortB (nemB L)).length → (queryT ((sortB (nemB L)).take k)).size ≤ 20000 := fun k hk => by
              have h1 := queryT_size ((sortB (nemB L)).take k) (fun x hx => hSm x (List.mem_of_mem_take hx))
              have h2 : ((sortB (nemB L)).take k).length ≤ 102 := by rw [List.length_take]; omega
              have h3 : ((sortB (nemB L)).take k).length * 101 ≤ 102 * 101 := Nat.mul_le_mul_right _ h2
              omega
            generalize sortB (nemB L) = S at *
            generalize nemB L = M at *
            have HSO := Lib.hid hso
            have HQS := Lib.hid hqs
            have HSM := Lib.hid hSm
            clear hso hqs hSm hS hrl
            go_upto_region 15 with (go_at_call 162; ((with_reducible refine (HSO.out _ hrdS).mono ?_); rintro e wS ⟨gS, capS, rfl, hgS, rowS, hb⟩; have bS : Below z.heap.size z wS := below_then hbr hb))
            have HBS := Lib.hid (below_then hz2 bS)
            clear hrdS hb bS
            go_wp2
            go_loop [4, 8] (fun o i => ∃ k, k ≤ S.length ∧ i = .int .i64 (k : Int) ∧ o = .string (K ++ queryT (S.take k))) (fun _ i => S.length - (intOf i).toNat)
            case atStart => exact ⟨0, Nat.zero_le _, rfl, by rw [List.take_zero]; show _ = Value.string (K ++ ⟨#[]⟩); rw [app_nilB]⟩
            case round =>
              obtain ⟨j, hj, rfl, rfl⟩ := hrel
              have hoz := HQS.out j hj
              have hOz : (K ++ queryT (S.take j)).size ≤ 21000 := by rw [ByteArray.size_append]; omega
              by_cases hjl : j < S.length
              · have hcs := rowS.cell j _ (strV_at S j hjl)
                have hxz := HSM.out _ (List.getElem_mem hjl)
                have hj2 : (j : Int) < (M.length : Int) := by omega
                have hj3 : j < M.length := by omega
                by_cases hj0 : j = 0
                · subst hj0
                  have e1 : K ++ queryT (S.take (0 + 1)) = K ++ queryT (S.take 0) ++ ⟨#[63]⟩ ++ S[0] := by
                    rw [Nat.zero_add, queryT_one S hjl, List.take_zero]
                    show _ = K ++ ⟨#[]⟩ ++ _ ++ _
                    rw [app_nilB, ByteArray.append_assoc]
                  generalize K ++ queryT (S.take 0) = O at *
                  generalize S[0] = x at *
                  have f2 : (9223372036854775807 < O.size + 1) = False := eq_false (by omega)
                  have f3 : (9223372036854775807 < O.size + 1 + x.size) = False := eq_false (by omega)
                  have E1 := Lib.hid e1
                  clear e1
                  go_wp2
                  go_round
                  case rel => exact ⟨1, by omega, by go_num, by rw [E1.out]⟩
                  case measure => simp [intOf]; omega
                · have e1 : K ++ queryT (S.take (j + 1)) = K ++ queryT (S.take j) ++ ⟨#[38]⟩ ++ S[j] := by
                    rw [queryT_next S j hjl (by omega), ByteArray.append_assoc, ByteArray.append_assoc, ByteArray.append_assoc]
                  have hji : ¬ ((j : Int) = 0) := by omega
                  generalize K ++ queryT (S.take j) = O at *
                  generalize S[j] = x at *
                  have f2 : (9223372036854775807 < O.size + 1) = False := eq_false (by omega)
                  have f3 : (9223372036854775807 < O.size + 1 + x.size) = False := eq_false (by omega)
                  have E1 := Lib.hid e1
                  clear e1
                  go_wp2
                  go_round
                  case rel => exact ⟨j + 1, by omega, by go_num, by rw [E1.out]⟩
                  case measure => simp [intOf]; omega
              · obtain rfl : j = S.length := by omega
                have hj2 : ¬ ((S.length : Int) < (M.length : Int)) := by omega
                rw [List.take_length] at *
                go_wp2
                go_ret
                exact ⟨by rw [Hkey.out]; rfl, HBS.out⟩
        --END
      · have hpe : (a.length : Int) = (p.size : Int) := by omega
        have he : queryT (sortB (nemB (cutB 38 (ba q)))) = ⟨#[]⟩ := by
          have hq : q = [] := by
            rcases Hcase.out with ⟨_, e⟩ | ⟨_, e, _⟩
            · have := congrArg List.length e
              rw [List.length_append, List.length_cons] at this; omega
            · exact e
          subst hq
          have e1 : cutB 38 (ba []) = [ba []] := by simp [cutB, cutGo, ba_list]
          have e2 : nemB [ba []] = [] := by simp [nemB, ByteArray.toList_eq, ba]
          rw [e1, e2]
          rfl
        have hpa : ba a = p := by
          rcases Hcase.out with ⟨_, e⟩ | ⟨_, _, e⟩
          · have := congrArg List.length e
            rw [List.length_append, List.length_cons] at this; omega
          · rw [← e, ba_of]
        rw [he, app_nilB, hpa] at hkey
        have Hkey := Lib.hid hkey
        clear hkey he
        --LEAF bare
        go_wp2
        refine wp_region_below (by kernel_rfl) (by kernel_rfl) ?_
        repeat (quiet_step ((go_at_call 118; exact gb_call (HLW.out _))))
        refine wpQuiet_nil ?_
        intro _ hw'
        obtain ⟨pz, rfl⟩ := hw'
        have hz2 : Below w.heap.size w pz.w := pz.h
        have hGz := blk_then HG.out hz2
        clear y0 y1 y2
        generalize pz.w = z at *
        obtain ⟨z0, z1, z2, z3⟩ := cells4 hGz
        have HGz := Lib.hid hGz
        have lGz : G < z.heap.size := (Array.getElem?_eq_some_iff.1 hGz).1
        clear hGz
        go_wp2
        go_ret
        exact ⟨by rw [Hkey.out]; rfl, hz2⟩
        --END
end Go.Proofs.YthiogijicknoiaaGreatDoor
