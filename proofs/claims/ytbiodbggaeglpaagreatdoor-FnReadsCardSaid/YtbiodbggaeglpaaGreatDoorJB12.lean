/- Joined: ReadH. -/
import Derived.Test.YtbiodbggaeglpaaGreatDoorJB6
import Derived.Test.YtbiodbggaeglpaaGreatDoorJB9
import Derived.Test.YtbiodbggaeglpaaGreatDoorJB0
/- The head lines of a text: both texts, and the law. -/
namespace Go.Proofs.YtbiodbggaeglpaaGreatDoor
open Go.RowKit
set_option linter.unusedSimpArgs false
set_option linter.unusedVariables false

theorem ext_ba (s : ByteArray) (f e : Nat) : s.extract f e = ba ((s.data.toList.take e).drop f) := extract_eq s f e
theorem eq13 {b : UInt8} {n : Nat} (h : ((b.toNat : Int) == (n : Int)) = true) (hn : n < 256) : b = UInt8.ofNat n := by
  have := beq_iff_eq.1 h
  apply UInt8.toNat_inj.1
  rw [UInt8.toNat_ofNat']
  omega
theorem ne13 {b : UInt8} {n : Nat} (h : ((b.toNat : Int) == (n : Int)) = false) (hn : n < 256) : b ≠ UInt8.ofNat n := by
  have := beq_eq_false_iff_ne.1 h
  intro e
  apply this
  rw [e, UInt8.toNat_ofNat']
  omega
set_option maxHeartbeats 3200000 in
theorem spec_l4Lines (t : ByteArray) (ht : t.size ≤ 10000) (w : World) : Calls Tryz.prog 105 #[.string t] w fun e w' => ∃ g cap, e = .returned (.tuple #[.slice (some ⟨g, 0, none⟩) (linesB t).length cap, .bool (linesE t).isEmpty]) ∧
    w'.ownsRow w.heap.size 9 1 (.slice (some ⟨g, 0, none⟩) (linesB t).length cap) (linesB t).length (strV (linesB t)) ∧ Below w.heap.size w w' := by
  go_enter Tryz.func105, Tryz.ntmps105
  go_wp2
  go_loopw [4, 5, 6] (fun v fv iv wr => ∃ (f i g cap : Nat) (done : List ByteArray), fv = .int .i64 (f : Int) ∧ iv = .int .i64 (i : Int) ∧ LinesAt t f i done ∧ done.length ≤ i ∧ v = .slice (some ⟨g, 0, none⟩) done.length cap ∧ wr.ownsRow w.heap.size 9 1 v done.length (strV done) ∧ Below w.heap.size w wr) (fun _ _ i _ => t.size - (intOf i).toNat)
  case atStart => exact ⟨0, 0, _, _, [], rfl, rfl, LinesAt.start t, Nat.le_refl _, rfl, World.ownsRow_lit (size := 1) (e := 9) w #[] 0 (Nat.le_refl _) (by unfold maxLen; omega) rfl, below_alloc (Below.refl _ _) _⟩
  case round =>
    obtain ⟨f, i, g, cap, done, rfl, rfl, hat, hdl, rfl, hown, hb⟩ := hrel
    have hfi := hat.1
    have his := hat.2.1
    have Hat := Lib.hid hat
    clear hat
    have hz := hb.size
    by_cases hlt : i + 1 < t.size
    · by_cases c1 : ((t[i].toNat : Int) == 13) = true
      · by_cases c2 : ((t[i + 1].toNat : Int) == 10) = true
        · have H2 := Lib.hid (Hat.out.line hlt (eq13 (n := 13) c1 (by omega)) (eq13 (n := 10) c2 (by omega)))
          go_wp2_with (at_builtin; refine app1 rfl _ _ 58 rfl Tryz.underlying58 infoStr rfl (by decide) (own_below hown (by exact (by first | (with_reducible exact Below.refl _ _) | ((repeat' (first | (with_reducible exact Below.refl _ _) | (with_reducible assumption) | (with_reducible refine below_alloc ?_ _) | (with_reducible refine Below.drew ?_) | (with_reducible refine below_drewN ?_ _) | (with_reducible refine Below.setCell ?_ ?_ _) | refine below_then ?_ (by with_reducible assumption))) <;> (first | omega | (simp; done) | (simp; omega))))) (Nat.le_refl _)) (by exact (by first | (with_reducible exact Below.refl _ _) | ((repeat' (first | (with_reducible exact Below.refl _ _) | (with_reducible assumption) | (with_reducible refine below_alloc ?_ _) | (with_reducible refine Below.drew ?_) | (with_reducible refine below_drewN ?_ _) | (with_reducible refine Below.setCell ?_ ?_ _) | refine below_then ?_ (by with_reducible assumption))) <;> (first | omega | (simp; done) | (simp; omega))))) rfl rfl rfl (by intro u hu; simp at hu; subst hu; rfl) (by omega) (by unfold maxLen; omega) ?_; intro v1 w1 hown1 hb1 _ _; obtain ⟨g1, cap1, rfl, hg1, hrow1⟩ := own_shape hown1)
          go_roundw
          case rel => exact ⟨i + 2, i + 2, g1, cap1, done ++ [t.extract f i], by go_num, by go_num, by rw [ext_ba]; exact H2.out, by rw [List.length_append, List.length_singleton]; omega, by rw [List.length_append, List.length_singleton], own_cast hown1 (by rw [List.length_append, List.length_singleton]) (by rw [strV_snoc]), hb1⟩
          case measure => simp [intOf]; omega
        · simp only [Bool.not_eq_true] at c2
          have H2 := Lib.hid (Hat.out.step hlt (fun q => ne13 (n := 10) c2 (by omega) q.2))
          go_wp2
          go_roundw
          case rel => exact ⟨f, i + 1, g, cap, done, rfl, by go_num, H2.out, by omega, rfl, hown, hb⟩
          case measure => simp [intOf]; omega
      · simp only [Bool.not_eq_true] at c1
        have H2 := Lib.hid (Hat.out.step hlt (fun q => ne13 (n := 13) c1 (by omega) q.1))
        go_wp2
        go_roundw
        case rel => exact ⟨f, i + 1, g, cap, done, rfl, by go_num, H2.out, by omega, rfl, hown, hb⟩
        case measure => simp [intOf]; omega
    · obtain ⟨e1, e2⟩ := Hat.out.stop hlt
      have e3 : (linesE t).isEmpty = ((f : Int) == (t.size : Int)) := by
        rw [Bool.eq_iff_iff, List.isEmpty_iff, e2, beq_iff_eq]; omega
      have E1 := Lib.hid e1
      have E3 := Lib.hid e3
      clear e1 e2 e3
      go_wp2
      go_ret2
      refine ⟨g, cap, ?_, ?_, hb⟩
      · rw [E1.out, E3.out]; rfl
      · rw [E1.out]; exact hown
theorem strV_row {w : World} {lo g n cap : Nat} {l : List ByteArray} (h : w.ownsRow lo 9 1 (.slice (some ⟨g, 0, none⟩) n cap) n (strV l)) : RowAt w g (strV l) := RowAt.of_own h
theorem hV_snoc2 (l : List Hd) (x y : ByteArray) : hV l ++ [.string x, .string y] = hV (l ++ [(x, y)]) := by simp [hV, cellsOf, hEnc]
theorem ext_to (s : ByteArray) (j : Nat) : s.extract 0 j = ba (s.data.toList.take j) := by rw [ext_ba]; simp
theorem ext_from (s : ByteArray) (j : Nat) : s.extract j s.size = ba (s.data.toList.drop j) := by rw [ext_ba, List.take_of_length_le (by rw [Array.length_toList]; exact Nat.le_refl _)]
def readL (t : ByteArray) : Int × List Hd := if linesE t ≠ [] then (5, []) else
  match (linesB t).mapM hdOf with
  | none => (5, [])
  | some l => if hdsFault l = 0 then (0, l) else (hdsFault l, [])
theorem readL_end {t : ByteArray} (h : (linesE t).isEmpty = false) : readL t = (5, []) := by
  have : linesE t ≠ [] := fun e => by rw [e] at h; cases h
  rw [readL, if_pos this]
theorem readL_bad {t : ByteArray} (h : (linesE t).isEmpty = true) (h2 : (linesB t).mapM hdOf = none) : readL t = (5, []) := by
  have e := List.isEmpty_iff.1 h
  rw [readL, if_neg (fun q => q e), h2]
theorem readL_fault {t : ByteArray} {l : List Hd} (h : (linesE t).isEmpty = true) (h2 : (linesB t).mapM hdOf = some l) (h3 : ¬ hdsFault l = 0) : readL t = (hdsFault l, []) := by
  have e := List.isEmpty_iff.1 h
  rw [readL, if_neg (fun q => q e), h2]
  exact if_neg h3
theorem readL_ok {t : ByteArray} {l : List Hd} (h : (linesE t).isEmpty = true) (h2 : (linesB t).mapM hdOf = some l) (h3 : hdsFault l = 0) : readL t = (0, l) := by
  have e := List.isEmpty_iff.1 h
  rw [readL, if_neg (fun q => q e), h2]
  exact if_pos h3
theorem readR_L {t : ByteArray} (h : ¬ 6000 < t.size) : readR t = readL t := by rw [readR, if_neg h]; rfl
theorem hdOf_small {s : ByteArray} {x : Hd} (h : hdOf s = some x) : x.1.size ≤ s.size ∧ x.2.size ≤ s.size := by
  unfold hdOf at h
  split at h
  · obtain rfl := (Option.some.inj h).symm
    rename_i hc
    unfold Lib.cut at hc ⊢
    split
    · refine ⟨by rw [ba_size, List.length_take, Array.length_toList]; exact Nat.min_le_right _ _, Nat.le_trans (trimT_size _) (by rw [ba_size, List.length_drop, Array.length_toList]; exact Nat.sub_le _ _)⟩
    · rename_i h1; rw [if_neg h1] at hc; cases hc
  · cases h
theorem readAll_mem {α β : Type} {f : α → Option β} : ∀ {l : List α} {r : List β}, l.mapM f = some r → ∀ y ∈ r, ∃ x ∈ l, f x = some y
  | [], r, h => by simp at h; subst h; intro y hy; cases hy
  | x :: l, r, h => by
    rw [List.mapM_cons] at h
    cases hx : f x with
    | none => simp [hx] at h
    | some z =>
      cases hl : l.mapM f with
      | none => simp [hx, hl] at h
      | some q =>
        simp [hx, hl] at h
        subst h
        intro y hy
        rcases List.mem_cons.1 hy with rfl | hy
        · exact ⟨x, by simp, hx⟩
        · obtain ⟨x', h1, h2⟩ := readAll_mem hl y hy
          exact ⟨x', List.mem_cons_of_mem _ h1, h2⟩
theorem read_small {t : ByteArray} {l : List Hd} (h : (linesB t).mapM hdOf = some l) : ∀ h ∈ l, h.1.size ≤ t.size ∧ h.2.size ≤ t.size := by
  intro y hy
  obtain ⟨x, hx, e⟩ := readAll_mem h y hy
  have h1 := hdOf_small e
  have h2 := linesB_mem t x hx
  omega
theorem hdR_nil (w : World) (lo hi : Nat) (a : Option Addr) : ([] : List Hd).length = 0 ∧ SlAt w lo hi a 0 (hV []) := ⟨rfl, SlAt.nil _ _ _ _⟩
set_option maxRecDepth 100000 in
set_option maxHeartbeats 6400000 in
theorem spec_l4Read (t : ByteArray) (ht : t.size ≤ 10000) (w : World) : Calls Tryz.prog 74 #[.string t] w fun e w' => ∃ (a' : Option Addr) (n' c' : Nat), e = .returned (.tuple #[.slice a' n' c', .int .i64 (readL t).1]) ∧ ((readL t).2.length = n' ∧ SlAt w' w.heap.size w'.heap.size a' n' (hV (readL t).2)) ∧ Below w.heap.size w w' := by
  have hN := linesB_len t
  have hM := Lib.hid (linesB_mem t)
  by_cases he : (linesE t).isEmpty = true
  · have hL := fun W => spec_l4Lines t ht W
    rw [he] at hL
    have HL := Lib.hid hL
    have hR : Rd w none (hV []) := Rd.nil _ _
    clear hL
    have Hbad := Lib.hid (fun h2 => readL_bad he h2)
    have Hfault := Lib.hid (fun l h2 h3 => readL_fault (l := l) he h2 h3)
    have Hok := Lib.hid (fun l h2 h3 => readL_ok (l := l) he h2 h3)
    clear he
    go_enter Tryz.func74, Tryz.ntmps74
    go_upto_region 4 with (go_at_call 105; ((with_reducible refine (HL.out _).mono ?_); rintro e w' ⟨gl, capl, rfl, hownl, hb⟩; have hbl := hb; have hrowl := strV_row hownl; obtain ⟨hc, hf⟩ := bcell hb; have hz := hb.size; (try simp only [World.size_alloc, World.size_setCell, World.size_drew] at hz); obtain ⟨hlt, hle, hn1, hn2, hn3, hn4⟩ := bsize hb; (try simp only [World.size_alloc, World.size_setCell, World.size_drew] at hlt hle hn1 hn2 hn3 hn4); (try have hr0 : w.heap.size < w'.heap.size := by omega); (try have hr1 : w.heap.size + 1 < w'.heap.size := by omega); (try have hs0 : wS.heap.size < w'.heap.size := by omega); (try have hs1 : wG.heap.size < w'.heap.size := by omega)))
    generalize w' = w1 at *
    go_wp2
    go_loopw [6, 7] (fun v i wr => ∃ (k g cap : Nat) (r : List Hd), k ≤ (linesB t).length ∧ i = .int .i64 (k : Int) ∧ ((linesB t).take k).mapM hdOf = some r ∧ r.length = k ∧ v = .slice (some ⟨g, 0, none⟩) k cap ∧ wr.ownsRow w1.heap.size 77 2 v k (hV r) ∧ Below w1.heap.size w1 wr) (fun _ i _ => (linesB t).length - (intOf i).toNat)
    case atStart => exact ⟨0, _, _, [], Nat.zero_le _, rfl, rfl, rfl, rfl, World.ownsRow_lit (size := 2) (e := 77) w1 #[] 0 (Nat.le_refl _) (by unfold maxLen; omega) rfl, below_alloc (Below.refl _ _) _⟩
    case round =>
      obtain ⟨k, g, cap, r, hk, rfl, hr, hrl, rfl, hown, hb⟩ := hrel
      have hrow := hrowl.then hb
      have Hr := Lib.hid hr
      have Hrl := Lib.hid hrl
      have hz := hb.size
      clear hr hrl
      by_cases hlt : k < (linesB t).length
      · have hcell := hrow.cell k _ (strV_at (linesB t) k hlt)
        have hsz := hM.out _ (List.getElem_mem hlt)
        generalize hs : (linesB t)[k] = s at *
        have Hs := Lib.hid hs
        clear hs
        go_wp2
        go_loop [8] (fun v => ∃ j : Nat, j ≤ s.size ∧ v = .int .i64 (j : Int) ∧ ∀ q (hq : q < s.size), q < j → s[q] ≠ 58) (fun v => s.size - (intOf v).toNat)
        case atStart => exact ⟨0, Nat.zero_le _, rfl, fun q hq h => by omega⟩
        case round =>
          obtain ⟨j, hj, rfl, hno⟩ := hrel
          have Hno := Lib.hid hno
          clear hno
          by_cases hjl : j < s.size
          · by_cases c : ((s[j].toNat : Int) != 58) = true
            · have hne : s[j] ≠ 58 := fun e => by rw [e] at c; cases c
              have Hne := Lib.hid hne
              clear hne
              go_wp2
              go_round
              case rel =>
                refine ⟨j + 1, by omega, by go_num, fun q hq h => ?_⟩
                by_cases e : q = j
                · subst e; exact Hne.out
                · exact Hno.out q hq (by omega)
              case measure => simp [intOf]; omega
            · simp only [Bool.not_eq_true] at c
              have h58 : s[j] = 58 := by
                have : (s[j].toNat : Int) = 58 := by simpa using c
                apply UInt8.toNat_inj.1
                show _ = 58
                omega
              have Hx := Lib.hid (readAll_succ Hr.out hlt (by rw [Hs.out]; exact hdOf_at hjl h58 Hno.out))
              clear h58
              have hjb : (j : Int) + 1 ≤ (s.size : Int) := by omega
              have hjw : IntKind.i64.wrap ((j : Int) + 1) = (j : Int) + 1 := wrapi _ (by omega) (by omega)
              have hj0 : (0 : Int) ≤ (j : Int) + 1 := by omega
              have htz : (s.extract (j + 1) s.size).size ≤ 10000 := by rw [ext_from, ba_size, List.length_drop, Array.length_toList]; exact Nat.le_trans (Nat.sub_le _ _) (by show s.size ≤ _; omega)
              go_wp2
              have hS : ∀ W, Below w1.heap.size w1 W → W.cell? ⟨gl, k, none⟩ = some (.string s) := fun W hb => by
                have := (hrowl.then hb).cell k _ (strV_at (linesB t) k hlt)
                rw [Hs.out] at this
                exact this
              have HS := Lib.hid hS
              clear hS
              go_region_held3 (fun W => W.cell? ⟨gl, k, none⟩ = some (.string s)) (first | (exact HS.out _ (by first | (with_reducible exact Below.refl _ _) | ((repeat' (first | (with_reducible exact Below.refl _ _) | (with_reducible assumption) | (with_reducible refine below_alloc ?_ _) | (with_reducible refine Below.drew ?_) | (with_reducible refine below_drewN ?_ _) | (with_reducible refine Below.setCell ?_ ?_ _) | refine below_then ?_ (by with_reducible assumption))) <;> (first | omega | (simp; done) | (simp; omega))))) | go_keep) (first
                | (go_at_call 106; ((with_reducible refine (spec_l1Trim _ _ (by omega)).mono ?_); rintro e w' ⟨rfl, rfl⟩))
                | ((refine app1R (w0 := w1) (wr := wr.drew) (news := [.string (s.extract 0 j), .string (trimT (s.extract (j + 1) s.size))]) rfl _ _ 25 rfl Tryz.underlying25 infoHdr rfl (by decide) (own_below hown (by exact (by first | (with_reducible exact Below.refl _ _) | ((repeat' (first | (with_reducible exact Below.refl _ _) | (with_reducible assumption) | (with_reducible refine below_alloc ?_ _) | (with_reducible refine Below.drew ?_) | (with_reducible refine below_drewN ?_ _) | (with_reducible refine Below.setCell ?_ ?_ _) | refine below_then ?_ (by with_reducible assumption))) <;> (first | omega | (simp; done) | (simp; omega))))) (Nat.le_refl _)) (by exact (by first | (with_reducible exact Below.refl _ _) | ((repeat' (first | (with_reducible exact Below.refl _ _) | (with_reducible assumption) | (with_reducible refine below_alloc ?_ _) | (with_reducible refine Below.drew ?_) | (with_reducible refine below_drewN ?_ _) | (with_reducible refine Below.setCell ?_ ?_ _) | refine below_then ?_ (by with_reducible assumption))) <;> (first | omega | (simp; done) | (simp; omega))))) rfl rfl rfl (by intro u hu; simp at hu; rcases hu with rfl | rfl <;> rfl) (by omega) (by unfold maxLen; omega) ?_); intro v1 w2 hown1 hb1; obtain ⟨g1, cap1, rfl, hg1, hrow1⟩ := own_shape hown1))
              go_wp2
              go_roundw
              case rel => exact ⟨k + 1, g1, cap1, r ++ [(ba (s.data.toList.take j), trimT (ba (s.data.toList.drop (j + 1))))], by omega, by go_num, Hx.out, by rw [List.length_append, List.length_singleton, Hrl.out], rfl, own_cast hown1 rfl (by rw [ext_to, ext_from, hV_snoc2]), hb1⟩
              case measure => simp [intOf]; omega
          · have hnone := hdOf_none (s := s) (fun q hq => Hno.out q hq (by omega))
            have Hb := Lib.hid (Hbad.out (readAll_none hlt (by rw [Hs.out]; exact hnone) Hr.out))
            obtain rfl : j = s.size := by omega
            clear hnone
            go_wp2
            go_ret2
            rw [Hb.out]
            exact ⟨none, 0, ⟨0, rfl⟩, hdR_nil _ _ _ _, hbl.trans (hb.mono hbl.size)⟩
      · obtain rfl : k = (linesB t).length := by omega
        have et : (linesB t).take (linesB t).length = linesB t := List.take_length
        have hr := Hr.out
        rw [et] at hr
        have hsm := read_small hr
        have hcon := fun W hr0 => spec_HeadersFault (some ⟨g, 0, none⟩) (linesB t).length cap r Hrl.out W hr0 (by omega) (fun h hh => by have := hsm h hh; omega)
        have hrd : Rd wr (some ⟨g, 0, none⟩) (hV r) := (RowAt.of_own hown).rd
        have hbw : Below w.heap.size w wr := hbl.trans (hb.mono hbl.size)
        have hsl : ∀ w', Below wr.heap.size wr w' → SlAt w' w.heap.size w'.heap.size (some ⟨g, 0, none⟩) (linesB t).length (hV r) := fun w' h => by
          obtain ⟨o1, o2, o3⟩ := own_at hown
          exact (o3.then h).sl _ (Nat.le_trans hbl.size o1) (o3.then h).lt
        have Hsl := Lib.hid hsl
        clear et hsm hsl
        by_cases hz0 : hdsFault r = 0
        · have E := Lib.hid (Hok.out r hr hz0)
          rw [hz0] at hcon
          have Hcon := Lib.hid hcon
          clear hcon hr hz0
          go_wp2_with (go_at_call 57; ((with_reducible refine (Hcon.out _ (by first | (with_reducible assumption) | exact RowAt.rd (by repeat' (first | (with_reducible assumption) | (with_reducible refine RowAt.alloc ?_ _) | (with_reducible refine RowAt.drew ?_) | (with_reducible refine RowAt.other ?_ _ _ (by first | omega | (simp; done) | (simp; omega))) | refine RowAt.then ?_ (by with_reducible assumption))) | exact Rd.below (by with_reducible assumption) (by first | (with_reducible exact Below.refl _ _) | ((repeat' (first | (with_reducible exact Below.refl _ _) | (with_reducible assumption) | (with_reducible refine below_alloc ?_ _) | (with_reducible refine Below.drew ?_) | (with_reducible refine below_drewN ?_ _) | (with_reducible refine Below.setCell ?_ ?_ _) | refine below_then ?_ (by with_reducible assumption))) <;> (first | omega | (simp; done) | (simp; omega)))))).mono ?_); rintro e w' ⟨rfl, hb⟩; obtain ⟨hc, hf⟩ := bcell hb; have hz := hb.size; (try simp only [World.size_alloc, World.size_setCell, World.size_drew] at hz); obtain ⟨hlt, hle, hn1, hn2, hn3, hn4⟩ := bsize hb; (try simp only [World.size_alloc, World.size_setCell, World.size_drew] at hlt hle hn1 hn2 hn3 hn4); (try have hr0 : w.heap.size < w'.heap.size := by omega); (try have hr1 : w.heap.size + 1 < w'.heap.size := by omega); (try have hs0 : wS.heap.size < w'.heap.size := by omega); (try have hs1 : wG.heap.size < w'.heap.size := by omega)))
          go_ret2
          rw [E.out]
          have hb9 := hb
          first | exact ⟨_, _, ⟨_, rfl⟩, ⟨Hrl.out, Hsl.out _ hb9⟩, hbw.trans (hb9.mono hbw.size)⟩ | exact ⟨_, _, _, rfl, ⟨Hrl.out, Hsl.out _ hb9⟩, hbw.trans (hb9.mono hbw.size)⟩
        · have E := Lib.hid (Hfault.out r hr hz0)
          have hne : (hdsFault r != 0) = true := by simpa using hz0
          have Hcon := Lib.hid hcon
          clear hcon hr hz0
          go_wp2_with (go_at_call 57; ((with_reducible refine (Hcon.out _ (by first | (with_reducible assumption) | exact RowAt.rd (by repeat' (first | (with_reducible assumption) | (with_reducible refine RowAt.alloc ?_ _) | (with_reducible refine RowAt.drew ?_) | (with_reducible refine RowAt.other ?_ _ _ (by first | omega | (simp; done) | (simp; omega))) | refine RowAt.then ?_ (by with_reducible assumption))) | exact Rd.below (by with_reducible assumption) (by first | (with_reducible exact Below.refl _ _) | ((repeat' (first | (with_reducible exact Below.refl _ _) | (with_reducible assumption) | (with_reducible refine below_alloc ?_ _) | (with_reducible refine Below.drew ?_) | (with_reducible refine below_drewN ?_ _) | (with_reducible refine Below.setCell ?_ ?_ _) | refine below_then ?_ (by with_reducible assumption))) <;> (first | omega | (simp; done) | (simp; omega)))))).mono ?_); rintro e w' ⟨rfl, hb⟩; obtain ⟨hc, hf⟩ := bcell hb; have hz := hb.size; (try simp only [World.size_alloc, World.size_setCell, World.size_drew] at hz); obtain ⟨hlt, hle, hn1, hn2, hn3, hn4⟩ := bsize hb; (try simp only [World.size_alloc, World.size_setCell, World.size_drew] at hlt hle hn1 hn2 hn3 hn4); (try have hr0 : w.heap.size < w'.heap.size := by omega); (try have hr1 : w.heap.size + 1 < w'.heap.size := by omega); (try have hs0 : wS.heap.size < w'.heap.size := by omega); (try have hs1 : wG.heap.size < w'.heap.size := by omega)))
          go_ret2
          rw [E.out]
          first | exact ⟨none, 0, ⟨0, rfl⟩, hdR_nil _ _ _ _, hbw.trans (hb.mono hbw.size)⟩ | exact ⟨none, 0, 0, rfl, hdR_nil _ _ _ _, hbw.trans (hb.mono hbw.size)⟩
  · simp only [Bool.not_eq_true] at he
    have hL := fun W => spec_l4Lines t ht W
    rw [he] at hL
    have HL := Lib.hid hL
    rw [readL_end he]
    clear hL he
    go_enter Tryz.func74, Tryz.ntmps74
    go_wp2_with (go_at_call 105; ((with_reducible refine (HL.out _).mono ?_); rintro e w' ⟨gl, capl, rfl, hownl, hb⟩; have hbl := hb; obtain ⟨hc, hf⟩ := bcell hb; have hz := hb.size; (try simp only [World.size_alloc, World.size_setCell, World.size_drew] at hz); obtain ⟨hlt, hle, hn1, hn2, hn3, hn4⟩ := bsize hb; (try simp only [World.size_alloc, World.size_setCell, World.size_drew] at hlt hle hn1 hn2 hn3 hn4); (try have hr0 : w.heap.size < w'.heap.size := by omega); (try have hr1 : w.heap.size + 1 < w'.heap.size := by omega); (try have hs0 : wS.heap.size < w'.heap.size := by omega); (try have hs1 : wG.heap.size < w'.heap.size := by omega)))
    go_ret2
    exact ⟨_, _, _, rfl, hdR_nil _ _ _ _, hbl⟩
set_option maxHeartbeats 1600000 in
theorem spec_ReadHeaders (t : ByteArray) (ht : t.size ≤ 9223372036854775807) (w : World) : Calls Tryz.prog 43 #[.string t] w fun e w' => ∃ (a' : Option Addr) (n' c' : Nat), e = .returned (.agg #[.int .i64 (readR t).1, .slice a' n' c']) ∧ (((readR t).2).length = n' ∧ SlAt w' w.heap.size w'.heap.size a' n' (hV ((readR t).2))) ∧ Below w.heap.size w w' := by
  by_cases h6 : 6000 < t.size
  · have e : readR t = (2, []) := by rw [readR, if_pos h6]
    rw [e]
    clear e
    go_enter Tryz.func43, Tryz.ntmps43
    go_wp2
    exact bodyPost_ret (res_row Tryz.results43 _ _ rfl (blk_cast (by repeat' (first | (with_reducible assumption) | (with_reducible exact blk_new _ _) | (with_reducible apply blk_set) | (with_reducible refine blk_alloc ?_ _) | (with_reducible refine blk_drew ?_) | refine blk_then ?_ (by with_reducible assumption))) (by first | (simp; done) | rfl)) Tryz.underlying56 rfl _ (by kernel_rfl) rfl) rfl ⟨none, 0, 0, rfl, hdR_none _ _ _, by exact (by first | (with_reducible exact Below.refl _ _) | ((repeat' (first | (with_reducible exact Below.refl _ _) | (with_reducible assumption) | (with_reducible refine below_alloc ?_ _) | (with_reducible refine Below.drew ?_) | (with_reducible refine below_drewN ?_ _) | (with_reducible refine Below.setCell ?_ ?_ _) | refine below_then ?_ (by with_reducible assumption))) <;> (first | omega | (simp; done) | (simp; omega))))⟩
  · rw [readR_L h6]
    go_enter Tryz.func43, Tryz.ntmps43
    go_wp2_with (go_at_call 74; ((with_reducible refine (spec_l4Read t (by omega) _).mono ?_); rintro e w' ⟨a1, n1, c1, rfl, ⟨hl1, hs1⟩, hb⟩; obtain ⟨hc, hf⟩ := bcell hb; have hz := hb.size; (try simp only [World.size_alloc, World.size_setCell, World.size_drew] at hz); obtain ⟨hlt, hle, hn1, hn2, hn3, hn4⟩ := bsize hb; (try simp only [World.size_alloc, World.size_setCell, World.size_drew] at hlt hle hn1 hn2 hn3 hn4); (try have hr0 : w.heap.size < w'.heap.size := by omega); (try have hr1 : w.heap.size + 1 < w'.heap.size := by omega); (try have hs0 : wS.heap.size < w'.heap.size := by omega); (try have hs1 : wG.heap.size < w'.heap.size := by omega)))
    have hz1 := hb.size
    (try simp only [World.size_alloc] at hz1)
    have hq : SlAt _ w.heap.size w'.heap.size a1 n1 (hV (readL t).2) := hs1.mono (by simp) (Nat.le_refl _)
    exact bodyPost_ret (res_row Tryz.results43 _ _ rfl (blk_cast (by repeat' (first | (with_reducible assumption) | (with_reducible exact blk_new _ _) | (with_reducible apply blk_set) | (with_reducible refine blk_alloc ?_ _) | (with_reducible refine blk_drew ?_) | refine blk_then ?_ (by with_reducible assumption))) (by first | (simp; done) | rfl)) Tryz.underlying56 rfl _ (by kernel_rfl) rfl) rfl ⟨_, _, _, rfl, ⟨hl1, ((hs1.other _ _ (.inl (by simp))).other _ _ (.inl (by simp))).mono (by simp) (by simp)⟩, by exact (by first | (with_reducible exact Below.refl _ _) | ((repeat' (first | (with_reducible exact Below.refl _ _) | (with_reducible assumption) | (with_reducible refine below_alloc ?_ _) | (with_reducible refine Below.drew ?_) | (with_reducible refine below_drewN ?_ _) | (with_reducible refine Below.setCell ?_ ?_ _) | refine below_then ?_ (by with_reducible assumption))) <;> (first | omega | (simp; done) | (simp; omega))))⟩
end Go.Proofs.YtbiodbggaeglpaaGreatDoor
