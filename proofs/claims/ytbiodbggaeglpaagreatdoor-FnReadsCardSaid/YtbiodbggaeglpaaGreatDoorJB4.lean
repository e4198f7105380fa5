/- Joined: HFault. -/
import Derived.Test.YtbiodbggaeglpaaGreatDoorJB1
import Derived.Test.YtbiodbggaeglpaaGreatDoorJB0
import Derived.Deep.DeepCutAuto
import Derived.Deep.RegionHeld3
/- Head lines: the code of one, of a list. -/
namespace Go.Proofs.YtbiodbggaeglpaaGreatDoor
open Go.RowKit
set_option linter.unusedSimpArgs false
set_option linter.unusedVariables false

def trimmed (y : ByteArray) : Bool := (trimT y).toList == y.toList
def hdFault (h : Hd) : Int := if wordS h.1 = false then 5 else if 200 < h.2.size then 2 else if allB plainB h.2 = false then 5 else if trimmed h.2 = false then 5 else 0
def hdsFault (l : List Hd) : Int := if 20 < l.length then 2 else faultG hdFault l
theorem hdFault_bd (h : Hd) : 0 ≤ hdFault h ∧ hdFault h ≤ 5 := by unfold hdFault; split <;> (try split) <;> (try split) <;> (try split) <;> omega

set_option maxHeartbeats 1600000 in
theorem spec_l4Line (x y : ByteArray) (hx : x.size ≤ 9223372036854775807) (hy : y.size ≤ 9223372036854775807) (w : World) : Calls Tryz.prog 85 #[.agg #[.string x, .string y]] w fun e w' => e = .returned (.int .i64 (hdFault (x, y))) ∧ Below w.heap.size w w' := by
  go_enter Tryz.func85, Tryz.ntmps85
  go_wp2_with (first | (go_at_call 114; ((with_reducible refine (spec_IsWord _ _ hx).mono ?_); rintro e w' ⟨rfl, rfl⟩)) | (go_at_call 115; ((with_reducible refine (spec_l2PlainText _ _ hy).mono ?_); rintro e w' ⟨rfl, rfl⟩)) | (go_at_call 106; ((with_reducible refine (spec_l1Trim _ _ hy).mono ?_); rintro e w' ⟨rfl, rfl⟩)))
  all_goals (go_ret; exact ⟨ret_int (by first | (simp_all [hdFault, trimmed]; done) | (simp_all [hdFault, trimmed]; omega)), (by first | (with_reducible exact Below.refl _ _) | ((repeat' (first | (with_reducible exact Below.refl _ _) | (with_reducible assumption) | (with_reducible refine below_alloc ?_ _) | (with_reducible refine Below.drew ?_) | (with_reducible refine below_drewN ?_ _) | (with_reducible refine Below.setCell ?_ ?_ _) | refine below_then ?_ (by with_reducible assumption))) <;> (first | omega | (simp; done) | (simp; omega))))⟩)
set_option maxHeartbeats 1600000 in
theorem impl_headerFault (x y : ByteArray) (hx : x.size ≤ 9223372036854775807) (hy : y.size ≤ 9223372036854775807) (w : World) : Calls Tryz.prog 82 #[.agg #[.string x, .string y]] w fun e w' => e = .returned (.int .i64 (hdFault (x, y))) ∧ Below w.heap.size w w' := by
  by_cases h1 : wordS x = false ∨ 200 < y.size
  · have hfin : ∀ n, hdFault (x, y) = n → Ending.returned (.int .i64 n) = .returned (.int .i64 (hdFault (x, y))) := fun n h => by rw [h]
    have hiw := fun W => impl_IsWord x W hx
    by_cases h2 : wordS x = false
    · have e : hdFault (x, y) = 5 := by simp [hdFault, h2]
      rw [e]
      rw [h2] at hiw
      have Hiw := Lib.hid hiw
      clear hiw h1 hfin
      go_enter Tryz.func82, Tryz.ntmps82
      go_wp2_with (go_at_call 111; ((with_reducible refine (Hiw.out _).mono ?_); rintro e w' ⟨rfl, rfl⟩))
      go_ret
      exact ⟨rfl, (by first | (with_reducible exact Below.refl _ _) | ((repeat' (first | (with_reducible exact Below.refl _ _) | (with_reducible assumption) | (with_reducible refine below_alloc ?_ _) | (with_reducible refine Below.drew ?_) | (with_reducible refine below_drewN ?_ _) | (with_reducible refine Below.setCell ?_ ?_ _) | refine below_then ?_ (by with_reducible assumption))) <;> (first | omega | (simp; done) | (simp; omega))))⟩
    · have h3 : 200 < y.size := h1.resolve_left h2
      simp only [Bool.not_eq_false] at h2
      have e : hdFault (x, y) = 2 := by simp [hdFault, h2, h3]
      rw [e]
      rw [h2] at hiw
      have Hiw := Lib.hid hiw
      clear hiw h1 hfin
      go_enter Tryz.func82, Tryz.ntmps82
      go_wp2_with (go_at_call 111; ((with_reducible refine (Hiw.out _).mono ?_); rintro e w' ⟨rfl, rfl⟩))
      go_ret
      exact ⟨rfl, (by first | (with_reducible exact Below.refl _ _) | ((repeat' (first | (with_reducible exact Below.refl _ _) | (with_reducible assumption) | (with_reducible refine below_alloc ?_ _) | (with_reducible refine Below.drew ?_) | (with_reducible refine below_drewN ?_ _) | (with_reducible refine Below.setCell ?_ ?_ _) | refine below_then ?_ (by with_reducible assumption))) <;> (first | omega | (simp; done) | (simp; omega))))⟩
  · have h2 : wordS x = true := by cases h : wordS x <;> simp_all
    have h3 : ¬ 200 < y.size := fun h => h1 (.inr h)
    have hiw := fun W => impl_IsWord x W hx
    rw [h2] at hiw
    have Hiw := Lib.hid hiw
    have e : hdFault (x, y) = if allB plainB y = false then 5 else if trimmed y = false then 5 else 0 := by simp [hdFault, h2, h3]
    rw [e]
    clear hiw h1 e
    by_cases hp : allB plainB y = true
    · rw [if_neg (by simp [hp])]
      have hap := fun W => impl_arePlain y W hy
      rw [hp] at hap
      have Hap := Lib.hid hap
      clear hap hp
      have e2 : ∀ b, trimmed y = b → (!((trimT y).toList == y.toList)) = !b := fun b h => by rw [← h]; rfl
      by_cases ht : trimmed y = true
      · rw [if_neg (by simp [ht])]
        have e3 := e2 _ ht
        clear e2 ht
        go_enter Tryz.func82, Tryz.ntmps82
        go_upto_region 5 with (go_at_call 111; ((with_reducible refine (Hiw.out _).mono ?_); rintro e w' ⟨rfl, rfl⟩))
        go_cut [13] (fun s wx => s = .bool false ∧ Below ((w.alloc (.cells #[.string x, .string y] 77))).heap.size ((w.alloc (.cells #[.string x, .string y] 77))) wx)
        case first =>
          have hS : ∀ W, Below ((w.alloc (.cells #[.string x, .string y] 77))).heap.size ((w.alloc (.cells #[.string x, .string y] 77))) W → (W.cell? ⟨w.heap.size, 0, none⟩ = some (.string x) ∧ W.cell? ⟨w.heap.size, 1, none⟩ = some (.string y)) := fun W hb => by
            constructor <;> exact (hb.cell (by first | (simp; done) | (simp; omega))).trans (by simp)
          have HS := Lib.hid hS
          clear hS
          go_region_held3 (fun W => (W.cell? ⟨w.heap.size, 0, none⟩ = some (.string x) ∧ W.cell? ⟨w.heap.size, 1, none⟩ = some (.string y))) (first | (exact HS.out _ (by first | (with_reducible exact Below.refl _ _) | ((repeat' (first | (with_reducible exact Below.refl _ _) | (with_reducible assumption) | (with_reducible refine below_alloc ?_ _) | (with_reducible refine Below.drew ?_) | (with_reducible refine below_drewN ?_ _) | (with_reducible refine Below.setCell ?_ ?_ _) | refine below_then ?_ (by with_reducible assumption))) <;> (first | omega | (simp; done) | (simp; omega))))) | go_keep) (first | (go_at_call 112; ((with_reducible refine (Hap.out _).mono ?_); rintro e w' ⟨rfl, rfl⟩)) | (go_at_call 68; ((with_reducible refine (strings_Trim y _ hy).mono ?_); rintro e w' ⟨rfl, hb⟩; obtain ⟨hc, hf⟩ := bcell hb; have hz := hb.size; (try simp only [World.size_alloc, World.size_setCell, World.size_drew] at hz); obtain ⟨hlt, hle, hn1, hn2, hn3, hn4⟩ := bsize hb; (try simp only [World.size_alloc, World.size_setCell, World.size_drew] at hlt hle hn1 hn2 hn3 hn4); (try have hr0 : w.heap.size < w'.heap.size := by omega); (try have hr1 : w.heap.size + 1 < w'.heap.size := by omega); (try have hs0 : wS.heap.size < w'.heap.size := by omega); (try have hs1 : wG.heap.size < w'.heap.size := by omega))))
          all_goals (go_wp2_with fail; go_meet; exact ⟨by first | rfl | (rw [e3]), (by first | (with_reducible exact Below.refl _ _) | ((repeat' (first | (with_reducible exact Below.refl _ _) | (with_reducible assumption) | (with_reducible refine below_alloc ?_ _) | (with_reducible refine Below.drew ?_) | (with_reducible refine below_drewN ?_ _) | (with_reducible refine Below.setCell ?_ ?_ _) | refine below_then ?_ (by with_reducible assumption))) <;> (first | omega | (simp; done) | (simp; omega))))⟩)
        case rest =>
          obtain ⟨rfl, hb⟩ := hcut
          go_wp2
          go_ret
          exact ⟨rfl, (by first | (with_reducible exact Below.refl _ _) | ((repeat' (first | (with_reducible exact Below.refl _ _) | (with_reducible assumption) | (with_reducible refine below_alloc ?_ _) | (with_reducible refine Below.drew ?_) | (with_reducible refine below_drewN ?_ _) | (with_reducible refine Below.setCell ?_ ?_ _) | refine below_then ?_ (by with_reducible assumption))) <;> (first | omega | (simp; done) | (simp; omega))))⟩
      · simp only [Bool.not_eq_true] at ht
        rw [if_pos ht]
        have e3 := e2 _ ht
        clear e2 ht
        go_enter Tryz.func82, Tryz.ntmps82
        go_upto_region 5 with (go_at_call 111; ((with_reducible refine (Hiw.out _).mono ?_); rintro e w' ⟨rfl, rfl⟩))
        go_cut [13] (fun s wx => s = .bool true ∧ Below ((w.alloc (.cells #[.string x, .string y] 77))).heap.size ((w.alloc (.cells #[.string x, .string y] 77))) wx)
        case first =>
          have hS : ∀ W, Below ((w.alloc (.cells #[.string x, .string y] 77))).heap.size ((w.alloc (.cells #[.string x, .string y] 77))) W → (W.cell? ⟨w.heap.size, 0, none⟩ = some (.string x) ∧ W.cell? ⟨w.heap.size, 1, none⟩ = some (.string y)) := fun W hb => by
            constructor <;> exact (hb.cell (by first | (simp; done) | (simp; omega))).trans (by simp)
          have HS := Lib.hid hS
          clear hS
          go_region_held3 (fun W => (W.cell? ⟨w.heap.size, 0, none⟩ = some (.string x) ∧ W.cell? ⟨w.heap.size, 1, none⟩ = some (.string y))) (first | (exact HS.out _ (by first | (with_reducible exact Below.refl _ _) | ((repeat' (first | (with_reducible exact Below.refl _ _) | (with_reducible assumption) | (with_reducible refine below_alloc ?_ _) | (with_reducible refine Below.drew ?_) | (with_reducible refine below_drewN ?_ _) | (with_reducible refine Below.setCell ?_ ?_ _) | refine below_then ?_ (by with_reducible assumption))) <;> (first | omega | (simp; done) | (simp; omega))))) | go_keep) (first | (go_at_call 112; ((with_reducible refine (Hap.out _).mono ?_); rintro e w' ⟨rfl, rfl⟩)) | (go_at_call 68; ((with_reducible refine (strings_Trim y _ hy).mono ?_); rintro e w' ⟨rfl, hb⟩; obtain ⟨hc, hf⟩ := bcell hb; have hz := hb.size; (try simp only [World.size_alloc, World.size_setCell, World.size_drew] at hz); obtain ⟨hlt, hle, hn1, hn2, hn3, hn4⟩ := bsize hb; (try simp only [World.size_alloc, World.size_setCell, World.size_drew] at hlt hle hn1 hn2 hn3 hn4); (try have hr0 : w.heap.size < w'.heap.size := by omega); (try have hr1 : w.heap.size + 1 < w'.heap.size := by omega); (try have hs0 : wS.heap.size < w'.heap.size := by omega); (try have hs1 : wG.heap.size < w'.heap.size := by omega))))
          all_goals (go_wp2_with fail; go_meet; exact ⟨by first | rfl | (rw [e3]), (by first | (with_reducible exact Below.refl _ _) | ((repeat' (first | (with_reducible exact Below.refl _ _) | (with_reducible assumption) | (with_reducible refine below_alloc ?_ _) | (with_reducible refine Below.drew ?_) | (with_reducible refine below_drewN ?_ _) | (with_reducible refine Below.setCell ?_ ?_ _) | refine below_then ?_ (by with_reducible assumption))) <;> (first | omega | (simp; done) | (simp; omega))))⟩)
        case rest =>
          obtain ⟨rfl, hb⟩ := hcut
          go_wp2
          go_ret
          exact ⟨rfl, (by first | (with_reducible exact Below.refl _ _) | ((repeat' (first | (with_reducible exact Below.refl _ _) | (with_reducible assumption) | (with_reducible refine below_alloc ?_ _) | (with_reducible refine Below.drew ?_) | (with_reducible refine below_drewN ?_ _) | (with_reducible refine Below.setCell ?_ ?_ _) | refine below_then ?_ (by with_reducible assumption))) <;> (first | omega | (simp; done) | (simp; omega))))⟩
    · simp only [Bool.not_eq_true] at hp
      rw [if_pos hp]
      have hap := fun W => impl_arePlain y W hy
      rw [hp] at hap
      have Hap := Lib.hid hap
      clear hap hp
      go_enter Tryz.func82, Tryz.ntmps82
      go_upto_region 5 with (go_at_call 111; ((with_reducible refine (Hiw.out _).mono ?_); rintro e w' ⟨rfl, rfl⟩))
      go_quiet ((go_at_call 112; exact quiet_pure (Hap.out _)))
      go_wp2
      go_ret
      exact ⟨rfl, below_drewN (by first | (with_reducible exact Below.refl _ _) | ((repeat' (first | (with_reducible exact Below.refl _ _) | (with_reducible assumption) | (with_reducible refine below_alloc ?_ _) | (with_reducible refine Below.drew ?_) | (with_reducible refine below_drewN ?_ _) | (with_reducible refine Below.setCell ?_ ?_ _) | refine below_then ?_ (by with_reducible assumption))) <;> (first | omega | (simp; done) | (simp; omega)))) _⟩
set_option maxHeartbeats 1600000 in
theorem spec_HeadersFault (a : Option Addr) (n c : Nat) (l : List Hd) (hl : l.length = n) (w : World) (hr : Rd w a (hV l)) (hn : n ≤ 9223372036854775807) (hs : ∀ h ∈ l, h.1.size ≤ 9223372036854775807 ∧ h.2.size ≤ 9223372036854775807) :
    Calls Tryz.prog 57 #[.slice a n c] w fun e w' => e = .returned (.int .i64 (hdsFault l)) ∧ Below w.heap.size w w' := by
  have Hl := Lib.hid hl
  have Hs := Lib.hid hs
  by_cases h20 : 20 < n
  · have e : hdsFault l = 2 := by simp [hdsFault, hl, h20]
    rw [e]
    clear hl hs e
    go_enter Tryz.func57, Tryz.ntmps57
    go_wp2
    all_goals (go_ret; exact ⟨by first | rfl | (simp [*]; done) | (simp [*]; omega), by first | (with_reducible rfl) | exact (by first | (with_reducible exact Below.refl _ _) | ((repeat' (first | (with_reducible exact Below.refl _ _) | (with_reducible assumption) | (with_reducible refine below_alloc ?_ _) | (with_reducible refine Below.drew ?_) | (with_reducible refine below_drewN ?_ _) | (with_reducible refine Below.setCell ?_ ?_ _) | refine below_then ?_ (by with_reducible assumption))) <;> (first | omega | (simp; done) | (simp; omega))))⟩)
  · have e : hdsFault l = faultG hdFault l := by simp [hdsFault, hl, h20]
    rw [e]
    clear hl hs e
    go_enter Tryz.func57, Tryz.ntmps57
    go_wp2
    go_loopw [3] (fun i wr => ∃ k : Nat, k ≤ n ∧ i = .int .i64 k ∧ (∀ j (hj : j < l.length), j < k → hdFault l[j] = 0) ∧ Below w.heap.size w wr) (fun i _ => n - (intOf i).toNat)
    case atStart => exact ⟨0, Nat.zero_le _, rfl, fun j hj h => by omega, Below.refl _ _⟩
    case round =>
      obtain ⟨k, hk, rfl, hno, hb⟩ := hrel
      have Hno := Lib.hid hno
      clear hno
      by_cases hlt : k < n
      · have hlk : k < l.length := by rw [Hl.out]; exact hlt
        obtain ⟨b, off, rfl, hbl, hc0, hc1⟩ := (hr.below hb).hdr k hlk
        have hsx := (Hs.out l[k] (List.getElem_mem hlk)).1
        have hsy := (Hs.out l[k] (List.getElem_mem hlk)).2
        have hcon := fun W => spec_l4Line l[k].1 l[k].2 hsx hsy W
        by_cases hf : hdFault l[k] = 0
        · rw [show hdFault (l[k].1, l[k].2) = 0 from hf] at hcon
          have Hcon := Lib.hid hcon
          have Hf := Lib.hid hf
          clear hcon hf
          go_wp2_with (go_at_call 85; ((with_reducible refine (Hcon.out _).mono ?_); rintro e w' ⟨rfl, hb2⟩))
          go_roundw
          case rel =>
            refine ⟨k + 1, by omega, by go_num, fun j hj hjk => ?_, by exact (by first | (with_reducible exact Below.refl _ _) | ((repeat' (first | (with_reducible exact Below.refl _ _) | (with_reducible assumption) | (with_reducible refine below_alloc ?_ _) | (with_reducible refine Below.drew ?_) | (with_reducible refine below_drewN ?_ _) | (with_reducible refine Below.setCell ?_ ?_ _) | refine below_then ?_ (by with_reducible assumption))) <;> (first | omega | (simp; done) | (simp; omega))))⟩
            by_cases e : j = k
            · subst e; exact Hf.out
            · exact Hno.out j hj (by omega)
          case measure => simp [intOf]; omega
        · have hfin : Ending.returned (.int .i64 (hdFault (l[k].1, l[k].2))) = .returned (.int .i64 (faultG hdFault l)) := by rw [faultG_at hdFault l k hlk Hno.out hf]
          have Hfin := Lib.hid hfin
          have hne : (hdFault (l[k].1, l[k].2) != 0) = true := by simpa using hf
          have Hcon := Lib.hid hcon
          clear hcon hf hfin
          go_wp2_with (go_at_call 85; ((with_reducible refine (Hcon.out _).mono ?_); rintro e w' ⟨rfl, hb2⟩))
          go_ret
          exact ⟨Hfin.out, by exact (by first | (with_reducible exact Below.refl _ _) | ((repeat' (first | (with_reducible exact Below.refl _ _) | (with_reducible assumption) | (with_reducible refine below_alloc ?_ _) | (with_reducible refine Below.drew ?_) | (with_reducible refine below_drewN ?_ _) | (with_reducible refine Below.setCell ?_ ?_ _) | refine below_then ?_ (by with_reducible assumption))) <;> (first | omega | (simp; done) | (simp; omega))))⟩
      · have hall : Ending.returned (.int .i64 0) = .returned (.int .i64 (faultG hdFault l)) := by rw [faultG_none hdFault l fun j hj => Hno.out j hj (by have := Hl.out; omega)]
        have Hall := Lib.hid hall
        clear hall
        go_wp2
        go_ret
        exact ⟨Hall.out, by exact (by first | (with_reducible exact Below.refl _ _) | ((repeat' (first | (with_reducible exact Below.refl _ _) | (with_reducible assumption) | (with_reducible refine below_alloc ?_ _) | (with_reducible refine Below.drew ?_) | (with_reducible refine below_drewN ?_ _) | (with_reducible refine Below.setCell ?_ ?_ _) | refine below_then ?_ (by with_reducible assumption))) <;> (first | omega | (simp; done) | (simp; omega))))⟩
set_option maxHeartbeats 1600000 in
theorem impl_HeadersFault (a : Option Addr) (n c : Nat) (l : List Hd) (hl : l.length = n) (w : World) (hr : Rd w a (hV l)) (hn : n ≤ 9223372036854775807) (hs : ∀ h ∈ l, h.1.size ≤ 9223372036854775807 ∧ h.2.size ≤ 9223372036854775807) :
    Calls Tryz.prog 54 #[.slice a n c] w fun e w' => e = .returned (.int .i64 (hdsFault l)) ∧ Below w.heap.size w w' := by
  have Hl := Lib.hid hl
  have Hs := Lib.hid hs
  by_cases h20 : 20 < n
  · have e : hdsFault l = 2 := by simp [hdsFault, hl, h20]
    rw [e]
    clear hl hs e
    go_enter Tryz.func54, Tryz.ntmps54
    go_wp2
    all_goals (go_ret; exact ⟨by first | rfl | (simp [*]; done) | (simp [*]; omega), by first | (with_reducible rfl) | exact (by first | (with_reducible exact Below.refl _ _) | ((repeat' (first | (with_reducible exact Below.refl _ _) | (with_reducible assumption) | (with_reducible refine below_alloc ?_ _) | (with_reducible refine Below.drew ?_) | (with_reducible refine below_drewN ?_ _) | (with_reducible refine Below.setCell ?_ ?_ _) | refine below_then ?_ (by with_reducible assumption))) <;> (first | omega | (simp; done) | (simp; omega))))⟩)
  · have e : hdsFault l = faultG hdFault l := by simp [hdsFault, hl, h20]
    rw [e]
    clear hl hs e
    go_enter Tryz.func54, Tryz.ntmps54
    go_wp2
    go_loopw [11] (fun i wr => ∃ k : Nat, k ≤ n ∧ i = .int .i64 k ∧ (∀ j (hj : j < l.length), j < k → hdFault l[j] = 0) ∧ Below w.heap.size w wr) (fun i _ => n - (intOf i).toNat)
    case atStart => exact ⟨0, Nat.zero_le _, rfl, fun j hj h => by omega, Below.refl _ _⟩
    case round =>
      obtain ⟨k, hk, rfl, hno, hb⟩ := hrel
      have Hno := Lib.hid hno
      clear hno
      by_cases hlt : k < n
      · have hlk : k < l.length := by rw [Hl.out]; exact hlt
        obtain ⟨b, off, rfl, hbl, hc0, hc1⟩ := (hr.below hb).hdr k hlk
        have hsx := (Hs.out l[k] (List.getElem_mem hlk)).1
        have hsy := (Hs.out l[k] (List.getElem_mem hlk)).2
        have hcon := fun W => impl_headerFault l[k].1 l[k].2 hsx hsy W
        by_cases hf : hdFault l[k] = 0
        · rw [show hdFault (l[k].1, l[k].2) = 0 from hf] at hcon
          have Hcon := Lib.hid hcon
          have Hf := Lib.hid hf
          clear hcon hf
          go_wp2_with (go_at_call 82; ((with_reducible refine (Hcon.out _).mono ?_); rintro e w' ⟨rfl, hb2⟩))
          go_roundw
          case rel =>
            refine ⟨k + 1, by omega, by go_num, fun j hj hjk => ?_, by exact (by first | (with_reducible exact Below.refl _ _) | ((repeat' (first | (with_reducible exact Below.refl _ _) | (with_reducible assumption) | (with_reducible refine below_alloc ?_ _) | (with_reducible refine Below.drew ?_) | (with_reducible refine below_drewN ?_ _) | (with_reducible refine Below.setCell ?_ ?_ _) | refine below_then ?_ (by with_reducible assumption))) <;> (first | omega | (simp; done) | (simp; omega))))⟩
            by_cases e : j = k
            · subst e; exact Hf.out
            · exact Hno.out j hj (by omega)
          case measure => simp [intOf]; omega
        · have hfin : Ending.returned (.int .i64 (hdFault (l[k].1, l[k].2))) = .returned (.int .i64 (faultG hdFault l)) := by rw [faultG_at hdFault l k hlk Hno.out hf]
          have Hfin := Lib.hid hfin
          have hne : (hdFault (l[k].1, l[k].2) != 0) = true := by simpa using hf
          have Hcon := Lib.hid hcon
          clear hcon hf hfin
          go_wp2_with (go_at_call 82; ((with_reducible refine (Hcon.out _).mono ?_); rintro e w' ⟨rfl, hb2⟩))
          go_ret
          exact ⟨Hfin.out, by exact (by first | (with_reducible exact Below.refl _ _) | ((repeat' (first | (with_reducible exact Below.refl _ _) | (with_reducible assumption) | (with_reducible refine below_alloc ?_ _) | (with_reducible refine Below.drew ?_) | (with_reducible refine below_drewN ?_ _) | (with_reducible refine Below.setCell ?_ ?_ _) | refine below_then ?_ (by with_reducible assumption))) <;> (first | omega | (simp; done) | (simp; omega))))⟩
      · have hall : Ending.returned (.int .i64 0) = .returned (.int .i64 (faultG hdFault l)) := by rw [faultG_none hdFault l fun j hj => Hno.out j hj (by have := Hl.out; omega)]
        have Hall := Lib.hid hall
        clear hall
        go_wp2
        go_ret
        exact ⟨Hall.out, by exact (by first | (with_reducible exact Below.refl _ _) | ((repeat' (first | (with_reducible exact Below.refl _ _) | (with_reducible assumption) | (with_reducible refine below_alloc ?_ _) | (with_reducible refine Below.drew ?_) | (with_reducible refine below_drewN ?_ _) | (with_reducible refine Below.setCell ?_ ?_ _) | refine below_then ?_ (by with_reducible assumption))) <;> (first | omega | (simp; done) | (simp; omega))))⟩
end Go.Proofs.YtbiodbggaeglpaaGreatDoor
