/- Joined: ReqG. -/
import Derived.Test.YtbiodbggaeglpaaGreatDoorJB7
/- The code of a request: both texts, and the law. -/
namespace Go.Proofs.YtbiodbggaeglpaaGreatDoor
open Go.RowKit
set_option linter.unusedSimpArgs false
set_option linter.unusedVariables false

abbrev hostName : ByteArray := ⟨#[104, 111, 115, 116]⟩
def rqFault (m h p : ByteArray) (l : List Hd) : Int := if (methodB m && hostS h && pathS p) = false then 5 else if hdsFault l ≠ 0 then hdsFault l else if 0 < (vals hostName l).length then 6 else if 20 ≤ l.length then 2 else 0
theorem alike_host (x : ByteArray) : alikeB x ⟨#[72, 111, 115, 116]⟩ = alikeB x hostName := by
  unfold alikeB
  have e : lowS ⟨#[72, 111, 115, 116]⟩ = lowS hostName := by kernel_rfl
  rw [e]
theorem vals_host (l : List Hd) : vals ⟨#[72, 111, 115, 116]⟩ l = vals hostName l := by
  unfold vals
  congr 2
  funext h
  exact alike_host h.1
theorem size_Host : (⟨#[72, 111, 115, 116]⟩ : ByteArray).size ≤ 9223372036854775807 := by decide
theorem size_host : hostName.size ≤ 9223372036854775807 := by decide
theorem isE_len (l : List ByteArray) : (!l.isEmpty) = decide (0 < l.length) := by cases l <;> simp
theorem hdFault_size {h : Hd} (e : hdFault h = 0) : h.2.size ≤ 200 := by
  unfold hdFault at e
  split at e
  · cases e
  · split at e
    · cases e
    · omega
theorem hdsFault_0 {l : List Hd} (e : hdsFault l = 0) : l.length ≤ 20 ∧ ∀ h ∈ l, hdFault h = 0 := by
  unfold hdsFault at e
  split at e
  · cases e
  · exact ⟨by omega, faultG_all hdFault l e⟩
set_option maxHeartbeats 3200000 in
theorem spec_RequestFault (m h p : ByteArray) (hm : m.size ≤ 9223372036854775807) (hh : h.size ≤ 9223372036854775807) (hp : p.size ≤ 9223372036854775807) (a : Option Addr) (n c : Nat) (l : List Hd) (hl : l.length = n) (w : World) (hr : Rd w a (hV l)) (hn : n ≤ 9223372036854775807)
    (hs : ∀ h ∈ l, h.1.size ≤ 9223372036854775807 ∧ h.2.size ≤ 9223372036854775807) : Calls Tryz.prog 19 #[.agg #[.string m, .string h, .string p, .slice a n c]] w fun e w' => e = .returned (.int .i64 (rqFault m h p l)) ∧ Below w.heap.size w w' := by
  have Hl := Lib.hid hl
  have Hs := Lib.hid hs
  by_cases hz : hdsFault l = 0
  · obtain ⟨h20, hall⟩ := hdsFault_0 hz
    have hs2 : ∀ h ∈ l, h.1.size ≤ 9223372036854775807 ∧ h.2.size ≤ 200 := fun h hh => ⟨(hs h hh).1, hdFault_size (hall h hh)⟩
    have hc := fun a n c hl W hr hn => spec_HeadersFault a n c l hl W hr hn hs
    rw [hz] at hc
    have Hc := Lib.hid hc
    have Hs2 := Lib.hid hs2
    have Hz := Lib.hid hz
    have hn20 : n ≤ 20 := by omega
    have Hz1 := Lib.hid size_Host
    have Hz2 := Lib.hid size_host
    clear hs hc hz hall hs2 hl h20
    go_enter Tryz.func19, Tryz.ntmps19
    go_wp2_with (first
      | (go_at_call 55; ((with_reducible refine (spec_l5Host h hh _).mono ?_); rintro e w' ⟨rfl, rfl⟩))
      | (go_at_call 56; ((with_reducible refine (spec_l5Path p hp _).mono ?_); rintro e w' ⟨rfl, rfl⟩))
      | fail
      | (go_at_call 57; ((with_reducible refine (Hc.out _ _ _ Hl.out _ (by first | (with_reducible assumption) | exact RowAt.rd (by repeat' (first | (with_reducible assumption) | (with_reducible refine RowAt.alloc ?_ _) | (with_reducible refine RowAt.drew ?_) | (with_reducible refine RowAt.other ?_ _ _ (by first | omega | (simp; done) | (simp; omega))) | refine RowAt.then ?_ (by with_reducible assumption))) | exact Rd.below (by with_reducible assumption) (by first | (with_reducible exact Below.refl _ _) | ((repeat' (first | (with_reducible exact Below.refl _ _) | (with_reducible assumption) | (with_reducible refine below_alloc ?_ _) | (with_reducible refine Below.drew ?_) | (with_reducible refine below_drewN ?_ _) | (with_reducible refine Below.setCell ?_ ?_ _) | refine below_then ?_ (by with_reducible assumption))) <;> (first | omega | (simp; done) | (simp; omega))))) hn).mono ?_); rintro e w' ⟨rfl, hb⟩; obtain ⟨hc, hf⟩ := bcell hb; have hz := hb.size; (try simp only [World.size_alloc, World.size_setCell, World.size_drew] at hz); obtain ⟨hlt, hle, hn1, hn2, hn3, hn4⟩ := bsize hb; (try simp only [World.size_alloc, World.size_setCell, World.size_drew] at hlt hle hn1 hn2 hn3 hn4); (try have hr0 : w.heap.size < w'.heap.size := by omega); (try have hr1 : w.heap.size + 1 < w'.heap.size := by omega); (try have hs0 : wS.heap.size < w'.heap.size := by omega); (try have hs1 : wG.heap.size < w'.heap.size := by omega)))
      | (go_at_call 46; ((with_reducible refine (spec_l4Join hostName Hz2.out _ _ _ l Hl.out _ (by first | (with_reducible assumption) | exact RowAt.rd (by repeat' (first | (with_reducible assumption) | (with_reducible refine RowAt.alloc ?_ _) | (with_reducible refine RowAt.drew ?_) | (with_reducible refine RowAt.other ?_ _ _ (by first | omega | (simp; done) | (simp; omega))) | refine RowAt.then ?_ (by with_reducible assumption))) | exact Rd.below (by with_reducible assumption) (by first | (with_reducible exact Below.refl _ _) | ((repeat' (first | (with_reducible exact Below.refl _ _) | (with_reducible assumption) | (with_reducible refine below_alloc ?_ _) | (with_reducible refine Below.drew ?_) | (with_reducible refine below_drewN ?_ _) | (with_reducible refine Below.setCell ?_ ?_ _) | refine below_then ?_ (by with_reducible assumption))) <;> (first | omega | (simp; done) | (simp; omega))))) hn20 Hs2.out).mono ?_); rintro e w' ⟨rfl, hb⟩; rw [isE_len]; obtain ⟨hc, hf⟩ := bcell hb; have hz := hb.size; (try simp only [World.size_alloc, World.size_setCell, World.size_drew] at hz); obtain ⟨hlt, hle, hn1, hn2, hn3, hn4⟩ := bsize hb; (try simp only [World.size_alloc, World.size_setCell, World.size_drew] at hlt hle hn1 hn2 hn3 hn4); (try have hr0 : w.heap.size < w'.heap.size := by omega); (try have hr1 : w.heap.size + 1 < w'.heap.size := by omega); (try have hs0 : wS.heap.size < w'.heap.size := by omega); (try have hs1 : wG.heap.size < w'.heap.size := by omega))))
    all_goals (go_ret; exact ⟨ret_int (by have h1 := Hz.out; have h2 := Hl.out; clear Hs Hs2 hr; first | (simp_all [rqFault]; done) | (simp_all [rqFault]; omega) | (simp_all [rqFault, methodB]; done) | (simp_all [rqFault, methodB]; omega)), (by first | (with_reducible exact Below.refl _ _) | ((repeat' (first | (with_reducible exact Below.refl _ _) | (with_reducible assumption) | (with_reducible refine below_alloc ?_ _) | (with_reducible refine Below.drew ?_) | (with_reducible refine below_drewN ?_ _) | (with_reducible refine Below.setCell ?_ ?_ _) | refine below_then ?_ (by with_reducible assumption))) <;> (first | omega | (simp; done) | (simp; omega))))⟩)
  · have hc := fun a n c hl W hr hn => spec_HeadersFault a n c l hl W hr hn hs
    have hne : (hdsFault l != 0) = true := by simpa using hz
    have Hc := Lib.hid hc
    have Hz := Lib.hid hz
    clear hs hc hz hl
    go_enter Tryz.func19, Tryz.ntmps19
    go_wp2_with (first
      | (go_at_call 55; ((with_reducible refine (spec_l5Host h hh _).mono ?_); rintro e w' ⟨rfl, rfl⟩))
      | (go_at_call 56; ((with_reducible refine (spec_l5Path p hp _).mono ?_); rintro e w' ⟨rfl, rfl⟩))
      | fail
      | (go_at_call 57; ((with_reducible refine (Hc.out _ _ _ Hl.out _ (by first | (with_reducible assumption) | exact RowAt.rd (by repeat' (first | (with_reducible assumption) | (with_reducible refine RowAt.alloc ?_ _) | (with_reducible refine RowAt.drew ?_) | (with_reducible refine RowAt.other ?_ _ _ (by first | omega | (simp; done) | (simp; omega))) | refine RowAt.then ?_ (by with_reducible assumption))) | exact Rd.below (by with_reducible assumption) (by first | (with_reducible exact Below.refl _ _) | ((repeat' (first | (with_reducible exact Below.refl _ _) | (with_reducible assumption) | (with_reducible refine below_alloc ?_ _) | (with_reducible refine Below.drew ?_) | (with_reducible refine below_drewN ?_ _) | (with_reducible refine Below.setCell ?_ ?_ _) | refine below_then ?_ (by with_reducible assumption))) <;> (first | omega | (simp; done) | (simp; omega))))) hn).mono ?_); rintro e w' ⟨rfl, hb⟩; obtain ⟨hc, hf⟩ := bcell hb; have hz := hb.size; (try simp only [World.size_alloc, World.size_setCell, World.size_drew] at hz); obtain ⟨hlt, hle, hn1, hn2, hn3, hn4⟩ := bsize hb; (try simp only [World.size_alloc, World.size_setCell, World.size_drew] at hlt hle hn1 hn2 hn3 hn4); (try have hr0 : w.heap.size < w'.heap.size := by omega); (try have hr1 : w.heap.size + 1 < w'.heap.size := by omega); (try have hs0 : wS.heap.size < w'.heap.size := by omega); (try have hs1 : wG.heap.size < w'.heap.size := by omega))))
    all_goals (go_ret; exact ⟨ret_int (by have h1 := Hz.out; clear Hs hr; first | (simp_all [rqFault]; done) | (simp_all [rqFault]; omega) | (simp_all [rqFault, methodB]; done) | (simp_all [rqFault, methodB]; omega)), (by first | (with_reducible exact Below.refl _ _) | ((repeat' (first | (with_reducible exact Below.refl _ _) | (with_reducible assumption) | (with_reducible refine below_alloc ?_ _) | (with_reducible refine Below.drew ?_) | (with_reducible refine below_drewN ?_ _) | (with_reducible refine Below.setCell ?_ ?_ _) | refine below_then ?_ (by with_reducible assumption))) <;> (first | omega | (simp; done) | (simp; omega))))⟩)
set_option maxHeartbeats 3200000 in
theorem impl_RequestFault (m h p : ByteArray) (hm : m.size ≤ 9223372036854775807) (hh : h.size ≤ 9223372036854775807) (hp : p.size ≤ 9223372036854775807) (a : Option Addr) (n c : Nat) (l : List Hd) (hl : l.length = n) (w : World) (hr : Rd w a (hV l)) (hn : n ≤ 9223372036854775807)
    (hs : ∀ h ∈ l, h.1.size ≤ 9223372036854775807 ∧ h.2.size ≤ 9223372036854775807) : Calls Tryz.prog 20 #[.agg #[.string m, .string h, .string p, .slice a n c]] w fun e w' => e = .returned (.int .i64 (rqFault m h p l)) ∧ Below w.heap.size w w' := by
  have Hl := Lib.hid hl
  have Hs := Lib.hid hs
  by_cases hz : hdsFault l = 0
  · obtain ⟨h20, hall⟩ := hdsFault_0 hz
    have hs2 : ∀ h ∈ l, h.1.size ≤ 9223372036854775807 ∧ h.2.size ≤ 200 := fun h hh => ⟨(hs h hh).1, hdFault_size (hall h hh)⟩
    have hc := fun a n c hl W hr hn => impl_HeadersFault a n c l hl W hr hn hs
    rw [hz] at hc
    have Hc := Lib.hid hc
    have Hs2 := Lib.hid hs2
    have Hz := Lib.hid hz
    have hn20 : n ≤ 20 := by omega
    have Hz1 := Lib.hid size_Host
    have Hz2 := Lib.hid size_host
    clear hs hc hz hall hs2 hl h20
    go_enter Tryz.func20, Tryz.ntmps20
    go_wp2_with (first
      | (go_at_call 59; ((with_reducible refine (impl_isHost h hh _).mono ?_); rintro e w' ⟨rfl, rfl⟩))
      | (go_at_call 60; ((with_reducible refine (impl_isPath p hp _).mono ?_); rintro e w' ⟨rfl, rfl⟩))
      | (go_at_call 58; ((with_reducible refine (impl_isMethod m _).mono ?_); rintro e w' ⟨rfl, rfl⟩))
      | (go_at_call 54; ((with_reducible refine (Hc.out _ _ _ Hl.out _ (by first | (with_reducible assumption) | exact RowAt.rd (by repeat' (first | (with_reducible assumption) | (with_reducible refine RowAt.alloc ?_ _) | (with_reducible refine RowAt.drew ?_) | (with_reducible refine RowAt.other ?_ _ _ (by first | omega | (simp; done) | (simp; omega))) | refine RowAt.then ?_ (by with_reducible assumption))) | exact Rd.below (by with_reducible assumption) (by first | (with_reducible exact Below.refl _ _) | ((repeat' (first | (with_reducible exact Below.refl _ _) | (with_reducible assumption) | (with_reducible refine below_alloc ?_ _) | (with_reducible refine Below.drew ?_) | (with_reducible refine below_drewN ?_ _) | (with_reducible refine Below.setCell ?_ ?_ _) | refine below_then ?_ (by with_reducible assumption))) <;> (first | omega | (simp; done) | (simp; omega))))) hn).mono ?_); rintro e w' ⟨rfl, hb⟩; obtain ⟨hc, hf⟩ := bcell hb; have hz := hb.size; (try simp only [World.size_alloc, World.size_setCell, World.size_drew] at hz); obtain ⟨hlt, hle, hn1, hn2, hn3, hn4⟩ := bsize hb; (try simp only [World.size_alloc, World.size_setCell, World.size_drew] at hlt hle hn1 hn2 hn3 hn4); (try have hr0 : w.heap.size < w'.heap.size := by omega); (try have hr1 : w.heap.size + 1 < w'.heap.size := by omega); (try have hs0 : wS.heap.size < w'.heap.size := by omega); (try have hs1 : wG.heap.size < w'.heap.size := by omega)))
      | (go_at_call 33; ((with_reducible refine (impl_valuesOf ⟨#[72, 111, 115, 116]⟩ Hz1.out _ _ _ l Hl.out _ (by first | (with_reducible assumption) | exact RowAt.rd (by repeat' (first | (with_reducible assumption) | (with_reducible refine RowAt.alloc ?_ _) | (with_reducible refine RowAt.drew ?_) | (with_reducible refine RowAt.other ?_ _ _ (by first | omega | (simp; done) | (simp; omega))) | refine RowAt.then ?_ (by with_reducible assumption))) | exact Rd.below (by with_reducible assumption) (by first | (with_reducible exact Below.refl _ _) | ((repeat' (first | (with_reducible exact Below.refl _ _) | (with_reducible assumption) | (with_reducible refine below_alloc ?_ _) | (with_reducible refine Below.drew ?_) | (with_reducible refine below_drewN ?_ _) | (with_reducible refine Below.setCell ?_ ?_ _) | refine below_then ?_ (by with_reducible assumption))) <;> (first | omega | (simp; done) | (simp; omega))))) (by omega) Hs.out).mono ?_); rintro e w' ⟨g, cap, rfl, hown, hb⟩; rw [vals_host]; obtain ⟨hc, hf⟩ := bcell hb; have hz := hb.size; (try simp only [World.size_alloc, World.size_setCell, World.size_drew] at hz); obtain ⟨hlt, hle, hn1, hn2, hn3, hn4⟩ := bsize hb; (try simp only [World.size_alloc, World.size_setCell, World.size_drew] at hlt hle hn1 hn2 hn3 hn4); (try have hr0 : w.heap.size < w'.heap.size := by omega); (try have hr1 : w.heap.size + 1 < w'.heap.size := by omega); (try have hs0 : wS.heap.size < w'.heap.size := by omega); (try have hs1 : wG.heap.size < w'.heap.size := by omega))))
    all_goals (go_ret; exact ⟨ret_int (by have h1 := Hz.out; have h2 := Hl.out; clear Hs Hs2 hr; first | (simp_all [rqFault]; done) | (simp_all [rqFault]; omega) | (simp_all [rqFault, methodB]; done) | (simp_all [rqFault, methodB]; omega)), (by first | (with_reducible exact Below.refl _ _) | ((repeat' (first | (with_reducible exact Below.refl _ _) | (with_reducible assumption) | (with_reducible refine below_alloc ?_ _) | (with_reducible refine Below.drew ?_) | (with_reducible refine below_drewN ?_ _) | (with_reducible refine Below.setCell ?_ ?_ _) | refine below_then ?_ (by with_reducible assumption))) <;> (first | omega | (simp; done) | (simp; omega))))⟩)
  · have hc := fun a n c hl W hr hn => impl_HeadersFault a n c l hl W hr hn hs
    have hne : (hdsFault l != 0) = true := by simpa using hz
    have Hc := Lib.hid hc
    have Hz := Lib.hid hz
    clear hs hc hz hl
    go_enter Tryz.func20, Tryz.ntmps20
    go_wp2_with (first
      | (go_at_call 59; ((with_reducible refine (impl_isHost h hh _).mono ?_); rintro e w' ⟨rfl, rfl⟩))
      | (go_at_call 60; ((with_reducible refine (impl_isPath p hp _).mono ?_); rintro e w' ⟨rfl, rfl⟩))
      | (go_at_call 58; ((with_reducible refine (impl_isMethod m _).mono ?_); rintro e w' ⟨rfl, rfl⟩))
      | (go_at_call 54; ((with_reducible refine (Hc.out _ _ _ Hl.out _ (by first | (with_reducible assumption) | exact RowAt.rd (by repeat' (first | (with_reducible assumption) | (with_reducible refine RowAt.alloc ?_ _) | (with_reducible refine RowAt.drew ?_) | (with_reducible refine RowAt.other ?_ _ _ (by first | omega | (simp; done) | (simp; omega))) | refine RowAt.then ?_ (by with_reducible assumption))) | exact Rd.below (by with_reducible assumption) (by first | (with_reducible exact Below.refl _ _) | ((repeat' (first | (with_reducible exact Below.refl _ _) | (with_reducible assumption) | (with_reducible refine below_alloc ?_ _) | (with_reducible refine Below.drew ?_) | (with_reducible refine below_drewN ?_ _) | (with_reducible refine Below.setCell ?_ ?_ _) | refine below_then ?_ (by with_reducible assumption))) <;> (first | omega | (simp; done) | (simp; omega))))) hn).mono ?_); rintro e w' ⟨rfl, hb⟩; obtain ⟨hc, hf⟩ := bcell hb; have hz := hb.size; (try simp only [World.size_alloc, World.size_setCell, World.size_drew] at hz); obtain ⟨hlt, hle, hn1, hn2, hn3, hn4⟩ := bsize hb; (try simp only [World.size_alloc, World.size_setCell, World.size_drew] at hlt hle hn1 hn2 hn3 hn4); (try have hr0 : w.heap.size < w'.heap.size := by omega); (try have hr1 : w.heap.size + 1 < w'.heap.size := by omega); (try have hs0 : wS.heap.size < w'.heap.size := by omega); (try have hs1 : wG.heap.size < w'.heap.size := by omega))))
    all_goals (go_ret; exact ⟨ret_int (by have h1 := Hz.out; clear Hs hr; first | (simp_all [rqFault]; done) | (simp_all [rqFault]; omega) | (simp_all [rqFault, methodB]; done) | (simp_all [rqFault, methodB]; omega)), (by first | (with_reducible exact Below.refl _ _) | ((repeat' (first | (with_reducible exact Below.refl _ _) | (with_reducible assumption) | (with_reducible refine below_alloc ?_ _) | (with_reducible refine Below.drew ?_) | (with_reducible refine below_drewN ?_ _) | (with_reducible refine Below.setCell ?_ ?_ _) | refine below_then ?_ (by with_reducible assumption))) <;> (first | omega | (simp; done) | (simp; omega))))⟩)
end Go.Proofs.YtbiodbggaeglpaaGreatDoor
