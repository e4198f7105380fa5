/- Joined: PackS. -/
import Derived.Test.YtbiodbggaeglpaaGreatDoorJB11
import Derived.Test.YtbiodbggaeglpaaGreatDoorJB6
import Derived.Test.YtbiodbggaeglpaaGreatDoorJB0
import Derived.Test.YtbiodbggaeglpaaGreatDoorJB1
/- The bytes of a response: both texts. The steps are printed by gen/packs.py. -/
namespace Go.Proofs.YtbiodbggaeglpaaGreatDoor
open Go.RowKit
set_option linter.unusedSimpArgs false
set_option linter.unusedVariables false

def rspS (t : Int) (l : List Hd) : ByteArray := ⟨#[72, 84, 84, 80, 47, 49, 46, 49, 32]⟩ ++ decS t ++ ⟨#[13, 10]⟩ ++ packB l ++ ⟨#[13, 10]⟩
def packP (t : Int) (l : List Hd) (lb : List UInt8) : Int × List UInt8 := if rspFault t l lb.length = 0 then (0, (rspS t l).data.toList ++ lb) else (rspFault t l lb.length, [])
theorem packP_ok {t : Int} {l : List Hd} {lb : List UInt8} (e : rspFault t l lb.length = 0) : packP t l lb = (0, (rspS t l).data.toList ++ lb) := if_pos e
theorem packP_bad {t : Int} {l : List Hd} {lb : List UInt8} (e : rspFault t l lb.length ≠ 0) : packP t l lb = (rspFault t l lb.length, []) := if_neg e
theorem rsp_small {t : Int} {l : List Hd} {nb : Nat} (e : rspFault t l nb = 0) : l.length ≤ 20 ∧ (∀ h ∈ l, h.1.size ≤ 64 ∧ h.2.size ≤ 200) ∧ 200 ≤ t ∧ t ≤ 599 ∧ nb ≤ 2000 := by
  unfold rspFault at e
  split at e
  · exact absurd e (by decide)
  · rename_i hb
    split at e
    · rename_i h2; exact absurd e h2
    · rename_i h2
      obtain ⟨h20, hs⟩ := hds_small (l := l) (by simpa using h2)
      split at e
      · exact absurd e (by decide)
      · rename_i h3
        have h4 : inB t 200 599 = true := by cases hx : inB t 200 599 with | true => rfl | false => exact absurd hx hb
        obtain ⟨h5, h6⟩ := inB_iff.1 h4
        exact ⟨h20, hs, h5, h6, by omega⟩
theorem bw_brow' (s : ByteArray) (W : World) (lo : Nat) (h : lo ≤ W.heap.size) : ∃ g cap W', (convert 9 22 (.string s)).run Tryz.prog W = .ok (.slice (some ⟨g, 0, none⟩) s.size cap) W' ∧ lo ≤ g ∧ BRow W' g s.size cap s.data.toList ∧ Below W.heap.size W W' := by
  have h3 := Lib.run_convert_string_bytes (P := Tryz.prog) W 9 22 5 s Tryz.underlying9 Tryz.underlying22 Tryz.underlying5
  exact ⟨_, _, _, h3, h, bw_brow W s, bw_below W s⟩
theorem BRow.then {w w' : World} {g n cap : Nat} {xs : List UInt8} (h : BRow w g n cap xs) (hb : Below w.heap.size w w') : BRow w' g n cap xs := by
  obtain ⟨h1, r, h2, h3⟩ := h
  exact ⟨h1, r, h2, h3.then hb⟩
def rpV (t : Int) (l : List Hd) (v : Value) (b : Nat) : List Value := [.pointer (some ⟨b, 0, none⟩),
  .int .i64 t,
  .string (decS t),
  .string (⟨#[72, 84, 84, 80, 47, 49, 46, 49, 32]⟩ ++ decS t),
  .string (⟨#[72, 84, 84, 80, 47, 49, 46, 49, 32]⟩ ++ decS t ++ ⟨#[13, 10]⟩),
  .pointer (some ⟨b, 1, none⟩),
  v,
  .string (packB l),
  .string (⟨#[72, 84, 84, 80, 47, 49, 46, 49, 32]⟩ ++ decS t ++ ⟨#[13, 10]⟩ ++ packB l),
  .string (⟨#[72, 84, 84, 80, 47, 49, 46, 49, 32]⟩ ++ decS t ++ ⟨#[13, 10]⟩ ++ packB l ++ ⟨#[13, 10]⟩),
  .string (⟨#[72, 84, 84, 80, 47, 49, 46, 49, 32]⟩ ++ decS t ++ ⟨#[13, 10]⟩ ++ packB l ++ ⟨#[13, 10]⟩)]
def rpF (t : Int) (l : List Hd) (v : Value) (b : Nat) (k : Nat) (x : Value) (w : World) : Prop := (rpV t l v b)[k]? = some x

set_option maxRecDepth 100000 in
set_option maxHeartbeats 6400000 in
theorem impl_responseBytes (t : Int) (ht0 : 200 ≤ t) (ht1 : t ≤ 599) (a : Option Addr) (n c : Nat) (l : List Hd) (hl : l.length = n) (ab : Option Addr) (nb cb : Nat) (lb : List UInt8) (hlb : lb.length = nb) (hnb : nb ≤ 2000) (w : World) (hr : Rd w a (hV l)) (hrb : Rd w ab (bV lb)) (hn : n ≤ 20) (hs : ∀ h ∈ l, h.1.size ≤ 64 ∧ h.2.size ≤ 200) (hT : Tab w) :
    Calls Tryz.prog 52 #[.agg #[.int .i64 t, .slice a n c, .slice ab nb cb]] w fun e w' => ∃ g cap, e = .returned (.slice (some ⟨g, 0, none⟩) ((rspS t l).size + nb) cap) ∧ w.heap.size ≤ g ∧ RowAt w' g (bV ((rspS t l).data.toList ++ lb)) ∧ Below w.heap.size w w' := by
  have hd := fun W hr => impl_headersText a n c l hl W hr hn hs
  have hpz : (packB l).size ≤ 5360 := by
    have := packB_size (l := l) l.length (by omega) hs
    rw [List.take_length] at this
    exact this
  have hdz := decS_len t (by omega) (by omega)
  have Hd := Lib.hid hd
  have Hlb := Lib.hid hlb
  clear hd hs hl hlb
  go_enter Tryz.func52, Tryz.ntmps52
  go_wp2
  have bk : (w.alloc (.cells #[.int .i64 t, .slice a n c, .slice ab nb cb] 32)).heap[w.heap.size]? = some (.cells #[.int .i64 t, .slice a n c, .slice ab nb cb] 32 (0, 0)) := blk_new _ _
  have belV : Below w.heap.size w (w.alloc (.cells #[.int .i64 t, .slice a n c, .slice ab nb cb] 32)) := below_alloc (Below.refl _ _) _
  have hV' := hr.below belV
  have hVb := hrb.below belV
  have hTV := hT.then belV
  generalize (w.alloc (.cells #[.int .i64 t, .slice a n c, .slice ab nb cb] 32)) = V at *
  generalize hb3 : w.heap.size = b at *
  have hc3 : ∀ W, Below V.heap.size V W → (W.cell? ⟨b, 0, none⟩ = some (.int .i64 t) ∧ W.cell? ⟨b, 1, none⟩ = some (.slice a n c) ∧ W.cell? ⟨b, 2, none⟩ = some (.slice ab nb cb)) := fun W hb => cells3 (blk_then bk hb)
  have f1 : (9223372036854775807 < 9 + (decS t).size) = False := eq_false (by omega)
  have f2 : (9223372036854775807 < 9 + (decS t).size + 2) = False := eq_false (by omega)
  have f3 : (9223372036854775807 < 9 + (decS t).size + 2 + (packB l).size) = False := eq_false (by omega)
  have f4 : (9223372036854775807 < 9 + (decS t).size + 2 + (packB l).size + 2) = False := eq_false (by omega)
  refine wp_region_rel (fun W => Below V.heap.size V W) (fun _ w w' => Below w.heap.size w w') (rpF t l (.slice a n c) b) (by kernel_rfl) (by kernel_rfl) (Below.refl _ _).drew (fun _ _ _ h1 h2 => below_then h1 h2) (fun _ _ _ _ _ _ _ _ h3 => h3) ?_ ?_ ?_
  · intro i o v w hi hd hF
    exact absurd hd (by have := unB_spec (k := 99) (by kernel_rfl) hi hd; have := (Array.getElem?_eq_some_iff.1 hi).1; simp at this; omega)
  · repeat' (refine And.intro ?_ ?_)
    · intro ρ W hI hbase hdep
      have hc : ∀ v, ρ (.const v) = v := fun v => hbase _ (fun _ _ _ _ _ e => by cases e)
      have hfn : ∀ f, ρ (.func f) = .func (.func f) #[] #[] := fun v => hbase _ (fun _ _ _ _ _ e => by cases e)
      have e1 : ρ (.tmp 1) = .pointer (some ⟨b, 0, none⟩) := hbase (.tmp 1) (base_tmp (by kernel_rfl))
      simp only [execOp, hc, hfn, e1]
      go_simp
      exact ⟨Below.refl _ _, rfl⟩
    · intro ρ W hI hbase hdep
      have hc : ∀ v, ρ (.const v) = v := fun v => hbase _ (fun _ _ _ _ _ e => by cases e)
      have hfn : ∀ f, ρ (.func f) = .func (.func f) #[] #[] := fun v => hbase _ (fun _ _ _ _ _ e => by cases e)
      have p0 : ρ (.tmp 4) = .pointer (some ⟨b, 0, none⟩) := (Option.some.inj (hdep ⟨0, .data⟩ (by simp) rfl _ 4 rfl rfl : some (.pointer (some ⟨b, 0, none⟩)) = some (ρ (.tmp 4)))).symm
      obtain ⟨k0, k1, k2⟩ := hc3 W hI
      simp only [execOp, hc, hfn, p0]
      go_simp
      exact ⟨Below.refl _ _, rfl⟩
    · intro ρ W hI hbase hdep
      have hc : ∀ v, ρ (.const v) = v := fun v => hbase _ (fun _ _ _ _ _ e => by cases e)
      have hfn : ∀ f, ρ (.func f) = .func (.func f) #[] #[] := fun v => hbase _ (fun _ _ _ _ _ e => by cases e)
      have p1 : ρ (.tmp 5) = .int .i64 t := (Option.some.inj (hdep ⟨1, .data⟩ (by simp) rfl _ 5 rfl rfl : some (.int .i64 t) = some (ρ (.tmp 5)))).symm
      simp only [execOp, hc, hfn, p1]
      go_simp
      exact ⟨rfl, (impl_decimal t (by omega) (by omega) W (hTV.then hI)).mono fun e w' h => ⟨_, h.1, h.2, rfl⟩⟩
    · intro ρ W hI hbase hdep
      have hc : ∀ v, ρ (.const v) = v := fun v => hbase _ (fun _ _ _ _ _ e => by cases e)
      have hfn : ∀ f, ρ (.func f) = .func (.func f) #[] #[] := fun v => hbase _ (fun _ _ _ _ _ e => by cases e)
      have p2 : ρ (.tmp 6) = .string (decS t) := (Option.some.inj (hdep ⟨2, .data⟩ (by simp) rfl _ 6 rfl rfl : some (.string (decS t)) = some (ρ (.tmp 6)))).symm
      simp only [execOp, hc, hfn, p2]
      go_simp
      exact ⟨Below.refl _ _, rfl⟩
    · intro ρ W hI hbase hdep
      have hc : ∀ v, ρ (.const v) = v := fun v => hbase _ (fun _ _ _ _ _ e => by cases e)
      have hfn : ∀ f, ρ (.func f) = .func (.func f) #[] #[] := fun v => hbase _ (fun _ _ _ _ _ e => by cases e)
      have p3 : ρ (.tmp 7) = .string (⟨#[72, 84, 84, 80, 47, 49, 46, 49, 32]⟩ ++ decS t) := (Option.some.inj (hdep ⟨3, .data⟩ (by simp) rfl _ 7 rfl rfl : some (.string (⟨#[72, 84, 84, 80, 47, 49, 46, 49, 32]⟩ ++ decS t)) = some (ρ (.tmp 7)))).symm
      simp only [execOp, hc, hfn, p3]
      go_simp
      exact ⟨Below.refl _ _, rfl⟩
    · intro ρ W hI hbase hdep
      have hc : ∀ v, ρ (.const v) = v := fun v => hbase _ (fun _ _ _ _ _ e => by cases e)
      have hfn : ∀ f, ρ (.func f) = .func (.func f) #[] #[] := fun v => hbase _ (fun _ _ _ _ _ e => by cases e)
      have e1 : ρ (.tmp 1) = .pointer (some ⟨b, 0, none⟩) := hbase (.tmp 1) (base_tmp (by kernel_rfl))
      simp only [execOp, hc, hfn, e1]
      go_simp
      exact ⟨Below.refl _ _, rfl⟩
    · intro ρ W hI hbase hdep
      have hc : ∀ v, ρ (.const v) = v := fun v => hbase _ (fun _ _ _ _ _ e => by cases e)
      have hfn : ∀ f, ρ (.func f) = .func (.func f) #[] #[] := fun v => hbase _ (fun _ _ _ _ _ e => by cases e)
      have p5 : ρ (.tmp 9) = .pointer (some ⟨b, 1, none⟩) := (Option.some.inj (hdep ⟨5, .data⟩ (by simp) rfl _ 9 rfl rfl : some (.pointer (some ⟨b, 1, none⟩)) = some (ρ (.tmp 9)))).symm
      obtain ⟨k0, k1, k2⟩ := hc3 W hI
      simp only [execOp, hc, hfn, p5]
      go_simp
      exact ⟨Below.refl _ _, rfl⟩
    · intro ρ W hI hbase hdep
      have hc : ∀ v, ρ (.const v) = v := fun v => hbase _ (fun _ _ _ _ _ e => by cases e)
      have hfn : ∀ f, ρ (.func f) = .func (.func f) #[] #[] := fun v => hbase _ (fun _ _ _ _ _ e => by cases e)
      have p6 : ρ (.tmp 10) = .slice a n c := (Option.some.inj (hdep ⟨6, .data⟩ (by simp) rfl _ 10 rfl rfl : some (.slice a n c) = some (ρ (.tmp 10)))).symm
      simp only [execOp, hc, hfn, p6]
      go_simp
      exact ⟨rfl, (Hd.out W (hV'.below hI)).mono fun e w' h => ⟨_, h.1, h.2, rfl⟩⟩
    · intro ρ W hI hbase hdep
      have hc : ∀ v, ρ (.const v) = v := fun v => hbase _ (fun _ _ _ _ _ e => by cases e)
      have hfn : ∀ f, ρ (.func f) = .func (.func f) #[] #[] := fun v => hbase _ (fun _ _ _ _ _ e => by cases e)
      have p4 : ρ (.tmp 8) = .string (⟨#[72, 84, 84, 80, 47, 49, 46, 49, 32]⟩ ++ decS t ++ ⟨#[13, 10]⟩) := (Option.some.inj (hdep ⟨4, .data⟩ (by simp) rfl _ 8 rfl rfl : some (.string (⟨#[72, 84, 84, 80, 47, 49, 46, 49, 32]⟩ ++ decS t ++ ⟨#[13, 10]⟩)) = some (ρ (.tmp 8)))).symm
      have p7 : ρ (.tmp 11) = .string (packB l) := (Option.some.inj (hdep ⟨7, .data⟩ (by simp) rfl _ 11 rfl rfl : some (.string (packB l)) = some (ρ (.tmp 11)))).symm
      simp only [execOp, hc, hfn, p4, p7]
      go_simp
      exact ⟨Below.refl _ _, rfl⟩
    · intro ρ W hI hbase hdep
      have hc : ∀ v, ρ (.const v) = v := fun v => hbase _ (fun _ _ _ _ _ e => by cases e)
      have hfn : ∀ f, ρ (.func f) = .func (.func f) #[] #[] := fun v => hbase _ (fun _ _ _ _ _ e => by cases e)
      have p8 : ρ (.tmp 12) = .string (⟨#[72, 84, 84, 80, 47, 49, 46, 49, 32]⟩ ++ decS t ++ ⟨#[13, 10]⟩ ++ packB l) := (Option.some.inj (hdep ⟨8, .data⟩ (by simp) rfl _ 12 rfl rfl : some (.string (⟨#[72, 84, 84, 80, 47, 49, 46, 49, 32]⟩ ++ decS t ++ ⟨#[13, 10]⟩ ++ packB l)) = some (ρ (.tmp 12)))).symm
      simp only [execOp, hc, hfn, p8]
      go_simp
      exact ⟨Below.refl _ _, rfl⟩
    · intro ρ W hI hbase hdep
      have hc : ∀ v, ρ (.const v) = v := fun v => hbase _ (fun _ _ _ _ _ e => by cases e)
      have hfn : ∀ f, ρ (.func f) = .func (.func f) #[] #[] := fun v => hbase _ (fun _ _ _ _ _ e => by cases e)
      have p9 : ρ (.tmp 13) = .string (⟨#[72, 84, 84, 80, 47, 49, 46, 49, 32]⟩ ++ decS t ++ ⟨#[13, 10]⟩ ++ packB l ++ ⟨#[13, 10]⟩) := (Option.some.inj (hdep ⟨9, .data⟩ (by simp) rfl _ 13 rfl rfl : some (.string (⟨#[72, 84, 84, 80, 47, 49, 46, 49, 32]⟩ ++ decS t ++ ⟨#[13, 10]⟩ ++ packB l ++ ⟨#[13, 10]⟩)) = some (ρ (.tmp 13)))).symm
      simp only [execOp, hc, hfn, p9]
      go_simp
      exact ⟨Below.refl _ _, rfl⟩
    · trivial
  · intro a' w' hI ha hdf hall _ hrest
    have e3 : a'.tmps.getD 3 undef = .string (rspS t l) := (Option.some.inj (hall 10 _ 3 rfl rfl : some (.string (rspS t l)) = some (a'.tmps.getD 3 undef))).symm
    have e1 := hrest (.tmp 1) (base_tmp (by kernel_rfl))
    have e1' : a'.tmps.getD 1 undef = .pointer (some ⟨b, 0, none⟩) := e1
    obtain ⟨g, cap, W', c1, c2, c3, c4⟩ := bw_brow' (rspS t l) w' V.heap.size hI.size
    obtain ⟨k0, k1, k2⟩ := hc3 W' (below_then hI c4)
    obtain ⟨g2, cap2, W2, d1, d2, d3, d4⟩ := app_bytes V.heap.size ab nb cb lb Hlb.out g _ cap _ W' c3 c2 ((hVb.below hI).below c4) (by rw [show (rspS t l).size = 9 + (decS t).size + 2 + (packB l).size + 2 from by unfold rspS; simp only [ByteArray.size_append]; rfl]; omega) 22
    obtain ⟨tmps, defers⟩ := a'
    simp only at ha hdf e3 e1'
    subst hdf
    have hsz : tmps.size = 19 := ha
    have h3 : 3 < tmps.size := by omega
    have h1 : 1 < tmps.size := by omega
    have z3 : tmps[3]'h3 = .string (rspS t l) := by
      rw [Array.getD_eq_getD_getElem?, Array.getElem?_eq_getElem h3] at e3
      exact e3
    have z1 : tmps[1]'h1 = .pointer (some ⟨b, 0, none⟩) := by
      rw [Array.getD_eq_getD_getElem?, Array.getElem?_eq_getElem h1] at e1'
      exact e1'
    clear e3 e1' e1 hall hrest ha hc3 hV' hVb hTV hT
    have D1 := Lib.hid d1
    have hbs := belV.size
    have hcs := c4.size
    have his := hI.size
    clear d1
    go_wp2_with (at_builtin; refine wpList_appB (v := .slice (some ⟨g, 0, none⟩) (rspS t l).size cap) (xv := .slice ab nb cb) rfl _ _ rfl ?c1 ?c2 D1.out ?_)
    case c1 => simp [Act.eval, hsz]
    case c2 => simp [Act.eval, hsz]
    have hfin : Below w.heap.size w W' := by rw [hb3]; exact belV.trans ((below_then hI c4).mono (by omega))
    exact bodyPost_ret (results_tmp Tryz.results52 _ _ _) rfl ⟨g2, cap2, congrArg Ending.returned (by simp [hsz]), by omega, d3, d4.below hfin (by omega)⟩

def spV (t : Int) (l : List Hd) (v : Value) (b : Nat) : List Value := [.pointer (some ⟨b, 0, none⟩),
  .int .i64 t,
  .string (decS t),
  .string (⟨#[72, 84, 84, 80, 47, 49, 46, 49, 32]⟩ ++ decS t),
  .string (⟨#[72, 84, 84, 80, 47, 49, 46, 49, 32]⟩ ++ decS t ++ ⟨#[13, 10]⟩),
  .pointer (some ⟨b, 1, none⟩),
  v,
  .string (packB l),
  .string (⟨#[72, 84, 84, 80, 47, 49, 46, 49, 32]⟩ ++ decS t ++ ⟨#[13, 10]⟩ ++ packB l),
  .string (⟨#[72, 84, 84, 80, 47, 49, 46, 49, 32]⟩ ++ decS t ++ ⟨#[13, 10]⟩ ++ packB l ++ ⟨#[13, 10]⟩),
  undef,
  undef]
def spF (t : Int) (l : List Hd) (v : Value) (b lo : Nat) (k : Nat) (x : Value) (w : World) : Prop :=
  if k = 10 ∨ k = 11 then ∃ g cap, x = .slice (some ⟨g, 0, none⟩) (rspS t l).size cap ∧ lo ≤ g ∧ BRow w g (rspS t l).size cap (rspS t l).data.toList else (spV t l v b)[k]? = some x
theorem spF_mono {t : Int} {l : List Hd} {v : Value} {b lo : Nat} (k : Nat) (x : Value) (w w' : World) (hF : spF t l v b lo k x w) (hb : Below w.heap.size w w') : spF t l v b lo k x w' := by
  unfold spF at *
  split at hF
  · rename_i hk; rw [if_pos hk]; obtain ⟨g, cap, e, hlo, hr⟩ := hF; exact ⟨g, cap, e, hlo, hr.then hb⟩
  · rename_i hk; rw [if_neg hk]; exact hF
theorem rspS_size (t : Int) (l : List Hd) : (rspS t l).size = 9 + (decS t).size + 2 + (packB l).size + 2 := by
  unfold rspS
  simp only [ByteArray.size_append]
  rfl
set_option maxRecDepth 100000 in
set_option maxHeartbeats 6400000 in
theorem spec_PackResponseC (t : Int) (a : Option Addr) (n c : Nat) (l : List Hd) (hl : l.length = n) (ab : Option Addr) (nb cb : Nat) (lb : List UInt8) (hlb : lb.length = nb) (w : World) (hr : Rd w a (hV l)) (hn : n ≤ 9223372036854775807) (hnb : nb ≤ 9223372036854775807)
    (hs : ∀ h ∈ l, h.1.size ≤ 9223372036854775807 ∧ h.2.size ≤ 9223372036854775807) (hrb : Rd w ab (bV lb)) : Calls Tryz.prog 35 #[.agg #[.int .i64 t, .slice a n c, .slice ab nb cb]] w (bqC w (packP t l lb)) := by
  subst hlb
  have hc := fun W hr => spec_ResponseFault t a n c l hl ab lb.length cb W hr hn hnb hs
  by_cases hz : rspFault t l lb.length = 0
  · obtain ⟨h20, hs2, ht0, ht1, hnb2⟩ := rsp_small hz
    have hd := fun W hr => spec_l4Pack a n c l hl W hr (by omega) hs2
    have hpz : (packB l).size ≤ 5360 := by
      have := packB_size (l := l) l.length (by omega) hs2
      rw [List.take_length] at this
      exact this
    have hdz := decS_len t (by omega) (by omega)
    rw [packP_ok hz]
    rw [hz] at hc
    obtain ⟨kt, rfl⟩ : ∃ kt : Nat, t = (kt : Int) := ⟨t.toNat, by omega⟩
    have Hc := Lib.hid hc
    have Hd := Lib.hid hd
    have HB := Lib.hid (show ((rspS (kt : Int) l).data.toList ++ lb).length = (rspS (kt : Int) l).size + lb.length by rw [List.length_append, bytes_len])
    generalize hnbe : lb.length = nb at *
    have Hnb := Lib.hid hnbe
    clear hz hc hl hs hd hs2 hnbe
    go_enter Tryz.func35, Tryz.ntmps35
    go_wp2_with (go_at_call 21; ((with_reducible refine (Hc.out _ (by first | (with_reducible assumption) | exact RowAt.rd (by repeat' (first | (with_reducible assumption) | (with_reducible refine RowAt.alloc ?_ _) | (with_reducible refine RowAt.drew ?_) | (with_reducible refine RowAt.other ?_ _ _ (by first | omega | (simp; done) | (simp; omega))) | refine RowAt.then ?_ (by with_reducible assumption))) | exact Rd.below (by with_reducible assumption) (by first | (with_reducible exact Below.refl _ _) | ((repeat' (first | (with_reducible exact Below.refl _ _) | (with_reducible assumption) | (with_reducible refine below_alloc ?_ _) | (with_reducible refine Below.drew ?_) | (with_reducible refine below_drewN ?_ _) | (with_reducible refine Below.setCell ?_ ?_ _) | refine below_then ?_ (by with_reducible assumption))) <;> (first | omega | (simp; done) | (simp; omega)))))).mono ?_); rintro e w' ⟨rfl, hb⟩; obtain ⟨hc, hf⟩ := bcell hb; have hz := hb.size; (try simp only [World.size_alloc, World.size_setCell, World.size_drew] at hz); obtain ⟨hlt, hle, hn1, hn2, hn3, hn4⟩ := bsize hb; (try simp only [World.size_alloc, World.size_setCell, World.size_drew] at hlt hle hn1 hn2 hn3 hn4); (try have hr0 : w.heap.size < w'.heap.size := by omega); (try have hr1 : w.heap.size + 1 < w'.heap.size := by omega); (try have hs0 : wS.heap.size < w'.heap.size := by omega); (try have hs1 : wG.heap.size < w'.heap.size := by omega)))
    have bk : w'.heap[w.heap.size]? = some (.cells #[.int .i64 (kt : Int), .slice a n c, .slice ab nb cb] 32 (0, 0)) := by exact (by repeat' (first | (with_reducible assumption) | (with_reducible exact blk_new _ _) | (with_reducible apply blk_set) | (with_reducible refine blk_new' _ _ _ (by first | omega | (simp only [World.size_alloc]; first | done | omega))) | (with_reducible refine blk_other ?_ _ _ _ (by omega)) | (with_reducible refine blk_drew ?_) | (with_reducible refine blk_alloc ?_ _) | refine blk_then ?_ (by with_reducible assumption)))
    have bkx : w'.heap[w.heap.size + 1]? = some (.cells #[.int .i64 0, .slice none 0 0] 38 (0, 0)) := by exact (by repeat' (first | (with_reducible assumption) | (with_reducible exact blk_new _ _) | (with_reducible apply blk_set) | (with_reducible refine blk_new' _ _ _ (by first | omega | (simp only [World.size_alloc]; first | done | omega))) | (with_reducible refine blk_other ?_ _ _ _ (by omega)) | (with_reducible refine blk_drew ?_) | (with_reducible refine blk_alloc ?_ _) | refine blk_then ?_ (by with_reducible assumption)))
    have belV : Below w.heap.size w w' := by exact (by first | (with_reducible exact Below.refl _ _) | ((repeat' (first | (with_reducible exact Below.refl _ _) | (with_reducible assumption) | (with_reducible refine below_alloc ?_ _) | (with_reducible refine Below.drew ?_) | (with_reducible refine below_drewN ?_ _) | (with_reducible refine Below.setCell ?_ ?_ _) | refine below_then ?_ (by with_reducible assumption))) <;> (first | omega | (simp; done) | (simp; omega))))
    have hxV : w.heap.size + 1 < w'.heap.size := by omega
    have hV' := hr.below belV
    have hVb := hrb.below belV
    generalize w' = V at *
    generalize hb3 : w.heap.size = b at *
    generalize hbx : b + 1 = bx at *
    have hc3 : ∀ W, Below V.heap.size V W → (W.cell? ⟨b, 0, none⟩ = some (.int .i64 (kt : Int)) ∧ W.cell? ⟨b, 1, none⟩ = some (.slice a n c) ∧ W.cell? ⟨b, 2, none⟩ = some (.slice ab nb cb)) := fun W hb => cells3 (blk_then bk hb)
    clear hc hf hb
    have f1 : (9223372036854775807 < 9 + (decS (kt : Int)).size) = False := eq_false (by omega)
    have f2 : (9223372036854775807 < 9 + (decS (kt : Int)).size + 2) = False := eq_false (by omega)
    have f3 : (9223372036854775807 < 9 + (decS (kt : Int)).size + 2 + (packB l).size) = False := eq_false (by omega)
    have f4 : (9223372036854775807 < 9 + (decS (kt : Int)).size + 2 + (packB l).size + 2) = False := eq_false (by omega)
    refine wp_region_rel (fun W => Below V.heap.size V W) (fun _ w w' => Below w.heap.size w w') (spF (kt : Int) l (.slice a n c) b V.heap.size) (by kernel_rfl) (by kernel_rfl) (Below.refl _ _).drew (fun _ _ _ h1 h2 => below_then h1 h2) (fun _ _ _ _ _ _ _ h2 h3 => spF_mono _ _ _ _ h3 h2) ?_ ?_ ?_
    · intro i o v w hi hd hF
      exact absurd hd (by have := unB_spec (k := 99) (by kernel_rfl) hi hd; have := (Array.getElem?_eq_some_iff.1 hi).1; simp at this; omega)
    · repeat' (refine And.intro ?_ ?_)
      · intro ρ W hI hbase hdep
        have hc : ∀ v, ρ (.const v) = v := fun v => hbase _ (fun _ _ _ _ _ e => by cases e)
        have hfn : ∀ f, ρ (.func f) = .func (.func f) #[] #[] := fun v => hbase _ (fun _ _ _ _ _ e => by cases e)
        have e1 : ρ (.tmp 1) = .pointer (some ⟨b, 0, none⟩) := hbase (.tmp 1) (base_tmp (by kernel_rfl))
        simp only [execOp, hc, hfn, e1]
        go_simp
        exact ⟨Below.refl _ _, rfl⟩
      · intro ρ W hI hbase hdep
        have hc : ∀ v, ρ (.const v) = v := fun v => hbase _ (fun _ _ _ _ _ e => by cases e)
        have hfn : ∀ f, ρ (.func f) = .func (.func f) #[] #[] := fun v => hbase _ (fun _ _ _ _ _ e => by cases e)
        have p0 : ρ (.tmp 11) = .pointer (some ⟨b, 0, none⟩) := (Option.some.inj (hdep ⟨0, .data⟩ (by simp) rfl _ 11 rfl rfl : some (.pointer (some ⟨b, 0, none⟩)) = some (ρ (.tmp 11)))).symm
        obtain ⟨k0, k1, k2⟩ := hc3 W hI
        simp only [execOp, hc, hfn, p0]
        go_simp
        exact ⟨Below.refl _ _, rfl⟩
      · intro ρ W hI hbase hdep
        have hc : ∀ v, ρ (.const v) = v := fun v => hbase _ (fun _ _ _ _ _ e => by cases e)
        have hfn : ∀ f, ρ (.func f) = .func (.func f) #[] #[] := fun v => hbase _ (fun _ _ _ _ _ e => by cases e)
        have p1 : ρ (.tmp 12) = .int .i64 (kt : Int) := (Option.some.inj (hdep ⟨1, .data⟩ (by simp) rfl _ 12 rfl rfl : some (.int .i64 (kt : Int)) = some (ρ (.tmp 12)))).symm
        simp only [execOp, hc, hfn, p1]
        go_simp
        exact ⟨rfl, (spec_l1Digits kt (by omega) W).mono fun e w' h => ⟨_, h.1, h.2, rfl⟩⟩
      · intro ρ W hI hbase hdep
        have hc : ∀ v, ρ (.const v) = v := fun v => hbase _ (fun _ _ _ _ _ e => by cases e)
        have hfn : ∀ f, ρ (.func f) = .func (.func f) #[] #[] := fun v => hbase _ (fun _ _ _ _ _ e => by cases e)
        have p2 : ρ (.tmp 13) = .string (decS (kt : Int)) := (Option.some.inj (hdep ⟨2, .data⟩ (by simp) rfl _ 13 rfl rfl : some (.string (decS (kt : Int))) = some (ρ (.tmp 13)))).symm
        simp only [execOp, hc, hfn, p2]
        go_simp
        exact ⟨Below.refl _ _, rfl⟩
      · intro ρ W hI hbase hdep
        have hc : ∀ v, ρ (.const v) = v := fun v => hbase _ (fun _ _ _ _ _ e => by cases e)
        have hfn : ∀ f, ρ (.func f) = .func (.func f) #[] #[] := fun v => hbase _ (fun _ _ _ _ _ e => by cases e)
        have p3 : ρ (.tmp 14) = .string (⟨#[72, 84, 84, 80, 47, 49, 46, 49, 32]⟩ ++ decS (kt : Int)) := (Option.some.inj (hdep ⟨3, .data⟩ (by simp) rfl _ 14 rfl rfl : some (.string (⟨#[72, 84, 84, 80, 47, 49, 46, 49, 32]⟩ ++ decS (kt : Int))) = some (ρ (.tmp 14)))).symm
        simp only [execOp, hc, hfn, p3]
        go_simp
        exact ⟨Below.refl _ _, rfl⟩
      · intro ρ W hI hbase hdep
        have hc : ∀ v, ρ (.const v) = v := fun v => hbase _ (fun _ _ _ _ _ e => by cases e)
        have hfn : ∀ f, ρ (.func f) = .func (.func f) #[] #[] := fun v => hbase _ (fun _ _ _ _ _ e => by cases e)
        have e1 : ρ (.tmp 1) = .pointer (some ⟨b, 0, none⟩) := hbase (.tmp 1) (base_tmp (by kernel_rfl))
        simp only [execOp, hc, hfn, e1]
        go_simp
        exact ⟨Below.refl _ _, rfl⟩
      · intro ρ W hI hbase hdep
        have hc : ∀ v, ρ (.const v) = v := fun v => hbase _ (fun _ _ _ _ _ e => by cases e)
        have hfn : ∀ f, ρ (.func f) = .func (.func f) #[] #[] := fun v => hbase _ (fun _ _ _ _ _ e => by cases e)
        have p5 : ρ (.tmp 16) = .pointer (some ⟨b, 1, none⟩) := (Option.some.inj (hdep ⟨5, .data⟩ (by simp) rfl _ 16 rfl rfl : some (.pointer (some ⟨b, 1, none⟩)) = some (ρ (.tmp 16)))).symm
        obtain ⟨k0, k1, k2⟩ := hc3 W hI
        simp only [execOp, hc, hfn, p5]
        go_simp
        exact ⟨Below.refl _ _, rfl⟩
      · intro ρ W hI hbase hdep
        have hc : ∀ v, ρ (.const v) = v := fun v => hbase _ (fun _ _ _ _ _ e => by cases e)
        have hfn : ∀ f, ρ (.func f) = .func (.func f) #[] #[] := fun v => hbase _ (fun _ _ _ _ _ e => by cases e)
        have p6 : ρ (.tmp 17) = .slice a n c := (Option.some.inj (hdep ⟨6, .data⟩ (by simp) rfl _ 17 rfl rfl : some (.slice a n c) = some (ρ (.tmp 17)))).symm
        simp only [execOp, hc, hfn, p6]
        go_simp
        exact ⟨rfl, (Hd.out W (hV'.below hI)).mono fun e w' h => ⟨_, h.1, h.2, rfl⟩⟩
      · intro ρ W hI hbase hdep
        have hc : ∀ v, ρ (.const v) = v := fun v => hbase _ (fun _ _ _ _ _ e => by cases e)
        have hfn : ∀ f, ρ (.func f) = .func (.func f) #[] #[] := fun v => hbase _ (fun _ _ _ _ _ e => by cases e)
        have p4 : ρ (.tmp 15) = .string (⟨#[72, 84, 84, 80, 47, 49, 46, 49, 32]⟩ ++ decS (kt : Int) ++ ⟨#[13, 10]⟩) := (Option.some.inj (hdep ⟨4, .data⟩ (by simp) rfl _ 15 rfl rfl : some (.string (⟨#[72, 84, 84, 80, 47, 49, 46, 49, 32]⟩ ++ decS (kt : Int) ++ ⟨#[13, 10]⟩)) = some (ρ (.tmp 15)))).symm
        have p7 : ρ (.tmp 18) = .string (packB l) := (Option.some.inj (hdep ⟨7, .data⟩ (by simp) rfl _ 18 rfl rfl : some (.string (packB l)) = some (ρ (.tmp 18)))).symm
        simp only [execOp, hc, hfn, p4, p7]
        go_simp
        exact ⟨Below.refl _ _, rfl⟩
      · intro ρ W hI hbase hdep
        have hc : ∀ v, ρ (.const v) = v := fun v => hbase _ (fun _ _ _ _ _ e => by cases e)
        have hfn : ∀ f, ρ (.func f) = .func (.func f) #[] #[] := fun v => hbase _ (fun _ _ _ _ _ e => by cases e)
        have p8 : ρ (.tmp 19) = .string (⟨#[72, 84, 84, 80, 47, 49, 46, 49, 32]⟩ ++ decS (kt : Int) ++ ⟨#[13, 10]⟩ ++ packB l) := (Option.some.inj (hdep ⟨8, .data⟩ (by simp) rfl _ 19 rfl rfl : some (.string (⟨#[72, 84, 84, 80, 47, 49, 46, 49, 32]⟩ ++ decS (kt : Int) ++ ⟨#[13, 10]⟩ ++ packB l)) = some (ρ (.tmp 19)))).symm
        simp only [execOp, hc, hfn, p8]
        go_simp
        exact ⟨Below.refl _ _, rfl⟩
      · intro ρ W hI hbase hdep
        have hc : ∀ v, ρ (.const v) = v := fun v => hbase _ (fun _ _ _ _ _ e => by cases e)
        have hfn : ∀ f, ρ (.func f) = .func (.func f) #[] #[] := fun v => hbase _ (fun _ _ _ _ _ e => by cases e)
        have p9 : ρ (.tmp 20) = .string (⟨#[72, 84, 84, 80, 47, 49, 46, 49, 32]⟩ ++ decS (kt : Int) ++ ⟨#[13, 10]⟩ ++ packB l ++ ⟨#[13, 10]⟩) := (Option.some.inj (hdep ⟨9, .data⟩ (by simp) rfl _ 20 rfl rfl : some (.string (⟨#[72, 84, 84, 80, 47, 49, 46, 49, 32]⟩ ++ decS (kt : Int) ++ ⟨#[13, 10]⟩ ++ packB l ++ ⟨#[13, 10]⟩)) = some (ρ (.tmp 20)))).symm
        simp only [execOp, hc, hfn, p9]
        obtain ⟨g, cap, W', e1, e2, e3, e4⟩ := bw_brow' (rspS (kt : Int) l) W V.heap.size hI.size
        exact good_val e1 ⟨e4, g, cap, rfl, e2, e3⟩
      · intro ρ W hI hbase hdep
        have hc : ∀ v, ρ (.const v) = v := fun v => hbase _ (fun _ _ _ _ _ e => by cases e)
        have hfn : ∀ f, ρ (.func f) = .func (.func f) #[] #[] := fun v => hbase _ (fun _ _ _ _ _ e => by cases e)
        obtain ⟨g, cap, p10, hsp10⟩ : ∃ g cap, ρ (.tmp 21) = .slice (some ⟨g, 0, none⟩) (rspS (kt : Int) l).size cap ∧ V.heap.size ≤ g ∧ BRow W g (rspS (kt : Int) l).size cap (rspS (kt : Int) l).data.toList := hdep ⟨10, .data⟩ (by simp) rfl _ 21 rfl rfl
        simp only [execOp, hc, hfn, p10]
        go_simp
        exact ⟨Below.refl _ _, g, cap, rfl, hsp10⟩
      · trivial
    · intro a' w' hI ha hdf hall _ hrest
      have h11 := hall 11 _ 4 rfl rfl
      unfold spF at h11
      rw [if_pos (.inr rfl)] at h11
      obtain ⟨g, cap, e4, c2, c3⟩ := h11
      have e1 : a'.tmps.getD 1 undef = .pointer (some ⟨b, 0, none⟩) := hrest (.tmp 1) (base_tmp (by kernel_rfl))
      have e2 : a'.tmps.getD 2 undef = .pointer (some ⟨bx, 0, none⟩) := hrest (.tmp 2) (base_tmp (by kernel_rfl))
      obtain ⟨k0, k1, k2⟩ := hc3 w' hI
      obtain ⟨g2, cap2, W2, d1, ⟨d2, d2c⟩, d3, d4⟩ := app_bytesC V.heap.size ab nb cb lb Hnb.out g _ cap _ w' c3 c2 (hVb.below hI) (by rw [rspS_size]; omega) 22
      obtain ⟨tmps, defers⟩ := a'
      simp only at ha hdf e1 e2 e4
      subst hdf
      have hsz : tmps.size = 27 := ha
      have h1 : 1 < tmps.size := by omega
      have h2 : 2 < tmps.size := by omega
      have h4 : 4 < tmps.size := by omega
      have z1 : tmps[1]'h1 = .pointer (some ⟨b, 0, none⟩) := by
        rw [Array.getD_eq_getD_getElem?, Array.getElem?_eq_getElem h1] at e1
        exact e1
      have z2 : tmps[2]'h2 = .pointer (some ⟨bx, 0, none⟩) := by
        rw [Array.getD_eq_getD_getElem?, Array.getElem?_eq_getElem h2] at e2
        exact e2
      have z4 : tmps[4]'h4 = .slice (some ⟨g, 0, none⟩) (rspS (kt : Int) l).size cap := by
        rw [Array.getD_eq_getD_getElem?, Array.getElem?_eq_getElem h4] at e4
        exact e4
      have hx2 := d4.blk (blk_then bkx hI) (by omega)
      have hxl := (Array.getElem?_eq_some_iff.1 hx2).1
      obtain ⟨x0, x1⟩ := cells2 hx2
      have y0 : W2.frozen? ⟨bx, 0, none⟩ = false := by simp [World.frozen?, hx2]
      have y1 : W2.frozen? ⟨bx, 1, none⟩ = false := by simp [World.frozen?, hx2]
      have D1 := Lib.hid d1
      have HX := Lib.hid hx2
      have D3 := Lib.hid d3
      have D4 := Lib.hid d4
      have hbs := belV.size
      have his := hI.size
      have d4s := d4.size
      have hg2 := d3.lt
      clear d1 d3 d4 hx2 e1 e2 e4 hall hrest ha hc3 hV' hVb
      go_wp2_with (at_builtin; refine wpList_appB (v := .slice (some ⟨g, 0, none⟩) (rspS (kt : Int) l).size cap) (xv := .slice ab nb cb) rfl _ _ rfl ?c1 ?c2 D1.out ?_)
      case c1 => simp [Act.eval, hsz]
      case c2 => simp [Act.eval, hsz]
      have hx2 := HX.out
      have hfin : Below w.heap.size w W2 := D4.out.below (by rw [hb3]; exact belV.trans (hI.mono (by omega))) (by omega)
      have hz3 := hfin.size
      exact bodyPost_ret (res_row Tryz.results35 _ _ (by simp [hsz, z2]; rfl) (blk_cast (by repeat' (first | (with_reducible assumption) | (with_reducible exact blk_new _ _) | (with_reducible apply blk_set) | (with_reducible refine blk_new' _ _ _ (by first | omega | (simp only [World.size_alloc]; first | done | omega))) | (with_reducible refine blk_other ?_ _ _ _ (by omega)) | (with_reducible refine blk_drew ?_) | (with_reducible refine blk_alloc ?_ _) | refine blk_then ?_ (by with_reducible assumption))) (by first | (simp; done) | rfl)) Tryz.underlying38 rfl _ (by kernel_rfl) rfl) rfl ⟨some ⟨g2, 0, none⟩, _, cap2, rfl, ⟨HB.out, .inr ⟨g2, rfl, by omega, by simp; omega, ((D3.out.other _ _ (by show g2 ≠ bx; omega)).other _ _ (by show g2 ≠ bx; omega))⟩⟩, by exact (by first | (with_reducible exact Below.refl _ _) | ((repeat' (first | (with_reducible exact Below.refl _ _) | (with_reducible assumption) | (with_reducible refine below_alloc ?_ _) | (with_reducible refine Below.drew ?_) | (with_reducible refine below_drewN ?_ _) | (with_reducible refine Below.setCell ?_ ?_ _) | refine below_then ?_ (by with_reducible assumption))) <;> (first | omega | (simp; done) | (simp; omega)))), d2c⟩
  · have hne : (rspFault t l lb.length != 0) = true := by simpa using hz
    rw [packP_bad hz]
    have Hc := Lib.hid hc
    generalize lb.length = nb at *
    clear hz hc hl hs
    go_enter Tryz.func35, Tryz.ntmps35
    go_wp2_with (go_at_call 21; ((with_reducible refine (Hc.out _ (by first | (with_reducible assumption) | exact RowAt.rd (by repeat' (first | (with_reducible assumption) | (with_reducible refine RowAt.alloc ?_ _) | (with_reducible refine RowAt.drew ?_) | (with_reducible refine RowAt.other ?_ _ _ (by first | omega | (simp; done) | (simp; omega))) | refine RowAt.then ?_ (by with_reducible assumption))) | exact Rd.below (by with_reducible assumption) (by first | (with_reducible exact Below.refl _ _) | ((repeat' (first | (with_reducible exact Below.refl _ _) | (with_reducible assumption) | (with_reducible refine below_alloc ?_ _) | (with_reducible refine Below.drew ?_) | (with_reducible refine below_drewN ?_ _) | (with_reducible refine Below.setCell ?_ ?_ _) | refine below_then ?_ (by with_reducible assumption))) <;> (first | omega | (simp; done) | (simp; omega)))))).mono ?_); rintro e w' ⟨rfl, hb⟩; obtain ⟨hc, hf⟩ := bcell hb; have hz := hb.size; (try simp only [World.size_alloc, World.size_setCell, World.size_drew] at hz); obtain ⟨hlt, hle, hn1, hn2, hn3, hn4⟩ := bsize hb; (try simp only [World.size_alloc, World.size_setCell, World.size_drew] at hlt hle hn1 hn2 hn3 hn4); (try have hr0 : w.heap.size < w'.heap.size := by omega); (try have hr1 : w.heap.size + 1 < w'.heap.size := by omega); (try have hs0 : wS.heap.size < w'.heap.size := by omega); (try have hs1 : wG.heap.size < w'.heap.size := by omega)))
    exact bodyPost_ret (res_row Tryz.results35 _ _ rfl (blk_cast (by repeat' (first | (with_reducible assumption) | (with_reducible exact blk_new _ _) | (with_reducible apply blk_set) | (with_reducible refine blk_new' _ _ _ (by first | omega | (simp only [World.size_alloc]; first | done | omega))) | (with_reducible refine blk_other ?_ _ _ _ (by omega)) | (with_reducible refine blk_drew ?_) | (with_reducible refine blk_alloc ?_ _) | refine blk_then ?_ (by with_reducible assumption))) (by first | (simp; done) | rfl)) Tryz.underlying38 rfl _ (by kernel_rfl) rfl) rfl ⟨none, 0, 0, rfl, ⟨rfl, .nil _ _ _ _⟩, by exact (by first | (with_reducible exact Below.refl _ _) | ((repeat' (first | (with_reducible exact Below.refl _ _) | (with_reducible assumption) | (with_reducible refine below_alloc ?_ _) | (with_reducible refine Below.drew ?_) | (with_reducible refine below_drewN ?_ _) | (with_reducible refine Below.setCell ?_ ?_ _) | refine below_then ?_ (by with_reducible assumption))) <;> (first | omega | (simp; done) | (simp; omega)))), Nat.le_refl _⟩
theorem spec_PackResponse (t : Int) (a : Option Addr) (n c : Nat) (l : List Hd) (hl : l.length = n) (ab : Option Addr) (nb cb : Nat) (lb : List UInt8) (hlb : lb.length = nb) (w : World) (hr : Rd w a (hV l)) (hn : n ≤ 9223372036854775807) (hnb : nb ≤ 9223372036854775807)
    (hs : ∀ h ∈ l, h.1.size ≤ 9223372036854775807 ∧ h.2.size ≤ 9223372036854775807) (hrb : Rd w ab (bV lb)) : Calls Tryz.prog 35 #[.agg #[.int .i64 t, .slice a n c, .slice ab nb cb]] w (bqR w (packP t l lb)) :=
  (spec_PackResponseC t a n c l hl ab nb cb lb hlb w hr hn hnb hs hrb).mono fun _ _ h => h.toR
end Go.Proofs.YtbiodbggaeglpaaGreatDoor
