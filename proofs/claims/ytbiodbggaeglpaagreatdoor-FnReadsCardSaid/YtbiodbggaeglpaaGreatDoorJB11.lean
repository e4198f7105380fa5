/- Joined: PackQ. -/
import Derived.Test.YtbiodbggaeglpaaGreatDoorJB9
import Derived.Test.YtbiodbggaeglpaaGreatDoorJB8
import Derived.Test.YtbiodbggaeglpaaGreatDoorJB0
/- The bytes of a request: both texts. The steps are printed by gen/packq.py. -/
namespace Go.Proofs.YtbiodbggaeglpaaGreatDoor
open Go.RowKit
set_option linter.unusedSimpArgs false
set_option linter.unusedVariables false

def reqS (m h p : ByteArray) (l : List Hd) : ByteArray := m ++ ⟨#[32]⟩ ++ p ++ ⟨#[32, 72, 84, 84, 80, 47, 49, 46, 49, 13, 10, 72, 111, 115, 116, 58, 32]⟩ ++ h ++ ⟨#[13, 10]⟩ ++ packB l ++ ⟨#[13, 10]⟩
theorem reqS_impl (m h p : ByteArray) (l : List Hd) : m ++ ⟨#[32]⟩ ++ p ++ ⟨#[32, 72, 84, 84, 80, 47, 49, 46, 49]⟩ ++ ⟨#[13, 10]⟩ ++ lineS (⟨#[72, 111, 115, 116]⟩, h) ++ packB l ++ ⟨#[13, 10]⟩ = reqS m h p l := by
  apply ByteArray.ext
  apply Array.toList_inj.1
  simp [reqS, lineS]

def rbV (m h p : ByteArray) (l : List Hd) (v : Value) (b : Nat) : List Value := [.pointer (some ⟨b, 0, none⟩),
  .string (m),
  .string (m ++ ⟨#[32]⟩),
  .pointer (some ⟨b, 2, none⟩),
  .string (p),
  .string (m ++ ⟨#[32]⟩ ++ p),
  .string (m ++ ⟨#[32]⟩ ++ p ++ ⟨#[32, 72, 84, 84, 80, 47, 49, 46, 49]⟩),
  .string (m ++ ⟨#[32]⟩ ++ p ++ ⟨#[32, 72, 84, 84, 80, 47, 49, 46, 49]⟩ ++ ⟨#[13, 10]⟩),
  .pointer (some ⟨b, 1, none⟩),
  .string (h),
  .agg #[.string ⟨#[72, 111, 115, 116]⟩, .string h],
  .string (lineS (⟨#[72, 111, 115, 116]⟩, h)),
  .string (m ++ ⟨#[32]⟩ ++ p ++ ⟨#[32, 72, 84, 84, 80, 47, 49, 46, 49]⟩ ++ ⟨#[13, 10]⟩ ++ lineS (⟨#[72, 111, 115, 116]⟩, h)),
  .pointer (some ⟨b, 3, none⟩),
  v,
  .string (packB l),
  .string (m ++ ⟨#[32]⟩ ++ p ++ ⟨#[32, 72, 84, 84, 80, 47, 49, 46, 49]⟩ ++ ⟨#[13, 10]⟩ ++ lineS (⟨#[72, 111, 115, 116]⟩, h) ++ packB l),
  .string (m ++ ⟨#[32]⟩ ++ p ++ ⟨#[32, 72, 84, 84, 80, 47, 49, 46, 49]⟩ ++ ⟨#[13, 10]⟩ ++ lineS (⟨#[72, 111, 115, 116]⟩, h) ++ packB l ++ ⟨#[13, 10]⟩),
  undef,
  undef]
def rbF (m h p : ByteArray) (l : List Hd) (v : Value) (b lo : Nat) (k : Nat) (x : Value) (w : World) : Prop :=
  if k = 18 ∨ k = 19 then ∃ g cap, x = .slice (some ⟨g, 0, none⟩) (reqS m h p l).size cap ∧ lo ≤ g ∧ RowAt w g (bV (reqS m h p l).data.toList) else (rbV m h p l v b)[k]? = some x
theorem rbF_mono {m h p : ByteArray} {l : List Hd} {v : Value} {b lo : Nat} (k : Nat) (x : Value) (w w' : World) (hF : rbF m h p l v b lo k x w) (hb : Below w.heap.size w w') : rbF m h p l v b lo k x w' := by
  unfold rbF at *
  split at hF
  · rename_i hk; rw [if_pos hk]; obtain ⟨g, cap, e, hlo, hr⟩ := hF; exact ⟨g, cap, e, hlo, hr.then hb⟩
  · rename_i hk; rw [if_neg hk]; exact hF
set_option maxRecDepth 100000 in
set_option maxHeartbeats 6400000 in
theorem impl_requestBytes (m h p : ByteArray) (hm : m.size ≤ 100) (hh : h.size ≤ 100) (hp : p.size ≤ 100) (a : Option Addr) (n c : Nat) (l : List Hd) (hl : l.length = n) (w : World) (hr : Rd w a (hV l)) (hn : n ≤ 20) (hs : ∀ h ∈ l, h.1.size ≤ 64 ∧ h.2.size ≤ 200) :
    Calls Tryz.prog 50 #[.agg #[.string m, .string h, .string p, .slice a n c]] w fun e w' => ∃ g cap, e = .returned (.slice (some ⟨g, 0, none⟩) (reqS m h p l).size cap) ∧ w.heap.size ≤ g ∧ RowAt w' g (bV (reqS m h p l).data.toList) ∧ Below w.heap.size w w' := by
  have hd := fun W hr => impl_headersText a n c l hl W hr hn hs
  have hpz : (packB l).size ≤ 5360 := by
    have := packB_size (l := l) l.length (by omega) hs
    rw [List.take_length] at this
    exact this
  have hlz := lineS_size (⟨#[72, 111, 115, 116]⟩, h)
  have hlz2 : (lineS (⟨#[72, 111, 115, 116]⟩, h)).size = 4 + h.size + 4 := hlz
  have E := Lib.hid (reqS_impl m h p l)
  have Hd := Lib.hid hd
  clear hd hs hl hlz
  go_enter Tryz.func50, Tryz.ntmps50
  go_wp2
  have bk : (w.alloc (.cells #[.string m, .string h, .string p, .slice a n c] 27)).heap[w.heap.size]? = some (.cells #[.string m, .string h, .string p, .slice a n c] 27 (0, 0)) := blk_new _ _
  have belV : Below w.heap.size w (w.alloc (.cells #[.string m, .string h, .string p, .slice a n c] 27)) := below_alloc (Below.refl _ _) _
  have hV' := hr.below belV
  generalize (w.alloc (.cells #[.string m, .string h, .string p, .slice a n c] 27)) = V at *
  generalize hb3 : w.heap.size = b at *
  have hc4 : ∀ W, Below V.heap.size V W → (W.cell? ⟨b, 0, none⟩ = some (.string m) ∧ W.cell? ⟨b, 1, none⟩ = some (.string h) ∧ W.cell? ⟨b, 2, none⟩ = some (.string p) ∧ W.cell? ⟨b, 3, none⟩ = some (.slice a n c)) := fun W hb => cells4 (blk_then bk hb)
  have f1 : (9223372036854775807 < m.size + 1) = False := eq_false (by omega)
  have f2 : (9223372036854775807 < m.size + 1 + p.size) = False := eq_false (by omega)
  have f3 : (9223372036854775807 < m.size + 1 + p.size + 9) = False := eq_false (by omega)
  have f4 : (9223372036854775807 < m.size + 1 + p.size + 9 + 2) = False := eq_false (by omega)
  have f5 : (9223372036854775807 < m.size + 1 + p.size + 9 + 2 + (4 + h.size + 4)) = False := eq_false (by omega)
  have f6 : (9223372036854775807 < m.size + 1 + p.size + 9 + 2 + (4 + h.size + 4) + (packB l).size) = False := eq_false (by omega)
  have f7 : (9223372036854775807 < m.size + 1 + p.size + 9 + 2 + (4 + h.size + 4) + (packB l).size + 2) = False := eq_false (by omega)
  refine wp_region_rel (fun W => Below V.heap.size V W) (fun _ w w' => Below w.heap.size w w') (rbF m h p l (.slice a n c) b V.heap.size) (by kernel_rfl) (by kernel_rfl) (Below.refl _ _).drew (fun _ _ _ h1 h2 => below_then h1 h2) (fun _ _ _ _ _ _ _ h2 h3 => rbF_mono _ _ _ _ h3 h2) ?_ ?_ ?_
  · intro i o v w hi hd hF
    exact absurd hd (by have := unB_spec (k := 99) (by kernel_rfl) hi hd; have := (Array.getElem?_eq_some_iff.1 hi).1; simp at this; omega)
  · repeat' (refine And.intro ?_ ?_)
    · intro ρ W hI hbase hdep
      have hc : ∀ v, ρ (.const v) = v := fun v => hbase _ (fun _ _ _ _ _ e => by cases e)
      have hfn : ∀ f, ρ (.func f) = .func (.func f) #[] #[] := fun v => hbase _ (fun _ _ _ _ _ e => by cases e)
      have e1 : ρ (.tmp 1) = .pointer (some ⟨b, 0, none⟩) := hbase (.tmp 1) (base_tmp (by kernel_rfl))
      simp only [execOp, hc, hfn, e1]
      go_simp
      exact ⟨Below.refl _ _, rfl⟩
    · intro ρ W hI hbase hdep
      have hc : ∀ v, ρ (.const v) = v := fun v => hbase _ (fun _ _ _ _ _ e => by cases e)
      have hfn : ∀ f, ρ (.func f) = .func (.func f) #[] #[] := fun v => hbase _ (fun _ _ _ _ _ e => by cases e)
      have p0 : ρ (.tmp 3) = .pointer (some ⟨b, 0, none⟩) := (Option.some.inj (hdep ⟨0, .data⟩ (by simp) rfl _ 3 rfl rfl : some (.pointer (some ⟨b, 0, none⟩)) = some (ρ (.tmp 3)))).symm
      obtain ⟨k0, k1, k2, k3⟩ := hc4 W hI
      simp only [execOp, hc, hfn, p0]
      go_simp
      exact ⟨Below.refl _ _, rfl⟩
    · intro ρ W hI hbase hdep
      have hc : ∀ v, ρ (.const v) = v := fun v => hbase _ (fun _ _ _ _ _ e => by cases e)
      have hfn : ∀ f, ρ (.func f) = .func (.func f) #[] #[] := fun v => hbase _ (fun _ _ _ _ _ e => by cases e)
      have p1 : ρ (.tmp 4) = .string (m) := (Option.some.inj (hdep ⟨1, .data⟩ (by simp) rfl _ 4 rfl rfl : some (.string (m)) = some (ρ (.tmp 4)))).symm
      simp only [execOp, hc, hfn, p1]
      go_simp
      exact ⟨Below.refl _ _, rfl⟩
    · intro ρ W hI hbase hdep
      have hc : ∀ v, ρ (.const v) = v := fun v => hbase _ (fun _ _ _ _ _ e => by cases e)
      have hfn : ∀ f, ρ (.func f) = .func (.func f) #[] #[] := fun v => hbase _ (fun _ _ _ _ _ e => by cases e)
      have e1 : ρ (.tmp 1) = .pointer (some ⟨b, 0, none⟩) := hbase (.tmp 1) (base_tmp (by kernel_rfl))
      simp only [execOp, hc, hfn, e1]
      go_simp
      exact ⟨Below.refl _ _, rfl⟩
    · intro ρ W hI hbase hdep
      have hc : ∀ v, ρ (.const v) = v := fun v => hbase _ (fun _ _ _ _ _ e => by cases e)
      have hfn : ∀ f, ρ (.func f) = .func (.func f) #[] #[] := fun v => hbase _ (fun _ _ _ _ _ e => by cases e)
      have p3 : ρ (.tmp 6) = .pointer (some ⟨b, 2, none⟩) := (Option.some.inj (hdep ⟨3, .data⟩ (by simp) rfl _ 6 rfl rfl : some (.pointer (some ⟨b, 2, none⟩)) = some (ρ (.tmp 6)))).symm
      obtain ⟨k0, k1, k2, k3⟩ := hc4 W hI
      simp only [execOp, hc, hfn, p3]
      go_simp
      exact ⟨Below.refl _ _, rfl⟩
    · intro ρ W hI hbase hdep
      have hc : ∀ v, ρ (.const v) = v := fun v => hbase _ (fun _ _ _ _ _ e => by cases e)
      have hfn : ∀ f, ρ (.func f) = .func (.func f) #[] #[] := fun v => hbase _ (fun _ _ _ _ _ e => by cases e)
      have p2 : ρ (.tmp 5) = .string (m ++ ⟨#[32]⟩) := (Option.some.inj (hdep ⟨2, .data⟩ (by simp) rfl _ 5 rfl rfl : some (.string (m ++ ⟨#[32]⟩)) = some (ρ (.tmp 5)))).symm
      have p4 : ρ (.tmp 7) = .string (p) := (Option.some.inj (hdep ⟨4, .data⟩ (by simp) rfl _ 7 rfl rfl : some (.string (p)) = some (ρ (.tmp 7)))).symm
      simp only [execOp, hc, hfn, p2, p4]
      go_simp
      exact ⟨Below.refl _ _, rfl⟩
    · intro ρ W hI hbase hdep
      have hc : ∀ v, ρ (.const v) = v := fun v => hbase _ (fun _ _ _ _ _ e => by cases e)
      have hfn : ∀ f, ρ (.func f) = .func (.func f) #[] #[] := fun v => hbase _ (fun _ _ _ _ _ e => by cases e)
      have p5 : ρ (.tmp 8) = .string (m ++ ⟨#[32]⟩ ++ p) := (Option.some.inj (hdep ⟨5, .data⟩ (by simp) rfl _ 8 rfl rfl : some (.string (m ++ ⟨#[32]⟩ ++ p)) = some (ρ (.tmp 8)))).symm
      simp only [execOp, hc, hfn, p5]
      go_simp
      exact ⟨Below.refl _ _, rfl⟩
    · intro ρ W hI hbase hdep
      have hc : ∀ v, ρ (.const v) = v := fun v => hbase _ (fun _ _ _ _ _ e => by cases e)
      have hfn : ∀ f, ρ (.func f) = .func (.func f) #[] #[] := fun v => hbase _ (fun _ _ _ _ _ e => by cases e)
      have p6 : ρ (.tmp 9) = .string (m ++ ⟨#[32]⟩ ++ p ++ ⟨#[32, 72, 84, 84, 80, 47, 49, 46, 49]⟩) := (Option.some.inj (hdep ⟨6, .data⟩ (by simp) rfl _ 9 rfl rfl : some (.string (m ++ ⟨#[32]⟩ ++ p ++ ⟨#[32, 72, 84, 84, 80, 47, 49, 46, 49]⟩)) = some (ρ (.tmp 9)))).symm
      simp only [execOp, hc, hfn, p6]
      go_simp
      exact ⟨Below.refl _ _, rfl⟩
    · intro ρ W hI hbase hdep
      have hc : ∀ v, ρ (.const v) = v := fun v => hbase _ (fun _ _ _ _ _ e => by cases e)
      have hfn : ∀ f, ρ (.func f) = .func (.func f) #[] #[] := fun v => hbase _ (fun _ _ _ _ _ e => by cases e)
      have e1 : ρ (.tmp 1) = .pointer (some ⟨b, 0, none⟩) := hbase (.tmp 1) (base_tmp (by kernel_rfl))
      simp only [execOp, hc, hfn, e1]
      go_simp
      exact ⟨Below.refl _ _, rfl⟩
    · intro ρ W hI hbase hdep
      have hc : ∀ v, ρ (.const v) = v := fun v => hbase _ (fun _ _ _ _ _ e => by cases e)
      have hfn : ∀ f, ρ (.func f) = .func (.func f) #[] #[] := fun v => hbase _ (fun _ _ _ _ _ e => by cases e)
      have p8 : ρ (.tmp 11) = .pointer (some ⟨b, 1, none⟩) := (Option.some.inj (hdep ⟨8, .data⟩ (by simp) rfl _ 11 rfl rfl : some (.pointer (some ⟨b, 1, none⟩)) = some (ρ (.tmp 11)))).symm
      obtain ⟨k0, k1, k2, k3⟩ := hc4 W hI
      simp only [execOp, hc, hfn, p8]
      go_simp
      exact ⟨Below.refl _ _, rfl⟩
    · intro ρ W hI hbase hdep
      have hc : ∀ v, ρ (.const v) = v := fun v => hbase _ (fun _ _ _ _ _ e => by cases e)
      have hfn : ∀ f, ρ (.func f) = .func (.func f) #[] #[] := fun v => hbase _ (fun _ _ _ _ _ e => by cases e)
      have p9 : ρ (.tmp 12) = .string (h) := (Option.some.inj (hdep ⟨9, .data⟩ (by simp) rfl _ 12 rfl rfl : some (.string (h)) = some (ρ (.tmp 12)))).symm
      simp only [execOp, hc, hfn, p9]
      go_simp
      exact ⟨Below.refl _ _, rfl⟩
    · intro ρ W hI hbase hdep
      have hc : ∀ v, ρ (.const v) = v := fun v => hbase _ (fun _ _ _ _ _ e => by cases e)
      have hfn : ∀ f, ρ (.func f) = .func (.func f) #[] #[] := fun v => hbase _ (fun _ _ _ _ _ e => by cases e)
      have p10 : ρ (.tmp 13) = .agg #[.string ⟨#[72, 111, 115, 116]⟩, .string h] := (Option.some.inj (hdep ⟨10, .data⟩ (by simp) rfl _ 13 rfl rfl : some (.agg #[.string ⟨#[72, 111, 115, 116]⟩, .string h]) = some (ρ (.tmp 13)))).symm
      simp only [execOp, hc, hfn, p10]
      go_simp
      exact ⟨rfl, (impl_lineText _ h (by decide) (by omega) W).mono fun e w' h => ⟨_, h.1, h.2, rfl⟩⟩
    · intro ρ W hI hbase hdep
      have hc : ∀ v, ρ (.const v) = v := fun v => hbase _ (fun _ _ _ _ _ e => by cases e)
      have hfn : ∀ f, ρ (.func f) = .func (.func f) #[] #[] := fun v => hbase _ (fun _ _ _ _ _ e => by cases e)
      have p7 : ρ (.tmp 10) = .string (m ++ ⟨#[32]⟩ ++ p ++ ⟨#[32, 72, 84, 84, 80, 47, 49, 46, 49]⟩ ++ ⟨#[13, 10]⟩) := (Option.some.inj (hdep ⟨7, .data⟩ (by simp) rfl _ 10 rfl rfl : some (.string (m ++ ⟨#[32]⟩ ++ p ++ ⟨#[32, 72, 84, 84, 80, 47, 49, 46, 49]⟩ ++ ⟨#[13, 10]⟩)) = some (ρ (.tmp 10)))).symm
      have p11 : ρ (.tmp 14) = .string (lineS (⟨#[72, 111, 115, 116]⟩, h)) := (Option.some.inj (hdep ⟨11, .data⟩ (by simp) rfl _ 14 rfl rfl : some (.string (lineS (⟨#[72, 111, 115, 116]⟩, h))) = some (ρ (.tmp 14)))).symm
      simp only [execOp, hc, hfn, p7, p11]
      go_simp
      exact ⟨Below.refl _ _, rfl⟩
    · intro ρ W hI hbase hdep
      have hc : ∀ v, ρ (.const v) = v := fun v => hbase _ (fun _ _ _ _ _ e => by cases e)
      have hfn : ∀ f, ρ (.func f) = .func (.func f) #[] #[] := fun v => hbase _ (fun _ _ _ _ _ e => by cases e)
      have e1 : ρ (.tmp 1) = .pointer (some ⟨b, 0, none⟩) := hbase (.tmp 1) (base_tmp (by kernel_rfl))
      simp only [execOp, hc, hfn, e1]
      go_simp
      exact ⟨Below.refl _ _, rfl⟩
    · intro ρ W hI hbase hdep
      have hc : ∀ v, ρ (.const v) = v := fun v => hbase _ (fun _ _ _ _ _ e => by cases e)
      have hfn : ∀ f, ρ (.func f) = .func (.func f) #[] #[] := fun v => hbase _ (fun _ _ _ _ _ e => by cases e)
      have p13 : ρ (.tmp 16) = .pointer (some ⟨b, 3, none⟩) := (Option.some.inj (hdep ⟨13, .data⟩ (by simp) rfl _ 16 rfl rfl : some (.pointer (some ⟨b, 3, none⟩)) = some (ρ (.tmp 16)))).symm
      obtain ⟨k0, k1, k2, k3⟩ := hc4 W hI
      simp only [execOp, hc, hfn, p13]
      go_simp
      exact ⟨Below.refl _ _, rfl⟩
    · intro ρ W hI hbase hdep
      have hc : ∀ v, ρ (.const v) = v := fun v => hbase _ (fun _ _ _ _ _ e => by cases e)
      have hfn : ∀ f, ρ (.func f) = .func (.func f) #[] #[] := fun v => hbase _ (fun _ _ _ _ _ e => by cases e)
      have p14 : ρ (.tmp 17) = .slice a n c := (Option.some.inj (hdep ⟨14, .data⟩ (by simp) rfl _ 17 rfl rfl : some (.slice a n c) = some (ρ (.tmp 17)))).symm
      simp only [execOp, hc, hfn, p14]
      go_simp
      exact ⟨rfl, (Hd.out W (hV'.below hI)).mono fun e w' h => ⟨_, h.1, h.2, rfl⟩⟩
    · intro ρ W hI hbase hdep
      have hc : ∀ v, ρ (.const v) = v := fun v => hbase _ (fun _ _ _ _ _ e => by cases e)
      have hfn : ∀ f, ρ (.func f) = .func (.func f) #[] #[] := fun v => hbase _ (fun _ _ _ _ _ e => by cases e)
      have p12 : ρ (.tmp 15) = .string (m ++ ⟨#[32]⟩ ++ p ++ ⟨#[32, 72, 84, 84, 80, 47, 49, 46, 49]⟩ ++ ⟨#[13, 10]⟩ ++ lineS (⟨#[72, 111, 115, 116]⟩, h)) := (Option.some.inj (hdep ⟨12, .data⟩ (by simp) rfl _ 15 rfl rfl : some (.string (m ++ ⟨#[32]⟩ ++ p ++ ⟨#[32, 72, 84, 84, 80, 47, 49, 46, 49]⟩ ++ ⟨#[13, 10]⟩ ++ lineS (⟨#[72, 111, 115, 116]⟩, h))) = some (ρ (.tmp 15)))).symm
      have p15 : ρ (.tmp 18) = .string (packB l) := (Option.some.inj (hdep ⟨15, .data⟩ (by simp) rfl _ 18 rfl rfl : some (.string (packB l)) = some (ρ (.tmp 18)))).symm
      simp only [execOp, hc, hfn, p12, p15]
      go_simp
      exact ⟨Below.refl _ _, rfl⟩
    · intro ρ W hI hbase hdep
      have hc : ∀ v, ρ (.const v) = v := fun v => hbase _ (fun _ _ _ _ _ e => by cases e)
      have hfn : ∀ f, ρ (.func f) = .func (.func f) #[] #[] := fun v => hbase _ (fun _ _ _ _ _ e => by cases e)
      have p16 : ρ (.tmp 19) = .string (m ++ ⟨#[32]⟩ ++ p ++ ⟨#[32, 72, 84, 84, 80, 47, 49, 46, 49]⟩ ++ ⟨#[13, 10]⟩ ++ lineS (⟨#[72, 111, 115, 116]⟩, h) ++ packB l) := (Option.some.inj (hdep ⟨16, .data⟩ (by simp) rfl _ 19 rfl rfl : some (.string (m ++ ⟨#[32]⟩ ++ p ++ ⟨#[32, 72, 84, 84, 80, 47, 49, 46, 49]⟩ ++ ⟨#[13, 10]⟩ ++ lineS (⟨#[72, 111, 115, 116]⟩, h) ++ packB l)) = some (ρ (.tmp 19)))).symm
      simp only [execOp, hc, hfn, p16]
      go_simp
      exact ⟨Below.refl _ _, rfl⟩
    · intro ρ W hI hbase hdep
      have hc : ∀ v, ρ (.const v) = v := fun v => hbase _ (fun _ _ _ _ _ e => by cases e)
      have hfn : ∀ f, ρ (.func f) = .func (.func f) #[] #[] := fun v => hbase _ (fun _ _ _ _ _ e => by cases e)
      have p17 : ρ (.tmp 20) = .string (m ++ ⟨#[32]⟩ ++ p ++ ⟨#[32, 72, 84, 84, 80, 47, 49, 46, 49]⟩ ++ ⟨#[13, 10]⟩ ++ lineS (⟨#[72, 111, 115, 116]⟩, h) ++ packB l ++ ⟨#[13, 10]⟩) := (Option.some.inj (hdep ⟨17, .data⟩ (by simp) rfl _ 20 rfl rfl : some (.string (m ++ ⟨#[32]⟩ ++ p ++ ⟨#[32, 72, 84, 84, 80, 47, 49, 46, 49]⟩ ++ ⟨#[13, 10]⟩ ++ lineS (⟨#[72, 111, 115, 116]⟩, h) ++ packB l ++ ⟨#[13, 10]⟩)) = some (ρ (.tmp 20)))).symm
      simp only [execOp, hc, hfn, p17]
      rw [E.out]
      obtain ⟨g, cap, W', e1, e2, e3, e4⟩ := bw_good (reqS m h p l) W V.heap.size hI.size
      exact good_val e1 ⟨e4, g, cap, rfl, e2, e3⟩
    · intro ρ W hI hbase hdep
      have hc : ∀ v, ρ (.const v) = v := fun v => hbase _ (fun _ _ _ _ _ e => by cases e)
      have hfn : ∀ f, ρ (.func f) = .func (.func f) #[] #[] := fun v => hbase _ (fun _ _ _ _ _ e => by cases e)
      obtain ⟨g, cap, p18, hsp18⟩ : ∃ g cap, ρ (.tmp 21) = .slice (some ⟨g, 0, none⟩) (reqS m h p l).size cap ∧ V.heap.size ≤ g ∧ RowAt W g (bV (reqS m h p l).data.toList) := hdep ⟨18, .data⟩ (by simp) rfl _ 21 rfl rfl
      simp only [execOp, hc, hfn, p18]
      go_simp
      exact ⟨Below.refl _ _, g, cap, rfl, hsp18⟩
    · trivial
  · intro a w' hI ha hdf hall _ _
    have hlast := hall 19 _ 2 rfl rfl
    unfold rbF at hlast
    rw [if_pos (.inr rfl)] at hlast
    obtain ⟨g, cap, e, hlo, hrow⟩ := hlast
    have hsz := belV.size
    obtain ⟨tmps, defers⟩ := a
    simp only at ha hdf e
    subst hdf
    go_wp2
    exact bodyPost_ret (results_tmp Tryz.results50 _ _ _) rfl ⟨g, ⟨cap, congrArg Ending.returned e⟩, by omega, hrow, belV.trans (hI.mono (by omega))⟩

theorem rq_small {m h p : ByteArray} {l : List Hd} (e : rqFault m h p l = 0) : l.length ≤ 20 ∧ (∀ h ∈ l, h.1.size ≤ 64 ∧ h.2.size ≤ 200) ∧ m.size ≤ 100 ∧ h.size ≤ 100 ∧ p.size ≤ 100 := by
  unfold rqFault at e
  split at e
  · exact absurd e (by decide)
  · rename_i hb
    split at e
    · rename_i h2; exact absurd e h2
    · rename_i h2
      obtain ⟨h20, hs⟩ := hds_small (l := l) (by simpa using h2)
      have hb' : (methodB m && hostS h && pathS p) = true := by cases hx : (methodB m && hostS h && pathS p) with | true => rfl | false => exact absurd hx hb
      simp only [Bool.and_eq_true, methodB, hostS, pathS, Bool.or_eq_true, beq_iff_eq, ByteArray.toList_eq] at hb'
      obtain ⟨⟨h3, h4, _⟩, ⟨h5, _⟩, _⟩ := hb'
      have h6 := (inB_iff.1 h4).2
      have h7 := (inB_iff.1 h5).2
      refine ⟨h20, hs, ?_, by omega, by omega⟩
      have h8 : m.size = m.data.toList.length := rfl
      rcases h3 with h3 | h3 <;> rw [h8, h3] <;> decide
def packQ (m h p : ByteArray) (l : List Hd) : Int × List UInt8 := if rqFault m h p l = 0 then (0, (reqS m h p l).data.toList) else (rqFault m h p l, [])
theorem packQ_ok {m h p : ByteArray} {l : List Hd} (e : rqFault m h p l = 0) : packQ m h p l = (0, (reqS m h p l).data.toList) := if_pos e
theorem packQ_bad {m h p : ByteArray} {l : List Hd} (e : rqFault m h p l ≠ 0) : packQ m h p l = (rqFault m h p l, []) := if_neg e
theorem bytes_len (s : ByteArray) : s.data.toList.length = s.size := Array.length_toList
def bqR (w : World) (r : Int × List UInt8) (e : Ending) (w' : World) : Prop := ∃ (a : Option Addr) (n c : Nat), e = .returned (.agg #[.int .i64 r.1, .slice a n c]) ∧ (r.2.length = n ∧ SlAt w' w.heap.size w'.heap.size a n (bV r.2)) ∧ Below w.heap.size w w'
def bqC (w : World) (r : Int × List UInt8) (e : Ending) (w' : World) : Prop := ∃ (a : Option Addr) (n c : Nat), e = .returned (.agg #[.int .i64 r.1, .slice a n c]) ∧ (r.2.length = n ∧ SlAt w' w.heap.size w'.heap.size a n (bV r.2)) ∧ Below w.heap.size w w' ∧ n ≤ c
theorem bqC.toR {w : World} {r : Int × List UInt8} {e : Ending} {w' : World} (h : bqC w r e w') : bqR w r e w' := by
  obtain ⟨a, n, c, h1, h2, h3, _⟩ := h
  exact ⟨a, n, c, h1, h2, h3⟩
theorem bw_goodc (s : ByteArray) (W : World) (lo : Nat) (h : lo ≤ W.heap.size) : ∃ g cap W', (convert 9 22 (.string s)).run Tryz.prog W = .ok (.slice (some ⟨g, 0, none⟩) s.size cap) W' ∧ (lo ≤ g ∧ s.size ≤ cap) ∧ RowAt W' g (bV s.data.toList) ∧ Below W.heap.size W W' := by
  have h3 := Lib.run_convert_string_bytes (P := Tryz.prog) W 9 22 5 s Tryz.underlying9 Tryz.underlying22 Tryz.underlying5
  exact ⟨_, _, _, h3, ⟨h, grownCap_ge _ _ _ _⟩, bw_row W s, bw_below W s⟩
def sbV (m h p : ByteArray) (l : List Hd) (v : Value) (b : Nat) : List Value := [.pointer (some ⟨b, 0, none⟩),
  .string (m),
  .string (m ++ ⟨#[32]⟩),
  .pointer (some ⟨b, 2, none⟩),
  .string (p),
  .string (m ++ ⟨#[32]⟩ ++ p),
  .string (m ++ ⟨#[32]⟩ ++ p ++ ⟨#[32, 72, 84, 84, 80, 47, 49, 46, 49, 13, 10, 72, 111, 115, 116, 58, 32]⟩),
  .pointer (some ⟨b, 1, none⟩),
  .string (h),
  .string (m ++ ⟨#[32]⟩ ++ p ++ ⟨#[32, 72, 84, 84, 80, 47, 49, 46, 49, 13, 10, 72, 111, 115, 116, 58, 32]⟩ ++ h),
  .string (m ++ ⟨#[32]⟩ ++ p ++ ⟨#[32, 72, 84, 84, 80, 47, 49, 46, 49, 13, 10, 72, 111, 115, 116, 58, 32]⟩ ++ h ++ ⟨#[13, 10]⟩),
  .pointer (some ⟨b, 3, none⟩),
  v,
  .string (packB l),
  .string (m ++ ⟨#[32]⟩ ++ p ++ ⟨#[32, 72, 84, 84, 80, 47, 49, 46, 49, 13, 10, 72, 111, 115, 116, 58, 32]⟩ ++ h ++ ⟨#[13, 10]⟩ ++ packB l),
  .string (m ++ ⟨#[32]⟩ ++ p ++ ⟨#[32, 72, 84, 84, 80, 47, 49, 46, 49, 13, 10, 72, 111, 115, 116, 58, 32]⟩ ++ h ++ ⟨#[13, 10]⟩ ++ packB l ++ ⟨#[13, 10]⟩),
  undef,
  undef,
  undef]
def sbF (m h p : ByteArray) (l : List Hd) (v : Value) (b bx lo : Nat) (k : Nat) (x : Value) (w : World) : Prop :=
  if k = 16 then ∃ g cap, x = .slice (some ⟨g, 0, none⟩) (reqS m h p l).size cap ∧ (lo ≤ g ∧ (reqS m h p l).size ≤ cap) ∧ RowAt w g (bV (reqS m h p l).data.toList)
  else if k = 17 then ∃ g cap, x = .agg #[.int .i64 0, .slice (some ⟨g, 0, none⟩) (reqS m h p l).size cap] ∧ (lo ≤ g ∧ (reqS m h p l).size ≤ cap) ∧ RowAt w g (bV (reqS m h p l).data.toList)
  else if k = 18 then ∃ g cap, w.heap[bx]? = some (.cells #[.int .i64 0, .slice (some ⟨g, 0, none⟩) (reqS m h p l).size cap] 38 (0, 0)) ∧ (lo ≤ g ∧ (reqS m h p l).size ≤ cap) ∧ RowAt w g (bV (reqS m h p l).data.toList)
  else (sbV m h p l v b)[k]? = some x
def sbI (V : World) (bx : Nat) (W : World) : Prop := Chg V W bx (bx + 1) ∧ ∃ x y, W.heap[bx]? = some (.cells #[x, y] 38 (0, 0))
def sbR (bx : Nat) (k : Nat) (w w' : World) : Prop := if k = 18 then Chg w w' bx (bx + 1) ∧ ∃ x y, w'.heap[bx]? = some (.cells #[x, y] 38 (0, 0)) else Below w.heap.size w w'
theorem sbI_R {V : World} {bx k : Nat} {w w' : World} (h : sbI V bx w) (hr : sbR bx k w w') : sbI V bx w' := by
  unfold sbR at hr
  split at hr
  · exact ⟨h.1.trans hr.1, hr.2⟩
  · obtain ⟨h1, x, y, h2⟩ := h
    exact ⟨h1.then hr, x, y, blk_then h2 hr⟩
theorem row_R {bx k lo g : Nat} {w w' : World} {xs : List Value} (h : RowAt w g xs) (hg : lo ≤ g) (hb : bx < lo) (hr : sbR bx k w w') : RowAt w' g xs := by
  unfold sbR at hr
  split at hr
  · exact mark_row (Below.refl _ _) hr.1 h (.inr (by omega))
  · exact h.then hr
theorem sbF_keep {m h p : ByteArray} {l : List Hd} {v : Value} {b bx lo : Nat} (hb : bx < lo) (i k : Nat) (x : Value) (w w' : World) (hne : k ≠ i) (hR : sbR bx i w w') (hF : sbF m h p l v b bx lo k x w) : sbF m h p l v b bx lo k x w' := by
  unfold sbF at *
  split at hF
  · rename_i hk; rw [if_pos hk]; obtain ⟨g, cap, e, hlo, hr⟩ := hF; exact ⟨g, cap, e, hlo, row_R hr hlo.1 hb hR⟩
  · rename_i hk
    rw [if_neg hk]
    split at hF
    · rename_i hk2; rw [if_pos hk2]; obtain ⟨g, cap, e, hlo, hr⟩ := hF; exact ⟨g, cap, e, hlo, row_R hr hlo.1 hb hR⟩
    · rename_i hk2
      rw [if_neg hk2]
      split at hF
      · rename_i hk3
        rw [if_pos hk3]
        obtain ⟨g, cap, e, hlo, hr⟩ := hF
        unfold sbR at hR
        rw [if_neg (by omega)] at hR
        exact ⟨g, cap, blk_then e hR, hlo, hr.then hR⟩
      · rename_i hk3; rw [if_neg hk3]; exact hF
theorem sb_below {k bx : Nat} {w w' : World} (hk : k ≠ 18) (h : Below w.heap.size w w') : sbR bx k w w' := by unfold sbR; rw [if_neg hk]; exact h
theorem sb_store {V w : World} {bx : Nat} {x y : Value} (hI : sbI V bx w) : sbR bx 18 w ((w.setCell ⟨bx, 0, none⟩ x).setCell ⟨bx, 1, none⟩ y) ∧ ((w.setCell ⟨bx, 0, none⟩ x).setCell ⟨bx, 1, none⟩ y).heap[bx]? = some (.cells #[x, y] 38 (0, 0)) := by
  obtain ⟨h1, u, v, h2⟩ := hI
  have h3 : ((w.setCell ⟨bx, 0, none⟩ x).setCell ⟨bx, 1, none⟩ y).heap[bx]? = some (.cells #[x, y] 38 (0, 0)) := by exact blk_cast (by repeat' (first | (with_reducible assumption) | (with_reducible exact blk_new _ _) | (with_reducible apply blk_set) | (with_reducible refine blk_alloc ?_ _) | (with_reducible refine blk_drew ?_) | refine blk_then ?_ (by with_reducible assumption))) (by first | (simp; done) | rfl)
  exact ⟨by unfold sbR; rw [if_pos rfl]; exact ⟨((Chg.refl _ _ _).set bx 0 x (Nat.le_refl _) (Nat.lt_succ_self _)).set bx 1 y (Nat.le_refl _) (Nat.lt_succ_self _), x, y, h3⟩, h3⟩
set_option maxRecDepth 100000 in
set_option maxHeartbeats 6400000 in
theorem spec_PackRequestC (m h p : ByteArray) (hm : m.size ≤ 9223372036854775807) (hh : h.size ≤ 9223372036854775807) (hp : p.size ≤ 9223372036854775807) (a : Option Addr) (n c : Nat) (l : List Hd) (hl : l.length = n) (w : World) (hr : Rd w a (hV l)) (hn : n ≤ 9223372036854775807)
    (hs : ∀ h ∈ l, h.1.size ≤ 9223372036854775807 ∧ h.2.size ≤ 9223372036854775807) : Calls Tryz.prog 24 #[.agg #[.string m, .string h, .string p, .slice a n c]] w (bqC w (packQ m h p l)) := by
  have hc := fun W hr => spec_RequestFault m h p hm hh hp a n c l hl W hr hn hs
  by_cases hz : rqFault m h p l = 0
  · obtain ⟨h20, hs2, hm1, hh1, hp1⟩ := rq_small hz
    have hd := fun W hr => spec_l4Pack a n c l hl W hr (by omega) hs2
    have hpz : (packB l).size ≤ 5360 := by
      have := packB_size (l := l) l.length (by omega) hs2
      rw [List.take_length] at this
      exact this
    rw [packQ_ok hz]
    rw [hz] at hc
    have Hc := Lib.hid hc
    have Hd := Lib.hid hd
    clear hz hc hl hs hd hs2 hm hh hp
    have HB := Lib.hid (bytes_len (reqS m h p l))
    go_enter Tryz.func24, Tryz.ntmps24
    go_wp2_with (go_at_call 19; ((with_reducible refine (Hc.out _ (by first | (with_reducible assumption) | exact RowAt.rd (by repeat' (first | (with_reducible assumption) | (with_reducible refine RowAt.alloc ?_ _) | (with_reducible refine RowAt.drew ?_) | (with_reducible refine RowAt.other ?_ _ _ (by first | omega | (simp; done) | (simp; omega))) | refine RowAt.then ?_ (by with_reducible assumption))) | exact Rd.below (by with_reducible assumption) (by first | (with_reducible exact Below.refl _ _) | ((repeat' (first | (with_reducible exact Below.refl _ _) | (with_reducible assumption) | (with_reducible refine below_alloc ?_ _) | (with_reducible refine Below.drew ?_) | (with_reducible refine below_drewN ?_ _) | (with_reducible refine Below.setCell ?_ ?_ _) | refine below_then ?_ (by with_reducible assumption))) <;> (first | omega | (simp; done) | (simp; omega)))))).mono ?_); rintro e w' ⟨rfl, hb⟩; obtain ⟨hc, hf⟩ := bcell hb; have hz := hb.size; (try simp only [World.size_alloc, World.size_setCell, World.size_drew] at hz); obtain ⟨hlt, hle, hn1, hn2, hn3, hn4⟩ := bsize hb; (try simp only [World.size_alloc, World.size_setCell, World.size_drew] at hlt hle hn1 hn2 hn3 hn4); (try have hr0 : w.heap.size < w'.heap.size := by omega); (try have hr1 : w.heap.size + 1 < w'.heap.size := by omega); (try have hs0 : wS.heap.size < w'.heap.size := by omega); (try have hs1 : wG.heap.size < w'.heap.size := by omega)))
    have bk : w'.heap[w.heap.size]? = some (.cells #[.string m, .string h, .string p, .slice a n c] 27 (0, 0)) := by exact (by repeat' (first | (with_reducible assumption) | (with_reducible exact blk_new _ _) | (with_reducible apply blk_set) | (with_reducible refine blk_new' _ _ _ (by first | omega | (simp only [World.size_alloc]; first | done | omega))) | (with_reducible refine blk_other ?_ _ _ _ (by omega)) | (with_reducible refine blk_drew ?_) | (with_reducible refine blk_alloc ?_ _) | refine blk_then ?_ (by with_reducible assumption)))
    have bkx : w'.heap[w.heap.size + 1]? = some (.cells #[.int .i64 0, .slice none 0 0] 38 (0, 0)) := by exact (by repeat' (first | (with_reducible assumption) | (with_reducible exact blk_new _ _) | (with_reducible apply blk_set) | (with_reducible refine blk_new' _ _ _ (by first | omega | (simp only [World.size_alloc]; first | done | omega))) | (with_reducible refine blk_other ?_ _ _ _ (by omega)) | (with_reducible refine blk_drew ?_) | (with_reducible refine blk_alloc ?_ _) | refine blk_then ?_ (by with_reducible assumption)))
    have belV : Below w.heap.size w w' := by exact (by first | (with_reducible exact Below.refl _ _) | ((repeat' (first | (with_reducible exact Below.refl _ _) | (with_reducible assumption) | (with_reducible refine below_alloc ?_ _) | (with_reducible refine Below.drew ?_) | (with_reducible refine below_drewN ?_ _) | (with_reducible refine Below.setCell ?_ ?_ _) | refine below_then ?_ (by with_reducible assumption))) <;> (first | omega | (simp; done) | (simp; omega))))
    have hxV : w.heap.size + 1 < w'.heap.size := by omega
    generalize w' = V at *
    have hwb := hr
    generalize hb3 : w.heap.size = b at *
    generalize hbx : b + 1 = bx at *
    have hwV : ∀ W, sbI V bx W → Below b w W := fun W hI => by subst hb3; exact hI.1.below belV (by omega)
    have hc4 : ∀ W, sbI V bx W → (W.cell? ⟨b, 0, none⟩ = some (.string m) ∧ W.cell? ⟨b, 1, none⟩ = some (.string h) ∧ W.cell? ⟨b, 2, none⟩ = some (.string p) ∧ W.cell? ⟨b, 3, none⟩ = some (.slice a n c)) := fun W hI => cells4 (hI.1.blk bk (.inl (by omega)))
    have hV' : ∀ W, sbI V bx W → Rd W a (hV l) := fun W hI => by subst hb3; exact hr.below (hwV W hI)
    clear hc hf hb
    have f1 : (9223372036854775807 < m.size + 1) = False := eq_false (by omega)
    have f2 : (9223372036854775807 < m.size + 1 + p.size) = False := eq_false (by omega)
    have f3 : (9223372036854775807 < m.size + 1 + p.size + 17) = False := eq_false (by omega)
    have f4 : (9223372036854775807 < m.size + 1 + p.size + 17 + h.size) = False := eq_false (by omega)
    have f5 : (9223372036854775807 < m.size + 1 + p.size + 17 + h.size + 2) = False := eq_false (by omega)
    have f6 : (9223372036854775807 < m.size + 1 + p.size + 17 + h.size + 2 + (packB l).size) = False := eq_false (by omega)
    have f7 : (9223372036854775807 < m.size + 1 + p.size + 17 + h.size + 2 + (packB l).size + 2) = False := eq_false (by omega)
    refine wp_region_rel (sbI V bx) (sbR bx) (sbF m h p l (.slice a n c) b bx V.heap.size) (by kernel_rfl) (by kernel_rfl) ⟨(Chg.refl _ _ _).drew, _, _, bkx⟩ (fun _ _ _ h1 h2 => sbI_R h1 h2) (fun i j _ _ _ hne _ h2 h3 => sbF_keep (by omega) i j _ _ _ hne h2 h3) ?_ ?_ ?_
    · intro i o v w hi hd hF
      have := unB_spec (k := 18) (by kernel_rfl) hi hd
      subst this
      exact hF
    · repeat' (refine And.intro ?_ ?_)
      · intro ρ W hI hbase hdep
        have hc : ∀ v, ρ (.const v) = v := fun v => hbase _ (fun _ _ _ _ _ e => by cases e)
        have hfn : ∀ f, ρ (.func f) = .func (.func f) #[] #[] := fun v => hbase _ (fun _ _ _ _ _ e => by cases e)
        have e1 : ρ (.tmp 1) = .pointer (some ⟨b, 0, none⟩) := hbase (.tmp 1) (base_tmp (by kernel_rfl))
        simp only [execOp, hc, hfn, e1]
        go_simp
        exact ⟨sb_below (by omega) (Below.refl _ _), rfl⟩
      · intro ρ W hI hbase hdep
        have hc : ∀ v, ρ (.const v) = v := fun v => hbase _ (fun _ _ _ _ _ e => by cases e)
        have hfn : ∀ f, ρ (.func f) = .func (.func f) #[] #[] := fun v => hbase _ (fun _ _ _ _ _ e => by cases e)
        have p0 : ρ (.tmp 10) = .pointer (some ⟨b, 0, none⟩) := (Option.some.inj (hdep ⟨0, .data⟩ (by simp) rfl _ 10 rfl rfl : some (.pointer (some ⟨b, 0, none⟩)) = some (ρ (.tmp 10)))).symm
        obtain ⟨k0, k1, k2, k3⟩ := hc4 W hI
        simp only [execOp, hc, hfn, p0]
        go_simp
        exact ⟨sb_below (by omega) (Below.refl _ _), rfl⟩
      · intro ρ W hI hbase hdep
        have hc : ∀ v, ρ (.const v) = v := fun v => hbase _ (fun _ _ _ _ _ e => by cases e)
        have hfn : ∀ f, ρ (.func f) = .func (.func f) #[] #[] := fun v => hbase _ (fun _ _ _ _ _ e => by cases e)
        have p1 : ρ (.tmp 11) = .string (m) := (Option.some.inj (hdep ⟨1, .data⟩ (by simp) rfl _ 11 rfl rfl : some (.string (m)) = some (ρ (.tmp 11)))).symm
        simp only [execOp, hc, hfn, p1]
        go_simp
        exact ⟨sb_below (by omega) (Below.refl _ _), rfl⟩
      · intro ρ W hI hbase hdep
        have hc : ∀ v, ρ (.const v) = v := fun v => hbase _ (fun _ _ _ _ _ e => by cases e)
        have hfn : ∀ f, ρ (.func f) = .func (.func f) #[] #[] := fun v => hbase _ (fun _ _ _ _ _ e => by cases e)
        have e1 : ρ (.tmp 1) = .pointer (some ⟨b, 0, none⟩) := hbase (.tmp 1) (base_tmp (by kernel_rfl))
        simp only [execOp, hc, hfn, e1]
        go_simp
        exact ⟨sb_below (by omega) (Below.refl _ _), rfl⟩
      · intro ρ W hI hbase hdep
        have hc : ∀ v, ρ (.const v) = v := fun v => hbase _ (fun _ _ _ _ _ e => by cases e)
        have hfn : ∀ f, ρ (.func f) = .func (.func f) #[] #[] := fun v => hbase _ (fun _ _ _ _ _ e => by cases e)
        have p3 : ρ (.tmp 13) = .pointer (some ⟨b, 2, none⟩) := (Option.some.inj (hdep ⟨3, .data⟩ (by simp) rfl _ 13 rfl rfl : some (.pointer (some ⟨b, 2, none⟩)) = some (ρ (.tmp 13)))).symm
        obtain ⟨k0, k1, k2, k3⟩ := hc4 W hI
        simp only [execOp, hc, hfn, p3]
        go_simp
        exact ⟨sb_below (by omega) (Below.refl _ _), rfl⟩
      · intro ρ W hI hbase hdep
        have hc : ∀ v, ρ (.const v) = v := fun v => hbase _ (fun _ _ _ _ _ e => by cases e)
        have hfn : ∀ f, ρ (.func f) = .func (.func f) #[] #[] := fun v => hbase _ (fun _ _ _ _ _ e => by cases e)
        have p2 : ρ (.tmp 12) = .string (m ++ ⟨#[32]⟩) := (Option.some.inj (hdep ⟨2, .data⟩ (by simp) rfl _ 12 rfl rfl : some (.string (m ++ ⟨#[32]⟩)) = some (ρ (.tmp 12)))).symm
        have p4 : ρ (.tmp 14) = .string (p) := (Option.some.inj (hdep ⟨4, .data⟩ (by simp) rfl _ 14 rfl rfl : some (.string (p)) = some (ρ (.tmp 14)))).symm
        simp only [execOp, hc, hfn, p2, p4]
        go_simp
        exact ⟨sb_below (by omega) (Below.refl _ _), rfl⟩
      · intro ρ W hI hbase hdep
        have hc : ∀ v, ρ (.const v) = v := fun v => hbase _ (fun _ _ _ _ _ e => by cases e)
        have hfn : ∀ f, ρ (.func f) = .func (.func f) #[] #[] := fun v => hbase _ (fun _ _ _ _ _ e => by cases e)
        have p5 : ρ (.tmp 15) = .string (m ++ ⟨#[32]⟩ ++ p) := (Option.some.inj (hdep ⟨5, .data⟩ (by simp) rfl _ 15 rfl rfl : some (.string (m ++ ⟨#[32]⟩ ++ p)) = some (ρ (.tmp 15)))).symm
        simp only [execOp, hc, hfn, p5]
        go_simp
        exact ⟨sb_below (by omega) (Below.refl _ _), rfl⟩
      · intro ρ W hI hbase hdep
        have hc : ∀ v, ρ (.const v) = v := fun v => hbase _ (fun _ _ _ _ _ e => by cases e)
        have hfn : ∀ f, ρ (.func f) = .func (.func f) #[] #[] := fun v => hbase _ (fun _ _ _ _ _ e => by cases e)
        have e1 : ρ (.tmp 1) = .pointer (some ⟨b, 0, none⟩) := hbase (.tmp 1) (base_tmp (by kernel_rfl))
        simp only [execOp, hc, hfn, e1]
        go_simp
        exact ⟨sb_below (by omega) (Below.refl _ _), rfl⟩
      · intro ρ W hI hbase hdep
        have hc : ∀ v, ρ (.const v) = v := fun v => hbase _ (fun _ _ _ _ _ e => by cases e)
        have hfn : ∀ f, ρ (.func f) = .func (.func f) #[] #[] := fun v => hbase _ (fun _ _ _ _ _ e => by cases e)
        have p7 : ρ (.tmp 17) = .pointer (some ⟨b, 1, none⟩) := (Option.some.inj (hdep ⟨7, .data⟩ (by simp) rfl _ 17 rfl rfl : some (.pointer (some ⟨b, 1, none⟩)) = some (ρ (.tmp 17)))).symm
        obtain ⟨k0, k1, k2, k3⟩ := hc4 W hI
        simp only [execOp, hc, hfn, p7]
        go_simp
        exact ⟨sb_below (by omega) (Below.refl _ _), rfl⟩
      · intro ρ W hI hbase hdep
        have hc : ∀ v, ρ (.const v) = v := fun v => hbase _ (fun _ _ _ _ _ e => by cases e)
        have hfn : ∀ f, ρ (.func f) = .func (.func f) #[] #[] := fun v => hbase _ (fun _ _ _ _ _ e => by cases e)
        have p6 : ρ (.tmp 16) = .string (m ++ ⟨#[32]⟩ ++ p ++ ⟨#[32, 72, 84, 84, 80, 47, 49, 46, 49, 13, 10, 72, 111, 115, 116, 58, 32]⟩) := (Option.some.inj (hdep ⟨6, .data⟩ (by simp) rfl _ 16 rfl rfl : some (.string (m ++ ⟨#[32]⟩ ++ p ++ ⟨#[32, 72, 84, 84, 80, 47, 49, 46, 49, 13, 10, 72, 111, 115, 116, 58, 32]⟩)) = some (ρ (.tmp 16)))).symm
        have p8 : ρ (.tmp 18) = .string (h) := (Option.some.inj (hdep ⟨8, .data⟩ (by simp) rfl _ 18 rfl rfl : some (.string (h)) = some (ρ (.tmp 18)))).symm
        simp only [execOp, hc, hfn, p6, p8]
        go_simp
        exact ⟨sb_below (by omega) (Below.refl _ _), rfl⟩
      · intro ρ W hI hbase hdep
        have hc : ∀ v, ρ (.const v) = v := fun v => hbase _ (fun _ _ _ _ _ e => by cases e)
        have hfn : ∀ f, ρ (.func f) = .func (.func f) #[] #[] := fun v => hbase _ (fun _ _ _ _ _ e => by cases e)
        have p9 : ρ (.tmp 19) = .string (m ++ ⟨#[32]⟩ ++ p ++ ⟨#[32, 72, 84, 84, 80, 47, 49, 46, 49, 13, 10, 72, 111, 115, 116, 58, 32]⟩ ++ h) := (Option.some.inj (hdep ⟨9, .data⟩ (by simp) rfl _ 19 rfl rfl : some (.string (m ++ ⟨#[32]⟩ ++ p ++ ⟨#[32, 72, 84, 84, 80, 47, 49, 46, 49, 13, 10, 72, 111, 115, 116, 58, 32]⟩ ++ h)) = some (ρ (.tmp 19)))).symm
        simp only [execOp, hc, hfn, p9]
        go_simp
        exact ⟨sb_below (by omega) (Below.refl _ _), rfl⟩
      · intro ρ W hI hbase hdep
        have hc : ∀ v, ρ (.const v) = v := fun v => hbase _ (fun _ _ _ _ _ e => by cases e)
        have hfn : ∀ f, ρ (.func f) = .func (.func f) #[] #[] := fun v => hbase _ (fun _ _ _ _ _ e => by cases e)
        have e1 : ρ (.tmp 1) = .pointer (some ⟨b, 0, none⟩) := hbase (.tmp 1) (base_tmp (by kernel_rfl))
        simp only [execOp, hc, hfn, e1]
        go_simp
        exact ⟨sb_below (by omega) (Below.refl _ _), rfl⟩
      · intro ρ W hI hbase hdep
        have hc : ∀ v, ρ (.const v) = v := fun v => hbase _ (fun _ _ _ _ _ e => by cases e)
        have hfn : ∀ f, ρ (.func f) = .func (.func f) #[] #[] := fun v => hbase _ (fun _ _ _ _ _ e => by cases e)
        have p11 : ρ (.tmp 21) = .pointer (some ⟨b, 3, none⟩) := (Option.some.inj (hdep ⟨11, .data⟩ (by simp) rfl _ 21 rfl rfl : some (.pointer (some ⟨b, 3, none⟩)) = some (ρ (.tmp 21)))).symm
        obtain ⟨k0, k1, k2, k3⟩ := hc4 W hI
        simp only [execOp, hc, hfn, p11]
        go_simp
        exact ⟨sb_below (by omega) (Below.refl _ _), rfl⟩
      · intro ρ W hI hbase hdep
        have hc : ∀ v, ρ (.const v) = v := fun v => hbase _ (fun _ _ _ _ _ e => by cases e)
        have hfn : ∀ f, ρ (.func f) = .func (.func f) #[] #[] := fun v => hbase _ (fun _ _ _ _ _ e => by cases e)
        have p12 : ρ (.tmp 22) = .slice a n c := (Option.some.inj (hdep ⟨12, .data⟩ (by simp) rfl _ 22 rfl rfl : some (.slice a n c) = some (ρ (.tmp 22)))).symm
        simp only [execOp, hc, hfn, p12]
        go_simp
        exact ⟨rfl, (Hd.out W (hV' W hI)).mono fun e w' h => ⟨_, h.1, sb_below (by omega) h.2, rfl⟩⟩
      · intro ρ W hI hbase hdep
        have hc : ∀ v, ρ (.const v) = v := fun v => hbase _ (fun _ _ _ _ _ e => by cases e)
        have hfn : ∀ f, ρ (.func f) = .func (.func f) #[] #[] := fun v => hbase _ (fun _ _ _ _ _ e => by cases e)
        have p10 : ρ (.tmp 20) = .string (m ++ ⟨#[32]⟩ ++ p ++ ⟨#[32, 72, 84, 84, 80, 47, 49, 46, 49, 13, 10, 72, 111, 115, 116, 58, 32]⟩ ++ h ++ ⟨#[13, 10]⟩) := (Option.some.inj (hdep ⟨10, .data⟩ (by simp) rfl _ 20 rfl rfl : some (.string (m ++ ⟨#[32]⟩ ++ p ++ ⟨#[32, 72, 84, 84, 80, 47, 49, 46, 49, 13, 10, 72, 111, 115, 116, 58, 32]⟩ ++ h ++ ⟨#[13, 10]⟩)) = some (ρ (.tmp 20)))).symm
        have p13 : ρ (.tmp 23) = .string (packB l) := (Option.some.inj (hdep ⟨13, .data⟩ (by simp) rfl _ 23 rfl rfl : some (.string (packB l)) = some (ρ (.tmp 23)))).symm
        simp only [execOp, hc, hfn, p10, p13]
        go_simp
        exact ⟨sb_below (by omega) (Below.refl _ _), rfl⟩
      · intro ρ W hI hbase hdep
        have hc : ∀ v, ρ (.const v) = v := fun v => hbase _ (fun _ _ _ _ _ e => by cases e)
        have hfn : ∀ f, ρ (.func f) = .func (.func f) #[] #[] := fun v => hbase _ (fun _ _ _ _ _ e => by cases e)
        have p14 : ρ (.tmp 24) = .string (m ++ ⟨#[32]⟩ ++ p ++ ⟨#[32, 72, 84, 84, 80, 47, 49, 46, 49, 13, 10, 72, 111, 115, 116, 58, 32]⟩ ++ h ++ ⟨#[13, 10]⟩ ++ packB l) := (Option.some.inj (hdep ⟨14, .data⟩ (by simp) rfl _ 24 rfl rfl : some (.string (m ++ ⟨#[32]⟩ ++ p ++ ⟨#[32, 72, 84, 84, 80, 47, 49, 46, 49, 13, 10, 72, 111, 115, 116, 58, 32]⟩ ++ h ++ ⟨#[13, 10]⟩ ++ packB l)) = some (ρ (.tmp 24)))).symm
        simp only [execOp, hc, hfn, p14]
        go_simp
        exact ⟨sb_below (by omega) (Below.refl _ _), rfl⟩
      · intro ρ W hI hbase hdep
        have hc : ∀ v, ρ (.const v) = v := fun v => hbase _ (fun _ _ _ _ _ e => by cases e)
        have hfn : ∀ f, ρ (.func f) = .func (.func f) #[] #[] := fun v => hbase _ (fun _ _ _ _ _ e => by cases e)
        have p15 : ρ (.tmp 25) = .string (m ++ ⟨#[32]⟩ ++ p ++ ⟨#[32, 72, 84, 84, 80, 47, 49, 46, 49, 13, 10, 72, 111, 115, 116, 58, 32]⟩ ++ h ++ ⟨#[13, 10]⟩ ++ packB l ++ ⟨#[13, 10]⟩) := (Option.some.inj (hdep ⟨15, .data⟩ (by simp) rfl _ 25 rfl rfl : some (.string (m ++ ⟨#[32]⟩ ++ p ++ ⟨#[32, 72, 84, 84, 80, 47, 49, 46, 49, 13, 10, 72, 111, 115, 116, 58, 32]⟩ ++ h ++ ⟨#[13, 10]⟩ ++ packB l ++ ⟨#[13, 10]⟩)) = some (ρ (.tmp 25)))).symm
        simp only [execOp, hc, hfn, p15]
        obtain ⟨g, cap, W', e1, e2, e3, e4⟩ := bw_goodc (reqS m h p l) W V.heap.size hI.1.size
        exact good_val e1 ⟨sb_below (by omega) e4, g, cap, rfl, e2, e3⟩
      · intro ρ W hI hbase hdep
        have hc : ∀ v, ρ (.const v) = v := fun v => hbase _ (fun _ _ _ _ _ e => by cases e)
        have hfn : ∀ f, ρ (.func f) = .func (.func f) #[] #[] := fun v => hbase _ (fun _ _ _ _ _ e => by cases e)
        obtain ⟨g, cap, p16, hsp16⟩ : ∃ g cap, ρ (.tmp 26) = .slice (some ⟨g, 0, none⟩) (reqS m h p l).size cap ∧ (V.heap.size ≤ g ∧ (reqS m h p l).size ≤ cap) ∧ RowAt W g (bV (reqS m h p l).data.toList) := hdep ⟨16, .data⟩ (by simp) rfl _ 26 rfl rfl
        simp only [execOp, hc, hfn, p16]
        go_simp
        exact ⟨sb_below (by omega) (Below.refl _ _), g, cap, rfl, hsp16⟩
      · intro ρ W hI hbase hdep
        have hc : ∀ v, ρ (.const v) = v := fun v => hbase _ (fun _ _ _ _ _ e => by cases e)
        have hfn : ∀ f, ρ (.func f) = .func (.func f) #[] #[] := fun v => hbase _ (fun _ _ _ _ _ e => by cases e)
        obtain ⟨g, cap, p17, hsp17⟩ : ∃ g cap, ρ (.tmp 27) = .agg #[.int .i64 0, .slice (some ⟨g, 0, none⟩) (reqS m h p l).size cap] ∧ (V.heap.size ≤ g ∧ (reqS m h p l).size ≤ cap) ∧ RowAt W g (bV (reqS m h p l).data.toList) := hdep ⟨17, .data⟩ (by simp) rfl _ 27 rfl rfl
        have e2 : ρ (.tmp 2) = .pointer (some ⟨bx, 0, none⟩) := hbase (.tmp 2) (base_tmp (by kernel_rfl))
        obtain ⟨hch, u, v, hx⟩ := id hI
        obtain ⟨x0, x1⟩ := cells2 hx
        have z0 : W.frozen? ⟨bx, 0, none⟩ = false := by simp [World.frozen?, hx]
        have z1 : W.frozen? ⟨bx, 1, none⟩ = false := by simp [World.frozen?, hx]
        have hs2 := sb_store (x := .int .i64 0) (y := .slice (some ⟨g, 0, none⟩) (reqS m h p l).size cap) hI
        simp only [execOp, hc, hfn, p17, e2]
        go_simp
        exact ⟨hs2.1, g, cap, hs2.2, hsp17.1, row_R hsp17.2 hsp17.1.1 (by omega) hs2.1⟩
      · trivial
    · intro a w' hI ha hdf hall hun hrest
      have hlast := hun 18 _ rfl rfl
      have e2 := hrest (.tmp 2) (base_tmp (by kernel_rfl))
      unfold sbF at hlast
      rw [if_neg (by decide), if_neg (by decide), if_pos rfl] at hlast
      obtain ⟨g, cap, e, ⟨hlo, hcg⟩, hrow⟩ := hlast
      have hsz := belV.size
      obtain ⟨tmps, defers⟩ := a
      have bel2 := hwV w' hI
      have hgl := hrow.lt
      go_wp2
      exact bodyPost_ret (res_row Tryz.results24 _ _ e2 e Tryz.underlying38 rfl _ (by kernel_rfl) rfl) rfl ⟨some ⟨g, 0, none⟩, _, cap, rfl, ⟨HB.out, .inr ⟨g, rfl, by omega, hgl, hrow⟩⟩, by rw [hb3]; exact bel2, hcg⟩
  · have hne : (rqFault m h p l != 0) = true := by simpa using hz
    rw [packQ_bad hz]
    have Hc := Lib.hid hc
    clear hz hc hl hs
    go_enter Tryz.func24, Tryz.ntmps24
    go_wp2_with (go_at_call 19; ((with_reducible refine (Hc.out _ (by first | (with_reducible assumption) | exact RowAt.rd (by repeat' (first | (with_reducible assumption) | (with_reducible refine RowAt.alloc ?_ _) | (with_reducible refine RowAt.drew ?_) | (with_reducible refine RowAt.other ?_ _ _ (by first | omega | (simp; done) | (simp; omega))) | refine RowAt.then ?_ (by with_reducible assumption))) | exact Rd.below (by with_reducible assumption) (by first | (with_reducible exact Below.refl _ _) | ((repeat' (first | (with_reducible exact Below.refl _ _) | (with_reducible assumption) | (with_reducible refine below_alloc ?_ _) | (with_reducible refine Below.drew ?_) | (with_reducible refine below_drewN ?_ _) | (with_reducible refine Below.setCell ?_ ?_ _) | refine below_then ?_ (by with_reducible assumption))) <;> (first | omega | (simp; done) | (simp; omega)))))).mono ?_); rintro e w' ⟨rfl, hb⟩; obtain ⟨hc, hf⟩ := bcell hb; have hz := hb.size; (try simp only [World.size_alloc, World.size_setCell, World.size_drew] at hz); obtain ⟨hlt, hle, hn1, hn2, hn3, hn4⟩ := bsize hb; (try simp only [World.size_alloc, World.size_setCell, World.size_drew] at hlt hle hn1 hn2 hn3 hn4); (try have hr0 : w.heap.size < w'.heap.size := by omega); (try have hr1 : w.heap.size + 1 < w'.heap.size := by omega); (try have hs0 : wS.heap.size < w'.heap.size := by omega); (try have hs1 : wG.heap.size < w'.heap.size := by omega)))
    exact bodyPost_ret (res_row Tryz.results24 _ _ rfl (blk_cast (by repeat' (first | (with_reducible assumption) | (with_reducible exact blk_new _ _) | (with_reducible apply blk_set) | (with_reducible refine blk_new' _ _ _ (by first | omega | (simp only [World.size_alloc]; first | done | omega))) | (with_reducible refine blk_other ?_ _ _ _ (by omega)) | (with_reducible refine blk_drew ?_) | (with_reducible refine blk_alloc ?_ _) | refine blk_then ?_ (by with_reducible assumption))) (by first | (simp; done) | rfl)) Tryz.underlying38 rfl _ (by kernel_rfl) rfl) rfl ⟨none, 0, 0, rfl, ⟨rfl, .nil _ _ _ _⟩, by exact (by first | (with_reducible exact Below.refl _ _) | ((repeat' (first | (with_reducible exact Below.refl _ _) | (with_reducible assumption) | (with_reducible refine below_alloc ?_ _) | (with_reducible refine Below.drew ?_) | (with_reducible refine below_drewN ?_ _) | (with_reducible refine Below.setCell ?_ ?_ _) | refine below_then ?_ (by with_reducible assumption))) <;> (first | omega | (simp; done) | (simp; omega)))), Nat.le_refl _⟩
theorem spec_PackRequest (m h p : ByteArray) (hm : m.size ≤ 9223372036854775807) (hh : h.size ≤ 9223372036854775807) (hp : p.size ≤ 9223372036854775807) (a : Option Addr) (n c : Nat) (l : List Hd) (hl : l.length = n) (w : World) (hr : Rd w a (hV l)) (hn : n ≤ 9223372036854775807)
    (hs : ∀ h ∈ l, h.1.size ≤ 9223372036854775807 ∧ h.2.size ≤ 9223372036854775807) : Calls Tryz.prog 24 #[.agg #[.string m, .string h, .string p, .slice a n c]] w (bqR w (packQ m h p l)) :=
  (spec_PackRequestC m h p hm hh hp a n c l hl w hr hn hs).mono fun _ _ h => h.toR
end Go.Proofs.YtbiodbggaeglpaaGreatDoor
