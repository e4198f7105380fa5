/- Joined: HeadP. -/
import Derived.Test.YthiogijicknoiaaGreatDoorJB9
import Derived.Test.YthiogijicknoiaaGreatDoorJB6
import Derived.Test.YthiogijicknoiaaGreatDoorJB11
import Derived.Test.YthiogijicknoiaaGreatDoorJB15
import Derived.Test.YthiogijicknoiaaGreatDoorJB13
import Derived.Test.YthiogijicknoiaaGreatDoorJB12
import Derived.Test.YthiogijicknoiaaGreatDoorJB1
/- Plain laws: head lines are read back from their text; what was set is found, what was dropped is not. No program in sight. -/
namespace Go.Proofs.YthiogijicknoiaaGreatDoor
open Go.RowKit
set_option linter.unusedVariables false

theorem word_bytes {s : ByteArray} (h : wordS s = true) : 1 ≤ s.size ∧ s.size ≤ 64 ∧ ∀ b ∈ s.data.toList, wordB (b.toNat : Int) = true := by
  unfold wordS at h
  simp only [Bool.and_eq_true, decide_eq_true_eq] at h
  exact ⟨h.1.1, h.1.2, List.all_eq_true.1 (show (s.data.toList.all fun b => wordB (b.toNat : Int)) = true from h.2)⟩
theorem word_not {b : UInt8} (h : wordB (b.toNat : Int) = true) {n : Nat} (hn : n < 256) (hw : wordB (n : Int) = false) : b ≠ UInt8.ofNat n := by
  intro e
  rw [e, UInt8.toNat_ofNat', Nat.mod_eq_of_lt hn, hw] at h
  cases h
theorem plain_not {b : UInt8} (h : plainB (b.toNat : Int) = true) {n : Nat} (hn : n < 256) (hw : plainB (n : Int) = false) : b ≠ UInt8.ofNat n := by
  intro e
  rw [e, UInt8.toNat_ofNat', Nat.mod_eq_of_lt hn, hw] at h
  cases h
theorem hdFault_parts {h : Hd} (e : hdFault h = 0) : wordS h.1 = true ∧ h.2.size ≤ 200 ∧ (∀ b ∈ h.2.data.toList, plainB (b.toNat : Int) = true) ∧ trimT h.2 = h.2 := by
  unfold hdFault at e
  by_cases h1 : wordS h.1 = false
  · rw [if_pos h1] at e; omega
  rw [if_neg h1] at e
  by_cases h2 : 200 < h.2.size
  · rw [if_pos h2] at e; omega
  rw [if_neg h2] at e
  by_cases h3 : allB plainB h.2 = false
  · rw [if_pos h3] at e; omega
  rw [if_neg h3] at e
  by_cases h4 : trimmed h.2 = false
  · rw [if_pos h4] at e; omega
  simp only [Bool.not_eq_false] at h1 h3 h4
  refine ⟨h1, by omega, List.all_eq_true.1 h3, ?_⟩
  have := beq_iff_eq.1 h4
  rw [ByteArray.toList_eq, ByteArray.toList_eq] at this
  exact ByteArray.ext (Array.toList_inj.1 this)
/-- A line that no byte 13 is in, ended. -/
theorem linesGo_one : ∀ (s cur r : List UInt8), (∀ b ∈ s, b ≠ 13) → linesGo cur (s ++ (13 :: 10 :: r)) = ((cur ++ s) :: (linesGo [] r).1, (linesGo [] r).2)
  | [], cur, r, _ => by
    rw [List.nil_append]
    conv => lhs; unfold linesGo
    rw [if_pos ⟨rfl, rfl⟩, List.append_nil]
  | [b], cur, r, h => by
    have hb := h b (by simp)
    have e : [b] ++ (13 :: 10 :: r) = b :: 13 :: 10 :: r := rfl
    rw [e]
    conv => lhs; unfold linesGo
    rw [if_neg (fun q => hb q.1)]
    conv => lhs; unfold linesGo
    rw [if_pos ⟨rfl, rfl⟩]
  | b :: c :: s, cur, r, h => by
    have hb := h b (by simp)
    have e : (b :: c :: s) ++ (13 :: 10 :: r) = b :: c :: (s ++ (13 :: 10 :: r)) := rfl
    rw [e]
    conv => lhs; unfold linesGo
    rw [if_neg (fun q => hb q.1)]
    have ih := linesGo_one (c :: s) (cur ++ [b]) r (fun x hx => h x (List.mem_cons_of_mem _ hx))
    rw [List.cons_append] at ih
    rw [ih]
    simp
def bareL (h : Hd) : List UInt8 := h.1.data.toList ++ ([58, 32] ++ h.2.data.toList)
theorem lineS_list (h : Hd) : (lineS h).data.toList = bareL h ++ [13, 10] := by
  unfold lineS bareL
  simp
theorem bare_13 {h : Hd} (e : hdFault h = 0) : ∀ b ∈ bareL h, b ≠ 13 := by
  obtain ⟨h1, _, h3, _⟩ := hdFault_parts e
  intro b hb
  unfold bareL at hb
  rcases List.mem_append.1 hb with hb | hb
  · exact word_not (n := 13) ((word_bytes h1).2.2 b hb) (by omega) (by decide)
  · rcases List.mem_append.1 hb with hb | hb
    · intro q; subst q; simp at hb
    · exact plain_not (n := 13) (h3 b hb) (by omega) (by decide)
theorem linesGo_pack : ∀ (l : List Hd) (r : List UInt8), (∀ h ∈ l, hdFault h = 0) → linesGo [] (packL l ++ r) = (l.map bareL ++ (linesGo [] r).1, (linesGo [] r).2)
  | [], r, _ => by simp [packL]
  | h :: l, r, hf => by
    have e : packL (h :: l) ++ r = bareL h ++ (13 :: 10 :: (packL l ++ r)) := by
      have : packL (h :: l) = (lineS h).data.toList ++ packL l := rfl
      rw [this, lineS_list]; simp
    rw [e, linesGo_one _ _ _ (bare_13 (hf h (by simp))), linesGo_pack l r (fun x hx => hf x (List.mem_cons_of_mem _ hx))]
    simp
theorem trim_lead (s : ByteArray) : trimT (ba (32 :: s.data.toList)) = trimT s := by
  unfold trimT trimL Lib.trimS Lib.trimLeftS Lib.trimRightS
  rw [ba_list]
  have key : ∀ m : List UInt8, ((m ++ [32]).dropWhile fun x => ([32, 9] : List UInt8).contains x).reverse.dropWhile (fun x => ([32, 9] : List UInt8).contains x) = ((m.dropWhile fun x => ([32, 9] : List UInt8).contains x).reverse.dropWhile fun x => ([32, 9] : List UInt8).contains x) := by
    intro m
    induction m with
    | nil => rfl
    | cons b m ih =>
      by_cases hb : ([32, 9] : List UInt8).contains b = true
      · rw [List.cons_append, List.dropWhile_cons_of_pos hb, List.dropWhile_cons_of_pos hb, ih]
      · rw [List.cons_append, List.dropWhile_cons_of_neg hb, List.dropWhile_cons_of_neg hb, ← List.cons_append, List.reverse_append]
        exact List.dropWhile_cons_of_pos (by decide)
  have e := key s.data.toList.reverse
  rw [List.reverse_cons, e]
theorem hdOf_bare {h : Hd} (e : hdFault h = 0) : hdOf (ba (bareL h)) = some h := by
  obtain ⟨h1, _, _, h4⟩ := hdFault_parts e
  have hsz : h.1.data.toList.length = h.1.size := Array.length_toList
  have hL : bareL h = h.1.data.toList ++ 58 :: (32 :: h.2.data.toList) := rfl
  have hc : Lib.cut (bareL h) [58] = (h.1.data.toList, 32 :: h.2.data.toList, true) := by
    rw [hL, cut_at (c := 58) (i := h.1.data.toList.length) (by simp) (by rw [List.getElem_append_right (Nat.le_refl _)]; simp) (fun j hj => by
      rw [List.getElem_append_left hj]
      exact word_not (n := 58) ((word_bytes h1).2.2 _ (List.getElem_mem hj)) (by omega) (by decide))]
    rw [List.take_left, ← List.drop_drop, List.drop_left]
    rfl
  unfold hdOf
  rw [ba_list, hc]
  simp only [if_pos]
  rw [ba_of, trim_lead, h4]
theorem mapM_of {α β : Type} {f : α → Option β} {g : β → α} : ∀ {l : List β}, (∀ x ∈ l, f (g x) = some x) → (l.map g).mapM f = some l
  | [], _ => rfl
  | x :: l, h => by
    rw [List.map_cons, List.mapM_cons, h x (by simp), mapM_of (fun y hy => h y (List.mem_cons_of_mem _ hy))]
    rfl
/-- Right head lines are read back from their text. -/
theorem read_pack {l : List Hd} (hf : hdsFault l = 0) : readR (packB l) = (0, l) := by
  obtain ⟨h1, h2⟩ := hdsFault_0 hf
  obtain ⟨h3, h4⟩ := hds_small hf
  have hz := packB_size l.length h1 h4
  rw [List.take_of_length_le (Nat.le_refl _)] at hz
  have hp := linesGo_pack l [] h2
  rw [List.append_nil] at hp
  have hl : (packB l).data.toList = packL l := by simp [packB]
  have e1 : linesE (packB l) = [] := by unfold linesE; rw [hl, hp]; simp [linesGo]
  have e2 : linesB (packB l) = l.map fun h => ba (bareL h) := by
    unfold linesB; rw [hl, hp]; simp [linesGo]
  rw [readR, if_neg (by omega), if_neg (fun q => q e1), e2, mapM_of (g := fun h => ba (bareL h)) (fun x hx => hdOf_bare (h2 x hx))]
  exact if_pos hf
theorem readR_ok {t : ByteArray} (h : (readR t).1 = 0) : hdsFault (readR t).2 = 0 := by
  unfold readR at h ⊢
  split at h
  · rename_i c; simp at h
  · rename_i c
    rw [if_neg c]
    split at h
    · simp at h
    · rename_i c2
      rw [if_neg c2]
      cases hm : (linesB t).mapM hdOf with
      | none => rw [hm] at h; simp at h
      | some l =>
        rw [hm] at h
        simp only at h ⊢
        by_cases c3 : hdsFault l = 0
        · rw [if_pos c3]; exact c3
        · rw [if_neg c3] at h; exact absurd h c3
theorem faultG_0 {α : Type} {f : α → Int} : ∀ {l : List α}, (faultG f l = 0 ↔ ∀ x ∈ l, f x = 0)
  | [] => by simp [faultG]
  | x :: l => by
    have ih := faultG_0 (f := f) (l := l)
    unfold faultG
    by_cases h : f x = 0
    · simp [h, ih]
    · simp [h]
theorem hdsFault_iff {l : List Hd} : hdsFault l = 0 ↔ l.length ≤ 20 ∧ ∀ h ∈ l, hdFault h = 0 := by
  unfold hdsFault
  by_cases h : 20 < l.length
  · rw [if_pos h]; constructor
    · intro q; cases q
    · intro q; omega
  · rw [if_neg h, faultG_0]
    exact ⟨fun q => ⟨by omega, q⟩, fun q => q.2⟩
theorem drop_fault {nm : ByteArray} {l : List Hd} (h : hdsFault l = 0) : hdsFault (dropL nm l) = 0 := by
  rw [hdsFault_iff] at h ⊢
  refine ⟨Nat.le_trans (List.length_filter_le _ _) h.1, fun x hx => h.2 x (List.mem_filter.1 hx).1⟩
theorem vals_drop (nm : ByteArray) (l : List Hd) : vals nm (dropL nm l) = [] := by
  unfold vals dropL
  rw [List.filter_filter]
  have : (l.filter fun h => alikeB h.1 nm && !alikeB h.1 nm) = [] := List.filter_eq_nil_iff.2 fun x _ => by simp
  rw [this]; rfl
theorem join_dropped {nm : ByteArray} {l : List Hd} (h : (dropR nm l).1 = 0) : joinR nm (dropR nm l).2 = (4, ⟨#[]⟩) := by
  by_cases ha : askF nm l = 0
  · have e : dropR nm l = (0, dropL nm l) := if_pos ha
    obtain ⟨h1, h2⟩ := askF_0 ha
    have h3 : askF nm (dropL nm l) = 0 := by rw [askF, if_pos (drop_fault h1), if_pos h2]
    rw [e]
    simp only
    rw [joinR, if_pos h3, vals_drop]; rfl
  · have e : dropR nm l = (askF nm l, []) := if_neg ha
    rw [e] at h
    exact absurd h ha
theorem alike_self (nm : ByteArray) : alikeB nm nm = true := by simp [alikeB]
theorem putG_filter {α : Type} {p : α → Bool} {x : α} (hx : p x = true) : ∀ l : List α, (putG p x l).filter (fun h => !p h) = l.filter fun h => !p h
  | [] => rfl
  | h :: t => by
    unfold putG
    by_cases hh : p h = true
    · rw [if_pos hh]
      simp [hx, hh]
    · rw [if_neg hh]
      simp [hh, putG_filter hx t]
theorem putG_hit {α : Type} {p : α → Bool} {x : α} (hx : p x = true) : ∀ l : List α, l.any p = true → (putG p x l).filter p = [x]
  | [], h => by simp at h
  | h :: t, ha => by
    unfold putG
    by_cases hh : p h = true
    · rw [if_pos hh]
      have : ((t.filter fun h => !p h).filter p) = [] := by
        rw [List.filter_filter]
        exact List.filter_eq_nil_iff.2 fun x _ => by simp
      simp [hx, this]
    · rw [if_neg hh]
      have ha' : t.any p = true := by simpa [hh] using ha
      simp [hh, putG_hit hx t ha']
theorem putG_mem {α : Type} {p : α → Bool} {x y : α} : ∀ {l : List α}, y ∈ putG p x l → y = x ∨ y ∈ l
  | [], h => by simp [putG] at h
  | h :: t, hy => by
    unfold putG at hy
    split at hy
    · rcases List.mem_cons.1 hy with rfl | hy
      · exact .inl rfl
      · exact .inr (List.mem_cons_of_mem _ (List.mem_filter.1 hy).1)
    · rcases List.mem_cons.1 hy with rfl | hy
      · exact .inr (List.mem_cons_self ..)
      · rcases putG_mem hy with h | h
        · exact .inl h
        · exact .inr (List.mem_cons_of_mem _ h)
theorem set_drop (nm vl : ByteArray) (l : List Hd) : dropL nm (setL nm vl l) = dropL nm l := by
  unfold setL dropL
  split
  · exact putG_filter (p := fun h : Hd => alikeB h.1 nm) (alike_self nm) l
  · rw [List.filter_append]
    simp [alike_self]
theorem set_vals (nm vl : ByteArray) (l : List Hd) : vals nm (setL nm vl l) = [vl] := by
  unfold setL vals
  split
  · rename_i h
    rw [putG_hit (p := fun h : Hd => alikeB h.1 nm) (alike_self nm) l h]; rfl
  · rename_i h
    have hn : (l.filter fun h => alikeB h.1 nm) = [] := List.filter_eq_nil_iff.2 fun x hx q => h (List.any_eq_true.2 ⟨x, hx, q⟩)
    rw [List.filter_append, hn]
    simp [alike_self]
theorem set_mem {nm vl : ByteArray} {l : List Hd} {y : Hd} (h : y ∈ setL nm vl l) : y = (nm, vl) ∨ y ∈ l := by
  unfold setL at h
  split at h
  · exact putG_mem h
  · rcases List.mem_append.1 h with h | h
    · exact .inr h
    · simp at h; exact .inl h
/-- What was set is found, and dropping it leaves what dropping would have left. -/
theorem set_found {nm vl : ByteArray} {l : List Hd} (h : (setR nm vl l).1 = 0) : (setR nm vl l).2 = setL nm vl l ∧ askF nm l = 0 ∧ joinR nm (setR nm vl l).2 = (0, vl) ∧ dropR nm (setR nm vl l).2 = dropR nm l := by
  unfold setR at h ⊢
  by_cases ha : askF nm l = 0
  · rw [if_pos ha] at h ⊢
    by_cases hf : hdFault (nm, vl) = 0
    · rw [if_pos hf] at h ⊢
      by_cases hn : 20 < (setL nm vl l).length
      · rw [if_pos hn] at h; simp at h
      · rw [if_neg hn]
        obtain ⟨h1, h2⟩ := askF_0 ha
        have h3 : hdsFault (setL nm vl l) = 0 := by
          rw [hdsFault_iff] at h1 ⊢
          refine ⟨by omega, fun x hx => ?_⟩
          rcases set_mem hx with rfl | hx
          · exact hf
          · exact h1.2 x hx
        have h4 : askF nm (setL nm vl l) = 0 := by rw [askF, if_pos h3, if_pos h2]
        refine ⟨rfl, ha, ?_, ?_⟩
        · simp only
          rw [joinR, if_pos h4, set_vals]
          simp only [List.isEmpty_cons, Bool.false_eq_true, if_false]
          rw [joinB_one]
        · simp only
          rw [dropR, if_pos h4, set_drop, dropR, if_pos ha]
    · rw [if_neg hf] at h; exact absurd h hf
  · rw [if_neg ha] at h; exact absurd h ha
end Go.Proofs.YthiogijicknoiaaGreatDoor
