/- Joined: JoinH, HeadP, ItemRT, ItemQ. -/
import Derived.Test.YthiogijicknoiaaDoorJRowItems6
import Derived.Test.YthiogijicknoiaaDoorJRowItems11
import Derived.Test.YthiogijicknoiaaDoorJRowItems0
import Derived.Test.YthiogijicknoiaaDoorJRowItems7
/- The values of the head lines of a name, joined: both texts, and the law. -/
namespace Go.Proofs.YthiogijicknoiaaDoor
open Go.RowKit
set_option linter.unusedSimpArgs false
set_option linter.unusedVariables false

def joinR (nm : ByteArray) (l : List Hd) : Int × ByteArray := if askF nm l = 0 then (if (vals nm l).isEmpty = true then (4, ⟨#[]⟩) else (0, joinB commaS (vals nm l))) else (askF nm l, ⟨#[]⟩)
theorem ask_small {nm : ByteArray} {l : List Hd} (h : askF nm l = 0) (hs : ∀ h ∈ l, h.1.size ≤ 9223372036854775807 ∧ h.2.size ≤ 9223372036854775807) : l.length ≤ 20 ∧ ∀ h ∈ l, h.1.size ≤ 9223372036854775807 ∧ h.2.size ≤ 200 := by
  obtain ⟨h20, hall⟩ := hdsFault_0 (askF_0 h).1
  exact ⟨h20, fun h hh => ⟨(hs h hh).1, hdFault_size (hall h hh)⟩⟩
end Go.Proofs.YthiogijicknoiaaDoor

/- Plain laws: head lines are read back from their text; what was set is found, what was dropped is not. No program in sight. -/
namespace Go.Proofs.YthiogijicknoiaaDoor
open Go.RowKit
set_option linter.unusedVariables false

theorem word_bytes {s : ByteArray} (h : wordS s = true) : 1 ≤ s.size ∧ s.size ≤ 64 ∧ ∀ b ∈ s.data.toList, wordB (b.toNat : Int) = true := by
  unfold wordS at h
  simp only [Bool.and_eq_true, decide_eq_true_eq] at h
  exact ⟨h.1.1, h.1.2, List.all_eq_true.1 (show (s.data.toList.all fun b => wordB (b.toNat : Int)) = true from h.2)⟩
theorem word_not {b : UInt8} (h : wordB (b.toNat : Int) = true) {n : Nat} (hn : n < 256) (hw : wordB (n : Int) = false) : b ≠ UInt8.ofNat n := by
  intro e
  rw [e, UInt8.toNat_ofNat', Nat.mod_eq_of_lt hn, hw] at h
  cases h
theorem plain_not {b : UInt8} (h : plainB (b.toNat : Int) = true) {n : Nat} (hn : n < 256) (hw : plainB (n : Int) = false) : b ≠ UInt8.ofNat n := by
  intro e
  rw [e, UInt8.toNat_ofNat', Nat.mod_eq_of_lt hn, hw] at h
  cases h
theorem hdFault_parts {h : Hd} (e : hdFault h = 0) : wordS h.1 = true ∧ h.2.size ≤ 200 ∧ (∀ b ∈ h.2.data.toList, plainB (b.toNat : Int) = true) ∧ trimT h.2 = h.2 := by
  unfold hdFault at e
  by_cases h1 : wordS h.1 = false
  · rw [if_pos h1] at e; omega
  rw [if_neg h1] at e
  by_cases h2 : 200 < h.2.size
  · rw [if_pos h2] at e; omega
  rw [if_neg h2] at e
  by_cases h3 : allB plainB h.2 = false
  · rw [if_pos h3] at e; omega
  rw [if_neg h3] at e
  by_cases h4 : trimmed h.2 = false
  · rw [if_pos h4] at e; omega
  simp only [Bool.not_eq_false] at h1 h3 h4
  refine ⟨h1, by omega, List.all_eq_true.1 h3, ?_⟩
  have := beq_iff_eq.1 h4
  rw [ByteArray.toList_eq, ByteArray.toList_eq] at this
  exact ByteArray.ext (Array.toList_inj.1 this)
/-- A line that no byte 13 is in, ended. -/
theorem linesGo_one : ∀ (s cur r : List UInt8), (∀ b ∈ s, b ≠ 13) → linesGo cur (s ++ (13 :: 10 :: r)) = ((cur ++ s) :: (linesGo [] r).1, (linesGo [] r).2)
  | [], cur, r, _ => by
    rw [List.nil_append]
    conv => lhs; unfold linesGo
    rw [if_pos ⟨rfl, rfl⟩, List.append_nil]
  | [b], cur, r, h => by
    have hb := h b (by simp)
    have e : [b] ++ (13 :: 10 :: r) = b :: 13 :: 10 :: r := rfl
    rw [e]
    conv => lhs; unfold linesGo
    rw [if_neg (fun q => hb q.1)]
    conv => lhs; unfold linesGo
    rw [if_pos ⟨rfl, rfl⟩]
  | b :: c :: s, cur, r, h => by
    have hb := h b (by simp)
    have e : (b :: c :: s) ++ (13 :: 10 :: r) = b :: c :: (s ++ (13 :: 10 :: r)) := rfl
    rw [e]
    conv => lhs; unfold linesGo
    rw [if_neg (fun q => hb q.1)]
    have ih := linesGo_one (c :: s) (cur ++ [b]) r (fun x hx => h x (List.mem_cons_of_mem _ hx))
    rw [List.cons_append] at ih
    rw [ih]
    simp
def bareL (h : Hd) : List UInt8 := h.1.data.toList ++ ([58, 32] ++ h.2.data.toList)
theorem lineS_list (h : Hd) : (lineS h).data.toList = bareL h ++ [13, 10] := by
  unfold lineS bareL
  simp
theorem bare_13 {h : Hd} (e : hdFault h = 0) : ∀ b ∈ bareL h, b ≠ 13 := by
  obtain ⟨h1, _, h3, _⟩ := hdFault_parts e
  intro b hb
  unfold bareL at hb
  rcases List.mem_append.1 hb with hb | hb
  · exact word_not (n := 13) ((word_bytes h1).2.2 b hb) (by omega) (by decide)
  · rcases List.mem_append.1 hb with hb | hb
    · intro q; subst q; simp at hb
    · exact plain_not (n := 13) (h3 b hb) (by omega) (by decide)
theorem linesGo_pack : ∀ (l : List Hd) (r : List UInt8), (∀ h ∈ l, hdFault h = 0) → linesGo [] (packL l ++ r) = (l.map bareL ++ (linesGo [] r).1, (linesGo [] r).2)
  | [], r, _ => by simp [packL]
  | h :: l, r, hf => by
    have e : packL (h :: l) ++ r = bareL h ++ (13 :: 10 :: (packL l ++ r)) := by
      have : packL (h :: l) = (lineS h).data.toList ++ packL l := rfl
      rw [this, lineS_list]; simp
    rw [e, linesGo_one _ _ _ (bare_13 (hf h (by simp))), linesGo_pack l r (fun x hx => hf x (List.mem_cons_of_mem _ hx))]
    simp
theorem trim_lead (s : ByteArray) : trimT (ba (32 :: s.data.toList)) = trimT s := by
  unfold trimT trimL Lib.trimS Lib.trimLeftS Lib.trimRightS
  rw [ba_list]
  have key : ∀ m : List UInt8, ((m ++ [32]).dropWhile fun x => ([32, 9] : List UInt8).contains x).reverse.dropWhile (fun x => ([32, 9] : List UInt8).contains x) = ((m.dropWhile fun x => ([32, 9] : List UInt8).contains x).reverse.dropWhile fun x => ([32, 9] : List UInt8).contains x) := by
    intro m
    induction m with
    | nil => rfl
    | cons b m ih =>
      by_cases hb : ([32, 9] : List UInt8).contains b = true
      · rw [List.cons_append, List.dropWhile_cons_of_pos hb, List.dropWhile_cons_of_pos hb, ih]
      · rw [List.cons_append, List.dropWhile_cons_of_neg hb, List.dropWhile_cons_of_neg hb, ← List.cons_append, List.reverse_append]
        exact List.dropWhile_cons_of_pos (by decide)
  have e := key s.data.toList.reverse
  rw [List.reverse_cons, e]
theorem hdOf_bare {h : Hd} (e : hdFault h = 0) : hdOf (ba (bareL h)) = some h := by
  obtain ⟨h1, _, _, h4⟩ := hdFault_parts e
  have hsz : h.1.data.toList.length = h.1.size := Array.length_toList
  have hL : bareL h = h.1.data.toList ++ 58 :: (32 :: h.2.data.toList) := rfl
  have hc : Lib.cut (bareL h) [58] = (h.1.data.toList, 32 :: h.2.data.toList, true) := by
    rw [hL, cut_at (c := 58) (i := h.1.data.toList.length) (by simp) (by rw [List.getElem_append_right (Nat.le_refl _)]; simp) (fun j hj => by
      rw [List.getElem_append_left hj]
      exact word_not (n := 58) ((word_bytes h1).2.2 _ (List.getElem_mem hj)) (by omega) (by decide))]
    rw [List.take_left, ← List.drop_drop, List.drop_left]
    rfl
  unfold hdOf
  rw [ba_list, hc]
  simp only [if_pos]
  rw [ba_of, trim_lead, h4]
theorem mapM_of {α β : Type} {f : α → Option β} {g : β → α} : ∀ {l : List β}, (∀ x ∈ l, f (g x) = some x) → (l.map g).mapM f = some l
  | [], _ => rfl
  | x :: l, h => by
    rw [List.map_cons, List.mapM_cons, h x (by simp), mapM_of (fun y hy => h y (List.mem_cons_of_mem _ hy))]
    rfl
/-- Right head lines are read back from their text. -/
theorem read_pack {l : List Hd} (hf : hdsFault l = 0) : readR (packB l) = (0, l) := by
  obtain ⟨h1, h2⟩ := hdsFault_0 hf
  obtain ⟨h3, h4⟩ := hds_small hf
  have hz := packB_size l.length h1 h4
  rw [List.take_of_length_le (Nat.le_refl _)] at hz
  have hp := linesGo_pack l [] h2
  rw [List.append_nil] at hp
  have hl : (packB l).data.toList = packL l := by simp [packB]
  have e1 : linesE (packB l) = [] := by unfold linesE; rw [hl, hp]; simp [linesGo]
  have e2 : linesB (packB l) = l.map fun h => ba (bareL h) := by
    unfold linesB; rw [hl, hp]; simp [linesGo]
  rw [readR, if_neg (by omega), if_neg (fun q => q e1), e2, mapM_of (g := fun h => ba (bareL h)) (fun x hx => hdOf_bare (h2 x hx))]
  exact if_pos hf
theorem readR_ok {t : ByteArray} (h : (readR t).1 = 0) : hdsFault (readR t).2 = 0 := by
  unfold readR at h ⊢
  split at h
  · rename_i c; simp at h
  · rename_i c
    rw [if_neg c]
    split at h
    · simp at h
    · rename_i c2
      rw [if_neg c2]
      cases hm : (linesB t).mapM hdOf with
      | none => rw [hm] at h; simp at h
      | some l =>
        rw [hm] at h
        simp only at h ⊢
        by_cases c3 : hdsFault l = 0
        · rw [if_pos c3]; exact c3
        · rw [if_neg c3] at h; exact absurd h c3
theorem faultG_0 {α : Type} {f : α → Int} : ∀ {l : List α}, (faultG f l = 0 ↔ ∀ x ∈ l, f x = 0)
  | [] => by simp [faultG]
  | x :: l => by
    have ih := faultG_0 (f := f) (l := l)
    unfold faultG
    by_cases h : f x = 0
    · simp [h, ih]
    · simp [h]
theorem hdsFault_iff {l : List Hd} : hdsFault l = 0 ↔ l.length ≤ 20 ∧ ∀ h ∈ l, hdFault h = 0 := by
  unfold hdsFault
  by_cases h : 20 < l.length
  · rw [if_pos h]; constructor
    · intro q; cases q
    · intro q; omega
  · rw [if_neg h, faultG_0]
    exact ⟨fun q => ⟨by omega, q⟩, fun q => q.2⟩
theorem drop_fault {nm : ByteArray} {l : List Hd} (h : hdsFault l = 0) : hdsFault (dropL nm l) = 0 := by
  rw [hdsFault_iff] at h ⊢
  refine ⟨Nat.le_trans (List.length_filter_le _ _) h.1, fun x hx => h.2 x (List.mem_filter.1 hx).1⟩
theorem vals_drop (nm : ByteArray) (l : List Hd) : vals nm (dropL nm l) = [] := by
  unfold vals dropL
  rw [List.filter_filter]
  have : (l.filter fun h => alikeB h.1 nm && !alikeB h.1 nm) = [] := List.filter_eq_nil_iff.2 fun x _ => by simp
  rw [this]; rfl
theorem join_dropped {nm : ByteArray} {l : List Hd} (h : (dropR nm l).1 = 0) : joinR nm (dropR nm l).2 = (4, ⟨#[]⟩) := by
  by_cases ha : askF nm l = 0
  · have e : dropR nm l = (0, dropL nm l) := if_pos ha
    obtain ⟨h1, h2⟩ := askF_0 ha
    have h3 : askF nm (dropL nm l) = 0 := by rw [askF, if_pos (drop_fault h1), if_pos h2]
    rw [e]
    simp only
    rw [joinR, if_pos h3, vals_drop]; rfl
  · have e : dropR nm l = (askF nm l, []) := if_neg ha
    rw [e] at h
    exact absurd h ha
theorem alike_self (nm : ByteArray) : alikeB nm nm = true := by simp [alikeB]
theorem putG_filter {α : Type} {p : α → Bool} {x : α} (hx : p x = true) : ∀ l : List α, (putG p x l).filter (fun h => !p h) = l.filter fun h => !p h
  | [] => rfl
  | h :: t => by
    unfold putG
    by_cases hh : p h = true
    · rw [if_pos hh]
      simp [hx, hh]
    · rw [if_neg hh]
      simp [hh, putG_filter hx t]
theorem putG_hit {α : Type} {p : α → Bool} {x : α} (hx : p x = true) : ∀ l : List α, l.any p = true → (putG p x l).filter p = [x]
  | [], h => by simp at h
  | h :: t, ha => by
    unfold putG
    by_cases hh : p h = true
    · rw [if_pos hh]
      have : ((t.filter fun h => !p h).filter p) = [] := by
        rw [List.filter_filter]
        exact List.filter_eq_nil_iff.2 fun x _ => by simp
      simp [hx, this]
    · rw [if_neg hh]
      have ha' : t.any p = true := by simpa [hh] using ha
      simp [hh, putG_hit hx t ha']
theorem putG_mem {α : Type} {p : α → Bool} {x y : α} : ∀ {l : List α}, y ∈ putG p x l → y = x ∨ y ∈ l
  | [], h => by simp [putG] at h
  | h :: t, hy => by
    unfold putG at hy
    split at hy
    · rcases List.mem_cons.1 hy with rfl | hy
      · exact .inl rfl
      · exact .inr (List.mem_cons_of_mem _ (List.mem_filter.1 hy).1)
    · rcases List.mem_cons.1 hy with rfl | hy
      · exact .inr (List.mem_cons_self ..)
      · rcases putG_mem hy with h | h
        · exact .inl h
        · exact .inr (List.mem_cons_of_mem _ h)
theorem set_drop (nm vl : ByteArray) (l : List Hd) : dropL nm (setL nm vl l) = dropL nm l := by
  unfold setL dropL
  split
  · exact putG_filter (p := fun h : Hd => alikeB h.1 nm) (alike_self nm) l
  · rw [List.filter_append]
    simp [alike_self]
theorem set_vals (nm vl : ByteArray) (l : List Hd) : vals nm (setL nm vl l) = [vl] := by
  unfold setL vals
  split
  · rename_i h
    rw [putG_hit (p := fun h : Hd => alikeB h.1 nm) (alike_self nm) l h]; rfl
  · rename_i h
    have hn : (l.filter fun h => alikeB h.1 nm) = [] := List.filter_eq_nil_iff.2 fun x hx q => h (List.any_eq_true.2 ⟨x, hx, q⟩)
    rw [List.filter_append, hn]
    simp [alike_self]
theorem set_mem {nm vl : ByteArray} {l : List Hd} {y : Hd} (h : y ∈ setL nm vl l) : y = (nm, vl) ∨ y ∈ l := by
  unfold setL at h
  split at h
  · exact putG_mem h
  · rcases List.mem_append.1 h with h | h
    · exact .inr h
    · simp at h; exact .inl h
/-- What was set is found, and dropping it leaves what dropping would have left. -/
theorem set_found {nm vl : ByteArray} {l : List Hd} (h : (setR nm vl l).1 = 0) : (setR nm vl l).2 = setL nm vl l ∧ askF nm l = 0 ∧ joinR nm (setR nm vl l).2 = (0, vl) ∧ dropR nm (setR nm vl l).2 = dropR nm l := by
  unfold setR at h ⊢
  by_cases ha : askF nm l = 0
  · rw [if_pos ha] at h ⊢
    by_cases hf : hdFault (nm, vl) = 0
    · rw [if_pos hf] at h ⊢
      by_cases hn : 20 < (setL nm vl l).length
      · rw [if_pos hn] at h; simp at h
      · rw [if_neg hn]
        obtain ⟨h1, h2⟩ := askF_0 ha
        have h3 : hdsFault (setL nm vl l) = 0 := by
          rw [hdsFault_iff] at h1 ⊢
          refine ⟨by omega, fun x hx => ?_⟩
          rcases set_mem hx with rfl | hx
          · exact hf
          · exact h1.2 x hx
        have h4 : askF nm (setL nm vl l) = 0 := by rw [askF, if_pos h3, if_pos h2]
        refine ⟨rfl, ha, ?_, ?_⟩
        · simp only
          rw [joinR, if_pos h4, set_vals]
          simp only [List.isEmpty_cons, Bool.false_eq_true, if_false]
          rw [joinB_one]
        · simp only
          rw [dropR, if_pos h4, set_drop, dropR, if_pos ha]
    · rw [if_neg hf] at h; exact absurd h hf
  · rw [if_neg ha] at h; exact absurd h ha
end Go.Proofs.YthiogijicknoiaaDoor

/- Plain law: items are read back from their text. No program in sight. -/
namespace Go.Proofs.YthiogijicknoiaaDoor
open Go.RowKit
set_option linter.unusedVariables false

theorem pieces_run : ∀ (s cur r : List UInt8), (∀ b ∈ s, b ≠ 34 ∧ b ≠ 44) → piecesGo false cur (s ++ r) = piecesGo false (cur ++ s) r
  | [], cur, r, _ => by simp
  | b :: s, cur, r, h => by
    have hb := h b (by simp)
    rw [List.cons_append, piecesGo_plain (fun q => by cases q.1) hb.1 (fun q => hb.2 q.1), pieces_run s (cur ++ [b]) r (fun x hx => h x (List.mem_cons_of_mem _ hx))]
    simp
theorem pieces_esc : ∀ (s cur r : List UInt8), piecesGo true cur (s.flatMap escB ++ r) = piecesGo true (cur ++ s.flatMap escB) r
  | [], cur, r => by simp
  | b :: s, cur, r => by
    rw [List.flatMap_cons, List.append_assoc]
    by_cases h : b.toNat = 34 ∨ b.toNat = 92
    · have e : escB b = [92, b] := by rw [escB, if_pos h]
      rw [e]
      show piecesGo true cur (92 :: (b :: (s.flatMap escB ++ r))) = _
      rw [piecesGo_back rfl]
      show piecesGo true (cur ++ [92, b]) (s.flatMap escB ++ r) = _
      rw [pieces_esc s (cur ++ [92, b]) r]
      simp
    · have e : escB b = [b] := by rw [escB, if_neg h]
      rw [e]
      show piecesGo true cur (b :: (s.flatMap escB ++ r)) = _
      rw [piecesGo_plain (fun q => h (.inr (by rw [q.2]; rfl))) (fun q => h (.inl (by rw [q]; rfl))) (fun q => by cases q.2), pieces_esc s (cur ++ [b]) r]
      simp
/-- A word that stands in one piece. -/
def OnePiece (w : List UInt8) : Prop := ∀ cur r, piecesGo false cur (w ++ r) = piecesGo false (cur ++ w) r
theorem pieces_tail : ∀ (ws : List (List UInt8)) (cur : List UInt8), (∀ w ∈ ws, OnePiece w) → piecesGo false cur (Lib.joinTail [44, 32] ws) = cur :: ws.map (32 :: ·)
  | [], cur, _ => by simp [Lib.joinTail, piecesGo_nil]
  | w :: ws, cur, h => by
    have e : Lib.joinTail [44, 32] (w :: ws) = 44 :: (([32] ++ w) ++ Lib.joinTail [44, 32] ws) := by simp [Lib.joinTail]
    rw [e, piecesGo_comma rfl, List.append_assoc, pieces_run [32] [] _ (by intro b hb; simp at hb; subst hb; decide), h w (by simp) _ _, pieces_tail ws _ (fun x hx => h x (List.mem_cons_of_mem _ hx))]
    simp
theorem pieces_join (w : List UInt8) (ws : List (List UInt8)) (h : ∀ x ∈ w :: ws, OnePiece x) : piecesGo false [] (Lib.join (w :: ws) [44, 32]) = w :: ws.map (32 :: ·) := by
  rw [Lib.join_cons, h w (by simp) _ _, pieces_tail ws _ (fun x hx => h x (List.mem_cons_of_mem _ hx))]
  simp
theorem trim_ends {l : List UInt8} (h1 : ∀ x t, l = x :: t → ([32, 9] : List UInt8).contains x = false) (h2 : ∀ x t, l = t ++ [x] → ([32, 9] : List UInt8).contains x = false) : trimL l = l := by
  unfold trimL Lib.trimS Lib.trimLeftS Lib.trimRightS
  have e1 : l.reverse.dropWhile (fun x => ([32, 9] : List UInt8).contains x) = l.reverse := by
    cases hr : l.reverse with
    | nil => rfl
    | cons x t =>
      have e : l = t.reverse ++ [x] := by
        have := congrArg List.reverse hr
        simpa using this
      exact List.dropWhile_cons_of_neg (by rw [h2 x t.reverse e]; decide)
  rw [e1, List.reverse_reverse]
  cases l with
  | nil => rfl
  | cons x t => exact List.dropWhile_cons_of_neg (by rw [h1 x t rfl]; decide)
theorem itemFault_parts {i : It} (e : itemFault i = 0) : wordS i.1 = true ∧ (i.2.1 = false → i.2.2 = ⟨#[]⟩) ∧ i.2.2.size ≤ 1000 ∧ allB plainB i.2.2 = true := by
  unfold itemFault at e
  by_cases h1 : wordS i.1 = false
  · rw [if_pos h1] at e; omega
  rw [if_neg h1] at e
  by_cases h2 : (!i.2.1 && !i.2.2.toList.isEmpty) = true
  · rw [if_pos h2] at e; omega
  rw [if_neg h2] at e
  by_cases h3 : 1000 < i.2.2.size
  · rw [if_pos h3] at e; omega
  rw [if_neg h3] at e
  by_cases h4 : allB plainB i.2.2 = false
  · rw [if_pos h4] at e; omega
  simp only [Bool.not_eq_false] at h1 h4
  refine ⟨h1, fun q => ?_, by omega, h4⟩
  simp only [q, Bool.not_false, Bool.true_and, Bool.not_eq_true', Bool.not_eq_false, List.isEmpty_iff] at h2
  rw [ByteArray.toList_eq] at h2
  apply ByteArray.ext
  apply Array.toList_inj.1
  rw [h2]
theorem word_one {s : ByteArray} (h : wordS s = true) : ∀ b ∈ s.data.toList, b ≠ 34 ∧ b ≠ 44 := fun b hb =>
  ⟨word_not (n := 34) ((word_bytes h).2.2 b hb) (by omega) (by decide), word_not (n := 44) ((word_bytes h).2.2 b hb) (by omega) (by decide)⟩
/-- The text of an item, as bytes. -/
theorem itT_list (i : It) : (itT i).data.toList = i.1.data.toList ++ (if i.2.1 = true then 61 :: (if wordS i.2.2 = true then i.2.2.data.toList else 34 :: (i.2.2.data.toList.flatMap escB ++ [34])) else []) := by
  cases hb : i.2.1 with
  | false => rw [itT_no i hb]; simp
  | true =>
    by_cases hw : wordS i.2.2 = true
    · rw [itT_word i hb hw]; simp [hw]
    · simp only [Bool.not_eq_true] at hw
      rw [itT_quote i hb hw, ByteArray.data_append, ByteArray.data_append, Array.toList_append, Array.toList_append, quoteS_list]
      simp [hw]
theorem itT_one {i : It} (e : itemFault i = 0) : OnePiece (itT i).data.toList := by
  obtain ⟨h1, h2, h3, h4⟩ := itemFault_parts e
  intro cur r
  rw [itT_list, List.append_assoc, pieces_run _ _ _ (word_one h1)]
  by_cases hb : i.2.1 = true
  · rw [if_pos hb]
    by_cases hw : wordS i.2.2 = true
    · rw [if_pos hw]
      have := pieces_run (61 :: i.2.2.data.toList) (cur ++ i.1.data.toList) r (fun b q => by
        rcases List.mem_cons.1 q with rfl | q
        · decide
        · exact word_one hw b q)
      rw [this, List.append_assoc]
    · rw [if_neg hw]
      have e1 : (61 :: (34 :: (i.2.2.data.toList.flatMap escB ++ [34]))) ++ r = [61] ++ (34 :: (i.2.2.data.toList.flatMap escB ++ (34 :: r))) := by simp
      rw [e1, pieces_run [61] _ _ (by intro b q; simp at q; subst q; decide), piecesGo_quote rfl, show (!false) = true from rfl, pieces_esc, piecesGo_quote rfl]
      simp
  · rw [if_neg hb]; simp
theorem word_noblank {s : ByteArray} (h : wordS s = true) : ∀ b ∈ s.data.toList, ([32, 9] : List UInt8).contains b = false := fun b hb => word_blank b ((word_bytes h).2.2 b hb)
theorem word_ne {s : ByteArray} (h : wordS s = true) : s.data.toList ≠ [] := by
  intro q
  have h1 := (word_bytes h).1
  have : s.data.toList.length = 0 := by rw [q]; rfl
  rw [Array.length_toList] at this
  have e : s.data.size = s.size := rfl
  omega
theorem last_mem {α : Type} {a b t : List α} {x : α} (h : a ++ b = t ++ [x]) (hb : b ≠ []) : x ∈ b := by
  obtain ⟨b', y, rfl⟩ : ∃ b' y, b = b' ++ [y] := ⟨b.dropLast, b.getLast hb, (List.dropLast_concat_getLast hb).symm⟩
  rw [← List.append_assoc] at h
  have h2 := List.append_inj_right' h rfl
  cases h2
  simp
theorem itT_trim {i : It} (e : itemFault i = 0) : trimT (itT i) = itT i := by
  obtain ⟨h1, h2, h3, h4⟩ := itemFault_parts e
  have key : trimL (itT i).data.toList = (itT i).data.toList := by
    refine trim_ends (fun x t q => ?_) (fun x t q => ?_)
    · rw [itT_list] at q
      cases hn : i.1.data.toList with
      | nil => exact absurd hn (word_ne h1)
      | cons y r =>
        rw [hn, List.cons_append] at q
        cases q
        exact word_noblank h1 _ (by rw [hn]; simp)
    · rw [itT_list] at q
      by_cases hb : i.2.1 = true
      · rw [if_pos hb] at q
        by_cases hw : wordS i.2.2 = true
        · rw [if_pos hw] at q
          have : i.1.data.toList ++ (61 :: i.2.2.data.toList) = (i.1.data.toList ++ [61]) ++ i.2.2.data.toList := by simp
          rw [this] at q
          exact word_noblank hw _ (last_mem q (word_ne hw))
        · rw [if_neg hw] at q
          have : i.1.data.toList ++ (61 :: (34 :: (i.2.2.data.toList.flatMap escB ++ [34]))) = (i.1.data.toList ++ (61 :: (34 :: i.2.2.data.toList.flatMap escB))) ++ [34] := by simp
          rw [this] at q
          have := last_mem q (by simp)
          simp at this
          subst this
          decide
      · rw [if_neg hb, List.append_nil] at q
        exact word_noblank h1 _ (by rw [q]; simp)
  unfold trimT
  rw [key]
theorem itT_ne (i : It) (h : wordS i.1 = true) : (itT i).data.toList ≠ [] := by
  rw [itT_list]
  intro q
  exact word_ne h (List.append_eq_nil_iff.1 q).1
theorem itT_item {i : It} (e : itemFault i = 0) : itOf (itT i) = some i := by
  obtain ⟨h1, h2, h3, h4⟩ := itemFault_parts e
  have hno : ∀ j (hj : j < i.1.data.toList.length), i.1.data.toList[j] ≠ 61 := fun j hj => word_not (n := 61) ((word_bytes h1).2.2 _ (List.getElem_mem hj)) (by omega) (by decide)
  by_cases hb : i.2.1 = true
  · have hc : Lib.cut (itT i).data.toList [61] = (i.1.data.toList, (if wordS i.2.2 = true then i.2.2.data.toList else 34 :: (i.2.2.data.toList.flatMap escB ++ [34])), true) := by
      rw [itT_list, if_pos hb]
      generalize (if wordS i.2.2 = true then i.2.2.data.toList else 34 :: (i.2.2.data.toList.flatMap escB ++ [34])) = v
      rw [cut_at (i := i.1.data.toList.length) (by simp) (by rw [List.getElem_append_right (Nat.le_refl _)]; simp) (fun j hj => by rw [List.getElem_append_left hj]; exact hno j hj)]
      rw [List.take_left, ← List.drop_drop, List.drop_left]
      rfl
    have hn : ba (Lib.cut (itT i).data.toList [61]).1 = i.1 := by rw [hc]; exact ba_of _
    have ht : (Lib.cut (itT i).data.toList [61]).2.2 = true := by rw [hc]
    by_cases hw : wordS i.2.2 = true
    · have hv : ba (Lib.cut (itT i).data.toList [61]).2.1 = i.2.2 := by rw [hc]; simp only [if_pos hw]; exact ba_of _
      rw [itOf, hn, ht, hv, if_pos h1, if_pos rfl, if_pos hw]
      have : i = (i.1, i.2.1, i.2.2) := rfl
      rw [hb] at this
      rw [← this]
    · have hv : ba (Lib.cut (itT i).data.toList [61]).2.1 = quoteS i.2.2 := by rw [hc]; simp only [if_neg hw]; exact ba_of (quoteS i.2.2)
      have hqw : ¬ wordS (quoteS i.2.2) = true := fun q => by
        have := (word_bytes q).2.2 34 (by rw [quoteS_list]; simp)
        exact absurd this (by decide)
      have hu : unqO (quoteS i.2.2) = some i.2.2.data.toList := by
        unfold unqO
        rw [if_pos (quoteS_quoted _ h4), quoteS_list, List.drop_succ_cons, List.drop_zero, unq_esc]; rfl
      rw [itOf, hn, ht, hv, if_pos h1, if_pos rfl, if_neg hqw, hu]
      simp only
      rw [ba_of]
      have : i = (i.1, i.2.1, i.2.2) := rfl
      rw [hb] at this
      rw [← this]
  · simp only [Bool.not_eq_true] at hb
    have hl : (itT i).data.toList = i.1.data.toList := by rw [itT_no i hb]
    have hc : Lib.cut (itT i).data.toList [61] = (i.1.data.toList, [], false) := by rw [hl]; exact cut_none hno
    have hn : ba (Lib.cut (itT i).data.toList [61]).1 = i.1 := by rw [hc]; exact ba_of _
    have ht : (Lib.cut (itT i).data.toList [61]).2.2 = false := by rw [hc]
    rw [itOf, hn, ht, if_pos h1, if_neg (by decide), itT_no i hb]
    have : i = (i.1, i.2.1, i.2.2) := rfl
    rw [hb, h2 hb] at this
    rw [← this]
theorem told_words {l : List It} (h : ∀ i ∈ l, itemFault i = 0) : told (piecesB (joinB commaS (l.map itT))) = l.map itT := by
  have hd : (joinB commaS (l.map itT)).data.toList = Lib.join (l.map fun i => (itT i).data.toList) [44, 32] := by
    unfold joinB
    simp only [List.map_map]
    rfl
  cases l with
  | nil =>
    have e : piecesB (joinB commaS (([] : List It).map itT)) = [ba []] := by
      rw [List.map_nil, joinB_nil]; simp [piecesB, piecesGo_nil]
    rw [e]; rfl
  | cons i l =>
    have hp : piecesB (joinB commaS ((i :: l).map itT)) = itT i :: l.map fun i => ba (32 :: (itT i).data.toList) := by
      unfold piecesB
      rw [hd, List.map_cons, pieces_join _ _ (fun x hx => by
        rcases List.mem_cons.1 hx with rfl | hx
        · exact itT_one (h i (by simp))
        · obtain ⟨j, hj, rfl⟩ := List.mem_map.1 hx
          exact itT_one (h j (List.mem_cons_of_mem _ hj)))]
      rw [List.map_cons, ba_of, List.map_map, List.map_map]
      rfl
    rw [hp]
    have ht : (itT i :: l.map fun i => ba (32 :: (itT i).data.toList)).map trimT = (i :: l).map itT := by
      rw [List.map_cons, List.map_map, itT_trim (h i (by simp)), List.map_cons]
      congr 1
      refine List.map_congr_left fun j hj => ?_
      show trimT (ba (32 :: (itT j).data.toList)) = itT j
      rw [trim_lead, itT_trim (h j (List.mem_cons_of_mem _ hj))]
    unfold told
    rw [ht]
    refine List.filter_eq_self.2 fun s hs => ?_
    obtain ⟨j, hj, rfl⟩ := List.mem_map.1 hs
    have := itT_ne j (itemFault_parts (h j hj)).1
    simp [this]
/-- Items are read back from their text. -/
theorem items_back {l : List It} (h : (itemsR l).1 = 0) : parseR (itemsR l).2 = (0, l) := by
  by_cases h1 : 20 < l.length
  · rw [itemsR_many h1] at h; simp at h
  by_cases h2 : faultG itemFault l = 0
  · by_cases h3 : 1000 < (joinB commaS (l.map itT)).size
    · rw [itemsR_long h1 h2 h3] at h; simp at h
    · rw [itemsR_ok h1 h2 h3]
      simp only
      have hf := faultG_0.1 h2
      have hm : (told (piecesB (joinB commaS (l.map itT)))).mapM itOf = some l := by
        rw [told_words hf]
        exact mapM_of (g := itT) (fun i hi => itT_item (hf i hi))
      rw [parseR_L h3, parseL_ok hm h1]
  · rw [itemsR_bad h1 h2] at h
    exact absurd h h2
end Go.Proofs.YthiogijicknoiaaDoor

/- Plain words: what is read as items is small. -/
namespace Go.Proofs.YthiogijicknoiaaDoor
open Go.RowKit
set_option linter.unusedVariables false

theorem unq_len : ∀ (n : Nat) (r acc b : List UInt8), r.length ≤ n → unqGo acc r = some b → b.length ≤ acc.length + r.length
  | _, [], acc, b, _, h => by simp [unqGo] at h
  | 0, x :: r, acc, b, hn, h => by simp at hn
  | n + 1, x :: r, acc, b, hn, h => by
    simp only [List.length_cons] at hn ⊢
    rw [unqGo_cons] at h
    split at h
    · split at h
      · cases h; omega
      · cases h
    · split at h
      · cases r with
        | nil => cases h
        | cons c r' =>
          simp only [List.length_cons] at hn ⊢
          have := unq_len n r' _ b (by omega) h
          rw [List.length_append, List.length_singleton] at this
          omega
      · have := unq_len n r _ b (by omega) h
        rw [List.length_append, List.length_singleton] at this
        omega
theorem cut_lens (s p : List UInt8) : (Lib.cut s p).1.length ≤ s.length ∧ (Lib.cut s p).2.1.length ≤ s.length := by
  unfold Lib.cut
  split
  · exact ⟨by rw [List.length_take]; exact Nat.min_le_right _ _, by rw [List.length_drop]; exact Nat.sub_le _ _⟩
  · exact ⟨Nat.le_refl _, Nat.zero_le _⟩
theorem itOf_small {s : ByteArray} {x : It} (h : itOf s = some x) : x.1.size ≤ s.size ∧ x.2.2.size ≤ s.size := by
  have hl : s.data.toList.length = s.size := Array.length_toList
  obtain ⟨c1, c2⟩ := cut_lens s.data.toList [61]
  unfold itOf at h
  split at h
  · split at h
    · split at h
      · cases h; exact ⟨by rw [ba_size]; omega, by rw [ba_size]; omega⟩
      · cases hu : unqO (ba (Lib.cut s.data.toList [61]).2.1) with
        | none => rw [hu] at h; cases h
        | some b =>
          rw [hu] at h
          cases h
          unfold unqO at hu
          split at hu
          · have := unq_len _ _ [] b (Nat.le_refl _) hu
            rw [List.length_nil, List.length_drop, ba_list] at this
            exact ⟨by rw [ba_size]; omega, by rw [ba_size]; omega⟩
          · cases hu
    · cases h; exact ⟨Nat.le_refl _, Nat.zero_le _⟩
  · cases h
theorem mapM_mem {α β : Type} {f : α → Option β} : ∀ {l : List α} {r : List β}, l.mapM f = some r → ∀ x ∈ r, ∃ y ∈ l, f y = some x
  | [], r, h, x, hx => by
    rw [List.mapM_nil] at h
    cases h
    cases hx
  | a :: l, r, h, x, hx => by
    rw [List.mapM_cons] at h
    cases ha : f a with
    | none => rw [ha] at h; cases h
    | some b =>
      rw [ha] at h
      cases hl : l.mapM f with
      | none => rw [hl] at h; cases h
      | some r' =>
        rw [hl] at h
        cases h
        rcases List.mem_cons.1 hx with rfl | hx
        · exact ⟨a, List.mem_cons_self .., ha⟩
        · obtain ⟨y, hy, e⟩ := mapM_mem hl x hx
          exact ⟨y, List.mem_cons_of_mem _ hy, e⟩
theorem parseR_small (t : ByteArray) : ∀ x ∈ (parseR t).2, x.1.size ≤ t.size ∧ x.2.2.size ≤ t.size := by
  unfold parseR
  split
  · intro x hx; cases hx
  · cases hm : (told (piecesB t)).mapM itOf with
    | none => intro x hx; cases hx
    | some l =>
      simp only []
      split
      · intro x hx; cases hx
      · intro x hx
        obtain ⟨y, hy, e⟩ := mapM_mem hm x hx
        obtain ⟨h1, h2⟩ := itOf_small e
        unfold told at hy
        obtain ⟨hy1, _⟩ := List.mem_filter.1 hy
        obtain ⟨z, hz, rfl⟩ := List.mem_map.1 hy1
        have h3 := trimT_size z
        have h4 := piecesB_mem t z hz
        omega
end Go.Proofs.YthiogijicknoiaaDoor
