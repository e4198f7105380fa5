/- Plain words: a text split at a separator, and read byte by byte. No program in sight. -/
import Derived.Test.YtklnccoknldkcaaDoorPlain
import Derived.Lib.Split
namespace Go.Proofs.YtklnccoknldkcaaDoor
open Go.RowKit

theorem split_hit {s sep : List UInt8} (hsep : sep ≠ []) {i : Nat} (h : Lib.index s sep = i) : Lib.split s sep = s.take i :: Lib.split (s.drop (i + sep.length)) sep := by
  unfold Lib.split
  rw [Lib.count_hit hsep h, Nat.add_comm 1, Lib.splitK]
  have e : (Lib.index s sep == -1) = false := by rw [h, beq_eq_false_iff_ne]; omega
  rw [e]
  simp [h]
theorem split_miss {s sep : List UInt8} (h : Lib.index s sep = -1) : Lib.split s sep = [s] := by
  unfold Lib.split
  rw [Lib.count_miss h]
  rfl
theorem index_front {s sep : List UInt8} (h : sep.isPrefixOf s = true) : Lib.index s sep = 0 := by
  cases s with
  | nil => cases sep with
    | nil => rfl
    | cons a t => cases h
  | cons b r => unfold Lib.index; rw [if_pos h]
theorem split_front {s sep : List UInt8} (hsep : sep ≠ []) (h : sep.isPrefixOf s = true) : Lib.split s sep = [] :: Lib.split (s.drop sep.length) sep := by
  rw [split_hit hsep (i := 0) (index_front h)]
  simp
theorem index_cases (s sep : List UInt8) : Lib.index s sep = -1 ∨ ∃ i : Nat, Lib.index s sep = i := by
  have := Lib.index_ge s sep
  by_cases h : Lib.index s sep = -1
  · exact .inl h
  · exact .inr ⟨(Lib.index s sep).toNat, by omega⟩
theorem split_skip {b : UInt8} {r sep : List UInt8} (hsep : sep ≠ []) (hp : sep.isPrefixOf (b :: r) = false) {h : List UInt8} {t : List (List UInt8)} (e : Lib.split r sep = h :: t) : Lib.split (b :: r) sep = (b :: h) :: t := by
  rcases index_cases r sep with hm | ⟨i, hi⟩
  · have hm' : Lib.index (b :: r) sep = -1 := by unfold Lib.index; rw [if_neg (by rw [hp]; decide), hm]; rfl
    rw [split_miss hm] at e
    rw [split_miss hm']
    cases e; rfl
  · have hi' : Lib.index (b :: r) sep = ((i + 1 : Nat) : Int) := by
      have hne : ¬ ((i : Int) == -1) = true := fun q => by have := beq_iff_eq.1 q; omega
      unfold Lib.index; rw [if_neg (by rw [hp]; decide), hi, if_neg hne]; omega
    rw [split_hit hsep hi] at e
    rw [split_hit hsep hi']
    cases e
    rw [List.take_succ_cons, show i + 1 + sep.length = (i + sep.length) + 1 by omega, List.drop_succ_cons]
theorem split_some (s : List UInt8) {sep : List UInt8} (hsep : sep ≠ []) : ∃ h t, Lib.split s sep = h :: t := by
  rcases index_cases s sep with hm | ⟨i, hi⟩
  · exact ⟨_, _, split_miss hm⟩
  · exact ⟨_, _, split_hit hsep hi⟩

/-- The pieces of bytes between one byte, read byte by byte. -/
def cutGo (c : UInt8) : List UInt8 → List UInt8 → List (List UInt8)
  | cur, [] => [cur]
  | cur, b :: r => if b = c then cur :: cutGo c [] r else cutGo c (cur ++ [b]) r
theorem cutGo_split (c : UInt8) : ∀ (s cur : List UInt8) (h : List UInt8) (t : List (List UInt8)), Lib.split s [c] = h :: t → cutGo c cur s = (cur ++ h) :: t
  | [], cur, h, t, e => by
    rw [split_miss (by rfl)] at e
    cases e
    simp [cutGo]
  | b :: r, cur, h, t, e => by
    obtain ⟨h', t', e'⟩ := split_some r (sep := [c]) (by simp)
    unfold cutGo
    by_cases hb : b = c
    · subst hb
      rw [split_front (by simp) (by simp [List.isPrefixOf])] at e
      cases e
      rw [if_pos rfl, cutGo_split b r [] h' t' e']
      simp only [List.length_singleton, List.drop_one, List.tail_cons, List.append_nil, List.nil_append]
      rw [e']
    · rw [split_skip (by simp) (by simp [List.isPrefixOf]; exact fun q => hb q.symm) e'] at e
      have e1 := List.cons.inj e
      rw [if_neg hb, cutGo_split c r _ h' t' e', ← e1.1, ← e1.2]
      simp
theorem cutGo_eq (c : UInt8) (s : List UInt8) : cutGo c [] s = Lib.split s [c] := by
  obtain ⟨h, t, e⟩ := split_some s (sep := [c]) (by simp)
  rw [cutGo_split c s [] h t e, e]; rfl

/-- Lines that 13 and 10 end, and what stands behind the last of them. -/
def linesGo : List UInt8 → List UInt8 → List (List UInt8) × List UInt8
  | cur, [] => ([], cur)
  | cur, [b] => ([], cur ++ [b])
  | cur, b :: c :: r => if b = 13 ∧ c = 10 then (cur :: (linesGo [] r).1, (linesGo [] r).2) else linesGo (cur ++ [b]) (c :: r)
termination_by _ s => s.length
theorem linesGo_split : ∀ (s cur : List UInt8) (h : List UInt8) (t : List (List UInt8)), Lib.split s [13, 10] = h :: t → (linesGo cur s).1 ++ [(linesGo cur s).2] = (cur ++ h) :: t
  | [], cur, h, t, e => by
    rw [split_miss (by rfl)] at e
    cases e
    simp [linesGo]
  | [b], cur, h, t, e => by
    rw [split_skip (by simp) (by simp [List.isPrefixOf]) (split_miss (s := []) (sep := [13, 10]) (by rfl))] at e
    cases e
    simp [linesGo]
  | b :: c :: r, cur, h, t, e => by
    unfold linesGo
    by_cases hb : b = 13 ∧ c = 10
    · obtain ⟨rfl, rfl⟩ := hb
      obtain ⟨h', t', e'⟩ := split_some r (sep := [13, 10]) (by simp)
      rw [split_front (by simp) (by simp [List.isPrefixOf])] at e
      cases e
      rw [if_pos ⟨rfl, rfl⟩]
      have ih := linesGo_split r [] h' t' e'
      simp only [List.length_cons, List.length_nil, List.drop_succ_cons, List.drop_zero, List.append_nil]
      rw [e', List.cons_append, ih]
      rfl
    · obtain ⟨h', t', e'⟩ := split_some (c :: r) (sep := [13, 10]) (by simp)
      have hp : List.isPrefixOf [13, 10] (b :: c :: r) = false := by
        rw [Bool.eq_false_iff]
        intro q
        simp [List.isPrefixOf] at q
        exact hb ⟨q.1.symm, q.2.symm⟩
      rw [split_skip (by simp) hp e'] at e
      have e1 := List.cons.inj e
      rw [if_neg hb, linesGo_split (c :: r) _ h' t' e', ← e1.1, ← e1.2]
      simp
termination_by s => s.length
theorem linesGo_eq (s : List UInt8) : (linesGo [] s).1 ++ [(linesGo [] s).2] = Lib.split s [13, 10] := by
  obtain ⟨h, t, e⟩ := split_some s (sep := [13, 10]) (by simp)
  rw [linesGo_split s [] h t e, e]; rfl
/-- Nothing stands behind the last line just where the text is empty or ends so. -/
theorem linesGo_end : ∀ (s cur : List UInt8), (linesGo cur s).2 = [] ↔ (cur = [] ∧ s = []) ∨ [13, 10] <:+ s
  | [], cur => by
    simp [linesGo]
  | [b], cur => by
    simp only [linesGo]
    constructor
    · intro h; simp at h
    · rintro (⟨_, h⟩ | h)
      · cases h
      · have := h.length_le; simp at this
  | b :: c :: r, cur => by
    unfold linesGo
    by_cases hb : b = 13 ∧ c = 10
    · obtain ⟨rfl, rfl⟩ := hb
      rw [if_pos ⟨rfl, rfl⟩]
      show (linesGo [] r).2 = [] ↔ _
      rw [linesGo_end r []]
      constructor
      · rintro (⟨_, rfl⟩ | h)
        · exact .inr (List.suffix_refl _)
        · exact .inr (h.trans ⟨[13, 10], rfl⟩)
      · rintro (⟨_, h⟩ | h)
        · cases h
        · by_cases hr : r = []
          · exact .inl ⟨rfl, hr⟩
          · refine .inr ?_
            rcases List.suffix_cons_iff.1 h with h | h
            · exact absurd (by have := congrArg List.length h; simpa using this) (fun q : r.length = 0 => hr (List.length_eq_zero_iff.1 q))
            · rcases List.suffix_cons_iff.1 h with h | h
              · have := congrArg List.head? h; simp at this
              · exact h
    · rw [if_neg hb, linesGo_end (c :: r) _]
      constructor
      · rintro (⟨h, _⟩ | h)
        · simp at h
        · exact .inr (h.trans ⟨[b], rfl⟩)
      · rintro (⟨_, h⟩ | h)
        · cases h
        · refine .inr ?_
          rcases List.suffix_cons_iff.1 h with h | h
          · cases h; exact absurd ⟨rfl, rfl⟩ hb
          · exact h
termination_by s => s.length
/-- Cut at the first of one byte. -/
theorem cut_at {s : List UInt8} {c : UInt8} {i : Nat} (hi : i < s.length) (hc : s[i] = c) (hn : ∀ j (hj : j < i), s[j]'(by omega) ≠ c) : Lib.cut s [c] = (s.take i, s.drop (i + 1), true) := by
  have e : Lib.index s [c] = i := by
    refine Lib.index_first (by omega) ?_ ?_
    · unfold Lib.occAt
      rw [List.drop_eq_getElem_cons hi]
      simp [List.isPrefixOf, hc]
    · intro j hj
      unfold Lib.occAt
      rw [List.drop_eq_getElem_cons (by omega)]
      simp [List.isPrefixOf]
      exact fun q => hn j hj q.symm
  unfold Lib.cut
  rw [e, if_pos (by omega)]
  simp
theorem cut_none {s : List UInt8} {c : UInt8} (hn : ∀ j (hj : j < s.length), s[j] ≠ c) : Lib.cut s [c] = (s, [], false) := by
  have e : Lib.index s [c] = -1 := by
    refine Lib.index_none ?_
    intro j hj
    unfold Lib.occAt
    by_cases h : j < s.length
    · rw [List.drop_eq_getElem_cons h]
      simp [List.isPrefixOf]
      exact fun q => hn j h q.symm
    · rw [List.drop_of_length_le (by omega)]
      rfl
  unfold Lib.cut
  rw [e, if_neg (by omega)]
theorem split_len {sep : List UInt8} (hsep : sep ≠ []) : ∀ (n : Nat) (s : List UInt8), s.length ≤ n → (Lib.split s sep).length = Lib.count s sep + 1 := by
  intro n
  induction n with
  | zero =>
    intro s hs
    obtain rfl : s = [] := List.length_eq_zero_iff.1 (by omega)
    have e : Lib.index [] sep = -1 := by
      unfold Lib.index
      cases sep with
      | nil => exact absurd rfl hsep
      | cons a t => rfl
    rw [split_miss e, Lib.count_miss e]; rfl
  | succ n ih =>
    intro s hs
    rcases index_cases s sep with hm | ⟨i, hi⟩
    · rw [split_miss hm, Lib.count_miss hm]; rfl
    · have hlt := Lib.drop_shorter hsep (s := s) (by rw [hi]; intro q; have := beq_iff_eq.1 q; omega)
      rw [hi, Int.toNat_natCast] at hlt
      rw [split_hit hsep hi, Lib.count_hit hsep hi, List.length_cons, ih _ (by omega)]
      omega
end Go.Proofs.YtklnccoknldkcaaDoor
