/- Plain words: the pieces of a text, and the items that they tell. No program in sight. -/
import Derived.Test.YtaoegcfifdjbkaaDoorReadP
import Derived.Test.YtaoegcfifdjbkaaDoorItems
namespace Go.Proofs.YtaoegcfifdjbkaaDoor
open Go.RowKit

/-- The pieces between commas that do not stand between quotes. -/
def piecesGo : Bool → List UInt8 → List UInt8 → List (List UInt8)
  | _, cur, [] => [cur]
  | ins, cur, [b] => if ins = true ∧ b = 92 then [cur ++ [b]] else if b = 34 then [cur ++ [b]] else if b = 44 ∧ ins = false then [cur, []] else [cur ++ [b]]
  | ins, cur, b :: c :: r => if ins = true ∧ b = 92 then piecesGo ins (cur ++ [b, c]) r else if b = 34 then piecesGo (!ins) (cur ++ [b]) (c :: r) else if b = 44 ∧ ins = false then cur :: piecesGo ins [] (c :: r) else piecesGo ins (cur ++ [b]) (c :: r)
termination_by _ _ s => s.length
theorem piecesGo_nil (ins : Bool) (cur : List UInt8) : piecesGo ins cur [] = [cur] := by simp [piecesGo]
theorem piecesGo_quote {ins : Bool} {cur r : List UInt8} {b : UInt8} (hb : b = 34) : piecesGo ins cur (b :: r) = piecesGo (!ins) (cur ++ [b]) r := by
  have h1 : ¬ (ins = true ∧ b = 92) := fun q => by rw [hb] at q; exact absurd q.2 (by decide)
  cases r with
  | nil => rw [piecesGo_nil]; unfold piecesGo; rw [if_neg h1, if_pos hb]
  | cons c r => conv => lhs; unfold piecesGo
                rw [if_neg h1, if_pos hb]
theorem piecesGo_comma {cur r : List UInt8} {b : UInt8} (hb : b = 44) : piecesGo false cur (b :: r) = cur :: piecesGo false [] r := by
  have h1 : ¬ (false = true ∧ b = 92) := fun q => by cases q.1
  have h2 : ¬ b = 34 := fun q => by rw [hb] at q; exact absurd q (by decide)
  cases r with
  | nil => rw [piecesGo_nil]; unfold piecesGo; rw [if_neg h1, if_neg h2, if_pos ⟨hb, rfl⟩]
  | cons c r => conv => lhs; unfold piecesGo
                rw [if_neg h1, if_neg h2, if_pos ⟨hb, rfl⟩]
theorem piecesGo_plain {ins : Bool} {cur r : List UInt8} {b : UInt8} (h1 : ¬ (ins = true ∧ b = 92)) (h2 : ¬ b = 34) (h3 : ¬ (b = 44 ∧ ins = false)) : piecesGo ins cur (b :: r) = piecesGo ins (cur ++ [b]) r := by
  cases r with
  | nil => rw [piecesGo_nil]; unfold piecesGo; rw [if_neg h1, if_neg h2, if_neg h3]
  | cons c r => conv => lhs; unfold piecesGo
                rw [if_neg h1, if_neg h2, if_neg h3]
theorem piecesGo_back {cur r : List UInt8} {b : UInt8} (hb : b = 92) : piecesGo true cur (b :: r) = piecesGo true (cur ++ (b :: r).take 2) (r.drop 1) := by
  cases r with
  | nil => rw [List.drop_nil, piecesGo_nil]; unfold piecesGo; rw [if_pos ⟨rfl, hb⟩]; rfl
  | cons c r => conv => lhs; unfold piecesGo
                rw [if_pos ⟨rfl, hb⟩]; rfl
def piecesB (t : ByteArray) : List ByteArray := (piecesGo false [] t.data.toList).map ba
/-- Where a reader of pieces stands. -/
def PiecesAt (t : ByteArray) (f i : Nat) (ins : Bool) (done : List ByteArray) : Prop :=
  f ≤ i ∧ f ≤ t.size ∧ i ≤ t.size + 1 ∧ piecesB t = done ++ (piecesGo ins ((t.data.toList.take i).drop f) (t.data.toList.drop i)).map ba
theorem PiecesAt.start (t : ByteArray) : PiecesAt t 0 0 false [] := ⟨Nat.le_refl _, Nat.zero_le _, Nat.zero_le _, by simp [piecesB]⟩
theorem pa_drop {t : ByteArray} {i : Nat} (h : i < t.size) : t.data.toList.drop i = t[i] :: t.data.toList.drop (i + 1) := by
  rw [List.drop_eq_getElem_cons (by rw [Array.length_toList]; exact h)]
  rfl
theorem pa_take {t : ByteArray} {f i : Nat} (h : i < t.size) (hf : f ≤ i) : (t.data.toList.take (i + 1)).drop f = (t.data.toList.take i).drop f ++ [t[i]] := by
  have := take_drop_snoc (s := t.data.toList) (f := f) (i := i) (by rw [Array.length_toList]; exact h) hf
  rw [this]; rfl
theorem PiecesAt.quote {t : ByteArray} {f i : Nat} {ins : Bool} {done : List ByteArray} (h : PiecesAt t f i ins done) (hi : i < t.size) (hb : t[i] = 34) : PiecesAt t f (i + 1) (!ins) done := by
  obtain ⟨h1, h2, h3, h4⟩ := h
  rw [pa_drop hi, piecesGo_quote hb, ← pa_take hi h1] at h4
  exact ⟨by omega, h2, by omega, h4⟩
theorem PiecesAt.plain {t : ByteArray} {f i : Nat} {ins : Bool} {done : List ByteArray} (h : PiecesAt t f i ins done) (hi : i < t.size) (n1 : ¬ (ins = true ∧ t[i] = 92)) (n2 : ¬ t[i] = 34) (n3 : ¬ (t[i] = 44 ∧ ins = false)) : PiecesAt t f (i + 1) ins done := by
  obtain ⟨h1, h2, h3, h4⟩ := h
  rw [pa_drop hi, piecesGo_plain n1 n2 n3, ← pa_take hi h1] at h4
  exact ⟨by omega, h2, by omega, h4⟩
theorem PiecesAt.comma {t : ByteArray} {f i : Nat} {done : List ByteArray} (h : PiecesAt t f i false done) (hi : i < t.size) (hb : t[i] = 44) : PiecesAt t (i + 1) (i + 1) false (done ++ [ba ((t.data.toList.take i).drop f)]) := by
  obtain ⟨h1, h2, h3, h4⟩ := h
  rw [pa_drop hi, piecesGo_comma hb] at h4
  refine ⟨Nat.le_refl _, by omega, by omega, ?_⟩
  rw [h4, List.drop_take_self]; simp
theorem PiecesAt.back {t : ByteArray} {f i : Nat} {done : List ByteArray} (h : PiecesAt t f i true done) (hi : i < t.size) (hb : t[i] = 92) : PiecesAt t f (i + 2) true done := by
  obtain ⟨h1, h2, h3, h4⟩ := h
  rw [pa_drop hi, piecesGo_back hb, List.drop_drop, show i + 1 + 1 = i + 2 from rfl] at h4
  refine ⟨by omega, h2, by omega, ?_⟩
  rw [h4]
  congr 3
  have e : t.data.toList.take (i + 2) = t.data.toList.take i ++ (t[i] :: t.data.toList.drop (i + 1)).take 2 := by
    rw [← pa_drop hi]; exact (List.take_add).trans rfl
  rw [e, List.drop_append_of_le_length (by rw [List.length_take, Array.length_toList]; have e2 : t.data.size = t.size := rfl; omega)]
theorem PiecesAt.stop {t : ByteArray} {f i : Nat} {ins : Bool} {done : List ByteArray} (h : PiecesAt t f i ins done) (hi : ¬ i < t.size) : piecesB t = done ++ [ba (t.data.toList.drop f)] := by
  obtain ⟨h1, h2, h3, h4⟩ := h
  have hl : t.data.toList.length = t.size := Array.length_toList
  rw [List.drop_of_length_le (l := t.data.toList) (i := i) (by omega), piecesGo_nil, List.take_of_length_le (by omega)] at h4
  exact h4
theorem piecesGo_len : ∀ (s : List UInt8) (ins : Bool) (cur : List UInt8), (piecesGo ins cur s).length ≤ s.length + 1
  | [], ins, cur => by simp [piecesGo]
  | [b], ins, cur => by unfold piecesGo; split <;> (try split) <;> (try split) <;> simp
  | b :: c :: r, ins, cur => by
    unfold piecesGo
    split
    · have := piecesGo_len r ins (cur ++ [b, c]); simp only [List.length_cons]; omega
    · split
      · have := piecesGo_len (c :: r) (!ins) (cur ++ [b]); simp only [List.length_cons] at this ⊢; omega
      · split
        · have := piecesGo_len (c :: r) ins []; simp only [List.length_cons] at this ⊢; omega
        · have := piecesGo_len (c :: r) ins (cur ++ [b]); simp only [List.length_cons] at this ⊢; omega
termination_by s => s.length
theorem piecesGo_mem : ∀ (s : List UInt8) (ins : Bool) (cur : List UInt8), ∀ x ∈ piecesGo ins cur s, x.length ≤ cur.length + s.length
  | [], ins, cur => by simp [piecesGo]
  | [b], ins, cur => by
    intro x hx
    unfold piecesGo at hx
    split at hx
    · simp at hx; subst hx; simp
    · split at hx
      · simp at hx; subst hx; simp
      · split at hx
        · simp at hx; rcases hx with rfl | rfl <;> simp
        · simp at hx; subst hx; simp
  | b :: c :: r, ins, cur => by
    intro x hx
    unfold piecesGo at hx
    split at hx
    · have := piecesGo_mem r ins (cur ++ [b, c]) x hx; simp at this ⊢; omega
    · split at hx
      · have := piecesGo_mem (c :: r) (!ins) (cur ++ [b]) x hx; simp at this ⊢; omega
      · split at hx
        · rcases List.mem_cons.1 hx with rfl | hx
          · simp
          · have := piecesGo_mem (c :: r) ins [] x hx; simp at this ⊢; omega
        · have := piecesGo_mem (c :: r) ins (cur ++ [b]) x hx; simp at this ⊢; omega
termination_by s => s.length
theorem piecesB_len (t : ByteArray) : (piecesB t).length ≤ t.size + 1 := by
  have := piecesGo_len t.data.toList false []
  simp only [Array.length_toList] at this
  rw [piecesB, List.length_map]; exact this
theorem piecesB_mem (t : ByteArray) : ∀ x ∈ piecesB t, x.size ≤ t.size := by
  intro x hx
  obtain ⟨y, hy, rfl⟩ := List.mem_map.1 hx
  have := piecesGo_mem t.data.toList false [] y hy
  simp only [Array.length_toList, List.length_nil] at this
  rw [ba_size]
  have e : t.data.size = t.size := rfl
  omega
/-- The item of a piece. -/
def itOf (s : ByteArray) : Option It :=
  if wordS (ba (Lib.cut s.data.toList [61]).1) = true then
    if (Lib.cut s.data.toList [61]).2.2 = true then
      if wordS (ba (Lib.cut s.data.toList [61]).2.1) = true then some (ba (Lib.cut s.data.toList [61]).1, true, ba (Lib.cut s.data.toList [61]).2.1)
      else match unqO (ba (Lib.cut s.data.toList [61]).2.1) with | some b => some (ba (Lib.cut s.data.toList [61]).1, true, ba b) | none => none
    else some (s, false, ⟨#[]⟩)
  else none
theorem cutB_at {s : ByteArray} {c : UInt8} {i : Nat} (hi : i < s.size) (hc : s[i] = c) (hn : ∀ j (hj : j < s.size), j < i → s[j] ≠ c) : Lib.cut s.data.toList [c] = (s.data.toList.take i, s.data.toList.drop (i + 1), true) :=
  cut_at (s := s.data.toList) (c := c) (i := i) (by rw [Array.length_toList]; exact hi) (by rw [Array.getElem_toList]; exact hc) (fun j hj => by
    have hjs : j < s.size := by omega
    rw [Array.getElem_toList]; exact hn j hjs hj)
theorem cutB_none {s : ByteArray} {c : UInt8} (hn : ∀ j (hj : j < s.size), s[j] ≠ c) : Lib.cut s.data.toList [c] = (s.data.toList, [], false) :=
  cut_none (s := s.data.toList) (c := c) (fun j hj => by
    rw [Array.length_toList] at hj
    rw [Array.getElem_toList]; exact hn j hj)
/-- The pieces that tell something. -/
def told (l : List ByteArray) : List ByteArray := (l.map trimT).filter fun s => !decide (s.data.toList = [])
theorem told_skip {l : List ByteArray} {k : Nat} (h : k < l.length) (he : (trimT l[k]).data.toList = []) : told (l.take (k + 1)) = told (l.take k) := by
  unfold told; rw [List.take_succ_eq_append_getElem h, List.map_append, List.filter_append, List.map_singleton, List.filter_cons_of_neg (by simp only [decide_eq_true he]; decide), List.filter_nil, List.append_nil]
theorem told_take {l : List ByteArray} {k : Nat} (h : k < l.length) (he : ¬ (trimT l[k]).data.toList = []) : told (l.take (k + 1)) = told (l.take k) ++ [trimT l[k]] := by
  unfold told; rw [List.take_succ_eq_append_getElem h, List.map_append, List.filter_append, List.map_singleton, List.filter_cons_of_pos (by simp only [decide_eq_false he]; decide), List.filter_nil]
theorem told_none {l : List ByteArray} {k : Nat} (h : k < l.length) (he : ¬ (trimT l[k]).data.toList = []) {r : List It} (hr : (told (l.take k)).mapM itOf = some r) (hx : itOf (trimT l[k]) = none) : (told l).mapM itOf = none := by
  have e : l.take k ++ l[k] :: l.drop (k + 1) = l := by rw [← List.drop_eq_getElem_cons h, List.take_append_drop]
  have e2 : told l = told (l.take k) ++ trimT l[k] :: told (l.drop (k + 1)) := by
    conv => lhs; rw [← e]
    unfold told
    rw [List.map_append, List.filter_append, List.map_cons, List.filter_cons_of_pos (by simp only [decide_eq_false he]; decide)]
  rw [e2, List.mapM_append, hr, List.mapM_cons, hx]; rfl
theorem told_succ {l : List ByteArray} {k : Nat} (h : k < l.length) (he : ¬ (trimT l[k]).data.toList = []) {r : List It} (hr : (told (l.take k)).mapM itOf = some r) {x : It} (hx : itOf (trimT l[k]) = some x) : (told (l.take (k + 1))).mapM itOf = some (r ++ [x]) := by
  rw [told_take h he, List.mapM_append, hr, List.mapM_cons, hx]; rfl
def parseR (t : ByteArray) : Int × List It :=
  if 1000 < t.size then (2, []) else
    match (told (piecesB t)).mapM itOf with
    | none => (5, [])
    | some l => if 20 < l.length then (2, []) else (0, l)
def parseL (t : ByteArray) : Int × List It :=
  match (told (piecesB t)).mapM itOf with
  | none => (5, [])
  | some l => if 20 < l.length then (2, []) else (0, l)
theorem parseR_many {t : ByteArray} (h : 1000 < t.size) : parseR t = (2, []) := by rw [parseR, if_pos h]
theorem parseR_L {t : ByteArray} (h : ¬ 1000 < t.size) : parseR t = parseL t := by rw [parseR, if_neg h]; rfl
theorem parseL_bad {t : ByteArray} (h : (told (piecesB t)).mapM itOf = none) : parseL t = (5, []) := by rw [parseL, h]
theorem parseL_many {t : ByteArray} {l : List It} (h : (told (piecesB t)).mapM itOf = some l) (h2 : 20 < l.length) : parseL t = (2, []) := by rw [parseL, h]; exact if_pos h2
theorem parseL_ok {t : ByteArray} {l : List It} (h : (told (piecesB t)).mapM itOf = some l) (h2 : ¬ 20 < l.length) : parseL t = (0, l) := by rw [parseL, h]; exact if_neg h2
theorem parseR_20 (t : ByteArray) : (parseR t).2.length ≤ 20 := by
  unfold parseR
  split
  · exact Nat.zero_le _
  · split
    · exact Nat.zero_le _
    · split
      · exact Nat.zero_le _
      · rename_i h; exact Nat.le_of_not_lt h
end Go.Proofs.YtaoegcfifdjbkaaDoor
