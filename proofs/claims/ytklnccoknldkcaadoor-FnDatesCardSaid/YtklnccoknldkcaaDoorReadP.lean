/- Plain words: the head lines that a text tells. No program in sight. -/
import Derived.Test.YtklnccoknldkcaaDoorSplitP
import Derived.Test.YtklnccoknldkcaaDoorHFault
import Derived.Test.YtklnccoknldkcaaDoorTrimP
namespace Go.Proofs.YtklnccoknldkcaaDoor
open Go.RowKit

def ba (l : List UInt8) : ByteArray := ⟨l.toArray⟩
theorem ba_list (l : List UInt8) : (ba l).data.toList = l := by simp [ba]
theorem ba_size (l : List UInt8) : (ba l).size = l.length := by simp [ba, ByteArray.size]
theorem ba_of (s : ByteArray) : ba s.data.toList = s := by apply ByteArray.ext; simp [ba]
theorem map_ba (l : List (List UInt8)) : (l.map ba).map (·.data.toList) = l := by
  rw [List.map_map]
  exact (List.map_congr_left fun x _ => ba_list x).trans (List.map_id _)
/-- The ended lines of a text, and what stands behind the last of them. -/
def linesB (t : ByteArray) : List ByteArray := (linesGo [] t.data.toList).1.map ba
def linesE (t : ByteArray) : List UInt8 := (linesGo [] t.data.toList).2
theorem linesB_split (t : ByteArray) : (linesB t ++ [ba (linesE t)]).map (·.data.toList) = Lib.split t.data.toList [13, 10] := by
  rw [← linesGo_eq, List.map_append, linesB, linesE, map_ba]
  simp [ba]
/-- The head line of a line. -/
def hdOf (s : ByteArray) : Option Hd := if (Lib.cut s.data.toList [58]).2.2 = true then some (ba (Lib.cut s.data.toList [58]).1, trimT (ba (Lib.cut s.data.toList [58]).2.1)) else none
theorem hdOf_at {s : ByteArray} {i : Nat} (hi : i < s.size) (hc : s[i] = 58) (hn : ∀ j (hj : j < s.size), j < i → s[j] ≠ 58) : hdOf s = some (ba (s.data.toList.take i), trimT (ba (s.data.toList.drop (i + 1)))) := by
  have e := cut_at (s := s.data.toList) (c := 58) (i := i) (by rw [Array.length_toList]; exact hi) (by rw [Array.getElem_toList]; exact hc) (fun j hj => by
    have hjs : j < s.size := by omega
    rw [Array.getElem_toList]; exact hn j hjs hj)
  unfold hdOf
  rw [e, if_pos rfl]
theorem hdOf_none {s : ByteArray} (hn : ∀ j (hj : j < s.size), s[j] ≠ 58) : hdOf s = none := by
  have e := cut_none (s := s.data.toList) (c := 58) (fun j hj => by
    rw [Array.length_toList] at hj
    rw [Array.getElem_toList]; exact hn j hj)
  unfold hdOf
  rw [e, if_neg (by simp)]
theorem readAll_succ {α β : Type} {f : α → Option β} {l : List α} {k : Nat} {r : List β} {x : β} (h : (l.take k).mapM f = some r) (hk : k < l.length) (hx : f l[k] = some x) : (l.take (k + 1)).mapM f = some (r ++ [x]) := by
  rw [List.take_succ_eq_append_getElem hk, List.mapM_append, h]
  simp [hx]
theorem readAll_none {α β : Type} {f : α → Option β} {l : List α} {k : Nat} (hk : k < l.length) (hx : f l[k] = none) {r : List β} (h : (l.take k).mapM f = some r) : l.mapM f = none := by
  have e : l.take k ++ l[k] :: l.drop (k + 1) = l := by rw [← List.drop_eq_getElem_cons hk, List.take_append_drop]
  have e2 : (l.take k ++ l[k] :: l.drop (k + 1)).mapM f = none := by rw [List.mapM_append, h, List.mapM_cons, hx]; rfl
  rw [e] at e2
  exact e2
theorem readAll_len {α β : Type} {f : α → Option β} : ∀ {l : List α} {r : List β}, l.mapM f = some r → r.length = l.length
  | [], r, h => by simp at h; subst h; rfl
  | x :: l, r, h => by
    rw [List.mapM_cons] at h
    cases hx : f x with
    | none => simp [hx] at h
    | some y =>
      cases hl : l.mapM f with
      | none => simp [hx, hl] at h
      | some q =>
        simp [hx, hl] at h
        subst h
        simp [readAll_len hl]
theorem readAll_take_len {α β : Type} {f : α → Option β} {l : List α} {k : Nat} {r : List β} (h : (l.take k).mapM f = some r) (hk : k ≤ l.length) : r.length = k := by
  rw [readAll_len h, List.length_take]; omega
/-- What is read of a text. -/
def readR (t : ByteArray) : Int × List Hd :=
  if 6000 < t.size then (2, []) else if linesE t ≠ [] then (5, []) else
    match (linesB t).mapM hdOf with
    | none => (5, [])
    | some l => if hdsFault l = 0 then (0, l) else (hdsFault l, [])
theorem linesGo_len : ∀ (s cur : List UInt8), (linesGo cur s).1.length ≤ s.length
  | [], cur => by simp [linesGo]
  | [b], cur => by simp [linesGo]
  | b :: c :: r, cur => by
    unfold linesGo
    split
    · have := linesGo_len r []
      simp only [List.length_cons]; omega
    · have := linesGo_len (c :: r) (cur ++ [b])
      simp only [List.length_cons] at this ⊢; omega
termination_by s => s.length
theorem linesGo_mem : ∀ (s cur : List UInt8), ∀ x ∈ (linesGo cur s).1, x.length ≤ cur.length + s.length
  | [], cur => by simp [linesGo]
  | [b], cur => by simp [linesGo]
  | b :: c :: r, cur => by
    intro x hx
    unfold linesGo at hx
    split at hx
    · rcases List.mem_cons.1 hx with rfl | hx
      · simp only [List.length_cons]; omega
      · have := linesGo_mem r [] x hx
        simp only [List.length_cons, List.length_nil] at this ⊢; omega
    · have := linesGo_mem (c :: r) (cur ++ [b]) x hx
      simp only [List.length_cons, List.length_append, List.length_nil] at this ⊢; omega
termination_by s => s.length
theorem linesB_len (t : ByteArray) : (linesB t).length ≤ t.size := by
  have := linesGo_len t.data.toList []
  rw [Array.length_toList] at this
  rw [linesB, List.length_map]; exact this
theorem linesB_mem (t : ByteArray) : ∀ x ∈ linesB t, x.size ≤ t.size := by
  intro x hx
  obtain ⟨y, hy, rfl⟩ := List.mem_map.1 hx
  have := linesGo_mem t.data.toList [] y hy
  simp only [Array.length_toList, List.length_nil] at this
  rw [ba_size]
  have e : t.data.size = t.size := rfl
  omega
theorem linesE_nil (t : ByteArray) : linesE t = [] ↔ t.data.toList = [] ∨ [13, 10] <:+ t.data.toList := by
  unfold linesE; rw [linesGo_end]; simp
theorem linesGo_step {s cur : List UInt8} {i : Nat} (h : i + 1 < s.length) (hne : ¬ (s[i] = 13 ∧ s[i + 1] = 10)) : linesGo cur (s.drop i) = linesGo (cur ++ [s[i]]) (s.drop (i + 1)) := by
  rw [List.drop_eq_getElem_cons (by omega : i < s.length), List.drop_eq_getElem_cons h]
  conv => lhs; unfold linesGo
  rw [if_neg hne]
theorem linesGo_line {s cur : List UInt8} {i : Nat} (h : i + 1 < s.length) (h1 : s[i] = 13) (h2 : s[i + 1] = 10) : linesGo cur (s.drop i) = (cur :: (linesGo [] (s.drop (i + 2))).1, (linesGo [] (s.drop (i + 2))).2) := by
  rw [List.drop_eq_getElem_cons (by omega : i < s.length), List.drop_eq_getElem_cons h]
  conv => lhs; unfold linesGo
  rw [if_pos ⟨h1, h2⟩]
theorem linesGo_stop {s cur : List UInt8} {i : Nat} (h : ¬ i + 1 < s.length) : linesGo cur (s.drop i) = ([], cur ++ s.drop i) := by
  by_cases hi : i < s.length
  · rw [List.drop_eq_getElem_cons hi, List.drop_of_length_le (by omega)]
    simp [linesGo]
  · rw [List.drop_of_length_le (by omega)]
    simp [linesGo]
/-- Where a reader of lines stands: at i, the line begun at f, the lines done. -/
def LinesAt (t : ByteArray) (f i : Nat) (done : List ByteArray) : Prop :=
  f ≤ i ∧ i ≤ t.size ∧ linesB t = done ++ (linesGo ((t.data.toList.take i).drop f) (t.data.toList.drop i)).1.map ba ∧ linesE t = (linesGo ((t.data.toList.take i).drop f) (t.data.toList.drop i)).2
theorem LinesAt.start (t : ByteArray) : LinesAt t 0 0 [] := ⟨Nat.le_refl _, Nat.zero_le _, by simp [linesB], by simp [linesE]⟩
theorem take_drop_snoc {s : List UInt8} {f i : Nat} (h : i < s.length) (hf : f ≤ i) : (s.take (i + 1)).drop f = (s.take i).drop f ++ [s[i]] := by
  rw [List.take_succ_eq_append_getElem h, List.drop_append_of_le_length (by rw [List.length_take]; omega)]
theorem LinesAt.step {t : ByteArray} {f i : Nat} {done : List ByteArray} (h : LinesAt t f i done) (hi : i + 1 < t.size) (hne : ¬ (t[i] = 13 ∧ t[i + 1] = 10)) : LinesAt t f (i + 1) done := by
  obtain ⟨h1, h2, h3, h4⟩ := h
  have hl : i + 1 < t.data.toList.length := by rw [Array.length_toList]; exact hi
  have hne' : ¬ (t.data.toList[i] = 13 ∧ t.data.toList[i + 1] = 10) := by rw [Array.getElem_toList, Array.getElem_toList]; exact hne
  rw [linesGo_step hl hne', ← take_drop_snoc (by omega) h1] at h3 h4
  exact ⟨by omega, by omega, h3, h4⟩
theorem LinesAt.line {t : ByteArray} {f i : Nat} {done : List ByteArray} (h : LinesAt t f i done) (hi : i + 1 < t.size) (e1 : t[i] = 13) (e2 : t[i + 1] = 10) : LinesAt t (i + 2) (i + 2) (done ++ [ba ((t.data.toList.take i).drop f)]) := by
  obtain ⟨h1, h2, h3, h4⟩ := h
  have hl : i + 1 < t.data.toList.length := by rw [Array.length_toList]; exact hi
  rw [linesGo_line hl (by rw [Array.getElem_toList]; exact e1) (by rw [Array.getElem_toList]; exact e2)] at h3 h4
  refine ⟨Nat.le_refl _, by omega, ?_, ?_⟩
  · rw [h3, List.drop_take_self]; simp
  · rw [h4, List.drop_take_self]
theorem LinesAt.stop {t : ByteArray} {f i : Nat} {done : List ByteArray} (h : LinesAt t f i done) (hi : ¬ i + 1 < t.size) : linesB t = done ∧ (linesE t = [] ↔ f = t.size) := by
  obtain ⟨h1, h2, h3, h4⟩ := h
  have hl : ¬ i + 1 < t.data.toList.length := by rw [Array.length_toList]; exact hi
  rw [linesGo_stop hl] at h3 h4
  refine ⟨by simpa using h3, ?_⟩
  have e : (t.data.toList.take i).drop f ++ t.data.toList.drop i = t.data.toList.drop f := by
    conv => rhs; rw [← List.take_append_drop i t.data.toList]
    rw [List.drop_append_of_le_length (by rw [List.length_take, Array.length_toList]; have e : t.data.size = t.size := rfl; omega)]
  simp only [] at h4
  rw [e] at h4
  rw [h4, List.drop_eq_nil_iff, Array.length_toList]
  have e2 : t.data.size = t.size := rfl
  omega
end Go.Proofs.YtklnccoknldkcaaDoor
