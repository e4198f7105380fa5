/- Joined: Ask, InsP, OpenB, ReadP, MaxL, ReqF, ReqG, Bw, DropH, PackH, PackQ, PackR, ReqP, KeyP, RspF, PackS, PackT, RspP, RspB, Shape. -/
import Derived.Test.YthiogijicknoiaaDoorJRowExactReadResponse2
import Derived.Test.YthiogijicknoiaaDoorJRowExactReadResponse0
import Derived.Test.YthiogijicknoiaaDoorJRowExactReadResponse3
import Derived.Test.YthiogijicknoiaaDoorShelf
import Derived.Test.YthiogijicknoiaaDoorRows
import Derived.ProofKit
import Derived.Handed
import Derived.HandedShaped
/- What is asked of head lines and a name; the head lines without those of a name. -/
namespace Go.Proofs.YthiogijicknoiaaDoor
open Go.RowKit
set_option linter.unusedSimpArgs false
set_option linter.unusedVariables false

def askF (nm : ByteArray) (l : List Hd) : Int := if hdsFault l = 0 then (if wordS nm = true then 0 else 5) else hdsFault l
theorem askF_0 {nm : ByteArray} {l : List Hd} (h : askF nm l = 0) : hdsFault l = 0 ∧ wordS nm = true := by
  unfold askF at h
  split at h
  · rename_i h1
    split at h
    · rename_i h2; exact ⟨h1, h2⟩
    · cases h
  · rename_i h1; exact absurd h h1

def dropL (nm : ByteArray) (l : List Hd) : List Hd := l.filter fun h => !alikeB h.1 nm
theorem dropL_yes (nm : ByteArray) (l : List Hd) (k : Nat) (h : k < l.length) (ha : alikeB l[k].1 nm = true) : dropL nm (l.take (k + 1)) = dropL nm (l.take k) := by
  unfold dropL; rw [List.take_succ_eq_append_getElem h, List.filter_append]
  simp [ha]
theorem dropL_no (nm : ByteArray) (l : List Hd) (k : Nat) (h : k < l.length) (ha : alikeB l[k].1 nm = false) : dropL nm (l.take (k + 1)) = dropL nm (l.take k) ++ [l[k]] := by
  unfold dropL; rw [List.take_succ_eq_append_getElem h, List.filter_append]
  simp [ha]
theorem dropL_take_len (nm : ByteArray) (l : List Hd) (k : Nat) : (dropL nm (l.take k)).length ≤ k := by
  have h1 : (dropL nm (l.take k)).length ≤ (l.take k).length := List.length_filter_le _ _
  have h2 := List.length_take_le k l
  omega
theorem hV_snoc1 (l : List Hd) (h : Hd) : hV l ++ [.string h.1, .string h.2] = hV (l ++ [h]) := by simp [hV, cellsOf, hEnc]
end Go.Proofs.YthiogijicknoiaaDoor

/- Plain words: a head line set among others. No program in sight. -/
namespace Go.Proofs.YthiogijicknoiaaDoor
open Go.RowKit

/-- One line of the name, at the place of the first; the others of it left out. -/
def putG {α : Type} (p : α → Bool) (x : α) : List α → List α
  | [] => []
  | h :: t => if p h = true then x :: t.filter (fun h => !p h) else h :: putG p x t
theorem putG_none {α : Type} {p : α → Bool} {x : α} : ∀ {l : List α}, l.any p = false → putG p x l = l
  | [], _ => rfl
  | h :: t, hn => by
    simp only [List.any_cons, Bool.or_eq_false_iff] at hn
    rw [putG, if_neg (by rw [hn.1]; simp), putG_none hn.2]
theorem putG_no {α : Type} {p : α → Bool} {x y : α} (hy : p y = false) : ∀ (l : List α), putG p x (l ++ [y]) = putG p x l ++ [y]
  | [] => by simp [putG, hy]
  | h :: t => by
    by_cases hh : p h = true
    · simp [putG, hh, hy]
    · rw [List.cons_append, putG, putG, if_neg hh, if_neg hh, putG_no hy t, List.cons_append]
theorem putG_first {α : Type} {p : α → Bool} {x y : α} (hy : p y = true) : ∀ (l : List α), l.any p = false → putG p x (l ++ [y]) = putG p x l ++ [x]
  | [], _ => by simp [putG, hy]
  | h :: t, hn => by
    simp only [List.any_cons, Bool.or_eq_false_iff] at hn
    rw [List.cons_append, putG, putG, if_neg (by rw [hn.1]; simp), if_neg (by rw [hn.1]; simp), putG_first hy t hn.2, List.cons_append]
theorem putG_more {α : Type} {p : α → Bool} {x y : α} (hy : p y = true) : ∀ (l : List α), l.any p = true → putG p x (l ++ [y]) = putG p x l
  | [], hn => by simp at hn
  | h :: t, hn => by
    by_cases hh : p h = true
    · simp [putG, hh, hy]
    · simp only [List.any_cons, hh, Bool.false_or] at hn
      rw [List.cons_append, putG, putG, if_neg hh, if_neg hh, putG_more hy t hn]
theorem putG_at {α : Type} {p : α → Bool} {x : α} : ∀ {l : List α} {i : Nat}, l.findIdx? p = some i → i ≤ (l.filter fun h => !p h).length ∧ putG p x l = (l.filter fun h => !p h).take i ++ x :: (l.filter fun h => !p h).drop i
  | [], i, h => by simp at h
  | h :: t, i, hi => by
    rw [List.findIdx?_cons] at hi
    by_cases hh : p h = true
    · rw [if_pos hh] at hi
      obtain rfl := Option.some.inj hi
      refine ⟨Nat.zero_le _, ?_⟩
      simp [putG, hh]
    · rw [if_neg hh] at hi
      cases ht : t.findIdx? p with
      | none => rw [ht] at hi; cases hi
      | some j =>
        rw [ht] at hi
        obtain rfl := Option.some.inj hi
        obtain ⟨h1, h2⟩ := putG_at (x := x) ht
        have e : (h :: t).filter (fun h => !p h) = h :: t.filter (fun h => !p h) := by simp [hh]
        rw [e]
        refine ⟨by simpa using h1, ?_⟩
        rw [putG, if_neg hh, h2]
        simp
def setL (nm vl : ByteArray) (l : List Hd) : List Hd := if l.any (fun h => alikeB h.1 nm) = true then putG (fun h => alikeB h.1 nm) (nm, vl) l else l ++ [(nm, vl)]
/-- As the reader of one line after the other has it. -/
def setGo (nm vl : ByteArray) (l : List Hd) : List Hd := putG (fun h => alikeB h.1 nm) (nm, vl) l
def setAny (nm : ByteArray) (l : List Hd) : Bool := l.any fun h => alikeB h.1 nm
theorem any_snoc {α : Type} (p : α → Bool) (l : List α) (y : α) : (l ++ [y]).any p = (l.any p || p y) := by rw [List.any_append]; simp
theorem setAny_snoc (nm : ByteArray) (l : List Hd) (y : Hd) : setAny nm (l ++ [y]) = (setAny nm l || alikeB y.1 nm) := any_snoc _ l y
theorem setGo_no (nm vl : ByteArray) (l : List Hd) (k : Nat) (h : k < l.length) (ha : alikeB l[k].1 nm = false) : setGo nm vl (l.take (k + 1)) = setGo nm vl (l.take k) ++ [l[k]] ∧ setAny nm (l.take (k + 1)) = setAny nm (l.take k) := by
  rw [List.take_succ_eq_append_getElem h]
  exact ⟨putG_no (p := fun h : Hd => alikeB h.1 nm) ha _, by rw [setAny_snoc, ha, Bool.or_false]⟩
theorem setGo_first (nm vl : ByteArray) (l : List Hd) (k : Nat) (h : k < l.length) (ha : alikeB l[k].1 nm = true) (hn : setAny nm (l.take k) = false) : setGo nm vl (l.take (k + 1)) = setGo nm vl (l.take k) ++ [(nm, vl)] ∧ setAny nm (l.take (k + 1)) = true := by
  rw [List.take_succ_eq_append_getElem h]
  exact ⟨putG_first (p := fun h : Hd => alikeB h.1 nm) ha _ hn, by rw [setAny_snoc, ha, Bool.or_true]⟩
theorem setGo_more (nm vl : ByteArray) (l : List Hd) (k : Nat) (h : k < l.length) (ha : alikeB l[k].1 nm = true) (hn : setAny nm (l.take k) = true) : setGo nm vl (l.take (k + 1)) = setGo nm vl (l.take k) ∧ setAny nm (l.take (k + 1)) = true := by
  rw [List.take_succ_eq_append_getElem h]
  exact ⟨putG_more (p := fun h : Hd => alikeB h.1 nm) ha _ hn, by rw [setAny_snoc, ha, Bool.or_true]⟩
theorem setL_yes {nm vl : ByteArray} {l : List Hd} (h : setAny nm l = true) : setL nm vl l = setGo nm vl l := if_pos h
theorem setL_no {nm vl : ByteArray} {l : List Hd} (h : setAny nm l = false) : setL nm vl l = setGo nm vl l ++ [(nm, vl)] := by
  have e : setGo nm vl l = l := putG_none h
  have hn : ¬ l.any (fun h => alikeB h.1 nm) = true := by
    intro q
    have h' : l.any (fun h => alikeB h.1 nm) = false := h
    rw [h'] at q; cases q
  rw [e, setL, if_neg hn]
theorem setGo_len (nm vl : ByteArray) (l : List Hd) : (setGo nm vl l).length ≤ l.length := by
  unfold setGo
  induction l with
  | nil => exact Nat.le_refl _
  | cons h t ih =>
    unfold putG
    split
    · simp only [List.length_cons]
      have := List.length_filter_le (fun h : Hd => !alikeB h.1 nm) t
      omega
    · simp only [List.length_cons]; omega
theorem setGo_take_len (nm vl : ByteArray) (l : List Hd) (k : Nat) : (setGo nm vl (l.take k)).length ≤ k := by
  have h1 := setGo_len nm vl (l.take k)
  have h2 := List.length_take_le k l
  omega
theorem setL_len (nm vl : ByteArray) (l : List Hd) : (setL nm vl l).length ≤ l.length + 1 := by
  by_cases h : setAny nm l = true
  · rw [setL_yes h]; have := setGo_len nm vl l; omega
  · simp only [Bool.not_eq_true] at h
    rw [setL_no h, List.length_append]
    have := setGo_len nm vl l
    simp only [List.length_cons, List.length_nil]; omega
/-- As the program has it: the place of the first, the others left out, and the line put in. -/
theorem setL_ins {nm vl : ByteArray} {l : List Hd} {i : Nat} (h : idxI (fun h => alikeB h.1 nm) l = (i : Int)) : i ≤ (dropL nm l).length ∧ setL nm vl l = (dropL nm l).take i ++ (nm, vl) :: (dropL nm l).drop i := by
  unfold idxI at h
  cases hf : l.findIdx? (fun h => alikeB h.1 nm) with
  | none => rw [hf] at h; simp only at h; omega
  | some j =>
    rw [hf] at h
    obtain rfl : j = i := by simp only at h; omega
    have ha : setAny nm l = true := by
      obtain ⟨h1, h2, _⟩ := List.findIdx?_eq_some_iff_getElem.1 hf
      exact List.any_eq_true.2 ⟨_, List.getElem_mem h1, h2⟩
    rw [setL_yes ha]
    exact putG_at (x := (nm, vl)) hf
theorem setL_end {nm vl : ByteArray} {l : List Hd} (h : idxI (fun h => alikeB h.1 nm) l < 0) : setL nm vl l = dropL nm l ++ [(nm, vl)] := by
  unfold idxI at h
  cases hf : l.findIdx? (fun h => alikeB h.1 nm) with
  | some j => rw [hf] at h; simp only at h; omega
  | none =>
    have hn := List.findIdx?_eq_none_iff.1 hf
    have ha : setAny nm l = false := by
      unfold setAny
      rw [Bool.eq_false_iff]
      intro q
      obtain ⟨x, hx, hp⟩ := List.any_eq_true.1 q
      rw [hn x hx] at hp; cases hp
    rw [setL_no ha]
    have e : setGo nm vl l = l := putG_none ha
    have e2 : dropL nm l = l := List.filter_eq_self.2 fun x hx => by simp [hn x hx]
    rw [e, e2]
def setR (nm vl : ByteArray) (l : List Hd) : Int × List Hd :=
  if askF nm l = 0 then (if hdFault (nm, vl) = 0 then (if 20 < (setL nm vl l).length then (2, []) else (0, setL nm vl l)) else (hdFault (nm, vl), [])) else (askF nm l, [])
theorem setR_20 (nm vl : ByteArray) (l : List Hd) : (setR nm vl l).2.length ≤ 20 := by
  unfold setR
  split
  · split
    · split
      · exact Nat.zero_le _
      · simp only; omega
    · exact Nat.zero_le _
  · exact Nat.zero_le _
theorem hV_ins (l m : List Hd) (x : Hd) : hV (l ++ x :: m) = hV l ++ ([.string x.1, .string x.2] ++ hV m) := by simp [hV, cellsOf, hEnc]
theorem hV_app (l m : List Hd) : hV (l ++ m) = hV l ++ hV m := by simp [hV, cellsOf]
theorem hV_take (l : List Hd) (i : Nat) : hV (l.take i) = (hV l).take (i * 2) := by
  induction l generalizing i with
  | nil => simp [hV, cellsOf]
  | cons h t ih =>
    cases i with
    | zero => simp [hV, cellsOf]
    | succ i =>
      have e : hV (h :: t) = .string h.1 :: .string h.2 :: hV t := rfl
      have e2 : hV ((h :: t).take (i + 1)) = .string h.1 :: .string h.2 :: hV (t.take i) := rfl
      rw [e2, e, ih, show (i + 1) * 2 = i * 2 + 1 + 1 from by omega, List.take_succ_cons, List.take_succ_cons]
theorem hV_drop (l : List Hd) (i : Nat) : hV (l.drop i) = (hV l).drop (i * 2) := by
  induction l generalizing i with
  | nil => simp [hV, cellsOf]
  | cons h t ih =>
    cases i with
    | zero => simp [hV, cellsOf]
    | succ i =>
      have e : hV (h :: t) = .string h.1 :: .string h.2 :: hV t := rfl
      rw [List.drop_succ_cons, ih, e, show (i + 1) * 2 = i * 2 + 1 + 1 from by omega, List.drop_succ_cons, List.drop_succ_cons]
end Go.Proofs.YthiogijicknoiaaDoor

/- A slice of bytes, opened. -/
namespace Go.Proofs.YthiogijicknoiaaDoor
open Go.ChangeShapes Go.WideShapes Go.Deep Go.Joins Go.RowKit
variable {H : Type} {enc : TypeId × Value → H} {P : Program} {w : World} {base : Nat} {spare : Nat → Bool} {held : Bool}
theorem open_bytesR {t e : TypeId} {fuel : Nat} {v : Value} {x : DataW H × List MemPlace} (ht : P.underlying t = some (.slice e)) (he : P.underlying e = some (.int .u8)) (hC : P.cellsOf e = 1) (h : DataW.trod enc P w base spare held fuel t [v] = some x) :
    ∃ (a : Option Addr) (n cap : Nat) (l : List UInt8), v = .slice a n cap ∧ l.length = n ∧ Rd w a (bV l) ∧ n ≤ 9223372036854775807 := by
  obtain ⟨a, n, cap, rfl, hn, hor⟩ := open_cells1 ht hC h
  rcases hor with rfl | ⟨b, off, rfl, hb, hc⟩
  · exact ⟨a, 0, cap, [], rfl, rfl, Rd.nil _ _, hn⟩
  · obtain ⟨l, hl, hp⟩ := list_of (P := fun i (s : UInt8) => w.cell? ⟨b, off + i, none⟩ = some (.int .u8 (s.toNat : Int))) n fun i hi => by
      obtain ⟨u, y, m, hu, hy⟩ := hc i hi
      obtain ⟨s, e1, _, e3⟩ := DataW.trod_int he hy
      cases e1
      have hs : 0 ≤ s ∧ s ≤ 255 := by
        simp [Lit.wf, IntKind.min, IntKind.max] at e3
        obtain ⟨q1, q2⟩ := e3
        constructor
        · have := q1; simp [IntKind.signed] at this; omega
        · have := q2; simp [IntKind.signed, IntKind.bits] at this; omega
      refine ⟨UInt8.ofNat s.toNat, ?_⟩
      rw [hu]
      congr 2
      simp only [UInt8.toNat_ofNat']
      omega
    refine ⟨_, n, cap, l, rfl, hl, fun j v hv => ?_, hn⟩
    unfold bV at hv
    rw [List.getElem?_map] at hv
    obtain ⟨s, hs, rfl⟩ := Option.map_eq_some_iff.1 hv
    exact ⟨b, off, rfl, hb, hp j s hs⟩
end Go.Proofs.YthiogijicknoiaaDoor

/- Plain words: the head lines that a text tells. No program in sight. -/
namespace Go.Proofs.YthiogijicknoiaaDoor
open Go.RowKit

def ba (l : List UInt8) : ByteArray := ⟨l.toArray⟩
theorem ba_list (l : List UInt8) : (ba l).data.toList = l := by simp [ba]
theorem ba_size (l : List UInt8) : (ba l).size = l.length := by simp [ba, ByteArray.size]
theorem ba_of (s : ByteArray) : ba s.data.toList = s := by apply ByteArray.ext; simp [ba]
theorem map_ba (l : List (List UInt8)) : (l.map ba).map (·.data.toList) = l := by
  rw [List.map_map]
  exact (List.map_congr_left fun x _ => ba_list x).trans (List.map_id _)
/-- The ended lines of a text, and what stands behind the last of them. -/
def linesB (t : ByteArray) : List ByteArray := (linesGo [] t.data.toList).1.map ba
def linesE (t : ByteArray) : List UInt8 := (linesGo [] t.data.toList).2
theorem linesB_split (t : ByteArray) : (linesB t ++ [ba (linesE t)]).map (·.data.toList) = Lib.split t.data.toList [13, 10] := by
  rw [← linesGo_eq, List.map_append, linesB, linesE, map_ba]
  simp [ba]
/-- The head line of a line. -/
def hdOf (s : ByteArray) : Option Hd := if (Lib.cut s.data.toList [58]).2.2 = true then some (ba (Lib.cut s.data.toList [58]).1, trimT (ba (Lib.cut s.data.toList [58]).2.1)) else none
theorem hdOf_at {s : ByteArray} {i : Nat} (hi : i < s.size) (hc : s[i] = 58) (hn : ∀ j (hj : j < s.size), j < i → s[j] ≠ 58) : hdOf s = some (ba (s.data.toList.take i), trimT (ba (s.data.toList.drop (i + 1)))) := by
  have e := cut_at (s := s.data.toList) (c := 58) (i := i) (by rw [Array.length_toList]; exact hi) (by rw [Array.getElem_toList]; exact hc) (fun j hj => by
    have hjs : j < s.size := by omega
    rw [Array.getElem_toList]; exact hn j hjs hj)
  unfold hdOf
  rw [e, if_pos rfl]
theorem hdOf_none {s : ByteArray} (hn : ∀ j (hj : j < s.size), s[j] ≠ 58) : hdOf s = none := by
  have e := cut_none (s := s.data.toList) (c := 58) (fun j hj => by
    rw [Array.length_toList] at hj
    rw [Array.getElem_toList]; exact hn j hj)
  unfold hdOf
  rw [e, if_neg (by simp)]
theorem readAll_succ {α β : Type} {f : α → Option β} {l : List α} {k : Nat} {r : List β} {x : β} (h : (l.take k).mapM f = some r) (hk : k < l.length) (hx : f l[k] = some x) : (l.take (k + 1)).mapM f = some (r ++ [x]) := by
  rw [List.take_succ_eq_append_getElem hk, List.mapM_append, h]
  simp [hx]
theorem readAll_none {α β : Type} {f : α → Option β} {l : List α} {k : Nat} (hk : k < l.length) (hx : f l[k] = none) {r : List β} (h : (l.take k).mapM f = some r) : l.mapM f = none := by
  have e : l.take k ++ l[k] :: l.drop (k + 1) = l := by rw [← List.drop_eq_getElem_cons hk, List.take_append_drop]
  have e2 : (l.take k ++ l[k] :: l.drop (k + 1)).mapM f = none := by rw [List.mapM_append, h, List.mapM_cons, hx]; rfl
  rw [e] at e2
  exact e2
theorem readAll_len {α β : Type} {f : α → Option β} : ∀ {l : List α} {r : List β}, l.mapM f = some r → r.length = l.length
  | [], r, h => by simp at h; subst h; rfl
  | x :: l, r, h => by
    rw [List.mapM_cons] at h
    cases hx : f x with
    | none => simp [hx] at h
    | some y =>
      cases hl : l.mapM f with
      | none => simp [hx, hl] at h
      | some q =>
        simp [hx, hl] at h
        subst h
        simp [readAll_len hl]
theorem readAll_take_len {α β : Type} {f : α → Option β} {l : List α} {k : Nat} {r : List β} (h : (l.take k).mapM f = some r) (hk : k ≤ l.length) : r.length = k := by
  rw [readAll_len h, List.length_take]; omega
/-- What is read of a text. -/
def readR (t : ByteArray) : Int × List Hd :=
  if 6000 < t.size then (2, []) else if linesE t ≠ [] then (5, []) else
    match (linesB t).mapM hdOf with
    | none => (5, [])
    | some l => if hdsFault l = 0 then (0, l) else (hdsFault l, [])
theorem linesGo_len : ∀ (s cur : List UInt8), (linesGo cur s).1.length ≤ s.length
  | [], cur => by simp [linesGo]
  | [b], cur => by simp [linesGo]
  | b :: c :: r, cur => by
    unfold linesGo
    split
    · have := linesGo_len r []
      simp only [List.length_cons]; omega
    · have := linesGo_len (c :: r) (cur ++ [b])
      simp only [List.length_cons] at this ⊢; omega
termination_by s => s.length
theorem linesGo_mem : ∀ (s cur : List UInt8), ∀ x ∈ (linesGo cur s).1, x.length ≤ cur.length + s.length
  | [], cur => by simp [linesGo]
  | [b], cur => by simp [linesGo]
  | b :: c :: r, cur => by
    intro x hx
    unfold linesGo at hx
    split at hx
    · rcases List.mem_cons.1 hx with rfl | hx
      · simp only [List.length_cons]; omega
      · have := linesGo_mem r [] x hx
        simp only [List.length_cons, List.length_nil] at this ⊢; omega
    · have := linesGo_mem (c :: r) (cur ++ [b]) x hx
      simp only [List.length_cons, List.length_append, List.length_nil] at this ⊢; omega
termination_by s => s.length
theorem linesB_len (t : ByteArray) : (linesB t).length ≤ t.size := by
  have := linesGo_len t.data.toList []
  rw [Array.length_toList] at this
  rw [linesB, List.length_map]; exact this
theorem linesB_mem (t : ByteArray) : ∀ x ∈ linesB t, x.size ≤ t.size := by
  intro x hx
  obtain ⟨y, hy, rfl⟩ := List.mem_map.1 hx
  have := linesGo_mem t.data.toList [] y hy
  simp only [Array.length_toList, List.length_nil] at this
  rw [ba_size]
  have e : t.data.size = t.size := rfl
  omega
theorem linesE_nil (t : ByteArray) : linesE t = [] ↔ t.data.toList = [] ∨ [13, 10] <:+ t.data.toList := by
  unfold linesE; rw [linesGo_end]; simp
theorem linesGo_step {s cur : List UInt8} {i : Nat} (h : i + 1 < s.length) (hne : ¬ (s[i] = 13 ∧ s[i + 1] = 10)) : linesGo cur (s.drop i) = linesGo (cur ++ [s[i]]) (s.drop (i + 1)) := by
  rw [List.drop_eq_getElem_cons (by omega : i < s.length), List.drop_eq_getElem_cons h]
  conv => lhs; unfold linesGo
  rw [if_neg hne]
theorem linesGo_line {s cur : List UInt8} {i : Nat} (h : i + 1 < s.length) (h1 : s[i] = 13) (h2 : s[i + 1] = 10) : linesGo cur (s.drop i) = (cur :: (linesGo [] (s.drop (i + 2))).1, (linesGo [] (s.drop (i + 2))).2) := by
  rw [List.drop_eq_getElem_cons (by omega : i < s.length), List.drop_eq_getElem_cons h]
  conv => lhs; unfold linesGo
  rw [if_pos ⟨h1, h2⟩]
theorem linesGo_stop {s cur : List UInt8} {i : Nat} (h : ¬ i + 1 < s.length) : linesGo cur (s.drop i) = ([], cur ++ s.drop i) := by
  by_cases hi : i < s.length
  · rw [List.drop_eq_getElem_cons hi, List.drop_of_length_le (by omega)]
    simp [linesGo]
  · rw [List.drop_of_length_le (by omega)]
    simp [linesGo]
/-- Where a reader of lines stands: at i, the line begun at f, the lines done. -/
def LinesAt (t : ByteArray) (f i : Nat) (done : List ByteArray) : Prop :=
  f ≤ i ∧ i ≤ t.size ∧ linesB t = done ++ (linesGo ((t.data.toList.take i).drop f) (t.data.toList.drop i)).1.map ba ∧ linesE t = (linesGo ((t.data.toList.take i).drop f) (t.data.toList.drop i)).2
theorem LinesAt.start (t : ByteArray) : LinesAt t 0 0 [] := ⟨Nat.le_refl _, Nat.zero_le _, by simp [linesB], by simp [linesE]⟩
theorem take_drop_snoc {s : List UInt8} {f i : Nat} (h : i < s.length) (hf : f ≤ i) : (s.take (i + 1)).drop f = (s.take i).drop f ++ [s[i]] := by
  rw [List.take_succ_eq_append_getElem h, List.drop_append_of_le_length (by rw [List.length_take]; omega)]
theorem LinesAt.step {t : ByteArray} {f i : Nat} {done : List ByteArray} (h : LinesAt t f i done) (hi : i + 1 < t.size) (hne : ¬ (t[i] = 13 ∧ t[i + 1] = 10)) : LinesAt t f (i + 1) done := by
  obtain ⟨h1, h2, h3, h4⟩ := h
  have hl : i + 1 < t.data.toList.length := by rw [Array.length_toList]; exact hi
  have hne' : ¬ (t.data.toList[i] = 13 ∧ t.data.toList[i + 1] = 10) := by rw [Array.getElem_toList, Array.getElem_toList]; exact hne
  rw [linesGo_step hl hne', ← take_drop_snoc (by omega) h1] at h3 h4
  exact ⟨by omega, by omega, h3, h4⟩
theorem LinesAt.line {t : ByteArray} {f i : Nat} {done : List ByteArray} (h : LinesAt t f i done) (hi : i + 1 < t.size) (e1 : t[i] = 13) (e2 : t[i + 1] = 10) : LinesAt t (i + 2) (i + 2) (done ++ [ba ((t.data.toList.take i).drop f)]) := by
  obtain ⟨h1, h2, h3, h4⟩ := h
  have hl : i + 1 < t.data.toList.length := by rw [Array.length_toList]; exact hi
  rw [linesGo_line hl (by rw [Array.getElem_toList]; exact e1) (by rw [Array.getElem_toList]; exact e2)] at h3 h4
  refine ⟨Nat.le_refl _, by omega, ?_, ?_⟩
  · rw [h3, List.drop_take_self]; simp
  · rw [h4, List.drop_take_self]
theorem LinesAt.stop {t : ByteArray} {f i : Nat} {done : List ByteArray} (h : LinesAt t f i done) (hi : ¬ i + 1 < t.size) : linesB t = done ∧ (linesE t = [] ↔ f = t.size) := by
  obtain ⟨h1, h2, h3, h4⟩ := h
  have hl : ¬ i + 1 < t.data.toList.length := by rw [Array.length_toList]; exact hi
  rw [linesGo_stop hl] at h3 h4
  refine ⟨by simpa using h3, ?_⟩
  have e : (t.data.toList.take i).drop f ++ t.data.toList.drop i = t.data.toList.drop f := by
    conv => rhs; rw [← List.take_append_drop i t.data.toList]
    rw [List.drop_append_of_le_length (by rw [List.length_take, Array.length_toList]; have e : t.data.size = t.size := rfl; omega)]
  simp only [] at h4
  rw [e] at h4
  rw [h4, List.drop_eq_nil_iff, Array.length_toList]
  have e2 : t.data.size = t.size := rfl
  omega
end Go.Proofs.YthiogijicknoiaaDoor

/- The library's texts cut and split: the contracts of the shelf, where the library's variable MaxLen holds a number. -/
namespace Go.Proofs.YthiogijicknoiaaDoor
open Go.RowKit
set_option linter.unusedVariables false

def MaxL (w : World) : Prop := ∃ m : Int, w.cell? ⟨0, 0, none⟩ = some (.int .i64 m)
theorem MaxL.then {w w' : World} (h : MaxL w) (hb : Below w.heap.size w w') : MaxL w' := by
  obtain ⟨m, hm⟩ := h
  exact ⟨m, (hb.cell (p := ⟨0, 0, none⟩) (World.block_lt_of_cell? w _ hm)).trans hm⟩
theorem MaxL.of_shape {w : World} (h : w.ShapedOpen Tryd.prog) : MaxL w := Tryd.laysM145.s1_3 w h
theorem below_drewN' (w : World) (n : Nat) : Below w.heap.size w (w.drewN n) := below_drewN (Below.refl _ _) n
theorem strings_Cut (s sep : ByteArray) (hs : s.size ≤ 100000000) (w : World) (hm : MaxL w) :
    Calls Tryd.prog 30 #[.string s, .string sep] w fun e w' => e = .returned (.tuple #[.string (ba (Lib.cut s.data.toList sep.data.toList).1), .string (ba (Lib.cut s.data.toList sep.data.toList).2.1), .bool (Lib.cut s.data.toList sep.data.toList).2.2]) ∧ Below w.heap.size w w' := by
  obtain ⟨m, hm⟩ := hm
  refine (Tryd.strings_Cut s sep m w (by omega) hm).mono ?_
  rintro e w' ⟨rfl, n, rfl⟩
  exact ⟨rfl, below_drewN' w n⟩
theorem map_inj {l m : List ByteArray} (h : l.map (·.data.toList) = m.map (·.data.toList)) : l = m :=
  List.map_inj_right (f := fun s : ByteArray => s.data.toList) (fun x y e => by apply ByteArray.ext; exact Array.toList_inj.1 e) |>.1 h
theorem row_of_blk {w : World} {g : Nat} {xs : List Value} {e : TypeId} (h : w.heap[g]? = some (.cells xs.toArray e (0, 0))) : RowAt w g xs := ⟨xs.toArray, e, 0, 0, h, by simp, fun i _ => by omega⟩
theorem own_ne {w : World} {lo g gl n cap size : Nat} {e e' : TypeId} {xs : List Value} {C : Array Value} {f : Nat × Nat} (h : w.ownsRow lo e size (.slice (some ⟨g, 0, none⟩) n cap) n xs) (hb : w.heap[gl]? = some (.cells C e' f)) (hne : e ≠ e') : g ≠ gl := by
  intro q
  subst q
  rcases h.2 with ⟨hn, _⟩ | ⟨g', cap', cur, hv, _, hg, _⟩
  · cases hn
  · cases hv
    rw [hg] at hb
    have := Option.some.inj hb
    injection this with _ h2 _
    exact hne h2
theorem own_blk {w w' : World} {gl g n cap : Nat} {o : Obj} (hb : w.heap[gl]? = some o) (h : ∀ k, k < w.heap.size → some k ≠ (Value.slice (some ⟨g, 0, none⟩) n cap).ownBlock → w'.heap[k]? = w.heap[k]?) (hne : g ≠ gl) : w'.heap[gl]? = some o :=
  (h gl (Array.getElem?_eq_some_iff.1 hb).1 (fun e => hne (by have := Option.some.inj (e : some gl = some g); exact this.symm))).trans hb
/-- strings.Split: in the words of the pieces. -/
theorem strings_Split (s sep : ByteArray) (hs : s.size ≤ 100000000) (h1 : 1 ≤ sep.size) (w : World) (hm : MaxL w) (L : List ByteArray) (hL : L.map (·.data.toList) = Lib.split s.data.toList sep.data.toList) :
    Calls Tryd.prog 69 #[.string s, .string sep] w fun e w' => e = .returned (.slice (some ⟨w.heap.size, 0, none⟩) L.length L.length) ∧ w'.heap[w.heap.size]? = some (.cells (strV L).toArray 9 (0, 0)) ∧ Below w.heap.size w w' ∧ w.heap.size < w'.heap.size := by
  obtain ⟨m, hm⟩ := hm
  have hsep : sep.data.toList ≠ [] := by
    intro q
    have : sep.data.toList.length = 0 := by rw [q]; rfl
    rw [Array.length_toList] at this
    have e : sep.data.size = sep.size := rfl
    omega
  have hlen := split_len hsep _ s.data.toList (Nat.le_refl _)
  have hcount : Lib.countB s sep + 1 = L.length := by
    have := congrArg List.length hL
    rw [List.length_map, hlen] at this
    rw [this]
  have hlist : Lib.splitB sep 0 (Lib.countB s sep) s = L := by
    apply map_inj
    rw [hL, Lib.splitB_data]; rfl
  refine (Tryd.strings_Split s sep m w (by omega) hm h1).mono ?_
  rintro e w' ⟨rfl, rfl⟩
  rw [hcount, hlist]
  refine ⟨rfl, ?_, below_alloc (Below.refl _ _) _, by simp⟩
  rw [blk_new]; rfl
end Go.Proofs.YthiogijicknoiaaDoor

/- The code of a request. -/
namespace Go.Proofs.YthiogijicknoiaaDoor
open Go.RowKit
set_option linter.unusedSimpArgs false
set_option linter.unusedVariables false

def getS : ByteArray := ⟨#[71, 69, 84]⟩
def headS : ByteArray := ⟨#[72, 69, 65, 68]⟩
def methodB (m : ByteArray) : Bool := m.toList == [71, 69, 84] || m.toList == [72, 69, 65, 68]
def hostS (h : ByteArray) : Bool := inB h.size 1 60 && allB hostB h
def pathS (p : ByteArray) : Bool := (inB p.size 1 100 && allB pathB p) && (p.data.toList.head? == some 47)
theorem head_at (s : ByteArray) (h : 0 < s.size) : (s.data.toList.head? == some 47) = ((s[0].toNat : Int) == 47) := by
  have h0 := drop_at s 0 h
  rw [List.drop_zero] at h0
  rw [h0, List.head?_cons, Bool.eq_iff_iff, beq_iff_eq, beq_iff_eq]
  constructor
  · intro e; rw [Option.some.inj e]; rfl
  · intro e
    congr 1
    apply UInt8.toNat_inj.1
    show _ = 47
    omega
end Go.Proofs.YthiogijicknoiaaDoor

/- The code of a request: both texts, and the law. -/
namespace Go.Proofs.YthiogijicknoiaaDoor
open Go.RowKit
set_option linter.unusedSimpArgs false
set_option linter.unusedVariables false

abbrev hostName : ByteArray := ⟨#[104, 111, 115, 116]⟩
def rqFault (m h p : ByteArray) (l : List Hd) : Int := if (methodB m && hostS h && pathS p) = false then 5 else if hdsFault l ≠ 0 then hdsFault l else if 0 < (vals hostName l).length then 6 else if 20 ≤ l.length then 2 else 0
theorem alike_host (x : ByteArray) : alikeB x ⟨#[72, 111, 115, 116]⟩ = alikeB x hostName := by
  unfold alikeB
  have e : lowS ⟨#[72, 111, 115, 116]⟩ = lowS hostName := by kernel_rfl
  rw [e]
theorem vals_host (l : List Hd) : vals ⟨#[72, 111, 115, 116]⟩ l = vals hostName l := by
  unfold vals
  congr 2
  funext h
  exact alike_host h.1
theorem size_Host : (⟨#[72, 111, 115, 116]⟩ : ByteArray).size ≤ 9223372036854775807 := by decide
theorem size_host : hostName.size ≤ 9223372036854775807 := by decide
theorem isE_len (l : List ByteArray) : (!l.isEmpty) = decide (0 < l.length) := by cases l <;> simp
theorem hdFault_size {h : Hd} (e : hdFault h = 0) : h.2.size ≤ 200 := by
  unfold hdFault at e
  split at e
  · cases e
  · split at e
    · cases e
    · omega
theorem hdsFault_0 {l : List Hd} (e : hdsFault l = 0) : l.length ≤ 20 ∧ ∀ h ∈ l, hdFault h = 0 := by
  unfold hdsFault at e
  split at e
  · cases e
  · exact ⟨by omega, faultG_all hdFault l e⟩
end Go.Proofs.YthiogijicknoiaaDoor

/- A text laid as bytes. -/
namespace Go.Proofs.YthiogijicknoiaaDoor
open Go.RowKit
set_option linter.unusedVariables false

theorem bw_below (w : World) (s : ByteArray) : Below w.heap.size w (Lib.bytesWorld w 5 s) := ⟨rfl, rfl, rfl, by rw [Lib.bytesWorld_size]; omega, fun k hk => Lib.bytesWorld_at_old w 5 s k hk⟩
theorem bw_row (w : World) (s : ByteArray) : RowAt (Lib.bytesWorld w 5 s) w.heap.size (bV s.data.toList) := by
  obtain ⟨cap, W, h1, h2, _⟩ := conv_there w s
  have h3 := Lib.run_convert_string_bytes (P := Tryd.prog) w 9 22 5 s Tryd.underlying9 Tryd.underlying22 Tryd.underlying5
  rw [h3] at h1
  injection h1 with _ e
  subst e
  exact h2
theorem bw_good (s : ByteArray) (W : World) (lo : Nat) (h : lo ≤ W.heap.size) : ∃ g cap W', (convert 9 22 (.string s)).run Tryd.prog W = .ok (.slice (some ⟨g, 0, none⟩) s.size cap) W' ∧ lo ≤ g ∧ RowAt W' g (bV s.data.toList) ∧ Below W.heap.size W W' := by
  have h3 := Lib.run_convert_string_bytes (P := Tryd.prog) W 9 22 5 s Tryd.underlying9 Tryd.underlying22 Tryd.underlying5
  exact ⟨_, _, _, h3, h, bw_row W s, bw_below W s⟩
end Go.Proofs.YthiogijicknoiaaDoor

/- The head lines without those of a name: both texts, and the law. -/
namespace Go.Proofs.YthiogijicknoiaaDoor
open Go.RowKit
set_option linter.unusedSimpArgs false
set_option linter.unusedVariables false

def dropR (nm : ByteArray) (l : List Hd) : Int × List Hd := if askF nm l = 0 then (0, dropL nm l) else (askF nm l, [])
theorem own_at {w : World} {lo g : Nat} {e : TypeId} {size n cap : Nat} {xs : List Value} (h : w.ownsRow lo e size (.slice (some ⟨g, 0, none⟩) n cap) n xs) : lo ≤ g ∧ g < w.heap.size ∧ RowAt w g xs := by
  have hr := RowAt.of_own h
  refine ⟨?_, hr.lt, hr⟩
  rcases h.2 with ⟨hn, _⟩ | ⟨g', cap', cur, hv, hlo, _⟩
  · cases hn
  · cases hv; exact hlo
theorem hdR_some {w : World} {g n lo hi : Nat} {l : List Hd} (h : RowAt w g (hV l)) (h1 : lo ≤ g) (h2 : g < hi) (hn : l.length = n) : l.length = n ∧ SlAt w lo hi (some ⟨g, 0, none⟩) n (hV l) := ⟨hn, h.sl n h1 h2⟩
theorem hdR_none (w : World) (lo hi : Nat) : ([] : List Hd).length = 0 ∧ SlAt w lo hi none 0 (hV []) := ⟨rfl, SlAt.nil _ _ _ _⟩
theorem dropR_len (nm : ByteArray) (l : List Hd) : (dropR nm l).2.length ≤ l.length := by
  unfold dropR
  split
  · exact List.length_filter_le _ _
  · exact Nat.zero_le _
theorem dropR_20 (nm : ByteArray) (l : List Hd) : (dropR nm l).2.length ≤ 20 := by
  by_cases h : askF nm l = 0
  · have h1 := dropR_len nm l
    have h2 := (hdsFault_0 (askF_0 h).1).1
    omega
  · rw [dropR, if_neg h]; exact Nat.zero_le _
end Go.Proofs.YthiogijicknoiaaDoor

/- The text of head lines: both texts, and the law. -/
namespace Go.Proofs.YthiogijicknoiaaDoor
open Go.RowKit
set_option linter.unusedSimpArgs false
set_option linter.unusedVariables false

def lineS (h : Hd) : ByteArray := h.1 ++ ⟨#[58, 32]⟩ ++ h.2 ++ ⟨#[13, 10]⟩
def packL (l : List Hd) : List UInt8 := l.flatMap fun h => (lineS h).data.toList
def packB (l : List Hd) : ByteArray := ⟨(packL l).toArray⟩
theorem packL_succ (l : List Hd) (k : Nat) (h : k < l.length) : packL (l.take (k + 1)) = packL (l.take k) ++ (lineS l[k]).data.toList := by
  unfold packL; rw [List.take_succ_eq_append_getElem h, List.flatMap_append]; simp
theorem packB_succ (l : List Hd) (k : Nat) (h : k < l.length) : packB (l.take k) ++ l[k].1 ++ ⟨#[58, 32]⟩ ++ l[k].2 ++ ⟨#[13, 10]⟩ = packB (l.take (k + 1)) := by
  unfold packB
  rw [packL_succ l k h]
  apply ByteArray.ext
  simp [lineS]
theorem lineS_size (h : Hd) : (lineS h).size = h.1.size + h.2.size + 4 := by
  unfold lineS
  rw [ByteArray.size_append, ByteArray.size_append, ByteArray.size_append]
  show h.1.size + 2 + h.2.size + 2 = _
  omega
theorem packL_len (m : Nat) : ∀ (l : List Hd), (∀ h ∈ l, h.1.size + h.2.size ≤ m) → (packL l).length ≤ l.length * (m + 4)
  | [], _ => Nat.zero_le _
  | x :: l, hs => by
    have h1 := packL_len m l fun h hh => hs h (by simp [hh])
    have h2 := hs x (by simp)
    have h3 := lineS_size x
    have e : packL (x :: l) = (lineS x).data.toList ++ packL l := by simp [packL]
    have h4 : (lineS x).data.toList.length = (lineS x).size := Array.length_toList
    rw [e, List.length_append, List.length_cons, Nat.succ_mul]
    omega
theorem packB_size {l : List Hd} (k : Nat) (hl : l.length ≤ 20) (hs : ∀ h ∈ l, h.1.size ≤ 64 ∧ h.2.size ≤ 200) : (packB (l.take k)).size ≤ 5360 := by
  have h1 := packL_len 264 (l.take k) fun h hh => by have := hs h (List.mem_of_mem_take hh); omega
  have h2 := List.length_take_le' k l
  have h3 : (packB (l.take k)).size = (packL (l.take k)).length := by simp [packB, ByteArray.size]
  have h4 := Nat.mul_le_mul_right (264 + 4) (show (l.take k).length ≤ 20 by omega)
  omega
theorem wordS_size {s : ByteArray} (h : wordS s = true) : s.size ≤ 64 := by
  unfold wordS at h
  simp only [Bool.and_eq_true, decide_eq_true_eq] at h
  exact h.1.2
theorem hdFault_name {h : Hd} (e : hdFault h = 0) : h.1.size ≤ 64 := by
  unfold hdFault at e
  split at e
  · cases e
  · rename_i h1
    exact wordS_size (by simpa using h1)
theorem hds_small {l : List Hd} (e : hdsFault l = 0) : l.length ≤ 20 ∧ ∀ h ∈ l, h.1.size ≤ 64 ∧ h.2.size ≤ 200 := by
  obtain ⟨h20, hall⟩ := hdsFault_0 e
  exact ⟨h20, fun h hh => ⟨hdFault_name (hall h hh), hdFault_size (hall h hh)⟩⟩
theorem isB_then {B b : Nat} {l : List Value} {w w' : World} (h : IsB B b l w) (hb : Below w.heap.size w w') : IsB B b l w' := by
  rcases h with ⟨hB, v, hbk, hown, hne⟩ | ⟨hB, v, hbk, hown, hne⟩
  · exact .inl ⟨hB, v, blk_then hbk hb, own_below hown hb (Nat.le_refl _), hne⟩
  · exact .inr ⟨hB, v, blk_then hbk hb, own_below hown hb (Nat.le_refl _), hne⟩
theorem isB_alloc {B b : Nat} {l : List Value} {w : World} (h : IsB B b l w) (o : Obj) : IsB B b l (w.alloc o) := isB_then h (below_alloc (Below.refl _ _) o)
theorem isB_drew {B b : Nat} {l : List Value} {w : World} (h : IsB B b l w) : IsB B b l w.drew := isB_then h (Below.refl _ _).drew
theorem byteCells_app (l m : List UInt8) : Lib.byteCells l ++ m.map (fun b => Value.int .u8 b.toNat) = Lib.byteCells (l ++ m) := by simp [Lib.byteCells]
def packR (l : List Hd) : Int × ByteArray := if hdsFault l = 0 then (0, packB l) else (hdsFault l, ⟨#[]⟩)
end Go.Proofs.YthiogijicknoiaaDoor

/- The bytes of a request: both texts. The steps are printed by gen/packq.py. -/
namespace Go.Proofs.YthiogijicknoiaaDoor
open Go.RowKit
set_option linter.unusedSimpArgs false
set_option linter.unusedVariables false

def reqS (m h p : ByteArray) (l : List Hd) : ByteArray := m ++ ⟨#[32]⟩ ++ p ++ ⟨#[32, 72, 84, 84, 80, 47, 49, 46, 49, 13, 10, 72, 111, 115, 116, 58, 32]⟩ ++ h ++ ⟨#[13, 10]⟩ ++ packB l ++ ⟨#[13, 10]⟩
theorem reqS_impl (m h p : ByteArray) (l : List Hd) : m ++ ⟨#[32]⟩ ++ p ++ ⟨#[32, 72, 84, 84, 80, 47, 49, 46, 49]⟩ ++ ⟨#[13, 10]⟩ ++ lineS (⟨#[72, 111, 115, 116]⟩, h) ++ packB l ++ ⟨#[13, 10]⟩ = reqS m h p l := by
  apply ByteArray.ext
  apply Array.toList_inj.1
  simp [reqS, lineS]

def rbV (m h p : ByteArray) (l : List Hd) (v : Value) (b : Nat) : List Value := [.pointer (some ⟨b, 0, none⟩),
  .string (m),
  .string (m ++ ⟨#[32]⟩),
  .pointer (some ⟨b, 2, none⟩),
  .string (p),
  .string (m ++ ⟨#[32]⟩ ++ p),
  .string (m ++ ⟨#[32]⟩ ++ p ++ ⟨#[32, 72, 84, 84, 80, 47, 49, 46, 49]⟩),
  .string (m ++ ⟨#[32]⟩ ++ p ++ ⟨#[32, 72, 84, 84, 80, 47, 49, 46, 49]⟩ ++ ⟨#[13, 10]⟩),
  .pointer (some ⟨b, 1, none⟩),
  .string (h),
  .agg #[.string ⟨#[72, 111, 115, 116]⟩, .string h],
  .string (lineS (⟨#[72, 111, 115, 116]⟩, h)),
  .string (m ++ ⟨#[32]⟩ ++ p ++ ⟨#[32, 72, 84, 84, 80, 47, 49, 46, 49]⟩ ++ ⟨#[13, 10]⟩ ++ lineS (⟨#[72, 111, 115, 116]⟩, h)),
  .pointer (some ⟨b, 3, none⟩),
  v,
  .string (packB l),
  .string (m ++ ⟨#[32]⟩ ++ p ++ ⟨#[32, 72, 84, 84, 80, 47, 49, 46, 49]⟩ ++ ⟨#[13, 10]⟩ ++ lineS (⟨#[72, 111, 115, 116]⟩, h) ++ packB l),
  .string (m ++ ⟨#[32]⟩ ++ p ++ ⟨#[32, 72, 84, 84, 80, 47, 49, 46, 49]⟩ ++ ⟨#[13, 10]⟩ ++ lineS (⟨#[72, 111, 115, 116]⟩, h) ++ packB l ++ ⟨#[13, 10]⟩),
  undef,
  undef]
def rbF (m h p : ByteArray) (l : List Hd) (v : Value) (b lo : Nat) (k : Nat) (x : Value) (w : World) : Prop :=
  if k = 18 ∨ k = 19 then ∃ g cap, x = .slice (some ⟨g, 0, none⟩) (reqS m h p l).size cap ∧ lo ≤ g ∧ RowAt w g (bV (reqS m h p l).data.toList) else (rbV m h p l v b)[k]? = some x
theorem rbF_mono {m h p : ByteArray} {l : List Hd} {v : Value} {b lo : Nat} (k : Nat) (x : Value) (w w' : World) (hF : rbF m h p l v b lo k x w) (hb : Below w.heap.size w w') : rbF m h p l v b lo k x w' := by
  unfold rbF at *
  split at hF
  · rename_i hk; rw [if_pos hk]; obtain ⟨g, cap, e, hlo, hr⟩ := hF; exact ⟨g, cap, e, hlo, hr.then hb⟩
  · rename_i hk; rw [if_neg hk]; exact hF
theorem rq_small {m h p : ByteArray} {l : List Hd} (e : rqFault m h p l = 0) : l.length ≤ 20 ∧ (∀ h ∈ l, h.1.size ≤ 64 ∧ h.2.size ≤ 200) ∧ m.size ≤ 100 ∧ h.size ≤ 100 ∧ p.size ≤ 100 := by
  unfold rqFault at e
  split at e
  · exact absurd e (by decide)
  · rename_i hb
    split at e
    · rename_i h2; exact absurd e h2
    · rename_i h2
      obtain ⟨h20, hs⟩ := hds_small (l := l) (by simpa using h2)
      have hb' : (methodB m && hostS h && pathS p) = true := by cases hx : (methodB m && hostS h && pathS p) with | true => rfl | false => exact absurd hx hb
      simp only [Bool.and_eq_true, methodB, hostS, pathS, Bool.or_eq_true, beq_iff_eq, ByteArray.toList_eq] at hb'
      obtain ⟨⟨h3, h4, _⟩, ⟨h5, _⟩, _⟩ := hb'
      have h6 := (inB_iff.1 h4).2
      have h7 := (inB_iff.1 h5).2
      refine ⟨h20, hs, ?_, by omega, by omega⟩
      have h8 : m.size = m.data.toList.length := rfl
      rcases h3 with h3 | h3 <;> rw [h8, h3] <;> decide
def packQ (m h p : ByteArray) (l : List Hd) : Int × List UInt8 := if rqFault m h p l = 0 then (0, (reqS m h p l).data.toList) else (rqFault m h p l, [])
theorem packQ_ok {m h p : ByteArray} {l : List Hd} (e : rqFault m h p l = 0) : packQ m h p l = (0, (reqS m h p l).data.toList) := if_pos e
theorem packQ_bad {m h p : ByteArray} {l : List Hd} (e : rqFault m h p l ≠ 0) : packQ m h p l = (rqFault m h p l, []) := if_neg e
theorem bytes_len (s : ByteArray) : s.data.toList.length = s.size := Array.length_toList
def bqR (w : World) (r : Int × List UInt8) (e : Ending) (w' : World) : Prop := ∃ (a : Option Addr) (n c : Nat), e = .returned (.agg #[.int .i64 r.1, .slice a n c]) ∧ (r.2.length = n ∧ SlAt w' w.heap.size w'.heap.size a n (bV r.2)) ∧ Below w.heap.size w w'
def sbV (m h p : ByteArray) (l : List Hd) (v : Value) (b : Nat) : List Value := [.pointer (some ⟨b, 0, none⟩),
  .string (m),
  .string (m ++ ⟨#[32]⟩),
  .pointer (some ⟨b, 2, none⟩),
  .string (p),
  .string (m ++ ⟨#[32]⟩ ++ p),
  .string (m ++ ⟨#[32]⟩ ++ p ++ ⟨#[32, 72, 84, 84, 80, 47, 49, 46, 49, 13, 10, 72, 111, 115, 116, 58, 32]⟩),
  .pointer (some ⟨b, 1, none⟩),
  .string (h),
  .string (m ++ ⟨#[32]⟩ ++ p ++ ⟨#[32, 72, 84, 84, 80, 47, 49, 46, 49, 13, 10, 72, 111, 115, 116, 58, 32]⟩ ++ h),
  .string (m ++ ⟨#[32]⟩ ++ p ++ ⟨#[32, 72, 84, 84, 80, 47, 49, 46, 49, 13, 10, 72, 111, 115, 116, 58, 32]⟩ ++ h ++ ⟨#[13, 10]⟩),
  .pointer (some ⟨b, 3, none⟩),
  v,
  .string (packB l),
  .string (m ++ ⟨#[32]⟩ ++ p ++ ⟨#[32, 72, 84, 84, 80, 47, 49, 46, 49, 13, 10, 72, 111, 115, 116, 58, 32]⟩ ++ h ++ ⟨#[13, 10]⟩ ++ packB l),
  .string (m ++ ⟨#[32]⟩ ++ p ++ ⟨#[32, 72, 84, 84, 80, 47, 49, 46, 49, 13, 10, 72, 111, 115, 116, 58, 32]⟩ ++ h ++ ⟨#[13, 10]⟩ ++ packB l ++ ⟨#[13, 10]⟩),
  undef,
  undef,
  undef]
end Go.Proofs.YthiogijicknoiaaDoor

/- PackRequest: the program's own, and the law. -/
namespace Go.Proofs.YthiogijicknoiaaDoor
open Go.RowKit
set_option linter.unusedSimpArgs false
set_option linter.unusedVariables false

theorem reqS_size (m h p : ByteArray) (l : List Hd) : (reqS m h p l).size = m.size + 1 + p.size + 17 + h.size + 2 + (packB l).size + 2 := by
  unfold reqS
  simp only [ByteArray.size_append]
  rfl
theorem packQ_len (m h p : ByteArray) (l : List Hd) : (packQ m h p l).2.length ≤ 6000 := by
  by_cases hz : rqFault m h p l = 0
  · obtain ⟨h20, hs2, hm1, hh1, hp1⟩ := rq_small hz
    have hpz : (packB l).size ≤ 5360 := by
      have := packB_size (l := l) l.length (by omega) hs2
      rw [List.take_length] at this
      exact this
    rw [packQ_ok hz]
    show (reqS m h p l).data.toList.length ≤ 6000
    rw [bytes_len, reqS_size]
    omega
  · rw [packQ_bad hz]; exact Nat.zero_le _
end Go.Proofs.YthiogijicknoiaaDoor

/- Plain words: a text cut at the first of some bytes; the request that bytes tell. No program in sight. -/
namespace Go.Proofs.YthiogijicknoiaaDoor
open Go.RowKit
set_option linter.unusedVariables false

theorem occ_iff (s sub : List UInt8) (i : Nat) : Lib.occAt s sub i = true ↔ (s.drop i).take sub.length = sub := by
  unfold Lib.occAt
  rw [List.isPrefixOf_iff_prefix, List.prefix_iff_eq_take]
  exact ⟨fun h => h.symm, fun h => h.symm⟩
theorem cut_first {s sep : List UInt8} {i : Nat} (hi : i ≤ s.length) (hc : (s.drop i).take sep.length = sep) (hn : ∀ j, j < i → (s.drop j).take sep.length ≠ sep) : Lib.cut s sep = (s.take i, s.drop (i + sep.length), true) := by
  have e : Lib.index s sep = i := Lib.index_first hi ((occ_iff _ _ _).2 hc) (fun j hj => by
    rw [Bool.eq_false_iff]
    exact fun q => hn j hj ((occ_iff _ _ _).1 q))
  unfold Lib.cut
  rw [e, if_pos (by omega)]
  simp
theorem cut_never {s sep : List UInt8} (hn : ∀ j, j + sep.length ≤ s.length → (s.drop j).take sep.length ≠ sep) : Lib.cut s sep = (s, [], false) := by
  have e : Lib.index s sep = -1 := Lib.index_none (fun j hj => by
    rw [Bool.eq_false_iff]
    intro q
    have h := (occ_iff _ _ _).1 q
    refine hn j ?_ h
    have h2 := congrArg List.length h
    rw [List.length_take, List.length_drop] at h2
    omega)
  unfold Lib.cut
  rw [e, if_neg (by omega)]
theorem take2 {s : List UInt8} {i : Nat} {a b : UInt8} : (s.drop i).take 2 = [a, b] ↔ ∃ h : i + 1 < s.length, s[i] = a ∧ s[i + 1] = b := by
  by_cases h : i + 1 < s.length
  · rw [List.drop_eq_getElem_cons (by omega : i < s.length), List.drop_eq_getElem_cons h]
    simp only [List.take_succ_cons, List.take_zero, List.cons.injEq, and_true]
    exact ⟨fun q => ⟨h, q⟩, fun ⟨_, q⟩ => q⟩
  · refine ⟨fun e => ?_, fun ⟨h', _⟩ => absurd h' h⟩
    have h2 := congrArg List.length e
    rw [List.length_take, List.length_drop] at h2
    simp only [List.length_cons, List.length_nil] at h2
    omega
abbrev crlf : List UInt8 := [13, 10]
/-- A first line, and what stands behind it up to the last 13 and 10. -/
def firstR (t : List UInt8) : Option (List UInt8 × List UInt8) :=
  if (Lib.cut t crlf).2.2 = true ∧ ((Lib.cut t crlf).2.1 = crlf ∨ (crlf ++ crlf) <:+ (Lib.cut t crlf).2.1) then some ((Lib.cut t crlf).1, (Lib.cut t crlf).2.1.take ((Lib.cut t crlf).2.1.length - 2)) else none
theorem firstR_at {t : List UInt8} {i : Nat} (hi : i + 1 < t.length) (h1 : t[i] = 13) (h2 : t[i + 1] = 10) (hn : ∀ j (hj : j + 1 < t.length), j < i → ¬ (t[j] = 13 ∧ t[j + 1] = 10)) :
    firstR t = if t.drop (i + 2) = crlf ∨ (crlf ++ crlf) <:+ t.drop (i + 2) then some (t.take i, (t.drop (i + 2)).take ((t.drop (i + 2)).length - 2)) else none := by
  have e : Lib.cut t crlf = (t.take i, t.drop (i + 2), true) := cut_first (by omega) (take2.2 ⟨hi, h1, h2⟩) (fun j hj q => by
    obtain ⟨hh, hc⟩ := take2.1 q
    exact hn j hh hj hc)
  unfold firstR
  rw [e]
  simp
theorem firstR_never {t : List UInt8} (hn : ∀ j (hj : j + 1 < t.length), ¬ (t[j] = 13 ∧ t[j + 1] = 10)) : firstR t = none := by
  have e : Lib.cut t crlf = (t, [], false) := cut_never (fun j hj q => by
    obtain ⟨hh, hc⟩ := take2.1 q
    exact hn j hh hc)
  unfold firstR
  rw [e]
  simp
theorem suffix4 {l : List UInt8} (k : List UInt8) (hk : k.length = 4) : k <:+ l ↔ 4 ≤ l.length ∧ l.drop (l.length - 4) = k := by
  constructor
  · rintro ⟨a, rfl⟩
    rw [List.length_append, hk]
    refine ⟨by omega, ?_⟩
    rw [show a.length + 4 - 4 = a.length from by omega, List.drop_left]
  · rintro ⟨h1, h2⟩
    exact ⟨l.take (l.length - 4), by rw [← h2, List.take_append_drop]⟩
abbrev HostName : ByteArray := ⟨#[72, 111, 115, 116]⟩
abbrev http11 : List UInt8 := [72, 84, 84, 80, 47, 49, 46, 49]
abbrev Rq := ByteArray × ByteArray × ByteArray × List Hd
def noRq : Rq := (⟨#[]⟩, ⟨#[]⟩, ⟨#[]⟩, [])
def rqOf (line : List UInt8) (l : List Hd) : Option Rq :=
  if (Lib.split line [32]).length = 3 ∧ (Lib.split line [32])[2]? = some http11 ∧ (vals hostName l).length = 1 then
    some (ba ((Lib.split line [32])[0]!), (vals hostName l)[0]!, ba ((Lib.split line [32])[1]!), dropL hostName l) else none
def rqEnd : Option Rq → Int × Rq
  | none => (5, noRq)
  | some q => if rqFault q.1 q.2.1 q.2.2.1 q.2.2.2 = 0 then (0, q) else (rqFault q.1 q.2.1 q.2.2.1 q.2.2.2, noRq)
def rqMid : Option (List UInt8 × List UInt8) → Int × Rq
  | none => (5, noRq)
  | some p => if (readR (ba p.2)).1 = 0 then rqEnd (rqOf p.1 (readR (ba p.2)).2) else ((readR (ba p.2)).1, noRq)
/-- What bytes tell: a code, and a request. -/
def reqR (t : List UInt8) : Int × Rq := if 8000 < t.length then (2, noRq) else rqMid (firstR t)
theorem drop_host (l : List Hd) : dropL HostName l = dropL hostName l := by
  unfold dropL
  congr 1
  funext h
  rw [alike_host]
theorem vals_Host (l : List Hd) : vals HostName l = vals hostName l := vals_host l
theorem filter_len {α : Type} (p : α → Bool) (l : List α) : (l.filter p).length + (l.filter fun x => !p x).length = l.length := by
  induction l with
  | nil => rfl
  | cons x l ih =>
    cases h : p x <;> simp [h] <;> omega
theorem drop_vals_len (nm : ByteArray) (l : List Hd) : (vals nm l).length + (dropL nm l).length = l.length := by
  unfold vals dropL
  rw [List.length_map]
  exact filter_len _ l
theorem join_one {l : List ByteArray} (h : l.length = 1) : joinB commaS l = l[0]! := by
  match l, h with
  | [x], _ => exact joinB_one commaS x
theorem rqEnd_fault_len (o : Option Rq) : (rqEnd o).2.2.2.2.length ≤ 20 := by
  cases o with
  | none => exact Nat.zero_le _
  | some q =>
    unfold rqEnd
    by_cases h : rqFault q.1 q.2.1 q.2.2.1 q.2.2.2 = 0
    · simp only [h, if_pos]
      have h2 : hdsFault q.2.2.2 = 0 := by
        unfold rqFault at h
        split at h
        · omega
        · split at h
          · rename_i a b; exact absurd h b
          · rename_i a b; exact Decidable.not_not.1 b
      exact (hdsFault_0 h2).1
    · simp only [h, if_false]; exact Nat.zero_le _
theorem reqR_20 (t : List UInt8) : (reqR t).2.2.2.2.length ≤ 20 := by
  unfold reqR
  split
  · exact Nat.zero_le _
  · unfold rqMid
    split
    · exact Nat.zero_le _
    · split
      · exact rqEnd_fault_len _
      · exact Nat.zero_le _
end Go.Proofs.YthiogijicknoiaaDoor

/- Plain words: texts in the order of their bytes; the key of a request. No program in sight. -/
namespace Go.Proofs.YthiogijicknoiaaDoor
open Go.RowKit
set_option linter.unusedVariables false

/-- Put in behind all that are not greater. -/
def insG {α : Type} (le : α → α → Bool) (x : α) : List α → List α
  | [] => [x]
  | y :: t => if le y x = true then y :: insG le x t else x :: y :: t
def sortG {α : Type} (le : α → α → Bool) (l : List α) : List α := l.foldl (fun acc x => insG le x acc) []
theorem sortG_snoc {α : Type} (le : α → α → Bool) (l : List α) (x : α) : sortG le (l ++ [x]) = insG le x (sortG le l) := by simp [sortG]
theorem insG_perm {α : Type} (le : α → α → Bool) (x : α) : ∀ l : List α, (insG le x l).Perm (x :: l)
  | [] => .refl _
  | y :: t => by
    unfold insG
    split
    · exact ((insG_perm le x t).cons y).trans (List.Perm.swap x y t)
    · exact .refl _
theorem insG_len {α : Type} (le : α → α → Bool) (x : α) (l : List α) : (insG le x l).length = l.length + 1 := by
  rw [(insG_perm le x l).length_eq, List.length_cons]
theorem insG_mem {α : Type} {le : α → α → Bool} {x z : α} {l : List α} (h : z ∈ insG le x l) : z = x ∨ z ∈ l := by
  have := (insG_perm le x l).mem_iff.1 h
  simpa using this
theorem insG_sorted {α : Type} {le : α → α → Bool} (htot : ∀ a b, le a b = true ∨ le b a = true) (htr : ∀ a b c, le a b = true → le b c = true → le a c = true) (x : α) : ∀ {l : List α}, l.Pairwise (fun a b => le a b = true) → (insG le x l).Pairwise (fun a b => le a b = true)
  | [], _ => by simp [insG]
  | y :: t, h => by
    rw [List.pairwise_cons] at h
    unfold insG
    split
    · rename_i hy
      rw [List.pairwise_cons]
      refine ⟨fun z hz => ?_, insG_sorted htot htr x h.2⟩
      rcases insG_mem hz with rfl | hz
      · exact hy
      · exact h.1 z hz
    · rename_i hy
      have hxy : le x y = true := (htot y x).resolve_left hy
      rw [List.pairwise_cons, List.pairwise_cons]
      refine ⟨fun z hz => ?_, h⟩
      rcases List.mem_cons.1 hz with rfl | hz
      · exact hxy
      · exact htr _ _ _ hxy (h.1 z hz)
theorem sortG_both {α : Type} {le : α → α → Bool} (htot : ∀ a b, le a b = true ∨ le b a = true) (htr : ∀ a b c, le a b = true → le b c = true → le a c = true) (l : List α) : ∀ acc : List α, acc.Pairwise (fun a b => le a b = true) → (l.foldl (fun acc x => insG le x acc) acc).Pairwise (fun a b => le a b = true) ∧ (l.foldl (fun acc x => insG le x acc) acc).Perm (l ++ acc) := by
  induction l with
  | nil => intro acc h; exact ⟨h, .refl _⟩
  | cons x l ih =>
    intro acc h
    obtain ⟨h1, h2⟩ := ih _ (insG_sorted htot htr x h)
    refine ⟨h1, h2.trans ?_⟩
    refine ((insG_perm le x acc).append_left l).trans ?_
    simp
theorem perm_sorted_eq {α : Type} {le : α → α → Bool} (hanti : ∀ a b, le a b = true → le b a = true → a = b) : ∀ {l m : List α}, l.Perm m → l.Pairwise (fun a b => le a b = true) → m.Pairwise (fun a b => le a b = true) → l = m
  | [], m, h, _, _ => by rw [List.nil_perm.1 h]
  | x :: l, [], h, _, _ => by have := h.length_eq; simp at this
  | x :: l, y :: m, h, h1, h2 => by
    rw [List.pairwise_cons] at h1 h2
    have hxy : x = y := by
      have a1 : x ∈ y :: m := h.mem_iff.1 (List.mem_cons_self ..)
      have a2 : y ∈ x :: l := h.mem_iff.2 (List.mem_cons_self ..)
      rcases List.mem_cons.1 a1 with e | a1
      · exact e
      · rcases List.mem_cons.1 a2 with e | a2
        · exact e.symm
        · exact hanti _ _ (h1.1 y a2) (h2.1 x a1)
    subst hxy
    rw [perm_sorted_eq hanti ((List.perm_cons x).1 h) h1.2 h2.2]
abbrev Tx := List UInt8
def leT (x y : Tx) : Bool := decide (x ≤ y)
theorem leT_tot (a b : Tx) : leT a b = true ∨ leT b a = true := by
  simp only [leT, decide_eq_true_eq]; exact List.le_total a b
theorem leT_tr (a b c : Tx) : leT a b = true → leT b c = true → leT a c = true := by
  simp only [leT, decide_eq_true_eq]; exact fun h1 h2 => List.le_trans h1 h2
theorem leT_anti (a b : Tx) : leT a b = true → leT b a = true → a = b := by
  simp only [leT, decide_eq_true_eq]; exact fun h1 h2 => List.le_antisymm h1 h2
theorem sort_merge (l : List Tx) : l.mergeSort (fun x y => decide (x ≤ y)) = sortG leT l := by
  obtain ⟨h1, h2⟩ := sortG_both leT_tot leT_tr l [] List.Pairwise.nil
  rw [List.append_nil] at h2
  refine perm_sorted_eq leT_anti ((List.mergeSort_perm l _).trans h2.symm) ?_ h1
  have := List.pairwise_mergeSort (le := fun x y : Tx => decide (x ≤ y)) (fun a b c => leT_tr a b c) (fun a b => by
    have := leT_tot a b
    simp only [leT] at this
    simpa [Bool.or_eq_true] using this) l
  exact this
/-- As the reader of places has it. -/
theorem insG_at {α : Type} {le : α → α → Bool} {x : α} : ∀ {l : List α} {k : Nat}, k ≤ l.length → (∀ j (hj : j < l.length), j < k → le l[j] x = true) → (∀ h : k < l.length, le l[k] x = false) → insG le x l = l.take k ++ x :: l.drop k
  | [], k, hk, _, _ => by
    obtain rfl : k = 0 := by simpa using hk
    rfl
  | y :: t, 0, _, _, hn => by
    have := hn (by simp)
    simp only [List.getElem_cons_zero] at this
    simp [insG, this]
  | y :: t, k + 1, hk, ha, hn => by
    have h0 := ha 0 (by simp) (by omega)
    simp only [List.getElem_cons_zero] at h0
    rw [insG, if_pos h0, insG_at (l := t) (k := k) (by simpa using hk) (fun j hj hjk => by
      have := ha (j + 1) (by simpa using hj) (by omega)
      simpa using this) (fun h => by
      have := hn (by simpa using h)
      simpa using this)]
    simp
theorem sortT_perm (l : List Tx) : (sortG leT l).Perm l := by
  have := (sortG_both leT_tot leT_tr l [] List.Pairwise.nil).2
  rw [List.append_nil] at this
  exact this
theorem sortT_sorted (l : List Tx) : (sortG leT l).Pairwise (fun a b => leT a b = true) := (sortG_both leT_tot leT_tr l [] List.Pairwise.nil).1
theorem sortT_len (l : List Tx) : (sortG leT l).length = l.length := (sortT_perm l).length_eq
theorem sortT_twice (l : List Tx) : sortG leT (sortG leT l) = sortG leT l := perm_sorted_eq leT_anti (sortT_perm _) (sortT_sorted _) (sortT_sorted _)
def piecesOf (q : Tx) : List Tx := (Lib.split q [38]).filter fun p => !p.isEmpty
def sortedOf (q : Tx) : List ByteArray := (sortG leT (piecesOf q)).map ba
abbrev ampS : ByteArray := ⟨#[38]⟩
def queryT (l : List ByteArray) : ByteArray := if l = [] then ⟨#[]⟩ else ⟨#[63]⟩ ++ joinB ampS l
/-- The key of a host and a path. -/
def keyT (host path : ByteArray) : ByteArray := lowS host ++ ba (Lib.cut path.data.toList [63]).1 ++ queryT (sortedOf (Lib.cut path.data.toList [63]).2.1)
def keyR (m h p : ByteArray) (l : List Hd) : Int × ByteArray := if rqFault m h p l = 0 then (0, keyT h p) else (rqFault m h p l, ⟨#[]⟩)
def namedT (l : List Hd) (nm : ByteArray) : ByteArray := ⟨#[32]⟩ ++ lowS nm ++ ⟨#[61]⟩ ++ joinB commaS (vals nm l)
def fullTo (h p : ByteArray) (l : List Hd) : List ByteArray → ByteArray
  | ns => ⟨((keyT h p).data.toList ++ (ns.flatMap fun nm => (namedT l nm).data.toList)).toArray⟩
def namesF (ns : List ByteArray) : Int := if 4 < ns.length then 2 else if ns.all wordS = true then 0 else 5
def fullR (m h p : ByteArray) (l : List Hd) (ns : List ByteArray) : Int × ByteArray :=
  if rqFault m h p l = 0 then (if namesF ns = 0 then (0, fullTo h p l ns) else (namesF ns, ⟨#[]⟩)) else (rqFault m h p l, ⟨#[]⟩)
end Go.Proofs.YthiogijicknoiaaDoor

/- The code of a response. -/
namespace Go.Proofs.YthiogijicknoiaaDoor
open Go.RowKit
set_option linter.unusedSimpArgs false
set_option linter.unusedVariables false

def rspFault (t : Int) (l : List Hd) (nb : Nat) : Int := if inB t 200 599 = false then 3 else if hdsFault l ≠ 0 then hdsFault l else if 2000 < nb then 2 else 0
theorem impl_isStatus (t : Int) (w : World) : Calls Tryd.prog 72 #[.int .i64 t] w fun e w' => e = .returned (.bool (inB t 200 599)) ∧ w = w' := by
  go_enter Tryd.func72, Tryd.ntmps72
  go_wp2_with (go_at_call 107; ((with_reducible refine (impl_within _ _ _ _).mono ?_); rintro e w' ⟨rfl, rfl⟩))
  all_goals (go_ret; exact ⟨by first | rfl | (simp [*]; done) | (simp [*]; omega), by first | (with_reducible rfl) | exact (by first | (with_reducible exact Below.refl _ _) | ((repeat' (first | (with_reducible exact Below.refl _ _) | (with_reducible assumption) | (with_reducible refine below_alloc ?_ _) | (with_reducible refine Below.drew ?_) | (with_reducible refine below_drewN ?_ _) | (with_reducible refine Below.setCell ?_ ?_ _) | refine below_then ?_ (by with_reducible assumption))) <;> (first | omega | (simp; done) | (simp; omega))))⟩)
set_option maxHeartbeats 1600000 in
theorem spec_ResponseFault (t : Int) (a : Option Addr) (n c : Nat) (l : List Hd) (hl : l.length = n) (ab : Option Addr) (nb cb : Nat) (w : World) (hr : Rd w a (hV l)) (hn : n ≤ 9223372036854775807) (hnb : nb ≤ 9223372036854775807)
    (hs : ∀ h ∈ l, h.1.size ≤ 9223372036854775807 ∧ h.2.size ≤ 9223372036854775807) : Calls Tryd.prog 29 #[.agg #[.int .i64 t, .slice a n c, .slice ab nb cb]] w fun e w' => e = .returned (.int .i64 (rspFault t l nb)) ∧ Below w.heap.size w w' := by
  have Hl := Lib.hid hl
  have Hs := Lib.hid hs
  clear hl hs
  go_enter Tryd.func29, Tryd.ntmps29
  go_wp2_with (first | (go_at_call 65; ((with_reducible refine (spec_l1In _ _ _ _).mono ?_); rintro e w' ⟨rfl, rfl⟩)) | (go_at_call 66; ((with_reducible refine (spec_HeadersFault _ _ _ l Hl.out _ (by first | (with_reducible assumption) | exact RowAt.rd (by repeat' (first | (with_reducible assumption) | (with_reducible refine RowAt.alloc ?_ _) | (with_reducible refine RowAt.drew ?_) | (with_reducible refine RowAt.other ?_ _ _ (by first | omega | (simp; done) | (simp; omega))) | refine RowAt.then ?_ (by with_reducible assumption))) | exact Rd.below (by with_reducible assumption) (by first | (with_reducible exact Below.refl _ _) | ((repeat' (first | (with_reducible exact Below.refl _ _) | (with_reducible assumption) | (with_reducible refine below_alloc ?_ _) | (with_reducible refine Below.drew ?_) | (with_reducible refine below_drewN ?_ _) | (with_reducible refine Below.setCell ?_ ?_ _) | refine below_then ?_ (by with_reducible assumption))) <;> (first | omega | (simp; done) | (simp; omega))))) hn Hs.out).mono ?_); rintro e w' ⟨rfl, hb⟩; obtain ⟨hc, hf⟩ := bcell hb; have hz := hb.size; (try simp only [World.size_alloc, World.size_setCell, World.size_drew] at hz); obtain ⟨hlt, hle, hn1, hn2, hn3, hn4⟩ := bsize hb; (try simp only [World.size_alloc, World.size_setCell, World.size_drew] at hlt hle hn1 hn2 hn3 hn4); (try have hr0 : w.heap.size < w'.heap.size := by omega); (try have hr1 : w.heap.size + 1 < w'.heap.size := by omega); (try have hs0 : wS.heap.size < w'.heap.size := by omega); (try have hs1 : wG.heap.size < w'.heap.size := by omega))))
  all_goals (go_ret; exact ⟨ret_int (by first | (simp_all [rspFault]; done) | (simp_all [rspFault]; omega)), (by first | (with_reducible exact Below.refl _ _) | ((repeat' (first | (with_reducible exact Below.refl _ _) | (with_reducible assumption) | (with_reducible refine below_alloc ?_ _) | (with_reducible refine Below.drew ?_) | (with_reducible refine below_drewN ?_ _) | (with_reducible refine Below.setCell ?_ ?_ _) | refine below_then ?_ (by with_reducible assumption))) <;> (first | omega | (simp; done) | (simp; omega))))⟩)
set_option maxHeartbeats 1600000 in
theorem impl_ResponseFault (t : Int) (a : Option Addr) (n c : Nat) (l : List Hd) (hl : l.length = n) (ab : Option Addr) (nb cb : Nat) (w : World) (hr : Rd w a (hV l)) (hn : n ≤ 9223372036854775807) (hnb : nb ≤ 9223372036854775807)
    (hs : ∀ h ∈ l, h.1.size ≤ 9223372036854775807 ∧ h.2.size ≤ 9223372036854775807) : Calls Tryd.prog 36 #[.agg #[.int .i64 t, .slice a n c, .slice ab nb cb]] w fun e w' => e = .returned (.int .i64 (rspFault t l nb)) ∧ Below w.heap.size w w' := by
  have Hl := Lib.hid hl
  have Hs := Lib.hid hs
  clear hl hs
  go_enter Tryd.func36, Tryd.ntmps36
  go_wp2_with (first | (go_at_call 72; ((with_reducible refine (impl_isStatus _ _).mono ?_); rintro e w' ⟨rfl, rfl⟩)) | (go_at_call 70; ((with_reducible refine (impl_HeadersFault _ _ _ l Hl.out _ (by first | (with_reducible assumption) | exact RowAt.rd (by repeat' (first | (with_reducible assumption) | (with_reducible refine RowAt.alloc ?_ _) | (with_reducible refine RowAt.drew ?_) | (with_reducible refine RowAt.other ?_ _ _ (by first | omega | (simp; done) | (simp; omega))) | refine RowAt.then ?_ (by with_reducible assumption))) | exact Rd.below (by with_reducible assumption) (by first | (with_reducible exact Below.refl _ _) | ((repeat' (first | (with_reducible exact Below.refl _ _) | (with_reducible assumption) | (with_reducible refine below_alloc ?_ _) | (with_reducible refine Below.drew ?_) | (with_reducible refine below_drewN ?_ _) | (with_reducible refine Below.setCell ?_ ?_ _) | refine below_then ?_ (by with_reducible assumption))) <;> (first | omega | (simp; done) | (simp; omega))))) hn Hs.out).mono ?_); rintro e w' ⟨rfl, hb⟩; obtain ⟨hc, hf⟩ := bcell hb; have hz := hb.size; (try simp only [World.size_alloc, World.size_setCell, World.size_drew] at hz); obtain ⟨hlt, hle, hn1, hn2, hn3, hn4⟩ := bsize hb; (try simp only [World.size_alloc, World.size_setCell, World.size_drew] at hlt hle hn1 hn2 hn3 hn4); (try have hr0 : w.heap.size < w'.heap.size := by omega); (try have hr1 : w.heap.size + 1 < w'.heap.size := by omega); (try have hs0 : wS.heap.size < w'.heap.size := by omega); (try have hs1 : wG.heap.size < w'.heap.size := by omega))))
  all_goals (go_ret; exact ⟨ret_int (by first | (simp_all [rspFault]; done) | (simp_all [rspFault]; omega)), (by first | (with_reducible exact Below.refl _ _) | ((repeat' (first | (with_reducible exact Below.refl _ _) | (with_reducible assumption) | (with_reducible refine below_alloc ?_ _) | (with_reducible refine Below.drew ?_) | (with_reducible refine below_drewN ?_ _) | (with_reducible refine Below.setCell ?_ ?_ _) | refine below_then ?_ (by with_reducible assumption))) <;> (first | omega | (simp; done) | (simp; omega))))⟩)
end Go.Proofs.YthiogijicknoiaaDoor

/- The bytes of a response: both texts. The steps are printed by gen/packs.py. -/
namespace Go.Proofs.YthiogijicknoiaaDoor
open Go.RowKit
set_option linter.unusedSimpArgs false
set_option linter.unusedVariables false

def rspS (t : Int) (l : List Hd) : ByteArray := ⟨#[72, 84, 84, 80, 47, 49, 46, 49, 32]⟩ ++ decS t ++ ⟨#[13, 10]⟩ ++ packB l ++ ⟨#[13, 10]⟩
def packP (t : Int) (l : List Hd) (lb : List UInt8) : Int × List UInt8 := if rspFault t l lb.length = 0 then (0, (rspS t l).data.toList ++ lb) else (rspFault t l lb.length, [])
theorem packP_ok {t : Int} {l : List Hd} {lb : List UInt8} (e : rspFault t l lb.length = 0) : packP t l lb = (0, (rspS t l).data.toList ++ lb) := if_pos e
theorem packP_bad {t : Int} {l : List Hd} {lb : List UInt8} (e : rspFault t l lb.length ≠ 0) : packP t l lb = (rspFault t l lb.length, []) := if_neg e
theorem rsp_small {t : Int} {l : List Hd} {nb : Nat} (e : rspFault t l nb = 0) : l.length ≤ 20 ∧ (∀ h ∈ l, h.1.size ≤ 64 ∧ h.2.size ≤ 200) ∧ 200 ≤ t ∧ t ≤ 599 ∧ nb ≤ 2000 := by
  unfold rspFault at e
  split at e
  · exact absurd e (by decide)
  · rename_i hb
    split at e
    · rename_i h2; exact absurd e h2
    · rename_i h2
      obtain ⟨h20, hs⟩ := hds_small (l := l) (by simpa using h2)
      split at e
      · exact absurd e (by decide)
      · rename_i h3
        have h4 : inB t 200 599 = true := by cases hx : inB t 200 599 with | true => rfl | false => exact absurd hx hb
        obtain ⟨h5, h6⟩ := inB_iff.1 h4
        exact ⟨h20, hs, h5, h6, by omega⟩
theorem bw_brow' (s : ByteArray) (W : World) (lo : Nat) (h : lo ≤ W.heap.size) : ∃ g cap W', (convert 9 22 (.string s)).run Tryd.prog W = .ok (.slice (some ⟨g, 0, none⟩) s.size cap) W' ∧ lo ≤ g ∧ BRow W' g s.size cap s.data.toList ∧ Below W.heap.size W W' := by
  have h3 := Lib.run_convert_string_bytes (P := Tryd.prog) W 9 22 5 s Tryd.underlying9 Tryd.underlying22 Tryd.underlying5
  exact ⟨_, _, _, h3, h, bw_brow W s, bw_below W s⟩
theorem BRow.then {w w' : World} {g n cap : Nat} {xs : List UInt8} (h : BRow w g n cap xs) (hb : Below w.heap.size w w') : BRow w' g n cap xs := by
  obtain ⟨h1, r, h2, h3⟩ := h
  exact ⟨h1, r, h2, h3.then hb⟩
def rpV (t : Int) (l : List Hd) (v : Value) (b : Nat) : List Value := [.pointer (some ⟨b, 0, none⟩),
  .int .i64 t,
  .string (decS t),
  .string (⟨#[72, 84, 84, 80, 47, 49, 46, 49, 32]⟩ ++ decS t),
  .string (⟨#[72, 84, 84, 80, 47, 49, 46, 49, 32]⟩ ++ decS t ++ ⟨#[13, 10]⟩),
  .pointer (some ⟨b, 1, none⟩),
  v,
  .string (packB l),
  .string (⟨#[72, 84, 84, 80, 47, 49, 46, 49, 32]⟩ ++ decS t ++ ⟨#[13, 10]⟩ ++ packB l),
  .string (⟨#[72, 84, 84, 80, 47, 49, 46, 49, 32]⟩ ++ decS t ++ ⟨#[13, 10]⟩ ++ packB l ++ ⟨#[13, 10]⟩),
  .string (⟨#[72, 84, 84, 80, 47, 49, 46, 49, 32]⟩ ++ decS t ++ ⟨#[13, 10]⟩ ++ packB l ++ ⟨#[13, 10]⟩)]
def rpF (t : Int) (l : List Hd) (v : Value) (b : Nat) (k : Nat) (x : Value) (w : World) : Prop := (rpV t l v b)[k]? = some x

def spV (t : Int) (l : List Hd) (v : Value) (b : Nat) : List Value := [.pointer (some ⟨b, 0, none⟩),
  .int .i64 t,
  .string (decS t),
  .string (⟨#[72, 84, 84, 80, 47, 49, 46, 49, 32]⟩ ++ decS t),
  .string (⟨#[72, 84, 84, 80, 47, 49, 46, 49, 32]⟩ ++ decS t ++ ⟨#[13, 10]⟩),
  .pointer (some ⟨b, 1, none⟩),
  v,
  .string (packB l),
  .string (⟨#[72, 84, 84, 80, 47, 49, 46, 49, 32]⟩ ++ decS t ++ ⟨#[13, 10]⟩ ++ packB l),
  .string (⟨#[72, 84, 84, 80, 47, 49, 46, 49, 32]⟩ ++ decS t ++ ⟨#[13, 10]⟩ ++ packB l ++ ⟨#[13, 10]⟩),
  undef,
  undef]
def spF (t : Int) (l : List Hd) (v : Value) (b lo : Nat) (k : Nat) (x : Value) (w : World) : Prop :=
  if k = 10 ∨ k = 11 then ∃ g cap, x = .slice (some ⟨g, 0, none⟩) (rspS t l).size cap ∧ lo ≤ g ∧ BRow w g (rspS t l).size cap (rspS t l).data.toList else (spV t l v b)[k]? = some x
theorem spF_mono {t : Int} {l : List Hd} {v : Value} {b lo : Nat} (k : Nat) (x : Value) (w w' : World) (hF : spF t l v b lo k x w) (hb : Below w.heap.size w w') : spF t l v b lo k x w' := by
  unfold spF at *
  split at hF
  · rename_i hk; rw [if_pos hk]; obtain ⟨g, cap, e, hlo, hr⟩ := hF; exact ⟨g, cap, e, hlo, hr.then hb⟩
  · rename_i hk; rw [if_neg hk]; exact hF
theorem rspS_size (t : Int) (l : List Hd) : (rspS t l).size = 9 + (decS t).size + 2 + (packB l).size + 2 := by
  unfold rspS
  simp only [ByteArray.size_append]
  rfl
end Go.Proofs.YthiogijicknoiaaDoor

/- PackResponse: the program's own, and the law. -/
namespace Go.Proofs.YthiogijicknoiaaDoor
open Go.RowKit
set_option linter.unusedSimpArgs false
set_option linter.unusedVariables false

theorem packP_len (t : Int) (l : List Hd) (lb : List UInt8) : (packP t l lb).2.length ≤ 8000 := by
  by_cases hz : rspFault t l lb.length = 0
  · obtain ⟨h20, hs2, ht0, ht1, hnb2⟩ := rsp_small hz
    have hpz : (packB l).size ≤ 5360 := by
      have := packB_size (l := l) l.length (by omega) hs2
      rw [List.take_length] at this
      exact this
    have hdz := decS_len t (by omega) (by omega)
    rw [packP_ok hz]
    show ((rspS t l).data.toList ++ lb).length ≤ 8000
    rw [List.length_append, bytes_len, rspS_size]
    omega
  · rw [packP_bad hz]; exact Nat.zero_le _
theorem laws_markResponse (t : Int) (g gb : Nat) (hgb : g < gb) (n c : Nat) (l : List Hd) (hl : l.length = n) (nb cb : Nat) (lb : List UInt8) (hlb : lb.length = nb) (w : World) (hrow : RowAt w g (hV l)) (hrowb : RowAt w gb (bV lb)) (hn : n ≤ 2000000) (hnb : nb ≤ 2000000) :
    Calls Tryd.prog 38 #[.agg #[.int .i64 t, .slice (some ⟨g, 0, none⟩) n c, .slice (some ⟨gb, 0, none⟩) nb cb], .int .i64 1] w fun e w' => e = .returned (.int .i64 (1 + 2 * (n : Int) + (nb : Int))) ∧ Chg w w' g (gb + 1) := by
  have Hl := Lib.hid hl
  have Hlb := Lib.hid hlb
  have hlt := hrowb.lt
  have hlt2 := hrow.lt
  clear hl hlb
  go_enter Tryd.func38, Tryd.ntmps38
  have hs1 := RowAt.sl (hrow.alloc (.cells #[.int .i64 t, .slice (some ⟨g, 0, none⟩) n c, .slice (some ⟨gb, 0, none⟩) nb cb] 25)) n (Nat.le_refl _) (Nat.lt_succ_self _)
  have bk := blk_new w (.cells #[.int .i64 t, .slice (some ⟨g, 0, none⟩) n c, .slice (some ⟨gb, 0, none⟩) nb cb] 25)
  go_wp2_with (first
    | (go_at_call 74; ((with_reducible refine (laws_markHeaderS g (g + 1) _ n c l Hl.out 1 1 rfl (by omega) _ hs1 (by omega)).mono ?_); rintro e w2 ⟨rfl, hs2, hch⟩; have hsz2 := hch.size; (try simp only [World.size_alloc] at hsz2); obtain ⟨z0, z1, z2⟩ := cells3 (hch.blk bk (by omega)); have hrb2 := RowAt.sl (mark_row (Below.refl _ _) hch (hrowb.alloc _) (.inr (by omega))) nb (Nat.le_refl _) (Nat.lt_succ_self _)))
    | (go_at_call 10; ((with_reducible refine (laws_markByteS gb (gb + 1) _ nb cb lb Hlb.out (1 + 2 * (n : Int)) (1 + 2 * n) (by omega) (by omega) _ hrb2 (by omega)).mono ?_); rintro e w3 ⟨rfl, hs3, hch3⟩)))
  go_ret
  exact ⟨rfl, (((Chg.refl _ _ _).alloc _).trans (hch.mono (Nat.le_refl _) (by omega))).trans (hch3.mono (by omega) (Nat.le_refl _))⟩
end Go.Proofs.YthiogijicknoiaaDoor

/- Plain words: the response that bytes tell. No program in sight. -/
namespace Go.Proofs.YthiogijicknoiaaDoor
open Go.RowKit
set_option linter.unusedVariables false

theorem least {p : Nat → Prop} (hp : ∀ i, p i ∨ ¬ p i) : ∀ {n : Nat}, p n → ∃ i, i ≤ n ∧ p i ∧ ∀ j, j < i → ¬ p j := by
  intro n
  induction n using Nat.strongRecOn with
  | ind n ih =>
    intro h
    by_cases hx : ∃ j, j < n ∧ p j
    · obtain ⟨j, hj, hpj⟩ := hx
      obtain ⟨i, h1, h2, h3⟩ := ih j hj hpj
      exact ⟨i, by omega, h2, h3⟩
    · exact ⟨n, Nat.le_refl _, h, fun j hj q => hx ⟨j, hj, q⟩⟩
theorem firstR_head (head : List UInt8) : (Lib.cut (head ++ crlf) crlf).2.2 = true ∧ firstR (head ++ crlf ++ crlf) = some ((Lib.cut (head ++ crlf) crlf).1, (Lib.cut (head ++ crlf) crlf).2.1) := by
  have hlen : (head ++ crlf).length = head.length + 2 := by simp
  have hend : ((head ++ crlf).drop head.length).take 2 = crlf := by simp
  obtain ⟨i, h1, h2, h3⟩ := least (p := fun i => ((head ++ crlf).drop i).take 2 = crlf) (fun i => Decidable.em _) hend
  have e1 : Lib.cut (head ++ crlf) crlf = ((head ++ crlf).take i, (head ++ crlf).drop (i + 2), true) := cut_first (by omega) h2 (fun j hj => h3 j hj)
  have same : ∀ j, j ≤ head.length → ((head ++ crlf ++ crlf).drop j).take 2 = ((head ++ crlf).drop j).take 2 := fun j hj => by
    rw [List.drop_append_of_le_length (by omega), List.take_append_of_le_length (by rw [List.length_drop]; omega)]
  have e2 : Lib.cut (head ++ crlf ++ crlf) crlf = ((head ++ crlf ++ crlf).take i, (head ++ crlf ++ crlf).drop (i + 2), true) := cut_first (by simp; omega) (by rw [show crlf.length = 2 from rfl, same i h1]; exact h2) (fun j hj => by
    rw [show crlf.length = 2 from rfl, same j (by omega)]; exact h3 j hj)
  have e3 : (head ++ crlf ++ crlf).take i = (head ++ crlf).take i := List.take_append_of_le_length (by omega)
  have e4 : (head ++ crlf ++ crlf).drop (i + 2) = (head ++ crlf).drop (i + 2) ++ crlf := List.drop_append_of_le_length (by omega)
  have hc : (head ++ crlf).drop (i + 2) ++ crlf = crlf ∨ (crlf ++ crlf) <:+ (head ++ crlf).drop (i + 2) ++ crlf := by
    by_cases hi : i = head.length
    · left
      rw [List.drop_of_length_le (by omega)]; rfl
    · right
      obtain ⟨hlt, g1, g2⟩ := take2.1 h2
      have hne : i + 1 ≠ head.length := by
        intro q
        rw [List.getElem_append_right (by omega)] at g2
        simp only [q, Nat.sub_self, List.getElem_cons_zero] at g2
        exact absurd g2 (by decide)
      rw [List.drop_append_of_le_length (by omega), List.append_assoc]
      exact List.suffix_append _ _
  refine ⟨by rw [e1], ?_⟩
  unfold firstR
  rw [e2, e1]
  simp only [true_and]
  rw [e4, if_pos hc, e3]
  simp
abbrev http11b : List UInt8 := [72, 84, 84, 80, 47, 49, 46, 49, 32]
abbrev Rs := Int × List Hd × List UInt8
def noRs : Rs := (0, [], [])
def rsEnd (q : Rs) : Int × Rs := if rspFault q.1 q.2.1 q.2.2.length = 0 then (0, q) else (rspFault q.1 q.2.1 q.2.2.length, noRs)
def lineOK (line : List UInt8) : Bool := decide (line.length = 12) && decide (line.take 9 = http11b) && deltaOk (ba (line.drop 9))
def rsMid (line rest body : List UInt8) : Int × Rs :=
  if (readR (ba rest)).1 = 0 then (if lineOK line = true then rsEnd (deltaTo (ba (line.drop 9)) 3, (readR (ba rest)).2, body) else (5, noRs)) else ((readR (ba rest)).1, noRs)
/-- What bytes tell: a code, and a response. -/
def rspR (t : List UInt8) : Int × Rs := if 10000 < t.length then (2, noRs) else
  if (Lib.cut t (crlf ++ crlf)).2.2 = true then rsMid (Lib.cut ((Lib.cut t (crlf ++ crlf)).1 ++ crlf) crlf).1 (Lib.cut ((Lib.cut t (crlf ++ crlf)).1 ++ crlf) crlf).2.1 (Lib.cut t (crlf ++ crlf)).2.1 else (5, noRs)
theorem rsEnd_bd (q : Rs) : (rsEnd q).2.2.1.length ≤ 20 ∧ (rsEnd q).2.2.2.length ≤ 2000 := by
  unfold rsEnd
  by_cases h : rspFault q.1 q.2.1 q.2.2.length = 0
  · rw [if_pos h]
    unfold rspFault at h
    split at h
    · omega
    · split at h
      · rename_i a b; exact absurd h b
      · rename_i a b
        split at h
        · omega
        · exact ⟨(hdsFault_0 (Decidable.not_not.1 b)).1, by show q.2.2.length ≤ 2000; omega⟩
  · rw [if_neg h]; exact ⟨Nat.zero_le _, Nat.zero_le _⟩
theorem rspR_bd (t : List UInt8) : (rspR t).2.2.1.length ≤ 20 ∧ (rspR t).2.2.2.length ≤ 2000 := by
  unfold rspR
  split
  · exact ⟨Nat.zero_le _, Nat.zero_le _⟩
  · split
    · unfold rsMid
      split
      · split
        · exact rsEnd_bd _
        · exact ⟨Nat.zero_le _, Nat.zero_le _⟩
      · exact ⟨Nat.zero_le _, Nat.zero_le _⟩
    · exact ⟨Nat.zero_le _, Nat.zero_le _⟩
end Go.Proofs.YthiogijicknoiaaDoor

/- The response that bytes tell: what is answered. -/
namespace Go.Proofs.YthiogijicknoiaaDoor
open Go.RowKit
set_option linter.unusedSimpArgs false
set_option linter.unusedVariables false

theorem rspR_many {t : List UInt8} (h : 10000 < t.length) : rspR t = (2, noRs) := if_pos h
theorem rspR_none {t : List UInt8} (h : ¬ 10000 < t.length) (hc : (Lib.cut t (crlf ++ crlf)).2.2 = false) : rspR t = (5, noRs) := by
  rw [rspR, if_neg h, if_neg (by rw [hc]; decide)]
theorem rspR_some {t head body : List UInt8} (h : ¬ 10000 < t.length) (hc : Lib.cut t (crlf ++ crlf) = (head, body, true)) : rspR t = rsMid (Lib.cut (head ++ crlf) crlf).1 (Lib.cut (head ++ crlf) crlf).2.1 body := by
  rw [rspR, if_neg h, hc, if_pos rfl]
def RpR (w : World) (r : Int × Rs) (e : Ending) (w' : World) : Prop := ∃ (a' : Option Addr) (n' c' : Nat) (ab : Option Addr) (nb cb mid : Nat), e = .returned (.agg #[.int .i64 r.1, .int .i64 r.2.1, .slice a' n' c', .slice ab nb cb]) ∧ (r.2.2.1.length = n' ∧ r.2.2.2.length = nb) ∧ (w.heap.size ≤ mid ∧ mid ≤ w'.heap.size) ∧ SlAt w' w.heap.size mid a' n' (hV r.2.2.1) ∧ SlAt w' mid w'.heap.size ab nb (bV r.2.2.2) ∧ Below w.heap.size w w'
theorem RpR.none {w w' : World} {r : Int × Rs} {k : Int} (hr : r = (k, noRs)) (hb : Below w.heap.size w w') : RpR w r (.returned (.agg #[.int .i64 k, .int .i64 0, .slice none 0 0, .slice none 0 0])) w' := by
  subst hr
  exact ⟨Option.none, 0, 0, Option.none, 0, 0, w.heap.size, rfl, ⟨rfl, rfl⟩, ⟨Nat.le_refl _, hb.size⟩, .inl ⟨rfl, rfl⟩, .inl ⟨rfl, rfl⟩, hb⟩
theorem fzr {w : World} {g : Nat} {cs : Array Value} {t : TypeId} (h : w.heap[g]? = some (.cells cs t (0, 0))) : ∀ k, w.frozen? ⟨g, k, none⟩ = false := fun k => by simp [World.frozen?, h]
theorem cut_len (s p : List UInt8) : (Lib.cut s p).1.length ≤ s.length ∧ (Lib.cut s p).2.1.length ≤ s.length := by
  unfold Lib.cut
  split
  · exact ⟨by rw [List.length_take]; exact Nat.min_le_right _ _, by rw [List.length_drop]; exact Nat.sub_le _ _⟩
  · exact ⟨Nat.le_refl _, Nat.zero_le _⟩
theorem row_store3 {w : World} {g G : Nat} {l : List UInt8} {x : Int} {y z : Value} {t : TypeId} (h : RowAt w g (bV l)) (hG : w.heap[G]? = some (.cells #[.int .i64 x, y, z] t (0, 0))) (u v s : Value) :
    RowAt (((w.setCell ⟨G, 0, none⟩ u).setCell ⟨G, 1, none⟩ v).setCell ⟨G, 2, none⟩ s) g (bV l) := by
  by_cases e : g = G
  · subst e
    have hl : l = [] := by
      obtain ⟨cur, e, lo, hi, hc, ht, _⟩ := h
      rw [hG] at hc
      cases hc
      cases l with
      | nil => rfl
      | cons b l => simp [bV, byteV] at ht
    subst hl
    exact ⟨_, _, _, _, blk_set (blk_set (blk_set hG 0 _) 1 _) 2 _, by simp [bV], by intro i hi; simp [bV] at hi⟩
  · exact ((h.other _ _ e).other _ _ e).other _ _ e
/-- What the operations of the region that lays the response yield. -/
def rrF (vs : List Value) (ks kb ka : Nat) (st : Int) (hs : Value) (nb : Nat) (body : List UInt8) (lo : Nat) (k : Nat) (v : Value) (w : World) : Prop :=
  if k = ks then ∃ g cap, v = .slice (some ⟨g, 0, none⟩) nb cap ∧ lo ≤ g ∧ RowAt w g (bV body)
  else if k = kb then ∃ g cap, v = .agg #[.int .i64 st, hs, .slice (some ⟨g, 0, none⟩) nb cap] ∧ lo ≤ g ∧ RowAt w g (bV body)
  else if k = ka then ∃ G, v = .pointer (some ⟨G, 0, none⟩) ∧ lo ≤ G ∧ w.heap[G]? = some (.cells #[.int .i64 0, .slice none 0 0, .slice none 0 0] 25 (0, 0))
  else vs[k]? = some v
theorem rrF_keep {vs : List Value} {ks kb ka : Nat} {st : Int} {hs : Value} {nb : Nat} {body : List UInt8} {lo : Nat} (k : Nat) (v : Value) (w w' : World) (h : rrF vs ks kb ka st hs nb body lo k v w) (hb : Below w.heap.size w w') : rrF vs ks kb ka st hs nb body lo k v w' := by
  unfold rrF at h ⊢
  split at h
  · rename_i q; rw [if_pos q]
    obtain ⟨g, cap, e, h1, h2⟩ := h
    exact ⟨g, cap, e, h1, h2.then hb⟩
  · rename_i q; rw [if_neg q]
    split at h
    · rename_i q; rw [if_pos q]
      obtain ⟨g, cap, e, h1, h2⟩ := h
      exact ⟨g, cap, e, h1, h2.then hb⟩
    · rename_i q; rw [if_neg q]
      split at h
      · rename_i q; rw [if_pos q]
        obtain ⟨G, e, h1, h2⟩ := h
        exact ⟨G, e, h1, blk_then h2 hb⟩
      · rename_i q; rw [if_neg q]; exact h
theorem lineOK_pre (line : List UInt8) : lineOK line = (Lib.hasPrefix line http11b && (inB (ba (Lib.trimPrefix line http11b)).size 3 3 && allB digitB (ba (Lib.trimPrefix line http11b)))) := by
  by_cases hp : Lib.hasPrefix line http11b = true
  · have h9 : http11b <+: line := List.isPrefixOf_iff_prefix.1 hp
    obtain ⟨r, rfl⟩ := h9
    have ht : Lib.trimPrefix (http11b ++ r) http11b = r := by unfold Lib.trimPrefix; rw [if_pos hp]; exact List.drop_left
    rw [hp, ht, Bool.true_and]
    unfold lineOK
    have e1 : (http11b ++ r).take 9 = http11b := List.take_left' rfl
    have e2 : (http11b ++ r).drop 9 = r := List.drop_left' rfl
    rw [e1, e2]
    unfold deltaOk inB
    rw [ba_size]
    by_cases h3 : r.length = 3
    · simp [h3, http11b]
    · have : ¬ (9 + r.length = 12) := by omega
      have h4 : ¬ ((3 : Int) ≤ (r.length : Int) ∧ (r.length : Int) ≤ 3) := by omega
      simp only [List.length_append, List.length_cons, List.length_nil]
      rw [decide_eq_false (show ¬ (0 + 1 + 1 + 1 + 1 + 1 + 1 + 1 + 1 + 1 + r.length = 12) by omega)]
      by_cases h5 : (3 : Int) ≤ (r.length : Int)
      · rw [decide_eq_false (show ¬ ((r.length : Int) ≤ 3) by omega)]; simp
      · rw [decide_eq_false h5]; simp
  · simp only [Bool.not_eq_true] at hp
    rw [hp, Bool.false_and]
    unfold lineOK
    rw [Bool.eq_false_iff]
    intro q
    simp only [Bool.and_eq_true, decide_eq_true_eq] at q
    have : http11b <+: line := ⟨line.drop 9, by rw [← q.1.2]; exact List.take_append_drop 9 line⟩
    have := List.isPrefixOf_iff_prefix.2 this
    unfold Lib.hasPrefix at hp
    rw [this] at hp
    cases hp
end Go.Proofs.YthiogijicknoiaaDoor

/- From a claim's first world: what is listed, and the shape of the library's variables. -/
namespace Go.Proofs.YthiogijicknoiaaDoor
theorem handed_and_shaped {H : Type} {enc : TypeId × Value → H} {a : Assume} {C : Checked} {os : Os} {f : FuncId} {fn : Func} {s : ChangeSpec} {conds : List PathCond} {apart fresh handsOn again : Bool} {X : World → Array Value → Prop}
    (hX : ∀ (w w' : World) (args : Array Value), w.heap = w'.heap → X w args → X w' args)
    (own : ownKnob C.prog.godebug = none) (started : os.Started) (noInit : C.prog.inits.idxOf? f = none) (hfn : C.prog.funcs[f]? = some fn)
    (witness : ∃ (w : World) (tape : Tape) (i : Input), w.os = os ∧ (w.forCall tape i).Shaped C.prog ∧ i.vars = [] ∧ Input.okWide C.prog (w.forCall tape i) .any w.heap.size f i ∧
      ((s.pre enc C.prog fn conds apart (w.forCall tape i).memory i.args ∧ X (w.forCall tape i).memory i.args) ∧ sizedMet enc C.prog fn (OpenSpec.ofChange s) apart (w.forCall tape i).memory i.args) ∧ a.holds C.prog (lone (Frame.enter C.prog f i.args .normal) [] (w.forCall tape i)))
    (contract : ∀ (W : World) (base : Nat) (args : Array Value) (ds gs : List (DataW H)) (before : List MemPlace),
      (∀ (j : Nat) t v, fn.params[j]? = some t → args[j]? = some v → Value.okWide C.prog W .any base t v) →
      DataW.Whole enc C.prog fn.params.toList s.vars apart W args.toList ds gs before →
      conds.all (PathCond.test C.prog ⟨fn.params.toList, ds, s.plain.varTypes C.prog, gs⟩) = true →
      (DataW.weightsEach C.prog (fn.params.toList ++ s.plain.varTypes C.prog) (ds ++ gs)).all (· ≤ reachBytes) = true → X W args →
      W.ShapedOpen C.prog →
      a.holds C.prog (lone (Frame.enter C.prog f args .normal) [] W) →
      Calls C.prog f args W fun e W' => ∃ v, e = .returned v ∧ s.post enc C.prog fn apart fresh handsOn again W args v W') :
    ReturnsInHanded a C os f .any (fun w args => (s.pre enc C.prog fn conds apart w args ∧ X w args) ∧ sizedMet enc C.prog fn (OpenSpec.ofChange s) apart w args) (s.post enc C.prog fn apart fresh handsOn again) := by
  refine returnsInHanded_of_calls own started noInit witness ?_
  intro w tape i _ hsh _ hok hpre hholds
  obtain ⟨_, _, _, fn', hfn', _, _, _, _, hval⟩ := hok
  have e : fn' = fn := Option.some.inj (hfn'.symm.trans hfn)
  subst e
  obtain ⟨⟨⟨ds, gs, before, hw, hc⟩, hx⟩, hz⟩ := hpre
  have hw' := DataW.Whole.of_heap (w' := w.forCall tape i) (by rfl) hw
  refine (contract (w.forCall tape i) w.heap.size i.args ds gs before hval hw' hc (hz.weights hw) (hX _ _ _ (by rfl) hx) hsh hholds).mono fun e W' ⟨v, he, hp⟩ => ?_
  subst he
  exact ChangeSpec.post_blind hp
end Go.Proofs.YthiogijicknoiaaDoor
