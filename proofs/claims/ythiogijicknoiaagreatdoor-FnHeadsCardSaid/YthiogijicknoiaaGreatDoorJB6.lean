/- Joined: ReadP, MaxL, RspF, Shape. -/
import Derived.Test.YthiogijicknoiaaGreatDoorJB0
import Derived.Test.YthiogijicknoiaaGreatDoorJB5
import Derived.Test.YthiogijicknoiaaGreatDoorJB1
import Derived.Test.YthiogijicknoiaaGreatDoorShelf
import Derived.Test.YthiogijicknoiaaGreatDoorJB4
import Derived.Test.YthiogijicknoiaaGreatDoorRows
import Derived.ProofKit
import Derived.Handed
import Derived.HandedShaped
/- Plain words: the head lines that a text tells. No program in sight. -/
namespace Go.Proofs.YthiogijicknoiaaGreatDoor
open Go.RowKit

def ba (l : List UInt8) : ByteArray := ⟨l.toArray⟩
theorem ba_list (l : List UInt8) : (ba l).data.toList = l := by simp [ba]
theorem ba_size (l : List UInt8) : (ba l).size = l.length := by simp [ba, ByteArray.size]
theorem ba_of (s : ByteArray) : ba s.data.toList = s := by apply ByteArray.ext; simp [ba]
theorem map_ba (l : List (List UInt8)) : (l.map ba).map (·.data.toList) = l := by
  rw [List.map_map]
  exact (List.map_congr_left fun x _ => ba_list x).trans (List.map_id _)
/-- The ended lines of a text, and what stands behind the last of them. -/
def linesB (t : ByteArray) : List ByteArray := (linesGo [] t.data.toList).1.map ba
def linesE (t : ByteArray) : List UInt8 := (linesGo [] t.data.toList).2
theorem linesB_split (t : ByteArray) : (linesB t ++ [ba (linesE t)]).map (·.data.toList) = Lib.split t.data.toList [13, 10] := by
  rw [← linesGo_eq, List.map_append, linesB, linesE, map_ba]
  simp [ba]
/-- The head line of a line. -/
def hdOf (s : ByteArray) : Option Hd := if (Lib.cut s.data.toList [58]).2.2 = true then some (ba (Lib.cut s.data.toList [58]).1, trimT (ba (Lib.cut s.data.toList [58]).2.1)) else none
theorem hdOf_at {s : ByteArray} {i : Nat} (hi : i < s.size) (hc : s[i] = 58) (hn : ∀ j (hj : j < s.size), j < i → s[j] ≠ 58) : hdOf s = some (ba (s.data.toList.take i), trimT (ba (s.data.toList.drop (i + 1)))) := by
  have e := cut_at (s := s.data.toList) (c := 58) (i := i) (by rw [Array.length_toList]; exact hi) (by rw [Array.getElem_toList]; exact hc) (fun j hj => by
    have hjs : j < s.size := by omega
    rw [Array.getElem_toList]; exact hn j hjs hj)
  unfold hdOf
  rw [e, if_pos rfl]
theorem hdOf_none {s : ByteArray} (hn : ∀ j (hj : j < s.size), s[j] ≠ 58) : hdOf s = none := by
  have e := cut_none (s := s.data.toList) (c := 58) (fun j hj => by
    rw [Array.length_toList] at hj
    rw [Array.getElem_toList]; exact hn j hj)
  unfold hdOf
  rw [e, if_neg (by simp)]
theorem readAll_succ {α β : Type} {f : α → Option β} {l : List α} {k : Nat} {r : List β} {x : β} (h : (l.take k).mapM f = some r) (hk : k < l.length) (hx : f l[k] = some x) : (l.take (k + 1)).mapM f = some (r ++ [x]) := by
  rw [List.take_succ_eq_append_getElem hk, List.mapM_append, h]
  simp [hx]
theorem readAll_none {α β : Type} {f : α → Option β} {l : List α} {k : Nat} (hk : k < l.length) (hx : f l[k] = none) {r : List β} (h : (l.take k).mapM f = some r) : l.mapM f = none := by
  have e : l.take k ++ l[k] :: l.drop (k + 1) = l := by rw [← List.drop_eq_getElem_cons hk, List.take_append_drop]
  have e2 : (l.take k ++ l[k] :: l.drop (k + 1)).mapM f = none := by rw [List.mapM_append, h, List.mapM_cons, hx]; rfl
  rw [e] at e2
  exact e2
theorem readAll_len {α β : Type} {f : α → Option β} : ∀ {l : List α} {r : List β}, l.mapM f = some r → r.length = l.length
  | [], r, h => by simp at h; subst h; rfl
  | x :: l, r, h => by
    rw [List.mapM_cons] at h
    cases hx : f x with
    | none => simp [hx] at h
    | some y =>
      cases hl : l.mapM f with
      | none => simp [hx, hl] at h
      | some q =>
        simp [hx, hl] at h
        subst h
        simp [readAll_len hl]
theorem readAll_take_len {α β : Type} {f : α → Option β} {l : List α} {k : Nat} {r : List β} (h : (l.take k).mapM f = some r) (hk : k ≤ l.length) : r.length = k := by
  rw [readAll_len h, List.length_take]; omega
/-- What is read of a text. -/
def readR (t : ByteArray) : Int × List Hd :=
  if 6000 < t.size then (2, []) else if linesE t ≠ [] then (5, []) else
    match (linesB t).mapM hdOf with
    | none => (5, [])
    | some l => if hdsFault l = 0 then (0, l) else (hdsFault l, [])
theorem linesGo_len : ∀ (s cur : List UInt8), (linesGo cur s).1.length ≤ s.length
  | [], cur => by simp [linesGo]
  | [b], cur => by simp [linesGo]
  | b :: c :: r, cur => by
    unfold linesGo
    split
    · have := linesGo_len r []
      simp only [List.length_cons]; omega
    · have := linesGo_len (c :: r) (cur ++ [b])
      simp only [List.length_cons] at this ⊢; omega
termination_by s => s.length
theorem linesGo_mem : ∀ (s cur : List UInt8), ∀ x ∈ (linesGo cur s).1, x.length ≤ cur.length + s.length
  | [], cur => by simp [linesGo]
  | [b], cur => by simp [linesGo]
  | b :: c :: r, cur => by
    intro x hx
    unfold linesGo at hx
    split at hx
    · rcases List.mem_cons.1 hx with rfl | hx
      · simp only [List.length_cons]; omega
      · have := linesGo_mem r [] x hx
        simp only [List.length_cons, List.length_nil] at this ⊢; omega
    · have := linesGo_mem (c :: r) (cur ++ [b]) x hx
      simp only [List.length_cons, List.length_append, List.length_nil] at this ⊢; omega
termination_by s => s.length
theorem linesB_len (t : ByteArray) : (linesB t).length ≤ t.size := by
  have := linesGo_len t.data.toList []
  rw [Array.length_toList] at this
  rw [linesB, List.length_map]; exact this
theorem linesB_mem (t : ByteArray) : ∀ x ∈ linesB t, x.size ≤ t.size := by
  intro x hx
  obtain ⟨y, hy, rfl⟩ := List.mem_map.1 hx
  have := linesGo_mem t.data.toList [] y hy
  simp only [Array.length_toList, List.length_nil] at this
  rw [ba_size]
  have e : t.data.size = t.size := rfl
  omega
theorem linesE_nil (t : ByteArray) : linesE t = [] ↔ t.data.toList = [] ∨ [13, 10] <:+ t.data.toList := by
  unfold linesE; rw [linesGo_end]; simp
theorem linesGo_step {s cur : List UInt8} {i : Nat} (h : i + 1 < s.length) (hne : ¬ (s[i] = 13 ∧ s[i + 1] = 10)) : linesGo cur (s.drop i) = linesGo (cur ++ [s[i]]) (s.drop (i + 1)) := by
  rw [List.drop_eq_getElem_cons (by omega : i < s.length), List.drop_eq_getElem_cons h]
  conv => lhs; unfold linesGo
  rw [if_neg hne]
theorem linesGo_line {s cur : List UInt8} {i : Nat} (h : i + 1 < s.length) (h1 : s[i] = 13) (h2 : s[i + 1] = 10) : linesGo cur (s.drop i) = (cur :: (linesGo [] (s.drop (i + 2))).1, (linesGo [] (s.drop (i + 2))).2) := by
  rw [List.drop_eq_getElem_cons (by omega : i < s.length), List.drop_eq_getElem_cons h]
  conv => lhs; unfold linesGo
  rw [if_pos ⟨h1, h2⟩]
theorem linesGo_stop {s cur : List UInt8} {i : Nat} (h : ¬ i + 1 < s.length) : linesGo cur (s.drop i) = ([], cur ++ s.drop i) := by
  by_cases hi : i < s.length
  · rw [List.drop_eq_getElem_cons hi, List.drop_of_length_le (by omega)]
    simp [linesGo]
  · rw [List.drop_of_length_le (by omega)]
    simp [linesGo]
/-- Where a reader of lines stands: at i, the line begun at f, the lines done. -/
def LinesAt (t : ByteArray) (f i : Nat) (done : List ByteArray) : Prop :=
  f ≤ i ∧ i ≤ t.size ∧ linesB t = done ++ (linesGo ((t.data.toList.take i).drop f) (t.data.toList.drop i)).1.map ba ∧ linesE t = (linesGo ((t.data.toList.take i).drop f) (t.data.toList.drop i)).2
theorem LinesAt.start (t : ByteArray) : LinesAt t 0 0 [] := ⟨Nat.le_refl _, Nat.zero_le _, by simp [linesB], by simp [linesE]⟩
theorem take_drop_snoc {s : List UInt8} {f i : Nat} (h : i < s.length) (hf : f ≤ i) : (s.take (i + 1)).drop f = (s.take i).drop f ++ [s[i]] := by
  rw [List.take_succ_eq_append_getElem h, List.drop_append_of_le_length (by rw [List.length_take]; omega)]
theorem LinesAt.step {t : ByteArray} {f i : Nat} {done : List ByteArray} (h : LinesAt t f i done) (hi : i + 1 < t.size) (hne : ¬ (t[i] = 13 ∧ t[i + 1] = 10)) : LinesAt t f (i + 1) done := by
  obtain ⟨h1, h2, h3, h4⟩ := h
  have hl : i + 1 < t.data.toList.length := by rw [Array.length_toList]; exact hi
  have hne' : ¬ (t.data.toList[i] = 13 ∧ t.data.toList[i + 1] = 10) := by rw [Array.getElem_toList, Array.getElem_toList]; exact hne
  rw [linesGo_step hl hne', ← take_drop_snoc (by omega) h1] at h3 h4
  exact ⟨by omega, by omega, h3, h4⟩
theorem LinesAt.line {t : ByteArray} {f i : Nat} {done : List ByteArray} (h : LinesAt t f i done) (hi : i + 1 < t.size) (e1 : t[i] = 13) (e2 : t[i + 1] = 10) : LinesAt t (i + 2) (i + 2) (done ++ [ba ((t.data.toList.take i).drop f)]) := by
  obtain ⟨h1, h2, h3, h4⟩ := h
  have hl : i + 1 < t.data.toList.length := by rw [Array.length_toList]; exact hi
  rw [linesGo_line hl (by rw [Array.getElem_toList]; exact e1) (by rw [Array.getElem_toList]; exact e2)] at h3 h4
  refine ⟨Nat.le_refl _, by omega, ?_, ?_⟩
  · rw [h3, List.drop_take_self]; simp
  · rw [h4, List.drop_take_self]
theorem LinesAt.stop {t : ByteArray} {f i : Nat} {done : List ByteArray} (h : LinesAt t f i done) (hi : ¬ i + 1 < t.size) : linesB t = done ∧ (linesE t = [] ↔ f = t.size) := by
  obtain ⟨h1, h2, h3, h4⟩ := h
  have hl : ¬ i + 1 < t.data.toList.length := by rw [Array.length_toList]; exact hi
  rw [linesGo_stop hl] at h3 h4
  refine ⟨by simpa using h3, ?_⟩
  have e : (t.data.toList.take i).drop f ++ t.data.toList.drop i = t.data.toList.drop f := by
    conv => rhs; rw [← List.take_append_drop i t.data.toList]
    rw [List.drop_append_of_le_length (by rw [List.length_take, Array.length_toList]; have e : t.data.size = t.size := rfl; omega)]
  simp only [] at h4
  rw [e] at h4
  rw [h4, List.drop_eq_nil_iff, Array.length_toList]
  have e2 : t.data.size = t.size := rfl
  omega
end Go.Proofs.YthiogijicknoiaaGreatDoor

/- The library's texts cut and split: the contracts of the shelf, where the library's variable MaxLen holds a number. -/
namespace Go.Proofs.YthiogijicknoiaaGreatDoor
open Go.RowKit
set_option linter.unusedVariables false

def MaxL (w : World) : Prop := ∃ m : Int, w.cell? ⟨0, 0, none⟩ = some (.int .i64 m)
theorem MaxL.then {w w' : World} (h : MaxL w) (hb : Below w.heap.size w w') : MaxL w' := by
  obtain ⟨m, hm⟩ := h
  exact ⟨m, (hb.cell (p := ⟨0, 0, none⟩) (World.block_lt_of_cell? w _ hm)).trans hm⟩
theorem MaxL.of_shape {w : World} (h : w.ShapedOpen Tryz.prog) : MaxL w := Tryz.laysM145.s1_3 w h
theorem below_drewN' (w : World) (n : Nat) : Below w.heap.size w (w.drewN n) := below_drewN (Below.refl _ _) n
theorem strings_Cut (s sep : ByteArray) (hs : s.size ≤ 100000000) (w : World) (hm : MaxL w) :
    Calls Tryz.prog 72 #[.string s, .string sep] w fun e w' => e = .returned (.tuple #[.string (ba (Lib.cut s.data.toList sep.data.toList).1), .string (ba (Lib.cut s.data.toList sep.data.toList).2.1), .bool (Lib.cut s.data.toList sep.data.toList).2.2]) ∧ Below w.heap.size w w' := by
  obtain ⟨m, hm⟩ := hm
  refine (Tryz.strings_Cut s sep m w (by omega) hm).mono ?_
  rintro e w' ⟨rfl, n, rfl⟩
  exact ⟨rfl, below_drewN' w n⟩
theorem map_inj {l m : List ByteArray} (h : l.map (·.data.toList) = m.map (·.data.toList)) : l = m :=
  List.map_inj_right (f := fun s : ByteArray => s.data.toList) (fun x y e => by apply ByteArray.ext; exact Array.toList_inj.1 e) |>.1 h
theorem row_of_blk {w : World} {g : Nat} {xs : List Value} {e : TypeId} (h : w.heap[g]? = some (.cells xs.toArray e (0, 0))) : RowAt w g xs := ⟨xs.toArray, e, 0, 0, h, by simp, fun i _ => by omega⟩
theorem own_ne {w : World} {lo g gl n cap size : Nat} {e e' : TypeId} {xs : List Value} {C : Array Value} {f : Nat × Nat} (h : w.ownsRow lo e size (.slice (some ⟨g, 0, none⟩) n cap) n xs) (hb : w.heap[gl]? = some (.cells C e' f)) (hne : e ≠ e') : g ≠ gl := by
  intro q
  subst q
  rcases h.2 with ⟨hn, _⟩ | ⟨g', cap', cur, hv, _, hg, _⟩
  · cases hn
  · cases hv
    rw [hg] at hb
    have := Option.some.inj hb
    injection this with _ h2 _
    exact hne h2
theorem own_blk {w w' : World} {gl g n cap : Nat} {o : Obj} (hb : w.heap[gl]? = some o) (h : ∀ k, k < w.heap.size → some k ≠ (Value.slice (some ⟨g, 0, none⟩) n cap).ownBlock → w'.heap[k]? = w.heap[k]?) (hne : g ≠ gl) : w'.heap[gl]? = some o :=
  (h gl (Array.getElem?_eq_some_iff.1 hb).1 (fun e => hne (by have := Option.some.inj (e : some gl = some g); exact this.symm))).trans hb
/-- strings.Split: in the words of the pieces. -/
theorem strings_Split (s sep : ByteArray) (hs : s.size ≤ 100000000) (h1 : 1 ≤ sep.size) (w : World) (hm : MaxL w) (L : List ByteArray) (hL : L.map (·.data.toList) = Lib.split s.data.toList sep.data.toList) :
    Calls Tryz.prog 74 #[.string s, .string sep] w fun e w' => e = .returned (.slice (some ⟨w.heap.size, 0, none⟩) L.length L.length) ∧ w'.heap[w.heap.size]? = some (.cells (strV L).toArray 9 (0, 0)) ∧ Below w.heap.size w w' ∧ w.heap.size < w'.heap.size := by
  obtain ⟨m, hm⟩ := hm
  have hsep : sep.data.toList ≠ [] := by
    intro q
    have : sep.data.toList.length = 0 := by rw [q]; rfl
    rw [Array.length_toList] at this
    have e : sep.data.size = sep.size := rfl
    omega
  have hlen := split_len hsep _ s.data.toList (Nat.le_refl _)
  have hcount : Lib.countB s sep + 1 = L.length := by
    have := congrArg List.length hL
    rw [List.length_map, hlen] at this
    rw [this]
  have hlist : Lib.splitB sep 0 (Lib.countB s sep) s = L := by
    apply map_inj
    rw [hL, Lib.splitB_data]; rfl
  refine (Tryz.strings_Split s sep m w (by omega) hm h1).mono ?_
  rintro e w' ⟨rfl, rfl⟩
  rw [hcount, hlist]
  refine ⟨rfl, ?_, below_alloc (Below.refl _ _) _, by simp⟩
  rw [blk_new]; rfl
end Go.Proofs.YthiogijicknoiaaGreatDoor

/- The code of a response. -/
namespace Go.Proofs.YthiogijicknoiaaGreatDoor
open Go.RowKit
set_option linter.unusedSimpArgs false
set_option linter.unusedVariables false

def rspFault (t : Int) (l : List Hd) (nb : Nat) : Int := if inB t 200 599 = false then 3 else if hdsFault l ≠ 0 then hdsFault l else if 2000 < nb then 2 else 0
theorem impl_isStatus (t : Int) (w : World) : Calls Tryz.prog 93 #[.int .i64 t] w fun e w' => e = .returned (.bool (inB t 200 599)) ∧ w = w' := by
  go_enter Tryz.func93, Tryz.ntmps93
  go_wp2_with (go_at_call 140; ((with_reducible refine (impl_within _ _ _ _).mono ?_); rintro e w' ⟨rfl, rfl⟩))
  all_goals (go_ret; exact ⟨by first | rfl | (simp [*]; done) | (simp [*]; omega), by first | (with_reducible rfl) | exact (by first | (with_reducible exact Below.refl _ _) | ((repeat' (first | (with_reducible exact Below.refl _ _) | (with_reducible assumption) | (with_reducible refine below_alloc ?_ _) | (with_reducible refine Below.drew ?_) | (with_reducible refine below_drewN ?_ _) | (with_reducible refine Below.setCell ?_ ?_ _) | refine below_then ?_ (by with_reducible assumption))) <;> (first | omega | (simp; done) | (simp; omega))))⟩)
set_option maxHeartbeats 1600000 in
theorem spec_ResponseFault (t : Int) (a : Option Addr) (n c : Nat) (l : List Hd) (hl : l.length = n) (ab : Option Addr) (nb cb : Nat) (w : World) (hr : Rd w a (hV l)) (hn : n ≤ 9223372036854775807) (hnb : nb ≤ 9223372036854775807)
    (hs : ∀ h ∈ l, h.1.size ≤ 9223372036854775807 ∧ h.2.size ≤ 9223372036854775807) : Calls Tryz.prog 51 #[.agg #[.int .i64 t, .slice a n c, .slice ab nb cb]] w fun e w' => e = .returned (.int .i64 (rspFault t l nb)) ∧ Below w.heap.size w w' := by
  have Hl := Lib.hid hl
  have Hs := Lib.hid hs
  clear hl hs
  go_enter Tryz.func51, Tryz.ntmps51
  go_wp2_with (first | (go_at_call 111; ((with_reducible refine (spec_l1In _ _ _ _).mono ?_); rintro e w' ⟨rfl, rfl⟩)) | (go_at_call 40; ((with_reducible refine (spec_HeadersFault _ _ _ l Hl.out _ (by first | (with_reducible assumption) | exact RowAt.rd (by repeat' (first | (with_reducible assumption) | (with_reducible refine RowAt.alloc ?_ _) | (with_reducible refine RowAt.drew ?_) | (with_reducible refine RowAt.other ?_ _ _ (by first | omega | (simp; done) | (simp; omega))) | refine RowAt.then ?_ (by with_reducible assumption))) | exact Rd.below (by with_reducible assumption) (by first | (with_reducible exact Below.refl _ _) | ((repeat' (first | (with_reducible exact Below.refl _ _) | (with_reducible assumption) | (with_reducible refine below_alloc ?_ _) | (with_reducible refine Below.drew ?_) | (with_reducible refine below_drewN ?_ _) | (with_reducible refine Below.setCell ?_ ?_ _) | refine below_then ?_ (by with_reducible assumption))) <;> (first | omega | (simp; done) | (simp; omega))))) hn Hs.out).mono ?_); rintro e w' ⟨rfl, hb⟩; obtain ⟨hc, hf⟩ := bcell hb; have hz := hb.size; (try simp only [World.size_alloc, World.size_setCell, World.size_drew] at hz); obtain ⟨hlt, hle, hn1, hn2, hn3, hn4⟩ := bsize hb; (try simp only [World.size_alloc, World.size_setCell, World.size_drew] at hlt hle hn1 hn2 hn3 hn4); (try have hr0 : w.heap.size < w'.heap.size := by omega); (try have hr1 : w.heap.size + 1 < w'.heap.size := by omega); (try have hs0 : wS.heap.size < w'.heap.size := by omega); (try have hs1 : wG.heap.size < w'.heap.size := by omega))))
  all_goals (go_ret; exact ⟨ret_int (by first | (simp_all [rspFault]; done) | (simp_all [rspFault]; omega)), (by first | (with_reducible exact Below.refl _ _) | ((repeat' (first | (with_reducible exact Below.refl _ _) | (with_reducible assumption) | (with_reducible refine below_alloc ?_ _) | (with_reducible refine Below.drew ?_) | (with_reducible refine below_drewN ?_ _) | (with_reducible refine Below.setCell ?_ ?_ _) | refine below_then ?_ (by with_reducible assumption))) <;> (first | omega | (simp; done) | (simp; omega))))⟩)
set_option maxHeartbeats 1600000 in
theorem impl_ResponseFault (t : Int) (a : Option Addr) (n c : Nat) (l : List Hd) (hl : l.length = n) (ab : Option Addr) (nb cb : Nat) (w : World) (hr : Rd w a (hV l)) (hn : n ≤ 9223372036854775807) (hnb : nb ≤ 9223372036854775807)
    (hs : ∀ h ∈ l, h.1.size ≤ 9223372036854775807 ∧ h.2.size ≤ 9223372036854775807) : Calls Tryz.prog 33 #[.agg #[.int .i64 t, .slice a n c, .slice ab nb cb]] w fun e w' => e = .returned (.int .i64 (rspFault t l nb)) ∧ Below w.heap.size w w' := by
  have Hl := Lib.hid hl
  have Hs := Lib.hid hs
  clear hl hs
  go_enter Tryz.func33, Tryz.ntmps33
  go_wp2_with (first | (go_at_call 93; ((with_reducible refine (impl_isStatus _ _).mono ?_); rintro e w' ⟨rfl, rfl⟩)) | (go_at_call 41; ((with_reducible refine (impl_HeadersFault _ _ _ l Hl.out _ (by first | (with_reducible assumption) | exact RowAt.rd (by repeat' (first | (with_reducible assumption) | (with_reducible refine RowAt.alloc ?_ _) | (with_reducible refine RowAt.drew ?_) | (with_reducible refine RowAt.other ?_ _ _ (by first | omega | (simp; done) | (simp; omega))) | refine RowAt.then ?_ (by with_reducible assumption))) | exact Rd.below (by with_reducible assumption) (by first | (with_reducible exact Below.refl _ _) | ((repeat' (first | (with_reducible exact Below.refl _ _) | (with_reducible assumption) | (with_reducible refine below_alloc ?_ _) | (with_reducible refine Below.drew ?_) | (with_reducible refine below_drewN ?_ _) | (with_reducible refine Below.setCell ?_ ?_ _) | refine below_then ?_ (by with_reducible assumption))) <;> (first | omega | (simp; done) | (simp; omega))))) hn Hs.out).mono ?_); rintro e w' ⟨rfl, hb⟩; obtain ⟨hc, hf⟩ := bcell hb; have hz := hb.size; (try simp only [World.size_alloc, World.size_setCell, World.size_drew] at hz); obtain ⟨hlt, hle, hn1, hn2, hn3, hn4⟩ := bsize hb; (try simp only [World.size_alloc, World.size_setCell, World.size_drew] at hlt hle hn1 hn2 hn3 hn4); (try have hr0 : w.heap.size < w'.heap.size := by omega); (try have hr1 : w.heap.size + 1 < w'.heap.size := by omega); (try have hs0 : wS.heap.size < w'.heap.size := by omega); (try have hs1 : wG.heap.size < w'.heap.size := by omega))))
  all_goals (go_ret; exact ⟨ret_int (by first | (simp_all [rspFault]; done) | (simp_all [rspFault]; omega)), (by first | (with_reducible exact Below.refl _ _) | ((repeat' (first | (with_reducible exact Below.refl _ _) | (with_reducible assumption) | (with_reducible refine below_alloc ?_ _) | (with_reducible refine Below.drew ?_) | (with_reducible refine below_drewN ?_ _) | (with_reducible refine Below.setCell ?_ ?_ _) | refine below_then ?_ (by with_reducible assumption))) <;> (first | omega | (simp; done) | (simp; omega))))⟩)
end Go.Proofs.YthiogijicknoiaaGreatDoor

/- From a claim's first world: what is listed, and the shape of the library's variables. -/
namespace Go.Proofs.YthiogijicknoiaaGreatDoor
theorem handed_and_shaped {H : Type} {enc : TypeId × Value → H} {a : Assume} {C : Checked} {os : Os} {f : FuncId} {fn : Func} {s : ChangeSpec} {conds : List PathCond} {apart fresh handsOn again : Bool} {X : World → Array Value → Prop}
    (hX : ∀ (w w' : World) (args : Array Value), w.heap = w'.heap → X w args → X w' args)
    (own : ownKnob C.prog.godebug = none) (started : os.Started) (noInit : C.prog.inits.idxOf? f = none) (hfn : C.prog.funcs[f]? = some fn)
    (witness : ∃ (w : World) (tape : Tape) (i : Input), w.os = os ∧ (w.forCall tape i).Shaped C.prog ∧ i.vars = [] ∧ Input.okWide C.prog (w.forCall tape i) .any w.heap.size f i ∧
      ((s.pre enc C.prog fn conds apart (w.forCall tape i).memory i.args ∧ X (w.forCall tape i).memory i.args) ∧ sizedMet enc C.prog fn (OpenSpec.ofChange s) apart (w.forCall tape i).memory i.args) ∧ a.holds C.prog (lone (Frame.enter C.prog f i.args .normal) [] (w.forCall tape i)))
    (contract : ∀ (W : World) (base : Nat) (args : Array Value) (ds gs : List (DataW H)) (before : List MemPlace),
      (∀ (j : Nat) t v, fn.params[j]? = some t → args[j]? = some v → Value.okWide C.prog W .any base t v) →
      DataW.Whole enc C.prog fn.params.toList s.vars apart W args.toList ds gs before →
      conds.all (PathCond.test C.prog ⟨fn.params.toList, ds, s.plain.varTypes C.prog, gs⟩) = true →
      (DataW.weightsEach C.prog (fn.params.toList ++ s.plain.varTypes C.prog) (ds ++ gs)).all (· ≤ reachBytes) = true → X W args →
      W.ShapedOpen C.prog →
      a.holds C.prog (lone (Frame.enter C.prog f args .normal) [] W) →
      Calls C.prog f args W fun e W' => ∃ v, e = .returned v ∧ s.post enc C.prog fn apart fresh handsOn again W args v W') :
    ReturnsInHanded a C os f .any (fun w args => (s.pre enc C.prog fn conds apart w args ∧ X w args) ∧ sizedMet enc C.prog fn (OpenSpec.ofChange s) apart w args) (s.post enc C.prog fn apart fresh handsOn again) := by
  refine returnsInHanded_of_calls own started noInit witness ?_
  intro w tape i _ hsh _ hok hpre hholds
  obtain ⟨_, _, _, fn', hfn', _, _, _, _, hval⟩ := hok
  have e : fn' = fn := Option.some.inj (hfn'.symm.trans hfn)
  subst e
  obtain ⟨⟨⟨ds, gs, before, hw, hc⟩, hx⟩, hz⟩ := hpre
  have hw' := DataW.Whole.of_heap (w' := w.forCall tape i) (by rfl) hw
  refine (contract (w.forCall tape i) w.heap.size i.args ds gs before hval hw' hc (hz.weights hw) (hX _ _ _ (by rfl) hx) hsh hholds).mono fun e W' ⟨v, he, hp⟩ => ?_
  subst he
  exact ChangeSpec.post_blind hp
end Go.Proofs.YthiogijicknoiaaGreatDoor
