/- Joined: Bw, ReqP, KeyP, RspP, RspB, SortS, DelF. -/
import Derived.Test.YthiogijicknoiaaGreatDoorJB0
import Derived.Test.YthiogijicknoiaaGreatDoorJB10
import Derived.Test.YthiogijicknoiaaGreatDoorJB6
import Derived.Test.YthiogijicknoiaaGreatDoorJB7
import Derived.Test.YthiogijicknoiaaGreatDoorJB1
import Derived.Test.YthiogijicknoiaaGreatDoorShelf
import Derived.Shelf.SlicesE.DeleteFunc
/- A text laid as bytes. -/
namespace Go.Proofs.YthiogijicknoiaaGreatDoor
open Go.RowKit
set_option linter.unusedVariables false

theorem bw_below (w : World) (s : ByteArray) : Below w.heap.size w (Lib.bytesWorld w 5 s) := ⟨rfl, rfl, rfl, by rw [Lib.bytesWorld_size]; omega, fun k hk => Lib.bytesWorld_at_old w 5 s k hk⟩
theorem bw_row (w : World) (s : ByteArray) : RowAt (Lib.bytesWorld w 5 s) w.heap.size (bV s.data.toList) := by
  obtain ⟨cap, W, h1, h2, _⟩ := conv_there w s
  have h3 := Lib.run_convert_string_bytes (P := Tryz.prog) w 9 22 5 s Tryz.underlying9 Tryz.underlying22 Tryz.underlying5
  rw [h3] at h1
  injection h1 with _ e
  subst e
  exact h2
theorem bw_good (s : ByteArray) (W : World) (lo : Nat) (h : lo ≤ W.heap.size) : ∃ g cap W', (convert 9 22 (.string s)).run Tryz.prog W = .ok (.slice (some ⟨g, 0, none⟩) s.size cap) W' ∧ lo ≤ g ∧ RowAt W' g (bV s.data.toList) ∧ Below W.heap.size W W' := by
  have h3 := Lib.run_convert_string_bytes (P := Tryz.prog) W 9 22 5 s Tryz.underlying9 Tryz.underlying22 Tryz.underlying5
  exact ⟨_, _, _, h3, h, bw_row W s, bw_below W s⟩
end Go.Proofs.YthiogijicknoiaaGreatDoor

/- Plain words: a text cut at the first of some bytes; the request that bytes tell. No program in sight. -/
namespace Go.Proofs.YthiogijicknoiaaGreatDoor
open Go.RowKit
set_option linter.unusedVariables false

theorem occ_iff (s sub : List UInt8) (i : Nat) : Lib.occAt s sub i = true ↔ (s.drop i).take sub.length = sub := by
  unfold Lib.occAt
  rw [List.isPrefixOf_iff_prefix, List.prefix_iff_eq_take]
  exact ⟨fun h => h.symm, fun h => h.symm⟩
theorem cut_first {s sep : List UInt8} {i : Nat} (hi : i ≤ s.length) (hc : (s.drop i).take sep.length = sep) (hn : ∀ j, j < i → (s.drop j).take sep.length ≠ sep) : Lib.cut s sep = (s.take i, s.drop (i + sep.length), true) := by
  have e : Lib.index s sep = i := Lib.index_first hi ((occ_iff _ _ _).2 hc) (fun j hj => by
    rw [Bool.eq_false_iff]
    exact fun q => hn j hj ((occ_iff _ _ _).1 q))
  unfold Lib.cut
  rw [e, if_pos (by omega)]
  simp
theorem cut_never {s sep : List UInt8} (hn : ∀ j, j + sep.length ≤ s.length → (s.drop j).take sep.length ≠ sep) : Lib.cut s sep = (s, [], false) := by
  have e : Lib.index s sep = -1 := Lib.index_none (fun j hj => by
    rw [Bool.eq_false_iff]
    intro q
    have h := (occ_iff _ _ _).1 q
    refine hn j ?_ h
    have h2 := congrArg List.length h
    rw [List.length_take, List.length_drop] at h2
    omega)
  unfold Lib.cut
  rw [e, if_neg (by omega)]
theorem take2 {s : List UInt8} {i : Nat} {a b : UInt8} : (s.drop i).take 2 = [a, b] ↔ ∃ h : i + 1 < s.length, s[i] = a ∧ s[i + 1] = b := by
  by_cases h : i + 1 < s.length
  · rw [List.drop_eq_getElem_cons (by omega : i < s.length), List.drop_eq_getElem_cons h]
    simp only [List.take_succ_cons, List.take_zero, List.cons.injEq, and_true]
    exact ⟨fun q => ⟨h, q⟩, fun ⟨_, q⟩ => q⟩
  · refine ⟨fun e => ?_, fun ⟨h', _⟩ => absurd h' h⟩
    have h2 := congrArg List.length e
    rw [List.length_take, List.length_drop] at h2
    simp only [List.length_cons, List.length_nil] at h2
    omega
abbrev crlf : List UInt8 := [13, 10]
/-- A first line, and what stands behind it up to the last 13 and 10. -/
def firstR (t : List UInt8) : Option (List UInt8 × List UInt8) :=
  if (Lib.cut t crlf).2.2 = true ∧ ((Lib.cut t crlf).2.1 = crlf ∨ (crlf ++ crlf) <:+ (Lib.cut t crlf).2.1) then some ((Lib.cut t crlf).1, (Lib.cut t crlf).2.1.take ((Lib.cut t crlf).2.1.length - 2)) else none
theorem firstR_at {t : List UInt8} {i : Nat} (hi : i + 1 < t.length) (h1 : t[i] = 13) (h2 : t[i + 1] = 10) (hn : ∀ j (hj : j + 1 < t.length), j < i → ¬ (t[j] = 13 ∧ t[j + 1] = 10)) :
    firstR t = if t.drop (i + 2) = crlf ∨ (crlf ++ crlf) <:+ t.drop (i + 2) then some (t.take i, (t.drop (i + 2)).take ((t.drop (i + 2)).length - 2)) else none := by
  have e : Lib.cut t crlf = (t.take i, t.drop (i + 2), true) := cut_first (by omega) (take2.2 ⟨hi, h1, h2⟩) (fun j hj q => by
    obtain ⟨hh, hc⟩ := take2.1 q
    exact hn j hh hj hc)
  unfold firstR
  rw [e]
  simp
theorem firstR_never {t : List UInt8} (hn : ∀ j (hj : j + 1 < t.length), ¬ (t[j] = 13 ∧ t[j + 1] = 10)) : firstR t = none := by
  have e : Lib.cut t crlf = (t, [], false) := cut_never (fun j hj q => by
    obtain ⟨hh, hc⟩ := take2.1 q
    exact hn j hh hc)
  unfold firstR
  rw [e]
  simp
theorem suffix4 {l : List UInt8} (k : List UInt8) (hk : k.length = 4) : k <:+ l ↔ 4 ≤ l.length ∧ l.drop (l.length - 4) = k := by
  constructor
  · rintro ⟨a, rfl⟩
    rw [List.length_append, hk]
    refine ⟨by omega, ?_⟩
    rw [show a.length + 4 - 4 = a.length from by omega, List.drop_left]
  · rintro ⟨h1, h2⟩
    exact ⟨l.take (l.length - 4), by rw [← h2, List.take_append_drop]⟩
abbrev HostName : ByteArray := ⟨#[72, 111, 115, 116]⟩
abbrev http11 : List UInt8 := [72, 84, 84, 80, 47, 49, 46, 49]
abbrev Rq := ByteArray × ByteArray × ByteArray × List Hd
def noRq : Rq := (⟨#[]⟩, ⟨#[]⟩, ⟨#[]⟩, [])
def rqOf (line : List UInt8) (l : List Hd) : Option Rq :=
  if (Lib.split line [32]).length = 3 ∧ (Lib.split line [32])[2]? = some http11 ∧ (vals hostName l).length = 1 then
    some (ba ((Lib.split line [32])[0]!), (vals hostName l)[0]!, ba ((Lib.split line [32])[1]!), dropL hostName l) else none
def rqEnd : Option Rq → Int × Rq
  | none => (5, noRq)
  | some q => if rqFault q.1 q.2.1 q.2.2.1 q.2.2.2 = 0 then (0, q) else (rqFault q.1 q.2.1 q.2.2.1 q.2.2.2, noRq)
def rqMid : Option (List UInt8 × List UInt8) → Int × Rq
  | none => (5, noRq)
  | some p => if (readR (ba p.2)).1 = 0 then rqEnd (rqOf p.1 (readR (ba p.2)).2) else ((readR (ba p.2)).1, noRq)
/-- What bytes tell: a code, and a request. -/
def reqR (t : List UInt8) : Int × Rq := if 8000 < t.length then (2, noRq) else rqMid (firstR t)
theorem drop_host (l : List Hd) : dropL HostName l = dropL hostName l := by
  unfold dropL
  congr 1
  funext h
  rw [alike_host]
theorem vals_Host (l : List Hd) : vals HostName l = vals hostName l := vals_host l
theorem filter_len {α : Type} (p : α → Bool) (l : List α) : (l.filter p).length + (l.filter fun x => !p x).length = l.length := by
  induction l with
  | nil => rfl
  | cons x l ih =>
    cases h : p x <;> simp [h] <;> omega
theorem drop_vals_len (nm : ByteArray) (l : List Hd) : (vals nm l).length + (dropL nm l).length = l.length := by
  unfold vals dropL
  rw [List.length_map]
  exact filter_len _ l
theorem join_one {l : List ByteArray} (h : l.length = 1) : joinB commaS l = l[0]! := by
  match l, h with
  | [x], _ => exact joinB_one commaS x
theorem rqEnd_fault_len (o : Option Rq) : (rqEnd o).2.2.2.2.length ≤ 20 := by
  cases o with
  | none => exact Nat.zero_le _
  | some q =>
    unfold rqEnd
    by_cases h : rqFault q.1 q.2.1 q.2.2.1 q.2.2.2 = 0
    · simp only [h, if_pos]
      have h2 : hdsFault q.2.2.2 = 0 := by
        unfold rqFault at h
        split at h
        · omega
        · split at h
          · rename_i a b; exact absurd h b
          · rename_i a b; exact Decidable.not_not.1 b
      exact (hdsFault_0 h2).1
    · simp only [h, if_false]; exact Nat.zero_le _
theorem reqR_20 (t : List UInt8) : (reqR t).2.2.2.2.length ≤ 20 := by
  unfold reqR
  split
  · exact Nat.zero_le _
  · unfold rqMid
    split
    · exact Nat.zero_le _
    · split
      · exact rqEnd_fault_len _
      · exact Nat.zero_le _
end Go.Proofs.YthiogijicknoiaaGreatDoor

/- Plain words: texts in the order of their bytes; the key of a request. No program in sight. -/
namespace Go.Proofs.YthiogijicknoiaaGreatDoor
open Go.RowKit
set_option linter.unusedVariables false

/-- Put in behind all that are not greater. -/
def insG {α : Type} (le : α → α → Bool) (x : α) : List α → List α
  | [] => [x]
  | y :: t => if le y x = true then y :: insG le x t else x :: y :: t
def sortG {α : Type} (le : α → α → Bool) (l : List α) : List α := l.foldl (fun acc x => insG le x acc) []
theorem sortG_snoc {α : Type} (le : α → α → Bool) (l : List α) (x : α) : sortG le (l ++ [x]) = insG le x (sortG le l) := by simp [sortG]
theorem insG_perm {α : Type} (le : α → α → Bool) (x : α) : ∀ l : List α, (insG le x l).Perm (x :: l)
  | [] => .refl _
  | y :: t => by
    unfold insG
    split
    · exact ((insG_perm le x t).cons y).trans (List.Perm.swap x y t)
    · exact .refl _
theorem insG_len {α : Type} (le : α → α → Bool) (x : α) (l : List α) : (insG le x l).length = l.length + 1 := by
  rw [(insG_perm le x l).length_eq, List.length_cons]
theorem insG_mem {α : Type} {le : α → α → Bool} {x z : α} {l : List α} (h : z ∈ insG le x l) : z = x ∨ z ∈ l := by
  have := (insG_perm le x l).mem_iff.1 h
  simpa using this
theorem insG_sorted {α : Type} {le : α → α → Bool} (htot : ∀ a b, le a b = true ∨ le b a = true) (htr : ∀ a b c, le a b = true → le b c = true → le a c = true) (x : α) : ∀ {l : List α}, l.Pairwise (fun a b => le a b = true) → (insG le x l).Pairwise (fun a b => le a b = true)
  | [], _ => by simp [insG]
  | y :: t, h => by
    rw [List.pairwise_cons] at h
    unfold insG
    split
    · rename_i hy
      rw [List.pairwise_cons]
      refine ⟨fun z hz => ?_, insG_sorted htot htr x h.2⟩
      rcases insG_mem hz with rfl | hz
      · exact hy
      · exact h.1 z hz
    · rename_i hy
      have hxy : le x y = true := (htot y x).resolve_left hy
      rw [List.pairwise_cons, List.pairwise_cons]
      refine ⟨fun z hz => ?_, h⟩
      rcases List.mem_cons.1 hz with rfl | hz
      · exact hxy
      · exact htr _ _ _ hxy (h.1 z hz)
theorem sortG_both {α : Type} {le : α → α → Bool} (htot : ∀ a b, le a b = true ∨ le b a = true) (htr : ∀ a b c, le a b = true → le b c = true → le a c = true) (l : List α) : ∀ acc : List α, acc.Pairwise (fun a b => le a b = true) → (l.foldl (fun acc x => insG le x acc) acc).Pairwise (fun a b => le a b = true) ∧ (l.foldl (fun acc x => insG le x acc) acc).Perm (l ++ acc) := by
  induction l with
  | nil => intro acc h; exact ⟨h, .refl _⟩
  | cons x l ih =>
    intro acc h
    obtain ⟨h1, h2⟩ := ih _ (insG_sorted htot htr x h)
    refine ⟨h1, h2.trans ?_⟩
    refine ((insG_perm le x acc).append_left l).trans ?_
    simp
theorem perm_sorted_eq {α : Type} {le : α → α → Bool} (hanti : ∀ a b, le a b = true → le b a = true → a = b) : ∀ {l m : List α}, l.Perm m → l.Pairwise (fun a b => le a b = true) → m.Pairwise (fun a b => le a b = true) → l = m
  | [], m, h, _, _ => by rw [List.nil_perm.1 h]
  | x :: l, [], h, _, _ => by have := h.length_eq; simp at this
  | x :: l, y :: m, h, h1, h2 => by
    rw [List.pairwise_cons] at h1 h2
    have hxy : x = y := by
      have a1 : x ∈ y :: m := h.mem_iff.1 (List.mem_cons_self ..)
      have a2 : y ∈ x :: l := h.mem_iff.2 (List.mem_cons_self ..)
      rcases List.mem_cons.1 a1 with e | a1
      · exact e
      · rcases List.mem_cons.1 a2 with e | a2
        · exact e.symm
        · exact hanti _ _ (h1.1 y a2) (h2.1 x a1)
    subst hxy
    rw [perm_sorted_eq hanti ((List.perm_cons x).1 h) h1.2 h2.2]
abbrev Tx := List UInt8
def leT (x y : Tx) : Bool := decide (x ≤ y)
theorem leT_tot (a b : Tx) : leT a b = true ∨ leT b a = true := by
  simp only [leT, decide_eq_true_eq]; exact List.le_total a b
theorem leT_tr (a b c : Tx) : leT a b = true → leT b c = true → leT a c = true := by
  simp only [leT, decide_eq_true_eq]; exact fun h1 h2 => List.le_trans h1 h2
theorem leT_anti (a b : Tx) : leT a b = true → leT b a = true → a = b := by
  simp only [leT, decide_eq_true_eq]; exact fun h1 h2 => List.le_antisymm h1 h2
theorem sort_merge (l : List Tx) : l.mergeSort (fun x y => decide (x ≤ y)) = sortG leT l := by
  obtain ⟨h1, h2⟩ := sortG_both leT_tot leT_tr l [] List.Pairwise.nil
  rw [List.append_nil] at h2
  refine perm_sorted_eq leT_anti ((List.mergeSort_perm l _).trans h2.symm) ?_ h1
  have := List.pairwise_mergeSort (le := fun x y : Tx => decide (x ≤ y)) (fun a b c => leT_tr a b c) (fun a b => by
    have := leT_tot a b
    simp only [leT] at this
    simpa [Bool.or_eq_true] using this) l
  exact this
/-- As the reader of places has it. -/
theorem insG_at {α : Type} {le : α → α → Bool} {x : α} : ∀ {l : List α} {k : Nat}, k ≤ l.length → (∀ j (hj : j < l.length), j < k → le l[j] x = true) → (∀ h : k < l.length, le l[k] x = false) → insG le x l = l.take k ++ x :: l.drop k
  | [], k, hk, _, _ => by
    obtain rfl : k = 0 := by simpa using hk
    rfl
  | y :: t, 0, _, _, hn => by
    have := hn (by simp)
    simp only [List.getElem_cons_zero] at this
    simp [insG, this]
  | y :: t, k + 1, hk, ha, hn => by
    have h0 := ha 0 (by simp) (by omega)
    simp only [List.getElem_cons_zero] at h0
    rw [insG, if_pos h0, insG_at (l := t) (k := k) (by simpa using hk) (fun j hj hjk => by
      have := ha (j + 1) (by simpa using hj) (by omega)
      simpa using this) (fun h => by
      have := hn (by simpa using h)
      simpa using this)]
    simp
theorem sortT_perm (l : List Tx) : (sortG leT l).Perm l := by
  have := (sortG_both leT_tot leT_tr l [] List.Pairwise.nil).2
  rw [List.append_nil] at this
  exact this
theorem sortT_sorted (l : List Tx) : (sortG leT l).Pairwise (fun a b => leT a b = true) := (sortG_both leT_tot leT_tr l [] List.Pairwise.nil).1
theorem sortT_len (l : List Tx) : (sortG leT l).length = l.length := (sortT_perm l).length_eq
theorem sortT_twice (l : List Tx) : sortG leT (sortG leT l) = sortG leT l := perm_sorted_eq leT_anti (sortT_perm _) (sortT_sorted _) (sortT_sorted _)
def piecesOf (q : Tx) : List Tx := (Lib.split q [38]).filter fun p => !p.isEmpty
def sortedOf (q : Tx) : List ByteArray := (sortG leT (piecesOf q)).map ba
abbrev ampS : ByteArray := ⟨#[38]⟩
def queryT (l : List ByteArray) : ByteArray := if l = [] then ⟨#[]⟩ else ⟨#[63]⟩ ++ joinB ampS l
/-- The key of a host and a path. -/
def keyT (host path : ByteArray) : ByteArray := lowS host ++ ba (Lib.cut path.data.toList [63]).1 ++ queryT (sortedOf (Lib.cut path.data.toList [63]).2.1)
def keyR (m h p : ByteArray) (l : List Hd) : Int × ByteArray := if rqFault m h p l = 0 then (0, keyT h p) else (rqFault m h p l, ⟨#[]⟩)
def namedT (l : List Hd) (nm : ByteArray) : ByteArray := ⟨#[32]⟩ ++ lowS nm ++ ⟨#[61]⟩ ++ joinB commaS (vals nm l)
def fullTo (h p : ByteArray) (l : List Hd) : List ByteArray → ByteArray
  | ns => ⟨((keyT h p).data.toList ++ (ns.flatMap fun nm => (namedT l nm).data.toList)).toArray⟩
def namesF (ns : List ByteArray) : Int := if 4 < ns.length then 2 else if ns.all wordS = true then 0 else 5
def fullR (m h p : ByteArray) (l : List Hd) (ns : List ByteArray) : Int × ByteArray :=
  if rqFault m h p l = 0 then (if namesF ns = 0 then (0, fullTo h p l ns) else (namesF ns, ⟨#[]⟩)) else (rqFault m h p l, ⟨#[]⟩)
end Go.Proofs.YthiogijicknoiaaGreatDoor

/- Plain words: the response that bytes tell. No program in sight. -/
namespace Go.Proofs.YthiogijicknoiaaGreatDoor
open Go.RowKit
set_option linter.unusedVariables false

theorem least {p : Nat → Prop} (hp : ∀ i, p i ∨ ¬ p i) : ∀ {n : Nat}, p n → ∃ i, i ≤ n ∧ p i ∧ ∀ j, j < i → ¬ p j := by
  intro n
  induction n using Nat.strongRecOn with
  | ind n ih =>
    intro h
    by_cases hx : ∃ j, j < n ∧ p j
    · obtain ⟨j, hj, hpj⟩ := hx
      obtain ⟨i, h1, h2, h3⟩ := ih j hj hpj
      exact ⟨i, by omega, h2, h3⟩
    · exact ⟨n, Nat.le_refl _, h, fun j hj q => hx ⟨j, hj, q⟩⟩
theorem firstR_head (head : List UInt8) : (Lib.cut (head ++ crlf) crlf).2.2 = true ∧ firstR (head ++ crlf ++ crlf) = some ((Lib.cut (head ++ crlf) crlf).1, (Lib.cut (head ++ crlf) crlf).2.1) := by
  have hlen : (head ++ crlf).length = head.length + 2 := by simp
  have hend : ((head ++ crlf).drop head.length).take 2 = crlf := by simp
  obtain ⟨i, h1, h2, h3⟩ := least (p := fun i => ((head ++ crlf).drop i).take 2 = crlf) (fun i => Decidable.em _) hend
  have e1 : Lib.cut (head ++ crlf) crlf = ((head ++ crlf).take i, (head ++ crlf).drop (i + 2), true) := cut_first (by omega) h2 (fun j hj => h3 j hj)
  have same : ∀ j, j ≤ head.length → ((head ++ crlf ++ crlf).drop j).take 2 = ((head ++ crlf).drop j).take 2 := fun j hj => by
    rw [List.drop_append_of_le_length (by omega), List.take_append_of_le_length (by rw [List.length_drop]; omega)]
  have e2 : Lib.cut (head ++ crlf ++ crlf) crlf = ((head ++ crlf ++ crlf).take i, (head ++ crlf ++ crlf).drop (i + 2), true) := cut_first (by simp; omega) (by rw [show crlf.length = 2 from rfl, same i h1]; exact h2) (fun j hj => by
    rw [show crlf.length = 2 from rfl, same j (by omega)]; exact h3 j hj)
  have e3 : (head ++ crlf ++ crlf).take i = (head ++ crlf).take i := List.take_append_of_le_length (by omega)
  have e4 : (head ++ crlf ++ crlf).drop (i + 2) = (head ++ crlf).drop (i + 2) ++ crlf := List.drop_append_of_le_length (by omega)
  have hc : (head ++ crlf).drop (i + 2) ++ crlf = crlf ∨ (crlf ++ crlf) <:+ (head ++ crlf).drop (i + 2) ++ crlf := by
    by_cases hi : i = head.length
    · left
      rw [List.drop_of_length_le (by omega)]; rfl
    · right
      obtain ⟨hlt, g1, g2⟩ := take2.1 h2
      have hne : i + 1 ≠ head.length := by
        intro q
        rw [List.getElem_append_right (by omega)] at g2
        simp only [q, Nat.sub_self, List.getElem_cons_zero] at g2
        exact absurd g2 (by decide)
      rw [List.drop_append_of_le_length (by omega), List.append_assoc]
      exact List.suffix_append _ _
  refine ⟨by rw [e1], ?_⟩
  unfold firstR
  rw [e2, e1]
  simp only [true_and]
  rw [e4, if_pos hc, e3]
  simp
abbrev http11b : List UInt8 := [72, 84, 84, 80, 47, 49, 46, 49, 32]
abbrev Rs := Int × List Hd × List UInt8
def noRs : Rs := (0, [], [])
def rsEnd (q : Rs) : Int × Rs := if rspFault q.1 q.2.1 q.2.2.length = 0 then (0, q) else (rspFault q.1 q.2.1 q.2.2.length, noRs)
def lineOK (line : List UInt8) : Bool := decide (line.length = 12) && decide (line.take 9 = http11b) && deltaOk (ba (line.drop 9))
def rsMid (line rest body : List UInt8) : Int × Rs :=
  if (readR (ba rest)).1 = 0 then (if lineOK line = true then rsEnd (deltaTo (ba (line.drop 9)) 3, (readR (ba rest)).2, body) else (5, noRs)) else ((readR (ba rest)).1, noRs)
/-- What bytes tell: a code, and a response. -/
def rspR (t : List UInt8) : Int × Rs := if 10000 < t.length then (2, noRs) else
  if (Lib.cut t (crlf ++ crlf)).2.2 = true then rsMid (Lib.cut ((Lib.cut t (crlf ++ crlf)).1 ++ crlf) crlf).1 (Lib.cut ((Lib.cut t (crlf ++ crlf)).1 ++ crlf) crlf).2.1 (Lib.cut t (crlf ++ crlf)).2.1 else (5, noRs)
theorem rsEnd_bd (q : Rs) : (rsEnd q).2.2.1.length ≤ 20 ∧ (rsEnd q).2.2.2.length ≤ 2000 := by
  unfold rsEnd
  by_cases h : rspFault q.1 q.2.1 q.2.2.length = 0
  · rw [if_pos h]
    unfold rspFault at h
    split at h
    · omega
    · split at h
      · rename_i a b; exact absurd h b
      · rename_i a b
        split at h
        · omega
        · exact ⟨(hdsFault_0 (Decidable.not_not.1 b)).1, by show q.2.2.length ≤ 2000; omega⟩
  · rw [if_neg h]; exact ⟨Nat.zero_le _, Nat.zero_le _⟩
theorem rspR_bd (t : List UInt8) : (rspR t).2.2.1.length ≤ 20 ∧ (rspR t).2.2.2.length ≤ 2000 := by
  unfold rspR
  split
  · exact ⟨Nat.zero_le _, Nat.zero_le _⟩
  · split
    · unfold rsMid
      split
      · split
        · exact rsEnd_bd _
        · exact ⟨Nat.zero_le _, Nat.zero_le _⟩
      · exact ⟨Nat.zero_le _, Nat.zero_le _⟩
    · exact ⟨Nat.zero_le _, Nat.zero_le _⟩
end Go.Proofs.YthiogijicknoiaaGreatDoor

/- The response that bytes tell: what is answered. -/
namespace Go.Proofs.YthiogijicknoiaaGreatDoor
open Go.RowKit
set_option linter.unusedSimpArgs false
set_option linter.unusedVariables false

theorem rspR_many {t : List UInt8} (h : 10000 < t.length) : rspR t = (2, noRs) := if_pos h
theorem rspR_none {t : List UInt8} (h : ¬ 10000 < t.length) (hc : (Lib.cut t (crlf ++ crlf)).2.2 = false) : rspR t = (5, noRs) := by
  rw [rspR, if_neg h, if_neg (by rw [hc]; decide)]
theorem rspR_some {t head body : List UInt8} (h : ¬ 10000 < t.length) (hc : Lib.cut t (crlf ++ crlf) = (head, body, true)) : rspR t = rsMid (Lib.cut (head ++ crlf) crlf).1 (Lib.cut (head ++ crlf) crlf).2.1 body := by
  rw [rspR, if_neg h, hc, if_pos rfl]
def RpR (w : World) (r : Int × Rs) (e : Ending) (w' : World) : Prop := ∃ (a' : Option Addr) (n' c' : Nat) (ab : Option Addr) (nb cb mid : Nat), e = .returned (.agg #[.int .i64 r.1, .int .i64 r.2.1, .slice a' n' c', .slice ab nb cb]) ∧ (r.2.2.1.length = n' ∧ r.2.2.2.length = nb) ∧ (w.heap.size ≤ mid ∧ mid ≤ w'.heap.size) ∧ SlAt w' w.heap.size mid a' n' (hV r.2.2.1) ∧ SlAt w' mid w'.heap.size ab nb (bV r.2.2.2) ∧ Below w.heap.size w w'
theorem RpR.none {w w' : World} {r : Int × Rs} {k : Int} (hr : r = (k, noRs)) (hb : Below w.heap.size w w') : RpR w r (.returned (.agg #[.int .i64 k, .int .i64 0, .slice none 0 0, .slice none 0 0])) w' := by
  subst hr
  exact ⟨Option.none, 0, 0, Option.none, 0, 0, w.heap.size, rfl, ⟨rfl, rfl⟩, ⟨Nat.le_refl _, hb.size⟩, .inl ⟨rfl, rfl⟩, .inl ⟨rfl, rfl⟩, hb⟩
theorem fzr {w : World} {g : Nat} {cs : Array Value} {t : TypeId} (h : w.heap[g]? = some (.cells cs t (0, 0))) : ∀ k, w.frozen? ⟨g, k, none⟩ = false := fun k => by simp [World.frozen?, h]
theorem cut_len (s p : List UInt8) : (Lib.cut s p).1.length ≤ s.length ∧ (Lib.cut s p).2.1.length ≤ s.length := by
  unfold Lib.cut
  split
  · exact ⟨by rw [List.length_take]; exact Nat.min_le_right _ _, by rw [List.length_drop]; exact Nat.sub_le _ _⟩
  · exact ⟨Nat.le_refl _, Nat.zero_le _⟩
theorem row_store3 {w : World} {g G : Nat} {l : List UInt8} {x : Int} {y z : Value} {t : TypeId} (h : RowAt w g (bV l)) (hG : w.heap[G]? = some (.cells #[.int .i64 x, y, z] t (0, 0))) (u v s : Value) :
    RowAt (((w.setCell ⟨G, 0, none⟩ u).setCell ⟨G, 1, none⟩ v).setCell ⟨G, 2, none⟩ s) g (bV l) := by
  by_cases e : g = G
  · subst e
    have hl : l = [] := by
      obtain ⟨cur, e, lo, hi, hc, ht, _⟩ := h
      rw [hG] at hc
      cases hc
      cases l with
      | nil => rfl
      | cons b l => simp [bV, byteV] at ht
    subst hl
    exact ⟨_, _, _, _, blk_set (blk_set (blk_set hG 0 _) 1 _) 2 _, by simp [bV], by intro i hi; simp [bV] at hi⟩
  · exact ((h.other _ _ e).other _ _ e).other _ _ e
/-- What the operations of the region that lays the response yield. -/
def rrF (vs : List Value) (ks kb ka : Nat) (st : Int) (hs : Value) (nb : Nat) (body : List UInt8) (lo : Nat) (k : Nat) (v : Value) (w : World) : Prop :=
  if k = ks then ∃ g cap, v = .slice (some ⟨g, 0, none⟩) nb cap ∧ lo ≤ g ∧ RowAt w g (bV body)
  else if k = kb then ∃ g cap, v = .agg #[.int .i64 st, hs, .slice (some ⟨g, 0, none⟩) nb cap] ∧ lo ≤ g ∧ RowAt w g (bV body)
  else if k = ka then ∃ G, v = .pointer (some ⟨G, 0, none⟩) ∧ lo ≤ G ∧ w.heap[G]? = some (.cells #[.int .i64 0, .slice none 0 0, .slice none 0 0] 52 (0, 0))
  else vs[k]? = some v
theorem rrF_keep {vs : List Value} {ks kb ka : Nat} {st : Int} {hs : Value} {nb : Nat} {body : List UInt8} {lo : Nat} (k : Nat) (v : Value) (w w' : World) (h : rrF vs ks kb ka st hs nb body lo k v w) (hb : Below w.heap.size w w') : rrF vs ks kb ka st hs nb body lo k v w' := by
  unfold rrF at h ⊢
  split at h
  · rename_i q; rw [if_pos q]
    obtain ⟨g, cap, e, h1, h2⟩ := h
    exact ⟨g, cap, e, h1, h2.then hb⟩
  · rename_i q; rw [if_neg q]
    split at h
    · rename_i q; rw [if_pos q]
      obtain ⟨g, cap, e, h1, h2⟩ := h
      exact ⟨g, cap, e, h1, h2.then hb⟩
    · rename_i q; rw [if_neg q]
      split at h
      · rename_i q; rw [if_pos q]
        obtain ⟨G, e, h1, h2⟩ := h
        exact ⟨G, e, h1, blk_then h2 hb⟩
      · rename_i q; rw [if_neg q]; exact h
theorem lineOK_pre (line : List UInt8) : lineOK line = (Lib.hasPrefix line http11b && (inB (ba (Lib.trimPrefix line http11b)).size 3 3 && allB digitB (ba (Lib.trimPrefix line http11b)))) := by
  by_cases hp : Lib.hasPrefix line http11b = true
  · have h9 : http11b <+: line := List.isPrefixOf_iff_prefix.1 hp
    obtain ⟨r, rfl⟩ := h9
    have ht : Lib.trimPrefix (http11b ++ r) http11b = r := by unfold Lib.trimPrefix; rw [if_pos hp]; exact List.drop_left
    rw [hp, ht, Bool.true_and]
    unfold lineOK
    have e1 : (http11b ++ r).take 9 = http11b := List.take_left' rfl
    have e2 : (http11b ++ r).drop 9 = r := List.drop_left' rfl
    rw [e1, e2]
    unfold deltaOk inB
    rw [ba_size]
    by_cases h3 : r.length = 3
    · simp [h3, http11b]
    · have : ¬ (9 + r.length = 12) := by omega
      have h4 : ¬ ((3 : Int) ≤ (r.length : Int) ∧ (r.length : Int) ≤ 3) := by omega
      simp only [List.length_append, List.length_cons, List.length_nil]
      rw [decide_eq_false (show ¬ (0 + 1 + 1 + 1 + 1 + 1 + 1 + 1 + 1 + 1 + r.length = 12) by omega)]
      by_cases h5 : (3 : Int) ≤ (r.length : Int)
      · rw [decide_eq_false (show ¬ ((r.length : Int) ≤ 3) by omega)]; simp
      · rw [decide_eq_false h5]; simp
  · simp only [Bool.not_eq_true] at hp
    rw [hp, Bool.false_and]
    unfold lineOK
    rw [Bool.eq_false_iff]
    intro q
    simp only [Bool.and_eq_true, decide_eq_true_eq] at q
    have : http11b <+: line := ⟨line.drop 9, by rw [← q.1.2]; exact List.take_append_drop 9 line⟩
    have := List.isPrefixOf_iff_prefix.2 this
    unfold Lib.hasPrefix at hp
    rw [this] at hp
    cases hp
end Go.Proofs.YthiogijicknoiaaGreatDoor

/- Rows of texts: appended to, sorted, filtered. -/
namespace Go.Proofs.YthiogijicknoiaaGreatDoor
open Go.RowKit
set_option linter.unusedSimpArgs false
set_option linter.unusedVariables false

def SRow (w : World) (g n cap : Nat) (xs : List ByteArray) : Prop := xs.length = n ∧ ∃ rest : List Value, n + rest.length = cap ∧ RowAt w g (strV xs ++ rest)
theorem SRow.row {w : World} {g n cap : Nat} {xs : List ByteArray} (h : SRow w g n cap xs) : RowAt w g (strV xs) := by
  obtain ⟨_, rest, _, hr⟩ := h
  exact hr.pre
theorem SRow.cap {w : World} {g n cap : Nat} {xs : List ByteArray} (h : SRow w g n cap xs) : n ≤ cap := by
  obtain ⟨_, rest, hc, _⟩ := h
  omega
theorem SRow.lt {w : World} {g n cap : Nat} {xs : List ByteArray} (h : SRow w g n cap xs) : g < w.heap.size := h.row.lt
theorem SRow.then {w w' : World} {g n cap : Nat} {xs : List ByteArray} (h : SRow w g n cap xs) (hb : Below w.heap.size w w') : SRow w' g n cap xs := by
  obtain ⟨hl, rest, hc, hr⟩ := h
  exact ⟨hl, rest, hc, hr.then hb⟩
theorem SRow.start (w : World) (t : TypeId) : SRow (w.alloc (.cells #[] t (0, 0))) w.heap.size 0 0 [] := ⟨rfl, [], rfl, RowAt.of_alloc _ _ _ _ rfl⟩
theorem strV_app (l m : List ByteArray) : strV (l ++ m) = strV l ++ strV m := by simp [strV]
theorem one_strV (l : List ByteArray) : ∀ u ∈ strV l, u.oneCell' = true := by
  intro u hu
  obtain ⟨b, _, rfl⟩ := List.mem_map.1 hu
  rfl
theorem zero_len (z : Value) (h : z.cells.size = 1) (k : Nat) : (Builtin.zeroCells z.cells k).toList.length = k := by
  simp [Builtin.zeroCells, h]
theorem app_str2 (lo : Nat) (ab : Option Addr) (m c : Nat) (ys : List ByteArray) (hys : ys.length = m) (g n cap : Nat) (xs : List ByteArray) (w : World) (hB : SRow w g n cap xs) (hlo : lo ≤ g) (hl2 : lo ≤ w.heap.size) (hr : Rd w ab (strV ys)) (hm : n + m ≤ 1000000) (ty : TypeId) :
    ∃ g' cap' w', (Builtin.append_ #[27, 27] ty #[.slice (some ⟨g, 0, none⟩) n cap, .slice ab m c]).run Tryz.prog w = .ok (.slice (some ⟨g', 0, none⟩) (n + m) cap') w' ∧ (lo ≤ g' ∧ (g' = g ∨ w.heap.size ≤ g')) ∧ SRow w' g' (n + m) cap' (xs ++ ys) ∧ Chg w w' g (g + 1) := by
  obtain ⟨hxl, rest, hcap, hrow⟩ := hB
  have hxn : (strV xs).length = n := by rw [strV_len, hxl]
  have hmn : (strV ys).length = m := by rw [strV_len, hys]
  obtain ⟨i, hi, hz, hs1, hb1⟩ := info_parts infoStr
  have hsrc : Src Tryz.prog i.size 27 (.slice ab m c) m (strV ys) w := by
    rw [hs1]
    cases ab with
    | none =>
      have hnil : ys = [] := by
        cases ys with
        | nil => rfl
        | cons x r => obtain ⟨_, _, h, _⟩ := hr 0 _ rfl; cases h
      subst hnil
      have : m = 0 := hys.symm
      subst this
      exact Src.ofNil w Tryz.underlying27 c
    | some a =>
      refine Src.ofSlice w Tryz.underlying27 a m c (strV ys) (by rw [hmn, Nat.mul_one]) (fun j u hu => ?_) (one_strV ys)
      obtain ⟨b, off, e, _, hc⟩ := hr j u hu
      cases e
      rw [Addr.add_lit]
      exact hc
  have hgl := hrow.lt
  by_cases hroom : n + m ≤ cap
  · have hst := run_append_room_src (P := Tryz.prog) w 27 27 ty 9 i Tryz.underlying27 hi g 0 n cap _ m (strV ys) hsrc hroom
      (fun j hj => by
        rw [hs1, Nat.zero_add, Nat.mul_one]
        have hlt : n + j < (strV xs ++ rest).length := by rw [List.length_append]; omega
        rw [hrow.cell (n + j) _ (List.getElem?_eq_getElem hlt)]; rfl)
      (fun j hj => by
        rw [hs1, Nat.zero_add, Nat.mul_one]
        exact hrow.free (n + j) (by rw [List.length_append]; omega))
    rw [hs1, Nat.zero_add, Nat.mul_one] at hst
    refine ⟨g, cap, _, hst, ⟨hlo, .inl rfl⟩, ⟨by rw [List.length_append, hxl, hys], rest.drop (strV ys).length, by rw [List.length_drop]; omega, ?_⟩, Chg.sets (Nat.le_refl _) (Nat.lt_succ_self _) _ _ _ _ (Chg.refl _ _ _)⟩
    rw [strV_app]
    exact RowAt.puts (strV ys) w (strV xs) rest n hrow hxn (by omega)
  · have hst := run_append_grow_src (P := Tryz.prog) w 27 27 ty 9 i (.string ⟨#[]⟩) Tryz.underlying27 hi hz (some ⟨g, 0, none⟩) n cap (strV xs)
      (run_firstCells_some w.drew i.size n ⟨g, 0, none⟩ n cap (strV xs) (by rw [hs1, hxn, Nat.mul_one]) (fun j u hu => by
        rw [Addr.add_lit, Nat.zero_add]
        exact (hrow.pre.drew).cell j u hu)) _ m (strV ys) hsrc (by omega) (by omega)
      (by rw [hb1]; have := nextslicecap_le (need := n + m) (old := cap) (by omega); omega)
    have hge := grownCap_ge w (n + m) cap 9
    refine ⟨_, _, _, hst, ⟨hl2, .inr (Nat.le_refl _)⟩, ⟨by rw [List.length_append, hxl, hys], (Builtin.zeroCells (Value.cells (.string ⟨#[]⟩)) (grownCap w (n + m) cap 9 - (n + m))).toList, by rw [zero_len _ rfl]; omega, ?_⟩, ((Chg.refl _ _ _).drew).alloc _⟩
    rw [strV_app]
    exact RowAt.of_alloc w.drew _ _ _ (by rw [Array.toList_append])
theorem app_str (lo : Nat) (ab : Option Addr) (m c : Nat) (ys : List ByteArray) (hys : ys.length = m) (g n cap : Nat) (xs : List ByteArray) (w : World) (hB : SRow w g n cap xs) (hlo : lo ≤ g) (hl2 : lo ≤ w.heap.size) (hr : Rd w ab (strV ys)) (hm : n + m ≤ 1000000) (ty : TypeId) :
    ∃ g' cap' w', (Builtin.append_ #[27, 27] ty #[.slice (some ⟨g, 0, none⟩) n cap, .slice ab m c]).run Tryz.prog w = .ok (.slice (some ⟨g', 0, none⟩) (n + m) cap') w' ∧ lo ≤ g' ∧ SRow w' g' (n + m) cap' (xs ++ ys) ∧ Chg w w' g (g + 1) := by
  obtain ⟨g', cap', w', h1, h2, h3, h4⟩ := app_str2 lo ab m c ys hys g n cap xs w hB hlo hl2 hr hm ty
  exact ⟨g', cap', w', h1, h2.1, h3, h4⟩
theorem putCells_take {α : Type} [Inhabited α] (enc : α → Value) (d : Array α) (cur : Array Value) (xs rest : List Value) (hd : d.size = xs.length) (h : cur.toList.take (xs ++ rest).length = xs ++ rest) : (Sort.putCells enc 0 d cur).toList.take (xs ++ rest).length = d.toList.map enc ++ rest := by
  have hln : (d.toList.map enc).length = xs.length := by rw [List.length_map, Array.length_toList, hd]
  apply List.ext_getElem?
  intro k
  have hk := congrArg (fun l : List Value => l[k]?) h
  simp only [List.getElem?_take] at hk ⊢
  by_cases hlt : k < (xs ++ rest).length
  · rw [if_pos hlt] at hk ⊢
    rw [Array.getElem?_toList] at hk ⊢
    unfold Sort.putCells
    rw [Array.getElem?_mapIdx, hk]
    by_cases hkd : k < d.size
    · rw [List.getElem?_append_left (by omega), List.getElem?_append_left (by omega), List.getElem?_eq_getElem (by omega), Option.map_some, if_pos ⟨Nat.zero_le _, by omega⟩, List.getElem?_map, Array.getElem?_toList, Array.getElem?_eq_getElem hkd, Option.map_some, Nat.sub_zero, getElem!_pos d k hkd]
    · rw [List.getElem?_append_right (by omega), List.getElem?_append_right (by omega), hln]
      cases rest[k - xs.length]? with
      | none => rfl
      | some y => rw [Option.map_some, if_neg (by omega)]
  · rw [if_neg hlt, List.getElem?_eq_none (by rw [List.length_append] at hlt ⊢; omega)]
theorem heap_put {α : Type} [Inhabited α] (enc : α → Value) (w : World) (n g : Nat) (d : Array α) (os : Array Obj) (k : Nat) (hk : k < w.heap.size) : (Sort.grow (Sort.putRow enc (Sort.ahead w n) g 0 d) os).heap[k]? = if g = k then (w.heap[k]?).map (Sort.onCells (Sort.putCells enc 0 d)) else w.heap[k]? := by
  have hs : (Sort.putRow enc (Sort.ahead w n) g 0 d).heap.size = w.heap.size := by
    unfold Sort.putRow Sort.mapBlock Sort.ahead
    simp
  unfold Sort.grow
  simp only []
  rw [Array.getElem?_append_left (by rw [hs]; exact hk)]
  unfold Sort.putRow Sort.mapBlock Sort.ahead
  simp only [Array.getElem?_modify]
theorem put_row {α : Type} [Inhabited α] (enc : α → Value) (w : World) (g n : Nat) (d : Array α) (xs rest : List Value) (h : RowAt w g (xs ++ rest)) (hd : d.size = xs.length) (os : Array Obj) :
    RowAt (Sort.grow (Sort.putRow enc (Sort.ahead w n) g 0 d) os) g (d.toList.map enc ++ rest) ∧ Chg w (Sort.grow (Sort.putRow enc (Sort.ahead w n) g 0 d) os) g (g + 1) := by
  have hs : (Sort.putRow enc (Sort.ahead w n) g 0 d).heap.size = w.heap.size := by
    unfold Sort.putRow Sort.mapBlock Sort.ahead
    simp
  refine ⟨?_, rfl, rfl, rfl, ?_, ?_⟩
  · obtain ⟨cur, e, lo, hi, hg, ht, hf⟩ := h
    have hlt := (Array.getElem?_eq_some_iff.1 hg).1
    refine ⟨Sort.putCells enc 0 d cur, e, lo, hi, ?_, ?_, ?_⟩
    · rw [heap_put enc w n g d os g hlt, if_pos rfl, hg]; rfl
    · have := putCells_take enc d cur xs rest hd ht
      rw [List.length_append, List.length_map, Array.length_toList, hd, ← List.length_append]
      exact this
    · intro i hi
      exact hf i (by rw [List.length_append] at hi ⊢; rw [List.length_map, Array.length_toList] at hi; omega)
  · unfold Sort.grow
    simp only [Array.size_append]
    omega
  · intro b hb hne
    rw [heap_put enc w n g d os b hb, if_neg (by omega)]
theorem holds_of {α : Type} [Inhabited α] (enc : α → Value) (w : World) (g : Nat) (d : Array α) (h : RowAt w g (d.toList.map enc)) : Sort.Holds enc w g 0 d := by
  intro j hj
  refine ⟨?_, ?_⟩
  · rw [Nat.zero_add]
    refine h.cell j _ ?_
    rw [List.getElem?_map, Array.getElem?_toList, Array.getElem?_eq_getElem hj, Option.map_some, getElem!_pos d j hj]
  · rw [Nat.zero_add]
    exact h.free j (by rw [List.length_map, Array.length_toList]; exact hj)
/-- Texts in the order of their bytes. -/
def leB (x y : ByteArray) : Bool := leT x.data.toList y.data.toList
def sortB (l : List ByteArray) : List ByteArray := sortG leB l
theorem insG_map {α β : Type} (f : α → β) (le : α → α → Bool) (le' : β → β → Bool) (h : ∀ a b, le' (f a) (f b) = le a b) (x : α) : ∀ l : List α, insG le' (f x) (l.map f) = (insG le x l).map f
  | [] => rfl
  | y :: t => by
    simp only [List.map_cons, insG, h]
    split
    · rw [List.map_cons, insG_map f le le' h x t]
    · rfl
theorem sortG_map {α β : Type} (f : α → β) (le : α → α → Bool) (le' : β → β → Bool) (h : ∀ a b, le' (f a) (f b) = le a b) (l : List α) : sortG le' (l.map f) = (sortG le l).map f := by
  suffices H : ∀ (l acc : List α), (l.map f).foldl (fun acc x => insG le' x acc) (acc.map f) = (l.foldl (fun acc x => insG le x acc) acc).map f from H l []
  intro l
  induction l with
  | nil => intro acc; rfl
  | cons x l ih =>
    intro acc
    rw [List.map_cons, List.foldl_cons, List.foldl_cons, insG_map f le le' h, ih]
theorem sortB_list (l : List ByteArray) : (sortB l).map (·.data.toList) = sortG leT (l.map (·.data.toList)) := (sortG_map (·.data.toList) leB leT (fun _ _ => rfl) l).symm
theorem sortB_len (l : List ByteArray) : (sortB l).length = l.length := by
  have h := congrArg List.length (sortB_list l)
  rw [List.length_map, sortT_len, List.length_map] at h
  exact h
theorem slices_SortS (xs : List ByteArray) (g n cap : Nat) (w : World) (hB : SRow w g n cap xs) (hn : n ≤ 1000000) :
    Calls Tryz.prog 121 #[.slice (some ⟨g, 0, none⟩) n cap] w fun e w' => e = .returned (.tuple #[]) ∧ SRow w' g n cap (sortB xs) ∧ Chg w w' g (g + 1) := by
  obtain ⟨hxl, rest, hcap, hrow⟩ := hB
  have henc : (xs.map (·.data.toList)).toArray.toList.map encStr = strV xs := by
    rw [List.toList_toArray, List.map_map]
    refine List.map_congr_left fun x _ => ?_
    rfl
  have hH : Sort.Holds encStr w g 0 (xs.map (·.data.toList)).toArray := holds_of encStr w g _ (by rw [henc]; exact hrow.pre)
  have hc := Tryz.slices_Sort_string g 0 cap (xs.map (·.data.toList)) w hH hrow.lt (by rw [List.length_map]; omega)
  rw [List.length_map, hxl] at hc
  refine hc.mono ?_
  rintro e w' ⟨rfl, k, os, rfl⟩
  have hs : (xs.map (·.data.toList)).mergeSort (fun x y => decide (x ≤ y)) = (sortB xs).map (·.data.toList) := by rw [sort_merge, sortB_list]
  rw [hs]
  obtain ⟨h1, h2⟩ := put_row encStr w g k ((sortB xs).map (·.data.toList)).toArray (strV xs) rest hrow (by rw [List.size_toArray, List.length_map, sortB_len, strV_len]) os
  refine ⟨rfl, ⟨by rw [sortB_len, hxl], rest, hcap, ?_⟩, h2⟩
  have henc2 : ((sortB xs).map (·.data.toList)).toArray.toList.map encStr = strV (sortB xs) := by
    rw [List.toList_toArray, List.map_map]
    refine List.map_congr_left fun x _ => ?_
    rfl
  rw [henc2] at h1
  exact h1
end Go.Proofs.YthiogijicknoiaaGreatDoor

/- The library's deletion and search by a test, at texts. -/
namespace Go.Proofs.YthiogijicknoiaaGreatDoor
open Go.RowKit
set_option linter.unusedSimpArgs false
set_option linter.unusedVariables false

abbrev nemB (xs : List ByteArray) : List ByteArray := xs.filter fun x => !x.toList.isEmpty
theorem nemB_le (xs : List ByteArray) : (nemB xs).length ≤ xs.length := List.length_filter_le _ _
def delRen : Go.Shelf.Ren := ⟨fun | 10 => 119 | 6 => 163 | n => n, fun | 22 => 27 | 23 => 9 | 25 => 87 | 0 => 0 | 3 => 3 | 4 => 4 | n => n, fun | n => n⟩
theorem del_lays : SlLaysH.n10 Tryz.prog delRen := {
  mixed := by kernel_rfl
  f6 := ⟨"slices.IndexFunc[[]string,string]", by kernel_rfl, Tryz.func163.trans (congrArg some (by kernel_rfl))⟩
  f10 := ⟨"slices.DeleteFunc[[]string,string]", by kernel_rfl, Tryz.func119.trans (congrArg some (by kernel_rfl))⟩
  t0 := Tryz.underlying0
  a0 := Tryz.isAgg0
  z0 := Tryz.sizeOf0
  v0 := Tryz.zeroValue0
  t3 := Tryz.underlying3
  a3 := Tryz.isAgg3
  z3 := Tryz.sizeOf3
  v3 := Tryz.zeroValue3
  t4 := Tryz.underlying4
  a4 := Tryz.isAgg4
  z4 := Tryz.sizeOf4
  v4 := Tryz.zeroValue4
  t22 := Tryz.underlying27
  a22 := Tryz.isAgg27
  z22 := Tryz.sizeOf27
  v22 := Tryz.zeroValue27
  a23 := Tryz.isAgg9
  z23 := Tryz.sizeOf9
  t25 := Tryz.underlying87
  a25 := Tryz.isAgg87
  z25 := Tryz.sizeOf87
  v25 := Tryz.zeroValue87
}
theorem keyOf1_gives (W : World) (x : ByteArray) : FnGives Tryz.prog 120 #[] #[.string x] (.bool x.toList.isEmpty) W := by
  show Calls Tryz.prog 120 #[.string x] W _
  go_enter Tryz.func120, Tryz.ntmps120
  go_wp2
  go_ret
  exact ⟨rfl, 0, rfl⟩
theorem slices_DelS (xs : List ByteArray) (g n cap : Nat) (w : World) (hB : SRow w g n cap xs) (hn : n ≤ 1000000) :
    Calls Tryz.prog 119 #[.slice (some ⟨g, 0, none⟩) n cap, .func (.func 120) #[] #[]] w fun e w' => e = .returned (.slice (some ⟨g, 0, none⟩) (nemB xs).length cap) ∧
      SRow w' g (nemB xs).length cap (nemB xs) ∧ Chg w w' g (g + 1) := by
  have hle := hB.cap
  obtain ⟨hxl, rest, hcap, hrow⟩ := hB
  have hH : Sort.Holds Value.string w g 0 xs.toArray := holds_of Value.string w g _ (by rw [List.toList_toArray]; exact hrow.pre)
  have hc := AnyE.slices_DeleteFunc (P := Tryz.prog) (ρ := delRen) del_lays Value.string (fun _ => rfl) (fun x : ByteArray => x.toList.isEmpty) 120 #[] (fun args w => enters_of Tryz.func120 (by kernel_rfl) rfl args w) ⟨#[]⟩ (fun w => Tryz.zeroValue9 w)
    g 0 cap xs.toArray w (fun W x _ => keyOf1_gives W x) (fun _ _ _ x _ => keyOf1_gives _ x) hH (by rw [List.size_toArray]; omega) (by rw [List.size_toArray]; omega)
  rw [List.size_toArray, hxl] at hc
  simp only [] at hc
  refine hc.mono ?_
  rintro e w' ⟨rfl, q, rfl⟩
  obtain ⟨h1, h2⟩ := put_row Value.string w g q (((nemB xs) ++ List.replicate (n - (nemB xs).length) (⟨#[]⟩ : ByteArray)).toArray) (strV xs) rest hrow
    (by have := nemB_le xs; rw [List.size_toArray, List.length_append, List.length_replicate, strV_len, hxl]; omega) #[]
  rw [Sort.grow_empty] at h1 h2
  refine ⟨rfl, ⟨rfl, strV (List.replicate (n - (nemB xs).length) (⟨#[]⟩ : ByteArray)) ++ rest, ?_, ?_⟩, h2⟩
  · have := nemB_le xs
    rw [List.length_append, strV_len, List.length_replicate]; omega
  · rw [List.toList_toArray] at h1
    rw [← List.append_assoc, ← strV_app]
    exact h1
def conRen : Go.Shelf.Ren := ⟨fun | 8 => 114 | 6 => 163 | n => n, fun | 22 => 27 | 23 => 9 | 25 => 87 | 0 => 0 | 3 => 3 | 4 => 4 | n => n, fun | n => n⟩
theorem con_lays : SlLaysH.n8 Tryz.prog conRen := {
  mixed := by kernel_rfl
  f6 := ⟨"slices.IndexFunc[[]string,string]", by kernel_rfl, Tryz.func163.trans (congrArg some (by kernel_rfl))⟩
  f8 := ⟨"slices.ContainsFunc[[]string,string]", by kernel_rfl, Tryz.func114.trans (congrArg some (by kernel_rfl))⟩
  t0 := Tryz.underlying0
  a0 := Tryz.isAgg0
  z0 := Tryz.sizeOf0
  v0 := Tryz.zeroValue0
  t3 := Tryz.underlying3
  a3 := Tryz.isAgg3
  z3 := Tryz.sizeOf3
  v3 := Tryz.zeroValue3
  t4 := Tryz.underlying4
  a4 := Tryz.isAgg4
  z4 := Tryz.sizeOf4
  v4 := Tryz.zeroValue4
  t22 := Tryz.underlying27
  a22 := Tryz.isAgg27
  z22 := Tryz.sizeOf27
  v22 := Tryz.zeroValue27
  a23 := Tryz.isAgg9
  z23 := Tryz.sizeOf9
  t25 := Tryz.underlying87
  a25 := Tryz.isAgg87
  z25 := Tryz.sizeOf87
  v25 := Tryz.zeroValue87
}
def Sm : Type := {s : ByteArray // s.size ≤ 9223372036854775807}
instance : Inhabited Sm := ⟨⟨⟨#[]⟩, by decide⟩⟩
def smL : (xs : List ByteArray) → (∀ x ∈ xs, x.size ≤ 9223372036854775807) → List Sm
  | [], _ => []
  | x :: r, h => ⟨x, h x (List.mem_cons_self ..)⟩ :: smL r fun y hy => h y (List.mem_cons_of_mem _ hy)
theorem smL_map : ∀ (xs : List ByteArray) (h : ∀ x ∈ xs, x.size ≤ 9223372036854775807), (smL xs h).map (·.1) = xs
  | [], _ => rfl
  | x :: r, h => congrArg (x :: ·) (smL_map r fun y hy => h y (List.mem_cons_of_mem _ hy))
theorem smL_len (xs : List ByteArray) (h : ∀ x ∈ xs, x.size ≤ 9223372036854775807) : (smL xs h).length = xs.length := by
  have := congrArg List.length (smL_map xs h)
  rw [List.length_map] at this
  exact this
theorem areNames1_gives (W : World) (x : Sm) : FnGives Tryz.prog 115 #[] #[.string x.1] (.bool (!wordS x.1)) W := by
  show Calls Tryz.prog 115 #[.string x.1] W _
  have hc := fun W => impl_IsWord x.1 W x.2
  obtain ⟨s, es⟩ : ∃ s, x.1 = s := ⟨_, rfl⟩
  rw [es] at hc ⊢
  go_enter Tryz.func115, Tryz.ntmps115
  go_wp2_with (go_at_call 116; ((with_reducible refine (hc _).mono ?_); rintro e w' ⟨rfl, rfl⟩))
  go_ret
  exact ⟨rfl, 0, rfl⟩
theorem slices_ConS (a : Option Addr) (n c : Nat) (xs : List ByteArray) (hl : xs.length = n) (w : World) (hr : Rd w a (strV xs)) (hn : n ≤ 1000000) (hs : ∀ x ∈ xs, x.size ≤ 9223372036854775807) :
    Calls Tryz.prog 114 #[.slice a n c, .func (.func 115) #[] #[]] w fun e w' => e = .returned (.bool (!xs.all wordS)) ∧ Below w.heap.size w w' := by
  cases hx : xs with
  | nil =>
    subst hx
    have hn0 : n = 0 := hl.symm
    subst hn0
    exact (AnyE.slices_ContainsFunc_empty (P := Tryz.prog) (ρ := conRen) con_lays a c _ w).mono fun e w' h => ⟨h.1, h.2 ▸ Below.refl _ _⟩
  | cons x0 r0 =>
    obtain ⟨b, off, rfl, _, _⟩ := hr 0 (.string x0) (by rw [hx]; rfl)
    rw [← hx]
    have hzl : (smL xs hs).length = n := by rw [smL_len, hl]
    have hc := AnyE.slices_ContainsFunc (P := Tryz.prog) (ρ := conRen) con_lays (fun x : Sm => Value.string x.1) (fun x => !wordS x.1) 115 #[] (fun args w => enters_of Tryz.func115 (by kernel_rfl) rfl args w) b off n c
      (smL xs hs) w (fun W x _ => areNames1_gives W x) (by omega) (by omega) (fun j hj => by
        have hj' : j < xs.length := by rw [hl, ← hzl]; exact hj
        obtain ⟨b', off', e, _, h⟩ := hr j (.string xs[j]) (by rw [strV, List.getElem?_map, List.getElem?_eq_getElem hj']; rfl)
        cases e
        have hm : (smL xs hs)[j].1 = xs[j] := by
          have := congrArg (fun l : List ByteArray => l[j]?) (smL_map xs hs)
          simp only [List.getElem?_map, List.getElem?_eq_getElem hj, List.getElem?_eq_getElem hj', Option.map_some] at this
          exact Option.some.inj this
        rw [h, getElem!_pos _ j hj, hm])
    refine hc.mono ?_
    rintro e w' ⟨rfl, q, rfl⟩
    refine ⟨?_, below_drewN (Below.refl _ _) q⟩
    have ht : ((smL xs hs).take n).any (fun x => !wordS x.1) = !xs.all wordS := by
      rw [List.take_of_length_le (by omega), List.not_all_eq_any_not]
      conv => rhs; rw [← smL_map xs hs]
      rw [List.any_map]
      rfl
    rw [ht]
end Go.Proofs.YthiogijicknoiaaGreatDoor
