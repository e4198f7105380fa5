/- Joined: CutL, KeyQ, ReqS. -/
import Derived.Test.YtbiodbggaeglpaaGreatDoorJB12
import Derived.Test.YtbiodbggaeglpaaGreatDoorJB18
import Derived.Test.YtbiodbggaeglpaaGreatDoorJB9
import Derived.Test.YtbiodbggaeglpaaGreatDoorJB2
import Derived.Deep.DeepCutAuto
import Derived.Deep.RegionHeld3
/- A text cut at a byte: read byte by byte. -/
namespace Go.Proofs.YtbiodbggaeglpaaGreatDoor
open Go.RowKit
set_option linter.unusedSimpArgs false
set_option linter.unusedVariables false

def cutB (c : UInt8) (t : ByteArray) : List ByteArray := (cutGo c [] t.data.toList).map ba
def CutAt (t : ByteArray) (c : UInt8) (f i : Nat) (done : List ByteArray) : Prop :=
  (i ≤ t.size ∧ f ≤ i ∧ cutB c t = done ++ (cutGo c ((t.data.toList.take i).drop f) (t.data.toList.drop i)).map ba) ∨ (i = t.size + 1 ∧ f ≤ i ∧ cutB c t = done)
theorem CutAt.start (t : ByteArray) (c : UInt8) : CutAt t c 0 0 [] := .inl ⟨Nat.zero_le _, Nat.le_refl _, by simp [cutB]⟩
theorem cl_drop {t : ByteArray} {i : Nat} (h : i < t.size) : t.data.toList.drop i = t[i] :: t.data.toList.drop (i + 1) := by
  rw [List.drop_eq_getElem_cons (by rw [Array.length_toList]; exact h)]
  rfl
theorem CutAt.hit {t : ByteArray} {c : UInt8} {f i : Nat} {done : List ByteArray} (h : CutAt t c f i done) (hi : i < t.size) (e : t[i] = c) : CutAt t c (i + 1) (i + 1) (done ++ [ba ((t.data.toList.take i).drop f)]) := by
  rcases h with ⟨h1, h2, h3⟩ | ⟨h1, _⟩
  · refine .inl ⟨by omega, Nat.le_refl _, ?_⟩
    rw [h3, cl_drop hi, cutGo, if_pos e, List.drop_take_self]
    simp
  · omega
theorem CutAt.skip {t : ByteArray} {c : UInt8} {f i : Nat} {done : List ByteArray} (h : CutAt t c f i done) (hi : i < t.size) (e : t[i] ≠ c) : CutAt t c f (i + 1) done := by
  rcases h with ⟨h1, h2, h3⟩ | ⟨h1, _⟩
  · refine .inl ⟨by omega, by omega, ?_⟩
    have := take_drop_snoc (s := t.data.toList) (f := f) (i := i) (by rw [Array.length_toList]; exact hi) h2
    rw [h3, cl_drop hi, cutGo, if_neg e, this]
    rfl
  · omega
theorem CutAt.last {t : ByteArray} {c : UInt8} {f i : Nat} {done : List ByteArray} (h : CutAt t c f i done) (hi : i = t.size) : CutAt t c (i + 1) (i + 1) (done ++ [ba ((t.data.toList.take i).drop f)]) := by
  rcases h with ⟨h1, h2, h3⟩ | ⟨h1, _⟩
  · refine .inr ⟨by omega, Nat.le_refl _, ?_⟩
    rw [h3, List.drop_of_length_le (l := t.data.toList) (i := i) (by rw [Array.length_toList]; exact Nat.le_of_eq hi.symm)]
    simp [cutGo]
  · omega
theorem CutAt.stop {t : ByteArray} {c : UInt8} {f i : Nat} {done : List ByteArray} (h : CutAt t c f i done) (hi : ¬ i ≤ t.size) : cutB c t = done := by
  rcases h with ⟨h1, _⟩ | ⟨_, _, h3⟩
  · omega
  · exact h3
theorem CutAt.bd {t : ByteArray} {c : UInt8} {f i : Nat} {done : List ByteArray} (h : CutAt t c f i done) : i ≤ t.size + 1 ∧ f ≤ i := by
  rcases h with ⟨h1, h2, _⟩ | ⟨h1, h2, _⟩ <;> omega
theorem cutB_split (c : UInt8) (t : ByteArray) : (cutB c t).map (·.data.toList) = Lib.split t.data.toList [c] := by rw [cutB, map_ba, cutGo_eq]
theorem cut_byte {t : ByteArray} {c : UInt8} {i : Nat} (hi : i < t.size) : ((t[i].toNat : Int) == (c.toNat : Int)) = decide (t[i] = c) := by
  rw [Bool.eq_iff_iff, beq_iff_eq, decide_eq_true_eq]
  constructor
  · intro h; apply UInt8.toNat_inj.1; omega
  · intro h; rw [h]
set_option maxHeartbeats 3200000 in
theorem spec_l1Cut (t : ByteArray) (ht : t.size ≤ 10000) (c : UInt8) (ci : Int) (hci : ci = (c.toNat : Int)) (w : World) : Calls Tryz.prog 75 #[.string t, .int .u8 ci] w fun e w' => ∃ g cap, e = .returned (.slice (some ⟨g, 0, none⟩) (cutB c t).length cap) ∧
    w'.ownsRow w.heap.size 9 1 (.slice (some ⟨g, 0, none⟩) (cutB c t).length cap) (cutB c t).length (strV (cutB c t)) ∧ Below w.heap.size w w' := by
  subst hci
  go_enter Tryz.func75, Tryz.ntmps75
  go_wp2
  go_loopw [5, 6, 7] (fun v fv iv wr => ∃ (f i g cap : Nat) (done : List ByteArray), fv = .int .i64 (f : Int) ∧ iv = .int .i64 (i : Int) ∧ CutAt t c f i done ∧ done.length ≤ i ∧ v = .slice (some ⟨g, 0, none⟩) done.length cap ∧ wr.ownsRow w.heap.size 9 1 v done.length (strV done) ∧ Below w.heap.size w wr) (fun _ _ i _ => t.size + 1 - (intOf i).toNat)
  case atStart => exact ⟨0, 0, _, _, [], rfl, rfl, CutAt.start t c, Nat.le_refl _, rfl, World.ownsRow_lit (size := 1) (e := 9) w #[] 0 (Nat.le_refl _) (by unfold maxLen; omega) rfl, below_alloc (Below.refl _ _) _⟩
  case round =>
    obtain ⟨f, i, g, cap, done, rfl, rfl, hat, hdl, rfl, hown, hb⟩ := hrel
    obtain ⟨his, hfi⟩ := hat.bd
    have Hat := Lib.hid hat
    clear hat
    have hz := hb.size
    by_cases hlt : i ≤ t.size
    · by_cases hend : i = t.size
      · have H2 := Lib.hid (Hat.out.last hend)
        have hel : (t.extract f i).size ≤ 10000 := by rw [ByteArray.size_extract]; omega
        subst hend
        go_wp2_with (at_builtin; refine app1 rfl _ _ 58 rfl Tryz.underlying58 infoStr rfl (by decide) (own_below hown (by exact (by first | (with_reducible exact Below.refl _ _) | ((repeat' (first | (with_reducible exact Below.refl _ _) | (with_reducible assumption) | (with_reducible refine below_alloc ?_ _) | (with_reducible refine Below.drew ?_) | (with_reducible refine below_drewN ?_ _) | (with_reducible refine Below.setCell ?_ ?_ _) | refine below_then ?_ (by with_reducible assumption))) <;> (first | omega | (simp; done) | (simp; omega))))) (Nat.le_refl _)) (by exact (by first | (with_reducible exact Below.refl _ _) | ((repeat' (first | (with_reducible exact Below.refl _ _) | (with_reducible assumption) | (with_reducible refine below_alloc ?_ _) | (with_reducible refine Below.drew ?_) | (with_reducible refine below_drewN ?_ _) | (with_reducible refine Below.setCell ?_ ?_ _) | refine below_then ?_ (by with_reducible assumption))) <;> (first | omega | (simp; done) | (simp; omega))))) rfl rfl rfl (by intro u hu; simp at hu; subst hu; rfl) (by omega) (by unfold maxLen; omega) ?_; intro v1 w1 hown1 hb1 _ _; obtain ⟨g1, cap1, rfl, hg1, hrow1⟩ := own_shape hown1)
        go_roundw
        case rel => exact ⟨t.size + 1, t.size + 1, g1, cap1, done ++ [t.extract f t.size], by go_num, by go_num, by rw [ext_ba]; exact H2.out, by rw [List.length_append, List.length_singleton]; omega, by rw [List.length_append, List.length_singleton], own_cast hown1 (by rw [List.length_append, List.length_singleton]) (by rw [strV_snoc]), hb1⟩
        case measure => first | (simp [intOf]; done) | (simp [intOf]; omega)
      · have hi : i < t.size := by omega
        have hcb := cut_byte (c := c) hi
        by_cases hc : t[i] = c
        · have H2 := Lib.hid (Hat.out.hit hi hc)
          have e1 : ((t[i].toNat : Int) == (c.toNat : Int)) = true := by rw [hcb]; exact decide_eq_true hc
          clear hcb hc
          go_wp2_with (at_builtin; refine app1 rfl _ _ 58 rfl Tryz.underlying58 infoStr rfl (by decide) (own_below hown (by exact (by first | (with_reducible exact Below.refl _ _) | ((repeat' (first | (with_reducible exact Below.refl _ _) | (with_reducible assumption) | (with_reducible refine below_alloc ?_ _) | (with_reducible refine Below.drew ?_) | (with_reducible refine below_drewN ?_ _) | (with_reducible refine Below.setCell ?_ ?_ _) | refine below_then ?_ (by with_reducible assumption))) <;> (first | omega | (simp; done) | (simp; omega))))) (Nat.le_refl _)) (by exact (by first | (with_reducible exact Below.refl _ _) | ((repeat' (first | (with_reducible exact Below.refl _ _) | (with_reducible assumption) | (with_reducible refine below_alloc ?_ _) | (with_reducible refine Below.drew ?_) | (with_reducible refine below_drewN ?_ _) | (with_reducible refine Below.setCell ?_ ?_ _) | refine below_then ?_ (by with_reducible assumption))) <;> (first | omega | (simp; done) | (simp; omega))))) rfl rfl rfl (by intro u hu; simp at hu; subst hu; rfl) (by omega) (by unfold maxLen; omega) ?_; intro v1 w1 hown1 hb1 _ _; obtain ⟨g1, cap1, rfl, hg1, hrow1⟩ := own_shape hown1)
          go_roundw
          case rel => exact ⟨i + 1, i + 1, g1, cap1, done ++ [t.extract f i], by go_num, by go_num, by rw [ext_ba]; exact H2.out, by rw [List.length_append, List.length_singleton]; omega, by rw [List.length_append, List.length_singleton], own_cast hown1 (by rw [List.length_append, List.length_singleton]) (by rw [strV_snoc]), hb1⟩
          case measure => first | (simp [intOf]; done) | (simp [intOf]; omega)
        · have H2 := Lib.hid (Hat.out.skip hi hc)
          have e1 : ((t[i].toNat : Int) == (c.toNat : Int)) = false := by rw [hcb]; exact decide_eq_false hc
          clear hcb hc
          go_wp2
          go_roundw
          case rel => exact ⟨f, i + 1, g, cap, done, rfl, by go_num, H2.out, by omega, rfl, hown, hb⟩
          case measure => first | (simp [intOf]; done) | (simp [intOf]; omega)
    · have E := Lib.hid (Hat.out.stop hlt)
      go_wp2
      go_ret
      exact ⟨g, cap, by rw [E.out]; rfl, by rw [E.out]; exact hown, hb⟩
end Go.Proofs.YtbiodbggaeglpaaGreatDoor

/- Plain laws: a key's path is the path of the same key. No program in sight. -/
namespace Go.Proofs.YtbiodbggaeglpaaGreatDoor
open Go.RowKit
set_option linter.unusedVariables false

theorem cut_one (s : List UInt8) (c : UInt8) : ∃ a q b, Lib.cut s [c] = (a, q, b) ∧ (∀ x ∈ a, x ≠ c) ∧ ((b = true ∧ s = a ++ c :: q) ∨ (b = false ∧ q = [] ∧ s = a)) := by
  by_cases h : ∃ i, ∃ hi : i < s.length, s[i] = c
  · obtain ⟨n, hn⟩ := h
    obtain ⟨i, _, ⟨hi, hc⟩, hno⟩ := least (p := fun i => ∃ hi : i < s.length, s[i] = c) (fun i => Classical.em _) hn
    refine ⟨s.take i, s.drop (i + 1), true, cut_at hi hc (fun j hj q => hno j hj ⟨by omega, q⟩), fun x hx => ?_, .inl ⟨rfl, ?_⟩⟩
    · obtain ⟨j, hj, rfl⟩ := List.getElem_of_mem hx
      rw [List.length_take] at hj
      rw [List.getElem_take]
      exact fun q => hno j (by omega) ⟨by omega, q⟩
    · rw [← hc, ← List.drop_eq_getElem_cons hi, List.take_append_drop]
  · refine ⟨s, [], false, cut_none (fun j hj q => h ⟨j, hj, q⟩), fun x hx => ?_, .inr ⟨rfl, rfl, rfl⟩⟩
    obtain ⟨j, hj, rfl⟩ := List.getElem_of_mem hx
    exact fun q => h ⟨j, hj, q⟩
theorem cutGo_no (c : UInt8) : ∀ (s cur : List UInt8), (∀ b ∈ cur, b ≠ c) → ∀ x ∈ cutGo c cur s, ∀ b ∈ x, b ≠ c
  | [], cur, h => by
    intro x hx
    simp [cutGo] at hx
    subst hx; exact h
  | y :: s, cur, h => by
    intro x hx
    unfold cutGo at hx
    split at hx
    · rcases List.mem_cons.1 hx with rfl | hx
      · exact h
      · exact cutGo_no c s [] (by simp) x hx
    · rename_i hy
      exact cutGo_no c s (cur ++ [y]) (fun b hb => by
        rcases List.mem_append.1 hb with hb | hb
        · exact h b hb
        · simp at hb; subst hb; exact hy) x hx
theorem cutGo_from (c : UInt8) : ∀ (s cur : List UInt8), ∀ x ∈ cutGo c cur s, ∀ b ∈ x, b ∈ cur ∨ b ∈ s
  | [], cur => by
    intro x hx b hb
    simp [cutGo] at hx
    subst hx; exact .inl hb
  | y :: s, cur => by
    intro x hx b hb
    unfold cutGo at hx
    split at hx
    · rcases List.mem_cons.1 hx with rfl | hx
      · exact .inl hb
      · rcases cutGo_from c s [] x hx b hb with h | h
        · cases h
        · exact .inr (List.mem_cons_of_mem _ h)
    · rcases cutGo_from c s (cur ++ [y]) x hx b hb with h | h
      · rcases List.mem_append.1 h with h | h
        · exact .inl h
        · simp at h; subst h; exact .inr (List.mem_cons_self ..)
      · exact .inr (List.mem_cons_of_mem _ h)
def lenS (l : List (List UInt8)) : Nat := (l.map List.length).sum
theorem cutGo_sum (c : UInt8) : ∀ (s cur : List UInt8), lenS (cutGo c cur s) + (cutGo c cur s).length = cur.length + s.length + 1
  | [], cur => by simp [cutGo, lenS]
  | y :: s, cur => by
    unfold cutGo
    split
    · have := cutGo_sum c s []
      simp only [lenS, List.map_cons, List.sum_cons, List.length_cons, List.length_nil] at this ⊢
      omega
    · have := cutGo_sum c s (cur ++ [y])
      simp only [List.length_append, List.length_cons, List.length_nil] at this ⊢
      omega
theorem joinTail_len (c : UInt8) : ∀ l : List (List UInt8), (Lib.joinTail [c] l).length = lenS l + l.length
  | [] => rfl
  | x :: l => by
    have ih := joinTail_len c l
    simp only [Lib.joinTail, lenS, List.map_cons, List.flatten_cons, List.length_append, List.length_cons, List.length_nil, List.sum_cons] at ih ⊢
    omega
theorem join_len (c : UInt8) (x : List UInt8) (l : List (List UInt8)) : (Lib.join (x :: l) [c]).length + 1 = lenS (x :: l) + (x :: l).length := by
  rw [Lib.join_cons, List.length_append, joinTail_len]
  simp only [lenS, List.map_cons, List.sum_cons, List.length_cons]
  omega
theorem cutGo_tail (c : UInt8) : ∀ (l : List (List UInt8)) (s cur : List UInt8), (∀ x ∈ l, ∀ b ∈ x, b ≠ c) → (∀ b ∈ s, b ≠ c) → cutGo c cur (s ++ Lib.joinTail [c] l) = (cur ++ s) :: l
  | l, b :: s, cur, hl, hs => by
    have hb := hs b (by simp)
    rw [List.cons_append, cutGo, if_neg hb, cutGo_tail c l s (cur ++ [b]) hl (fun x hx => hs x (List.mem_cons_of_mem _ hx))]
    simp
  | [], [], cur, _, _ => by simp [Lib.joinTail, cutGo]
  | x :: l, [], cur, hl, _ => by
    have e : Lib.joinTail [c] (x :: l) = c :: (x ++ Lib.joinTail [c] l) := by simp [Lib.joinTail]
    rw [List.nil_append, e, cutGo, if_pos rfl, cutGo_tail c l x [] (fun y hy => hl y (List.mem_cons_of_mem _ hy)) (hl x (by simp))]
    simp
termination_by l s => (l.length, s.length)
theorem split_join (c : UInt8) (x : List UInt8) (l : List (List UInt8)) (h : ∀ y ∈ x :: l, ∀ b ∈ y, b ≠ c) : Lib.split (Lib.join (x :: l) [c]) [c] = x :: l := by
  rw [← cutGo_eq, Lib.join_cons, cutGo_tail c l x [] (fun y hy => h y (List.mem_cons_of_mem _ hy)) (h x (by simp))]
  simp
theorem lenS_perm {l m : List (List UInt8)} (h : l.Perm m) : lenS l = lenS m := (h.map _).sum_nat
theorem lenS_filter (p : List UInt8 → Bool) : ∀ l : List (List UInt8), lenS (l.filter p) ≤ lenS l
  | [] => Nat.le_refl _
  | x :: l => by
    have ih := lenS_filter p l
    by_cases h : p x = true
    · rw [List.filter_cons_of_pos h]
      simp only [lenS, List.map_cons, List.sum_cons] at ih ⊢; omega
    · rw [List.filter_cons_of_neg h]
      simp only [lenS, List.map_cons, List.sum_cons] at ih ⊢; omega
def qL (l : List (List UInt8)) : List UInt8 := if l = [] then [] else 63 :: Lib.join l [38]
def normL (p : List UInt8) : List UInt8 := (Lib.cut p [63]).1 ++ qL (sortG leT (piecesOf (Lib.cut p [63]).2.1))
theorem queryT_list (l : List (List UInt8)) : (queryT (l.map ba)).data.toList = qL l := by
  unfold queryT qL
  by_cases h : l = []
  · subst h; rfl
  · rw [if_neg h, if_neg (by simpa using h)]
    have : (l.map ba).map (·.data.toList) = l := map_ba l
    simp only [joinB, this, ByteArray.data_append, Array.toList_append]
    rfl
theorem keyT_list (h p : ByteArray) : (keyT h p).data.toList = (lowS h).data.toList ++ normL p.data.toList := by
  unfold keyT normL sortedOf
  rw [ByteArray.data_append, ByteArray.data_append, Array.toList_append, Array.toList_append, queryT_list, ba_list, List.append_assoc]
theorem pieces_no {q x : List UInt8} (h : x ∈ piecesOf q) : x ≠ [] ∧ (∀ b ∈ x, b ≠ 38) ∧ ∀ b ∈ x, b ∈ q := by
  unfold piecesOf at h
  obtain ⟨h1, h2⟩ := List.mem_filter.1 h
  rw [← cutGo_eq] at h1
  refine ⟨fun e => by subst e; simp at h2, cutGo_no 38 q [] (by simp) x h1, fun b hb => ?_⟩
  rcases cutGo_from 38 q [] x h1 b hb with h | h
  · cases h
  · exact h
theorem sorted_no {q x : List UInt8} (h : x ∈ sortG leT (piecesOf q)) : x ≠ [] ∧ (∀ b ∈ x, b ≠ 38) ∧ ∀ b ∈ x, b ∈ q := pieces_no ((sortT_perm _).mem_iff.1 h)
theorem pieces_sorted (q : List UInt8) (x : List UInt8) (l : List (List UInt8)) (h : sortG leT (piecesOf q) = x :: l) : sortG leT (piecesOf (Lib.join (x :: l) [38])) = x :: l := by
  have hp : ∀ y ∈ x :: l, y ≠ [] ∧ (∀ b ∈ y, b ≠ 38) ∧ ∀ b ∈ y, b ∈ q := fun y hy => sorted_no (by rw [h]; exact hy)
  have e : piecesOf (Lib.join (x :: l) [38]) = x :: l := by
    unfold piecesOf
    rw [split_join 38 x l (fun y hy => (hp y hy).2.1)]
    exact List.filter_eq_self.2 fun y hy => by
      have := (hp y hy).1
      simpa using this
  rw [e, ← h, sortT_twice]
theorem qL_len (q : List UInt8) : (qL (sortG leT (piecesOf q))).length ≤ q.length + 1 := by
  unfold qL
  split
  · exact Nat.zero_le _
  · rename_i hne
    cases hs : sortG leT (piecesOf q) with
    | nil => exact absurd hs hne
    | cons x l =>
      have h1 := join_len 38 x l
      rw [← hs] at h1 ⊢
      have h2 := lenS_perm (sortT_perm (piecesOf q))
      have h3 := sortT_len (piecesOf q)
      have h4 : lenS (piecesOf q) ≤ lenS (Lib.split q [38]) := lenS_filter _ _
      have h5 : (piecesOf q).length ≤ (Lib.split q [38]).length := List.length_filter_le _ _
      have h6 := cutGo_sum 38 q []
      rw [cutGo_eq] at h6
      simp only [List.length_nil, List.length_cons] at h6 ⊢
      omega
/-- The path in a key: no longer, of the same bytes, begun alike; and its key's path is itself. -/
theorem norm_all (p : List UInt8) (P : UInt8 → Prop) (hp : ∀ b ∈ p, P b) (h63 : P 63) (h38 : P 38) (h0 : p.head? = some 47) :
    (normL p).length ≤ p.length ∧ (∀ b ∈ normL p, P b) ∧ (normL p).head? = some 47 ∧ normL (normL p) = normL p := by
  obtain ⟨a, q, b, hc, hno, hcase⟩ := cut_one p 63
  have hN : normL p = a ++ qL (sortG leT (piecesOf q)) := by unfold normL; rw [hc]
  have ha : ∀ x ∈ a, P x := fun x hx => hp x (by
    rcases hcase with ⟨_, h⟩ | ⟨_, _, h⟩
    · rw [h]; exact List.mem_append_left _ hx
    · rw [h]; exact hx)
  have hq : ∀ x ∈ q, P x := fun x hx => by
    rcases hcase with ⟨_, h⟩ | ⟨_, h, _⟩
    · exact hp x (by rw [h]; simp [hx])
    · rw [h] at hx; cases hx
  have hane : a.head? = some 47 := by
    rcases hcase with ⟨_, h⟩ | ⟨_, _, h⟩
    · cases a with
      | nil => rw [h] at h0; simp at h0
      | cons x r => rw [h] at h0; exact h0
    · rw [← h]; exact h0
  have hal : ∃ r, a = 47 :: r := by
    cases a with
    | nil => simp at hane
    | cons x r => simp at hane; subst hane; exact ⟨r, rfl⟩
  obtain ⟨r, har⟩ := hal
  refine ⟨?_, fun x hx => ?_, by rw [hN, har]; rfl, ?_⟩
  · rw [hN, List.length_append]
    rcases hcase with ⟨_, h⟩ | ⟨_, h2, h⟩
    · have := qL_len q
      rw [h, List.length_append, List.length_cons]; omega
    · subst h2
      have : qL (sortG leT (piecesOf [])) = [] := by decide
      rw [this, h]; simp
  · rw [hN] at hx
    rcases List.mem_append.1 hx with hx | hx
    · exact ha x hx
    · unfold qL at hx
      split at hx
      · cases hx
      · rcases List.mem_cons.1 hx with rfl | hx
        · exact h63
        · have key : ∀ (l : List (List UInt8)), (∀ y ∈ l, ∀ b ∈ y, P b) → ∀ x ∈ Lib.joinTail [38] l, P x := by
            intro l hl x hx
            simp only [Lib.joinTail, List.mem_flatten, List.mem_map] at hx
            obtain ⟨_, ⟨y, hy, rfl⟩, hx⟩ := hx
            rcases List.mem_append.1 hx with hx | hx
            · simp at hx; subst hx; exact h38
            · exact hl y hy x hx
          have hpP : ∀ y ∈ sortG leT (piecesOf q), ∀ b ∈ y, P b := fun y hy b hb => hq b ((sorted_no hy).2.2 b hb)
          cases hs : sortG leT (piecesOf q) with
          | nil => rw [hs] at hx; cases hx
          | cons y l =>
            rw [hs, Lib.join_cons] at hx
            rw [hs] at hpP
            rcases List.mem_append.1 hx with hx | hx
            · exact hpP y (by simp) x hx
            · exact key l (fun z hz => hpP z (List.mem_cons_of_mem _ hz)) x hx
  · cases hs : sortG leT (piecesOf q) with
    | nil =>
      have e : normL p = a := by rw [hN, hs]; simp [qL]
      rw [e]
      unfold normL
      rw [cut_none (fun j hj => hno _ (List.getElem_mem hj))]
      simp only
      have : qL (sortG leT (piecesOf [])) = [] := by decide
      rw [this, List.append_nil]
    | cons y l =>
      have e : normL p = a ++ (63 :: Lib.join (y :: l) [38]) := by rw [hN, hs]; simp [qL]
      have hc2 : Lib.cut (a ++ (63 :: Lib.join (y :: l) [38])) [63] = (a, Lib.join (y :: l) [38], true) := by
        rw [cut_at (i := a.length) (by simp) (by rw [List.getElem_append_right (Nat.le_refl _)]; simp) (fun j hj => by rw [List.getElem_append_left hj]; exact hno _ (List.getElem_mem hj))]
        rw [List.take_left, ← List.drop_drop, List.drop_left]
        rfl
      rw [e]
      conv => lhs; unfold normL
      rw [hc2]
      simp only
      rw [pieces_sorted q y l hs]
      simp [qL]
theorem low_host {h : ByteArray} (h1 : inB h.size 1 60 = true) (h2 : ∀ b ∈ h.data.toList, hostB (b.toNat : Int) = true) : hostS (lowS h) = true := by
  unfold hostS
  rw [lowS_size, h1, Bool.true_and]
  refine List.all_eq_true.2 fun b hb => ?_
  have e : (lowS h).data.toList = h.data.toList.map lowB := by unfold lowS; simp
  rw [e] at hb
  obtain ⟨c, hc, rfl⟩ := List.mem_map.1 hb
  have := h2 c hc
  unfold lowB
  split
  · rename_i hr
    have e2 : (c + 32).toNat = c.toNat + 32 := by rw [UInt8.toNat_add]; simp; omega
    rw [e2]
    simp only [hostB, letterB, digitB, Bool.or_eq_true, Bool.and_eq_true, decide_eq_true_eq]
    omega
  · exact this
/-- The host in small letters and the path of the key: as right as they were. -/
theorem again_fault {m h p : ByteArray} {l : List Hd} (e : rqFault m h p l = 0) : rqFault m (lowS h) p l = 0 ∧ rqFault m (lowS h) (ba (normL p.data.toList)) l = 0 ∧ keyT (lowS h) p = keyT h p ∧ keyT (lowS h) (ba (normL p.data.toList)) = keyT h p := by
  obtain ⟨hm, ⟨hh1, hh2⟩, ⟨hp1, hp2⟩, hf, hv, hn⟩ := rq_parts e
  have hlow := low_host hh1 hh2
  have hpth : pathS p = true ∧ methodB m = true := by
    unfold rqFault at e
    by_cases h1 : (methodB m && hostS h && pathS p) = false
    · rw [if_pos h1] at e; omega
    · simp only [Bool.not_eq_false, Bool.and_eq_true] at h1
      exact ⟨h1.2, h1.1.1⟩
  have h0 : p.data.toList.head? = some 47 := by
    have := hpth.1
    unfold pathS at this
    simp only [Bool.and_eq_true, beq_iff_eq] at this
    exact this.2
  obtain ⟨n1, n2, n3, n4⟩ := norm_all p.data.toList (fun b => pathB (b.toNat : Int) = true) hp2 (by decide) (by decide) h0
  have hnp : pathS (ba (normL p.data.toList)) = true := by
    unfold pathS
    simp only [Bool.and_eq_true, beq_iff_eq]
    obtain ⟨a1, a2⟩ := inB_iff.1 hp1
    refine ⟨⟨inB_iff.2 ?_, ?_⟩, by rw [ba_list]; exact n3⟩
    · rw [ba_size]
      have n1' : (normL p.data.toList).length ≤ p.size := Nat.le_trans n1 (Nat.le_of_eq Array.length_toList)
      have : 1 ≤ (normL p.data.toList).length := by
        cases hx : normL p.data.toList with
        | nil => rw [hx] at n3; simp at n3
        | cons x r => simp
      omega
    · unfold allB
      rw [ba_list]
      exact List.all_eq_true.2 n2
  have rest : ∀ p', pathS p' = true → rqFault m (lowS h) p' l = 0 := fun p' hp' => by
    unfold rqFault
    rw [hpth.2, hlow, hp', if_neg (by decide), if_neg (by rw [hf]; decide), if_neg (by rw [hv]; simp), if_neg (by omega)]
  have kl : ∀ h' p', (keyT (lowS h') p').data.toList = (lowS h').data.toList ++ normL p'.data.toList := fun h' p' => by rw [keyT_list, lowS_twice]
  refine ⟨rest p hpth.1, rest _ hnp, ?_, ?_⟩
  · apply ByteArray.ext; apply Array.toList_inj.1
    rw [kl, keyT_list]
  · apply ByteArray.ext; apply Array.toList_inj.1
    rw [kl, ba_list, n4, keyT_list]
end Go.Proofs.YtbiodbggaeglpaaGreatDoor

/- The request that bytes tell: the reference's text. -/
namespace Go.Proofs.YtbiodbggaeglpaaGreatDoor
open Go.RowKit
set_option linter.unusedSimpArgs false
set_option linter.unusedVariables false

def firstV : Option (List UInt8 × List UInt8) → ByteArray × ByteArray × Bool
  | none => (⟨#[]⟩, ⟨#[]⟩, false)
  | some p => (ba p.1, ba p.2, true)
theorem list_at {t : ByteArray} {j : Nat} (h : j < t.data.toList.length) : t.data.toList[j] = t[j]'(by rw [Array.length_toList] at h; exact h) := by rw [Array.getElem_toList]; rfl
theorem firstV_never {t : ByteArray} (hn : ∀ j (hj : j + 1 < t.size), ¬ (t[j] = 13 ∧ t[j + 1] = 10)) : firstV (firstR t.data.toList) = (⟨#[]⟩, ⟨#[]⟩, false) := by
  rw [firstR_never (fun j hj => by
    rw [list_at, list_at]
    exact hn j (by rw [Array.length_toList] at hj; exact hj))]
  rfl
theorem firstV_at {t : ByteArray} {i : Nat} (hi : i + 1 < t.size) (h1 : t[i] = 13) (h2 : t[i + 1] = 10) (hn : ∀ j (hj : j + 1 < t.size), j < i → ¬ (t[j] = 13 ∧ t[j + 1] = 10)) (r : ByteArray) (hr : t.extract (i + 2) t.size = r) :
    (r.data.toList = crlf → firstV (firstR t.data.toList) = (t.extract 0 i, r.extract 0 (r.size - 2), true)) ∧ (4 ≤ r.size → (r.extract (r.size - 4) r.size).data.toList = [13, 10, 13, 10] → firstV (firstR t.data.toList) = (t.extract 0 i, r.extract 0 (r.size - 2), true)) ∧
    (r.data.toList ≠ crlf → (4 ≤ r.size → (r.extract (r.size - 4) r.size).data.toList ≠ [13, 10, 13, 10]) → firstV (firstR t.data.toList) = (⟨#[]⟩, ⟨#[]⟩, false)) := by
  have hl : t.data.toList.length = t.size := Array.length_toList
  have e := firstR_at (t := t.data.toList) (i := i) (by rw [hl]; exact hi) (by rw [list_at]; exact h1) (by rw [list_at]; exact h2) (fun j hj hji => by
    rw [list_at, list_at]
    exact hn j (by rw [hl] at hj; exact hj) hji)
  have er : t.data.toList.drop (i + 2) = r.data.toList := by rw [← hr, ext_from, ba_list]
  have hrl : r.data.toList.length = r.size := Array.length_toList
  rw [er] at e
  have good : firstV (some (t.data.toList.take i, r.data.toList.take (r.data.toList.length - 2))) = (t.extract 0 i, r.extract 0 (r.size - 2), true) := by
    rw [ext_to, ext_to, hrl]; rfl
  have hsuf : (crlf ++ crlf) <:+ r.data.toList ↔ 4 ≤ r.size ∧ (r.extract (r.size - 4) r.size).data.toList = [13, 10, 13, 10] := by
    rw [suffix4 _ rfl, hrl, ext_from, ba_list]
    rfl
  refine ⟨fun h => ?_, fun h h' => ?_, fun h h' => ?_⟩
  · rw [e, if_pos (.inl h), good]
  · rw [e, if_pos (.inr (hsuf.2 ⟨h, h'⟩)), good]
  · rw [e, if_neg (fun q => by
      rcases q with q | q
      · exact h q
      · exact h' (hsuf.1 q).1 (hsuf.1 q).2)]
    rfl
theorem eq_str (s : ByteArray) (l : List UInt8) : (s.toList == l) = decide (s.data.toList = l) := by rw [ByteArray.toList_eq, Bool.eq_iff_iff, beq_iff_eq, decide_eq_true_iff]
set_option maxHeartbeats 3200000 in
set_option maxRecDepth 100000 in
theorem spec_l5First (t : ByteArray) (ht : t.size ≤ 100000) (w : World) : Calls Tryz.prog 42 #[.string t] w fun e w' => e = .returned (.tuple #[.string (firstV (firstR t.data.toList)).1, .string (firstV (firstR t.data.toList)).2.1, .bool (firstV (firstR t.data.toList)).2.2]) ∧ Below w.heap.size w w' := by
  go_enter Tryz.func42, Tryz.ntmps42
  go_wp2
  go_loopw [5] (fun iv wr => ∃ i : Nat, iv = .int .i64 (i : Int) ∧ i ≤ t.size ∧ (∀ j (hj : j + 1 < t.size), j < i → ¬ (t[j] = 13 ∧ t[j + 1] = 10)) ∧ Below w.heap.size w wr) (fun i _ => t.size - (intOf i).toNat)
  case atStart => exact ⟨0, rfl, Nat.zero_le _, fun j hj h => by omega, Below.refl _ _⟩
  case round =>
    obtain ⟨i, rfl, hit, hno, hb⟩ := hrel
    have Hno := Lib.hid hno
    clear hno
    by_cases hlt : i + 1 < t.size
    · by_cases c1 : ((t[i].toNat : Int) == 13) = true
      · by_cases c2 : ((t[i + 1].toNat : Int) == 10) = true
        · obtain ⟨r, hr⟩ : ∃ r, t.extract (i + 2) t.size = r := ⟨_, rfl⟩
          obtain ⟨f1, f2, f3⟩ := firstV_at hlt (eq13 (n := 13) c1 (by omega)) (eq13 (n := 10) c2 (by omega)) Hno.out r hr
          have F1 := Lib.hid f1
          have F2 := Lib.hid f2
          have F3 := Lib.hid f3
          have hrs : r.size ≤ 100000 := by rw [← hr, ByteArray.size_extract]; omega
          have hi2 : (0 : Int) ≤ (i : Int) + 2 := by omega
          have hi3 : (i : Int) + 2 ≤ (t.size : Int) := by omega
          have hiw : IntKind.i64.wrap ((i : Int) + 2) = (i : Int) + 2 := wrapi _ (by omega) (by omega)
          have hit2 : ((i : Int) + 2).toNat = i + 2 := by omega
          clear f1 f2 f3
          by_cases a1 : r.data.toList = crlf
          · have e1 : (r.toList == [13, 10]) = true := by rw [eq_str]; exact decide_eq_true a1
            have E := Lib.hid (F1.out a1)
            have hr2 : 2 ≤ r.size := by have := congrArg List.length a1; rw [Array.length_toList] at this; exact Nat.le_of_eq this.symm
            have hw2 : IntKind.i64.wrap ((r.size : Int) - 2) = (r.size : Int) - 2 := wrapi _ (by omega) (by omega)
            have hw3 : (0 : Int) ≤ (r.size : Int) - 2 := by omega
            have hw4 : (r.size : Int) - 2 ≤ (r.size : Int) := by omega
            have hw5 : ((r.size : Int) - 2).toNat = r.size - 2 := by omega
            clear a1
            go_wp2
            go_quiet (fail)
            go_wp2
            go_ret3
            exact ⟨by rw [E.out]; rfl, below_drewN hb _⟩
          · have e1 : (r.toList == [13, 10]) = false := by rw [eq_str]; exact decide_eq_false a1
            by_cases a2 : 4 ≤ r.size
            · have hw6 : IntKind.i64.wrap ((r.size : Int) - 4) = (r.size : Int) - 4 := wrapi _ (by omega) (by omega)
              have hw7 : (0 : Int) ≤ (r.size : Int) - 4 := by omega
              have hw8 : (r.size : Int) - 4 ≤ (r.size : Int) := by omega
              have hw9 : ((r.size : Int) - 4).toNat = r.size - 4 := by omega
              have hw2 : IntKind.i64.wrap ((r.size : Int) - 2) = (r.size : Int) - 2 := wrapi _ (by omega) (by omega)
              have hw3 : (0 : Int) ≤ (r.size : Int) - 2 := by omega
              have hw4 : (r.size : Int) - 2 ≤ (r.size : Int) := by omega
              have hw5 : ((r.size : Int) - 2).toNat = r.size - 2 := by omega
              by_cases a3 : (r.extract (r.size - 4) r.size).data.toList = [13, 10, 13, 10]
              · have e3 : ((r.extract (r.size - 4) r.size).toList == [13, 10, 13, 10]) = true := by rw [eq_str]; exact decide_eq_true a3
                have E := Lib.hid (F2.out a2 a3)
                clear a1 a3
                go_wp2
                go_quiet (fail)
                go_wp2
                go_ret3
                exact ⟨by rw [E.out]; rfl, below_drewN hb _⟩
              · have e3 : ((r.extract (r.size - 4) r.size).toList == [13, 10, 13, 10]) = false := by rw [eq_str]; exact decide_eq_false a3
                have E := Lib.hid (F3.out a1 (fun _ => a3))
                clear a1 a3
                go_wp2
                go_ret3
                exact ⟨by rw [E.out]; rfl, hb⟩
            · have E := Lib.hid (F3.out a1 (fun q => absurd q a2))
              clear a1
              go_wp2
              go_ret3
              exact ⟨by rw [E.out]; rfl, hb⟩
        · simp only [Bool.not_eq_true] at c2
          have hne := ne13 (n := 10) c2 (by omega)
          have Hne := Lib.hid hne
          clear hne
          go_wp2
          go_roundw
          case rel =>
            refine ⟨i + 1, by go_num, by omega, fun j hj hji q => ?_, hb⟩
            by_cases e : j = i
            · subst e; exact Hne.out q.2
            · exact Hno.out j hj (by omega) q
          case measure => simp [intOf]; omega
      · simp only [Bool.not_eq_true] at c1
        have hne := ne13 (n := 13) c1 (by omega)
        have Hne := Lib.hid hne
        clear hne
        go_wp2
        go_roundw
        case rel =>
          refine ⟨i + 1, by go_num, by omega, fun j hj hji q => ?_, hb⟩
          by_cases e : j = i
          · subst e; exact Hne.out q.1
          · exact Hno.out j hj (by omega) q
        case measure => simp [intOf]; omega
    · have E := Lib.hid (firstV_never (t := t) (fun j hj => Hno.out j hj (by omega)))
      go_wp2
      go_ret3
      exact ⟨by rw [E.out]; rfl, hb⟩
end Go.Proofs.YtbiodbggaeglpaaGreatDoor
