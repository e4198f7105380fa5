/- Joined: Strs, Text, Lower, Alike, Digits, Quote, TabOpen, TabMore, Times, Delta, Find, ItemsText, ItemsTextI, TimesP, TrimP, Trim, WordsP. -/
import Derived.Test.YthiogijicknoiaaGreatDoorJB0
import Derived.Test.YthiogijicknoiaaGreatDoorShelf
import Derived.Lib.IndexAny
import Derived.Lib.ItoaNum
import Derived.Lib.ItoaMem
import Derived.Lib.ItoaLen
import Derived.WalkSmall
import Derived.Lib.LaidTab
import Derived.Deep.DeepCutAuto
import Derived.Deep.RegionHeld3
import Derived.Test.YthiogijicknoiaaGreatDoorRows
import Derived.MakeChecks
import Derived.Lib.SlTrimSet
import Derived.Shelf.Strings.SlTrimAscii
/- Slices of strings: copied, measured, compared, searched. -/
namespace Go.Proofs.YthiogijicknoiaaGreatDoor
open Go.RowKit
set_option linter.unusedSimpArgs false
set_option linter.unusedVariables false

def strV (l : List ByteArray) : List Value := l.map Value.string
theorem strV_len (l : List ByteArray) : (strV l).length = l.length := List.length_map _
theorem strV_at (l : List ByteArray) (k : Nat) (h : k < l.length) : (strV l)[k]? = some (.string l[k]) := by simp [strV, h]
theorem strV_take (l : List ByteArray) (k : Nat) (h : k < l.length) : strV (l.take (k + 1)) = strV (l.take k) ++ [.string l[k]] := by
  unfold strV; rw [List.take_succ_eq_append_getElem h, List.map_append]; rfl
theorem infoStr : (Tryz.prog.info? 9).map (fun i => (i.zero, i.size, i.bytes)) = some (some (.string ⟨#[]⟩), 1, 16) := by kernel_rfl

theorem toStringS (a : Option Addr) (n cap : Nat) (l : List ByteArray) (hl : l.length = n) (w : World) (hr : Rd w a (strV l)) (hn : n * 16 ≤ 281474976710656) :
    Calls Tryz.prog 19 #[.slice a n cap] w fun e w' => ∃ g, e = .returned (.slice (some ⟨g, 0, none⟩) n n) ∧ w.heap.size ≤ g ∧ RowAt w' g (strV l) ∧ Below w.heap.size w w' := by
  obtain ⟨W, D, hmk, hDl, hrow, hbel, hlt0⟩ := make_there w 27 9 Tryz.underlying27 infoStr n (by omega) (by unfold maxLen; omega)
  have Hrow := Lib.hid hrow
  have Hl := Lib.hid hl
  have HD := Lib.hid hDl
  clear hrow hl hDl
  go_enter Tryz.func19, Tryz.ntmps19
  go_wp2
  go_loopw [4] (fun i wr => ∃ k : Nat, k ≤ n ∧ i = .int .i64 k ∧ RowAt wr w.heap.size (strV (l.take k) ++ D.drop k) ∧ Below w.heap.size w wr) (fun i _ => n - (intOf i).toNat)
  case atStart => exact ⟨0, Nat.zero_le _, rfl, Hrow.out, hbel⟩
  case round =>
    clear hmk
    obtain ⟨k, hk, rfl, hrow, hb⟩ := hrel
    have Hr := Lib.hid hrow
    clear hrow
    by_cases hlt : k < n
    · have hlk : k < l.length := by rw [Hl.out]; exact hlt
      have hDk : k < D.length := by rw [HD.out]; omega
      obtain ⟨b, off, rfl, hbl, hcell⟩ := (hr.below hb) k (.string l[k]) (strV_at l k hlk)
      have hd := Hr.out.cell k D[k] (by rw [List.getElem?_append_right (by rw [strV_len, List.length_take]; omega), strV_len, List.length_take, show k - min k l.length = 0 from by omega, List.getElem?_drop]; simp [hDk])
      have hf := Hr.out.free k (by rw [List.length_append, strV_len, List.length_take, List.length_drop]; omega)
      go_wp2
      go_roundw
      case rel =>
        refine ⟨k + 1, by omega, by go_num, ?_, hb.setCell (Nat.le_refl _) _⟩
        have h := Hr.out.put1 (p := k) (by rw [strV_len, List.length_take]; omega) (by rw [List.length_drop]; omega) (.string l[k])
        rw [List.drop_drop] at h
        have e := strV_take l k hlk
        rw [e]
        exact h
      case measure => simp [intOf]; omega
    · have hk' : k = n := by omega
      have Hk := Lib.hid hk'
      clear hk'
      go_wp2
      go_ret
      refine ⟨_, rfl, Nat.le_refl _, ?_, hb⟩
      have h := Hr.out
      rw [Hk.out, List.take_of_length_le (by rw [Hl.out]; exact Nat.le_refl _), List.drop_of_length_le (by rw [HD.out]; omega), List.append_nil] at h
      exact h

theorem szStringS (a : Option Addr) (n cap : Nat) (l : List ByteArray) (hl : l.length = n) (left : Int) (h0 : 0 ≤ left) (h1 : left ≤ 1048576) (w : World) (hr : Rd w a (strV l)) (hn : n ≤ 9223372036854775807) (hs : ∀ s ∈ l, s.size ≤ 9223372036854775807) :
    Calls Tryz.prog 17 #[.slice a n cap, .int .i64 left] w fun e w' => ∃ r : Int, e = .returned (.int .i64 r) ∧ SzR n left r ∧ Below w.heap.size w w' := by
  have Hl := Lib.hid hl
  have Hs := Lib.hid hs
  clear hl hs
  by_cases hneg : left < n
  · go_enter Tryz.func17, Tryz.ntmps17
    go_wp2
    go_ret
    exact ⟨_, rfl, SzR.of (by omega) (by omega) (by omega), Below.refl _ _⟩
  · go_enter Tryz.func17, Tryz.ntmps17
    go_wp2
    go_loop [1, 5] (fun v i => ∃ (k : Nat) (r : Int), k ≤ n ∧ i = .int .i64 k ∧ v = .int .i64 r ∧ 0 ≤ r ∧ r ≤ 1048576) (fun _ i => n - (intOf i).toNat)
    case atStart => exact ⟨0, _, Nat.zero_le _, rfl, rfl, by omega, by omega⟩
    case round =>
      obtain ⟨k, r, hk, rfl, rfl, hr0, hr1⟩ := hrel
      by_cases hlt : k < n
      · have hlk : k < l.length := by rw [Hl.out]; exact hlt
        obtain ⟨b, off, rfl, hbl, hcell⟩ := hr k (.string l[k]) (strV_at l k hlk)
        have hsz := Hs.out l[k] (List.getElem_mem hlk)
        by_cases hng : r < l[k].size
        · go_wp2
          go_ret
          exact ⟨_, rfl, SzR.of (by omega) (by omega) (by omega), Below.refl _ _⟩
        · go_wp2
          go_round
          case rel => exact ⟨k + 1, _, by omega, by go_num, rfl, by omega, by omega⟩
          case measure => simp [intOf]; omega
      · go_wp2
        go_ret
        exact ⟨_, rfl, SzR.of (by omega) (by omega) (by omega), Below.refl _ _⟩

theorem eqStringS (a a' : Option Addr) (n c c' : Nat) (l : List ByteArray) (hl : l.length = n) (w : World) (hr : Rd w a (strV l)) (hr' : Rd w a' (strV l)) (hn : n ≤ 9223372036854775807) : Calls Tryz.prog 22 #[.slice a n c, .slice a' n c'] w fun e w' => e = .returned (.bool true) ∧ Below w.heap.size w w' := by
  have Hl := Lib.hid hl
  clear hl
  go_enter Tryz.func22, Tryz.ntmps22
  go_wp2
  go_loopw [5] (fun i wr => ∃ k : Nat, k ≤ n ∧ i = .int .i64 k ∧ Below w.heap.size w wr) (fun i _ => n - (intOf i).toNat)
  case atStart => exact ⟨0, Nat.zero_le _, rfl, Below.refl _ _⟩
  case round =>
    obtain ⟨k, hk, rfl, hb⟩ := hrel
    by_cases hlt : k < n
    · have hlk : k < l.length := by rw [Hl.out]; exact hlt
      obtain ⟨b, off, rfl, hbl, hcell⟩ := (hr.below hb) k (.string l[k]) (strV_at l k hlk)
      obtain ⟨b', off', rfl, hbl', hcell'⟩ := (hr'.below hb) k (.string l[k]) (strV_at l k hlk)
      go_wp2
      go_quiet (fail)
      go_wp2
      go_roundw
      case rel => exact ⟨k + 1, by omega, by go_num, below_drewN hb _⟩
      case measure => simp [intOf]; omega
    · go_wp2
      go_ret
      exact ⟨rfl, hb⟩

def isS (t : ByteArray) (s : ByteArray) : Bool := decide (s = t)
theorem isS_true {t s : ByteArray} (h : isS t s = true) : (t.toList == s.toList) = true ∧ (s.toList == t.toList) = true := by
  have := of_decide_eq_true h; subst this; simp
theorem isS_false {t s : ByteArray} (h : isS t s = false) : (t.toList == s.toList) = false ∧ (s.toList == t.toList) = false := by
  have := of_decide_eq_false h
  exact ⟨bytes_ne fun e => this e.symm, bytes_ne this⟩
def hasS (t : ByteArray) (l : List ByteArray) : Bool := decide (0 ≤ idxI (isS t) l)

end Go.Proofs.YthiogijicknoiaaGreatDoor

/- Letters, words, small letters. -/
namespace Go.Proofs.YthiogijicknoiaaGreatDoor
open Go.RowKit
set_option linter.unusedSimpArgs false
set_option linter.unusedVariables false

theorem idx_has (l : List UInt8) (c : Int) (h0 : 0 ≤ c) (h1 : c < 256) : decide (0 ≤ Lib.indexByte l (UInt8.ofNat c.toNat)) = (l.map fun b => (b.toNat : Int)).contains c := by
  rw [← Lib.contains_iff_indexByte]
  obtain ⟨n, rfl⟩ := Int.eq_ofNat_of_zero_le h0
  induction l with
  | nil => rfl
  | cons b l ih =>
    rw [List.map_cons, List.contains_cons, List.contains_cons, ih]
    congr 1
    rw [Bool.eq_iff_iff, beq_iff_eq, beq_iff_eq]
    have hb := b.toNat_lt
    constructor
    · intro h; rw [← h]; simp; omega
    · intro h
      apply UInt8.toNat_inj.1
      simp; omega

theorem impl_isLetter (c : Int) (w : World) : Calls Tryz.prog 186 #[.int .u8 c] w fun e w' => e = .returned (.bool (letterB c)) ∧ w = w' := by
  go_enter Tryz.func186, Tryz.ntmps186
  go_wp2
  all_goals (go_ret; exact ⟨ret_bool (by rw [Bool.eq_iff_iff]; simp [letterB]; omega), rfl⟩)
theorem spec_l1Letter (c : Int) (w : World) : Calls Tryz.prog 123 #[.int .u8 c] w fun e w' => e = .returned (.bool (letterB c)) ∧ w = w' := by
  go_enter Tryz.func123, Tryz.ntmps123
  go_wp2
  all_goals (go_ret; exact ⟨ret_bool (by rw [Bool.eq_iff_iff]; simp [letterB]; omega), rfl⟩)
theorem impl_isDigit (c : Int) (w : World) : Calls Tryz.prog 82 #[.int .u8 c] w fun e w' => e = .returned (.bool (digitB c)) ∧ w = w' := by
  go_enter Tryz.func82, Tryz.ntmps82
  go_wp2
  all_goals (go_ret; exact ⟨ret_bool (by rw [Bool.eq_iff_iff]; simp [digitB]; omega), rfl⟩)
theorem spec_l1Digit (c : Int) (w : World) : Calls Tryz.prog 124 #[.int .u8 c] w fun e w' => e = .returned (.bool (digitB c)) ∧ w = w' := by
  go_enter Tryz.func124, Tryz.ntmps124
  go_wp2
  all_goals (go_ret; exact ⟨ret_bool (by rw [Bool.eq_iff_iff]; simp [digitB]; omega), rfl⟩)
set_option maxHeartbeats 1000000 in
theorem spec_l1WordByte (c : Int) (w : World) : Calls Tryz.prog 165 #[.int .u8 c] w fun e w' => e = .returned (.bool (wordB c)) ∧ w = w' := by
  go_enter Tryz.func165, Tryz.ntmps165
  go_wp2_with (first | (go_at_call 123; ((with_reducible refine (spec_l1Letter _ _).mono ?_); rintro e w' ⟨rfl, rfl⟩)) | (go_at_call 124; ((with_reducible refine (spec_l1Digit _ _).mono ?_); rintro e w' ⟨rfl, rfl⟩)))
  all_goals (go_ret; exact ⟨ret_bool (by simp_all [wordB]), rfl⟩)
theorem impl_isWordByte (c : Int) (h0 : 0 ≤ c) (h1 : c < 256) (w : World) : Calls Tryz.prog 164 #[.int .u8 c] w fun e w' => e = .returned (.bool (wordB c)) ∧ w = w' := by
  go_enter Tryz.func164, Tryz.ntmps164
  go_wp2_with (first | (go_at_call 186; ((with_reducible refine (impl_isLetter _ _).mono ?_); rintro e w' ⟨rfl, rfl⟩)) | (go_at_call 82; ((with_reducible refine (impl_isDigit _ _).mono ?_); rintro e w' ⟨rfl, rfl⟩)) | (go_at_call 187; ((with_reducible refine (Tryz.strings_IndexByte _ _ _).mono ?_); rintro e w' ⟨rfl, rfl⟩)))
  · go_ret
    exact ⟨ret_bool (by simp_all [wordB]), rfl⟩
  · go_ret
    exact ⟨ret_bool (by simp_all [wordB]), rfl⟩
  · go_ret
    refine ⟨ret_bool ?_, rfl⟩
    rw [idx_has _ c h0 h1]
    simp_all [wordB]

set_option maxHeartbeats 800000 in
theorem areBytes_word (s : ByteArray) (lo hi : Int) (w : World) (hs : s.size ≤ 9223372036854775807) : Calls Tryz.prog 81 #[.string s, .int .i64 lo, .int .i64 hi, .func (.func 164) #[] #[]] w fun e w' => e = .returned (.bool (inB s.size lo hi && allB wordB s)) ∧ w = w' := by
  by_cases hb : inB s.size lo hi = true
  · obtain ⟨h1, h2⟩ := inB_iff.1 hb
    have hfin : ∀ v, allB wordB s = v → (inB s.size lo hi && allB wordB s) = v := fun v h => by rw [hb, h]; rfl
    have Hfin := Lib.hid hfin
    clear hfin hb
    go_enter Tryz.func81, Tryz.ntmps81
    go_wp2
    go_loop [22] (fun i => ∃ k : Nat, k ≤ s.size ∧ i = .int .i64 k ∧ allTo wordB s k = true) (fun i => s.size - (intOf i).toNat)
    case atStart => exact ⟨0, Nat.zero_le _, rfl, rfl⟩
    case round =>
      obtain ⟨k, hk, rfl, hall⟩ := hrel
      have Hall := Lib.hid hall
      clear hall
      by_cases hlt : k < s.size
      · have hsn := Lib.hid (allTo_succ wordB s k hlt)
        by_cases hp : wordB (s[k].toNat : Int) = true
        · go_wp2_with (go_at_call 164; ((with_reducible refine (impl_isWordByte _ (by omega) (by have := (s[k]).toNat_lt; omega) _).mono ?_); rintro e w' ⟨rfl, rfl⟩))
          go_round
          case rel => exact ⟨k + 1, by omega, by go_num, by rw [hsn.out, Hall.out, hp]; rfl⟩
          case measure => simp [intOf]; omega
        · simp only [Bool.not_eq_true] at hp
          go_wp2_with (go_at_call 164; ((with_reducible refine (impl_isWordByte _ (by omega) (by have := (s[k]).toNat_lt; omega) _).mono ?_); rintro e w' ⟨rfl, rfl⟩))
          go_ret
          exact ⟨ret_bool (Hfin.out _ (allB_false _ _ _ hlt hp)).symm, rfl⟩
      · have hk' : k = s.size := by omega
        have Hk := Lib.hid hk'
        clear hk'
        go_wp2
        go_ret
        refine ⟨ret_bool (Hfin.out _ ?_).symm, rfl⟩
        have h := Hall.out
        rw [Hk.out, allTo_size] at h
        exact h
  · simp only [Bool.not_eq_true] at hb
    have h1 := inB_not.1 hb
    by_cases h2 : (s.size : Int) < lo
    all_goals
      go_enter Tryz.func81, Tryz.ntmps81
      go_wp2
      all_goals
        go_ret
        exact ⟨ret_bool (by first | rfl | (rw [hb]; rfl)), rfl⟩

theorem wordS_of (s : ByteArray) : (inB s.size 1 64 && allB wordB s) = wordS s := by
  unfold wordS inB; congr 1; congr 1 <;> rw [Bool.eq_iff_iff] <;> simp only [decide_eq_true_eq] <;> omega
theorem impl_IsWord (s : ByteArray) (w : World) (hs : s.size ≤ 9223372036854775807) : Calls Tryz.prog 116 #[.string s] w fun e w' => e = .returned (.bool (wordS s)) ∧ w = w' := by
  go_enter Tryz.func116, Tryz.ntmps116
  go_wp2_with (go_at_call 81; ((with_reducible refine (areBytes_word _ _ _ _ hs).mono ?_); rintro e w' ⟨rfl, rfl⟩))
  go_ret
  exact ⟨ret_bool (wordS_of s), rfl⟩
set_option maxHeartbeats 800000 in
theorem spec_IsWord (s : ByteArray) (w : World) (hs : s.size ≤ 9223372036854775807) : Calls Tryz.prog 117 #[.string s] w fun e w' => e = .returned (.bool (wordS s)) ∧ w = w' := by
  by_cases hb : inB s.size 1 64 = true
  · obtain ⟨h1, h2⟩ := inB_iff.1 hb
    have hfin : ∀ v, allB wordB s = v → Ending.returned (.bool v) = .returned (.bool (wordS s)) := fun v h => by rw [← wordS_of, hb, h]; rfl
    have Hfin := Lib.hid hfin
    clear hfin hb
    go_enter Tryz.func117, Tryz.ntmps117
    go_wp2
    go_loop [3] (fun i => ∃ k : Nat, k ≤ s.size ∧ i = .int .i64 k ∧ allTo wordB s k = true) (fun i => s.size - (intOf i).toNat)
    case atStart => exact ⟨0, Nat.zero_le _, rfl, rfl⟩
    case round =>
      obtain ⟨k, hk, rfl, hall⟩ := hrel
      have Hall := Lib.hid hall
      clear hall
      by_cases hlt : k < s.size
      · have hsn := Lib.hid (allTo_succ wordB s k hlt)
        by_cases hp : wordB (s[k].toNat : Int) = true
        · go_wp2_with (go_at_call 165; ((with_reducible refine (spec_l1WordByte _ _).mono ?_); rintro e w' ⟨rfl, rfl⟩))
          go_round
          case rel => exact ⟨k + 1, by omega, by go_num, by rw [hsn.out, Hall.out, hp]; rfl⟩
          case measure => simp [intOf]; omega
        · simp only [Bool.not_eq_true] at hp
          go_wp2_with (go_at_call 165; ((with_reducible refine (spec_l1WordByte _ _).mono ?_); rintro e w' ⟨rfl, rfl⟩))
          go_ret
          exact ⟨Hfin.out _ (allB_false _ _ _ hlt hp), rfl⟩
      · have hk' : k = s.size := by omega
        have Hk := Lib.hid hk'
        clear hk'
        go_wp2
        go_ret
        refine ⟨Hfin.out _ ?_, rfl⟩
        have h := Hall.out
        rw [Hk.out, allTo_size] at h
        exact h
  · simp only [Bool.not_eq_true] at hb
    have h1 := inB_not.1 hb
    have hfin : Ending.returned (.bool false) = .returned (.bool (wordS s)) := by rw [← wordS_of, hb]; rfl
    have Hfin := Lib.hid hfin
    clear hfin hb
    by_cases h2 : (s.size : Int) < 1
    all_goals
      go_enter Tryz.func117, Tryz.ntmps117
      go_wp2
      all_goals
        go_ret
        exact ⟨Hfin.out, rfl⟩
end Go.Proofs.YthiogijicknoiaaGreatDoor

/- Small letters: both texts write the same bytes. -/
namespace Go.Proofs.YthiogijicknoiaaGreatDoor
open Go.RowKit
set_option linter.unusedSimpArgs false
set_option linter.unusedVariables false

/-- The first k bytes small, the others as they were. -/
def lowVals (s : ByteArray) (k : Nat) : List Value := ((s.data.toList.take k).map lowB ++ s.data.toList.drop k).map byteV
theorem lowVals_zero (s : ByteArray) : lowVals s 0 = s.data.toList.map byteV := by simp [lowVals]
theorem lowVals_len (s : ByteArray) (k : Nat) : (lowVals s k).length = s.size := by
  have : s.data.toList.length = s.size := Array.length_toList
  simp only [lowVals, List.length_map, List.length_append, List.length_take, List.length_drop]; omega
theorem lowVals_at (s : ByteArray) (k : Nat) (h : k < s.size) : (lowVals s k)[k]? = some (byteV s[k]) := by
  have hl : s.data.toList.length = s.size := Array.length_toList
  have e : s.data.toList[k]'(by omega) = s[k] := rfl
  simp only [lowVals, List.getElem?_map]
  rw [List.getElem?_append_right (by simp; omega), List.getElem?_drop]
  simp only [List.length_map, List.length_take]
  rw [show k + (k - min k s.data.toList.length) = k from by omega, List.getElem?_eq_getElem (by omega), e]; rfl
theorem lowVals_keep (s : ByteArray) (k : Nat) (h : k < s.size) (hb : ¬ (65 ≤ s[k].toNat ∧ s[k].toNat ≤ 90)) : lowVals s (k + 1) = lowVals s k := by
  have hl : s.data.toList.length = s.size := Array.length_toList
  unfold lowVals
  rw [take_snoc s k h]
  have hd : s.data.toList.drop k = s[k] :: s.data.toList.drop (k + 1) := by rw [List.drop_eq_getElem_cons (by omega)]; rfl
  rw [hd]
  simp [lowB, hb]
theorem lowVals_set (s : ByteArray) (k : Nat) (h : k < s.size) (hb : 65 ≤ s[k].toNat ∧ s[k].toNat ≤ 90) : (lowVals s k).set k (.int .u8 ((s[k].toNat : Int) + 32)) = lowVals s (k + 1) := by
  have hl : s.data.toList.length = s.size := Array.length_toList
  unfold lowVals
  rw [take_snoc s k h]
  have hd : s.data.toList.drop k = s[k] :: s.data.toList.drop (k + 1) := by rw [List.drop_eq_getElem_cons (by omega)]; rfl
  rw [hd]
  have hm : ((s.data.toList.take k).map lowB).length = k := by simp; omega
  simp only [List.map_append, List.map_cons, List.map_nil, List.append_assoc]
  rw [List.set_append_right _ _ (by simp; omega)]
  simp only [List.length_map, List.length_take]
  rw [show k - min k s.data.toList.length = 0 from by omega]
  congr 1
  have he : (s[k] + 32).toNat = s[k].toNat + 32 := by
    rw [UInt8.toNat_add]; simp; omega
  simp [lowB, hb, byteV, he]
theorem lowVals_end (s : ByteArray) : lowVals s s.size = (s.data.toList.map lowB).map byteV := by
  have hl : s.data.toList.length = s.size := Array.length_toList
  unfold lowVals
  rw [List.take_of_length_le (by omega), List.drop_of_length_le (by omega), List.append_nil]
theorem lowS_eq (s : ByteArray) : (⟨(s.data.toList.map lowB).toArray⟩ : ByteArray) = lowS s := by
  unfold lowS; congr 1; apply Array.ext'; simp

theorem spec_l1Lower (s : ByteArray) (w : World) (hs : s.size ≤ 9223372036854775807) : Calls Tryz.prog 118 #[.string s] w fun e w' => e = .returned (.string (lowS s)) ∧ Below w.heap.size w w' := by
  obtain ⟨cap, W, hconv, hrow, hbel, hlt⟩ := conv_there w s
  have Hrow := Lib.hid hrow
  clear hrow
  go_enter Tryz.func118, Tryz.ntmps118
  go_wp2
  go_loopw [4] (fun i wr => ∃ k : Nat, k ≤ s.size ∧ i = .int .i64 k ∧ RowAt wr w.heap.size (lowVals s k) ∧ Below w.heap.size w wr) (fun i _ => s.size - (intOf i).toNat)
  case atStart => exact ⟨0, Nat.zero_le _, rfl, by rw [lowVals_zero]; exact Hrow.out, hbel⟩
  case round =>
    clear hconv
    obtain ⟨k, hk, rfl, hrow, hb⟩ := hrel
    by_cases hlt' : k < s.size
    · have hcell : wr.cell? ⟨w.heap.size, k, none⟩ = some (.int .u8 (s[k].toNat : Int)) := hrow.cell k _ (lowVals_at s k hlt')
      have hfree : wr.frozen? ⟨w.heap.size, k, none⟩ = false := hrow.free k (by rw [lowVals_len]; exact hlt')
      have hby := (s[k]).toNat_lt
      have Hr := Lib.hid hrow
      clear hrow
      by_cases h1 : 65 ≤ s[k].toNat
      · by_cases h2 : s[k].toNat ≤ 90
        · go_wp2
          go_roundw
          case rel => exact ⟨k + 1, by omega, by go_num, by rw [← lowVals_set s k hlt' ⟨h1, h2⟩, show ((s[k].toNat : Int) + 32) = (s[k].toNat : Int) + 32 from by omega]; exact Hr.out.set k _, hb.setCell (Nat.le_refl _) _⟩
          case measure => simp [intOf]; omega
        · go_wp2
          go_roundw
          case rel => exact ⟨k + 1, by omega, by go_num, by rw [lowVals_keep s k hlt' (fun h => h2 h.2)]; exact Hr.out, hb⟩
          case measure => simp [intOf]; omega
      · go_wp2
        go_roundw
        case rel => exact ⟨k + 1, by omega, by go_num, by rw [lowVals_keep s k hlt' (fun h => h1 h.1)]; exact Hr.out, hb⟩
        case measure => simp [intOf]; omega
    · obtain rfl : k = s.size := by omega
      have hback := conv_back wr w.heap.size cap (s.data.toList.map lowB) s.size (by rw [List.length_map, Array.length_toList]; rfl) (by rw [← lowVals_end]; exact hrow)
      rw [lowS_eq] at hback
      go_wp2
      go_ret
      exact ⟨rfl, hb⟩
theorem impl_lower (s : ByteArray) (w : World) (hs : s.size ≤ 9223372036854775807) : Calls Tryz.prog 66 #[.string s] w fun e w' => e = .returned (.string (lowS s)) ∧ Below w.heap.size w w' := by
  obtain ⟨cap, W, hconv, hrow, hbel, hlt⟩ := conv_there w s
  have Hrow := Lib.hid hrow
  clear hrow
  go_enter Tryz.func66, Tryz.ntmps66
  go_wp2
  go_loopw [10] (fun i wr => ∃ k : Nat, k ≤ s.size ∧ i = .int .i64 k ∧ RowAt wr w.heap.size (lowVals s k) ∧ Below w.heap.size w wr) (fun i _ => s.size - (intOf i).toNat)
  case atStart => exact ⟨0, Nat.zero_le _, rfl, by rw [lowVals_zero]; exact Hrow.out, hbel⟩
  case round =>
    clear hconv
    obtain ⟨k, hk, rfl, hrow, hb⟩ := hrel
    by_cases hlt' : k < s.size
    · have hcell : wr.cell? ⟨w.heap.size, k, none⟩ = some (.int .u8 (s[k].toNat : Int)) := hrow.cell k _ (lowVals_at s k hlt')
      have hfree : wr.frozen? ⟨w.heap.size, k, none⟩ = false := hrow.free k (by rw [lowVals_len]; exact hlt')
      have hby := (s[k]).toNat_lt
      have Hr := Lib.hid hrow
      clear hrow
      by_cases h1 : 65 ≤ s[k].toNat
      · by_cases h2 : s[k].toNat ≤ 90
        · go_wp2
          go_roundw
          case rel => exact ⟨k + 1, by omega, by go_num, by rw [← lowVals_set s k hlt' ⟨h1, h2⟩, show ((s[k].toNat : Int) + 32) = (s[k].toNat : Int) + 97 - 65 from by omega]; exact Hr.out.set k _, hb.setCell (Nat.le_refl _) _⟩
          case measure => simp [intOf]; omega
        · go_wp2
          go_roundw
          case rel => exact ⟨k + 1, by omega, by go_num, by rw [lowVals_keep s k hlt' (fun h => h2 h.2)]; exact Hr.out, hb⟩
          case measure => simp [intOf]; omega
      · go_wp2
        go_roundw
        case rel => exact ⟨k + 1, by omega, by go_num, by rw [lowVals_keep s k hlt' (fun h => h1 h.1)]; exact Hr.out, hb⟩
        case measure => simp [intOf]; omega
    · obtain rfl : k = s.size := by omega
      have hback := conv_back wr w.heap.size cap (s.data.toList.map lowB) s.size (by rw [List.length_map, Array.length_toList]; rfl) (by rw [← lowVals_end]; exact hrow)
      rw [lowS_eq] at hback
      go_wp2
      go_ret
      exact ⟨rfl, hb⟩

def lowerR (s : ByteArray) : Int × ByteArray := if s.size ≤ 1000 then (0, lowS s) else (2, ByteArray.empty)
theorem impl_LowerText (s : ByteArray) (w : World) (hs : s.size ≤ 9223372036854775807) : Calls Tryz.prog 15 #[.string s] w fun e w' => e = .returned (.agg #[.int .i64 (lowerR s).1, .string (lowerR s).2]) ∧ Below w.heap.size w w' := by
  by_cases h : s.size ≤ 1000
  · have e : lowerR s = (0, lowS s) := by simp [lowerR, h]
    rw [e]
    go_enter Tryz.func15, Tryz.ntmps15
    go_wp2_with (go_at_call 66; ((with_reducible refine (impl_lower s _ hs).mono ?_); rintro e w' ⟨rfl, hb⟩; obtain ⟨hc, hf⟩ := bcell hb; have hz := hb.size; (try simp only [World.size_alloc, World.size_setCell, World.size_drew] at hz); obtain ⟨hlt, hle, hn1, hn2, hn3, hn4⟩ := bsize hb; (try simp only [World.size_alloc, World.size_setCell, World.size_drew] at hlt hle hn1 hn2 hn3 hn4); (try have hr0 : w.heap.size < w'.heap.size := by omega); (try have hr1 : w.heap.size + 1 < w'.heap.size := by omega); (try have hs0 : wS.heap.size < w'.heap.size := by omega); (try have hs1 : wG.heap.size < w'.heap.size := by omega)))
    all_goals exact bodyPost_ret (by first | ((simp [results, Tryz.results15, go_sem]; try rfl); done) | ((simp [results, Tryz.results15, go_sem, *]; try rfl); done) | ((simp (maxDischargeDepth := 8) [results, Tryz.results15, go_sem, *]; try rfl); done)) rfl ⟨rfl, by first | (with_reducible rfl) | exact (by first | (with_reducible exact Below.refl _ _) | ((repeat' (first | (with_reducible exact Below.refl _ _) | (with_reducible assumption) | (with_reducible refine below_alloc ?_ _) | (with_reducible refine Below.drew ?_) | (with_reducible refine below_drewN ?_ _) | (with_reducible refine Below.setCell ?_ ?_ _) | refine below_then ?_ (by with_reducible assumption))) <;> (first | omega | (simp; done) | (simp; omega))))⟩
  · have e : lowerR s = (2, ByteArray.empty) := by simp [lowerR, h]
    rw [e]
    go_enter Tryz.func15, Tryz.ntmps15
    go_wp2
    all_goals exact bodyPost_ret (by first | ((simp [results, Tryz.results15, go_sem]; try rfl); done) | ((simp [results, Tryz.results15, go_sem, *]; try rfl); done) | ((simp (maxDischargeDepth := 8) [results, Tryz.results15, go_sem, *]; try rfl); done)) rfl ⟨rfl, by first | (with_reducible rfl) | exact (by first | (with_reducible exact Below.refl _ _) | ((repeat' (first | (with_reducible exact Below.refl _ _) | (with_reducible assumption) | (with_reducible refine below_alloc ?_ _) | (with_reducible refine Below.drew ?_) | (with_reducible refine below_drewN ?_ _) | (with_reducible refine Below.setCell ?_ ?_ _) | refine below_then ?_ (by with_reducible assumption))) <;> (first | omega | (simp; done) | (simp; omega))))⟩

theorem eqTextResult (c : Int) (s : ByteArray) (w : World) : Calls Tryz.prog 20 #[.agg #[.int .i64 c, .string s], .agg #[.int .i64 c, .string s]] w fun e w' => e = .returned (.bool true) ∧ Below w.heap.size w w' := by
  go_enter Tryz.func20, Tryz.ntmps20
  go_wp2
  all_goals (go_ret; exact ⟨by first | rfl | (simp [*]; done) | (simp [*]; omega), by first | (with_reducible rfl) | exact (by first | (with_reducible exact Below.refl _ _) | ((repeat' (first | (with_reducible exact Below.refl _ _) | (with_reducible assumption) | (with_reducible refine below_alloc ?_ _) | (with_reducible refine Below.drew ?_) | (with_reducible refine below_drewN ?_ _) | (with_reducible refine Below.setCell ?_ ?_ _) | refine below_then ?_ (by with_reducible assumption))) <;> (first | omega | (simp; done) | (simp; omega))))⟩)

end Go.Proofs.YthiogijicknoiaaGreatDoor

/- Names that are alike. -/
namespace Go.Proofs.YthiogijicknoiaaGreatDoor
open Go.RowKit
set_option linter.unusedSimpArgs false
set_option linter.unusedVariables false

def alikeB (a b : ByteArray) : Bool := (lowS a).toList == (lowS b).toList
theorem impl_alike (a b : ByteArray) (hsa : a.size ≤ 9223372036854775807) (hsb : b.size ≤ 9223372036854775807) (w : World) : Calls Tryz.prog 133 #[.string a, .string b] w fun e w' => e = .returned (.bool (alikeB a b)) ∧ Below w.heap.size w w' := by
  go_enter Tryz.func133, Tryz.ntmps133
  go_wp2_with (first | (go_at_call 66; ((with_reducible refine (impl_lower a _ hsa).mono ?_); rintro e w' ⟨rfl, hb⟩; obtain ⟨hc, hf⟩ := bcell hb; have hz := hb.size; (try simp only [World.size_alloc, World.size_setCell, World.size_drew] at hz); obtain ⟨hlt, hle, hn1, hn2, hn3, hn4⟩ := bsize hb; (try simp only [World.size_alloc, World.size_setCell, World.size_drew] at hlt hle hn1 hn2 hn3 hn4); (try have hr0 : w.heap.size < w'.heap.size := by omega); (try have hr1 : w.heap.size + 1 < w'.heap.size := by omega); (try have hs0 : wS.heap.size < w'.heap.size := by omega); (try have hs1 : wG.heap.size < w'.heap.size := by omega))) | (go_at_call 66; ((with_reducible refine (impl_lower b _ hsb).mono ?_); rintro e w' ⟨rfl, hb⟩; obtain ⟨hc, hf⟩ := bcell hb; have hz := hb.size; (try simp only [World.size_alloc, World.size_setCell, World.size_drew] at hz); obtain ⟨hlt, hle, hn1, hn2, hn3, hn4⟩ := bsize hb; (try simp only [World.size_alloc, World.size_setCell, World.size_drew] at hlt hle hn1 hn2 hn3 hn4); (try have hr0 : w.heap.size < w'.heap.size := by omega); (try have hr1 : w.heap.size + 1 < w'.heap.size := by omega); (try have hs0 : wS.heap.size < w'.heap.size := by omega); (try have hs1 : wG.heap.size < w'.heap.size := by omega))))
  go_ret
  exact ⟨rfl, (by first | (with_reducible exact Below.refl _ _) | ((repeat' (first | (with_reducible exact Below.refl _ _) | (with_reducible assumption) | (with_reducible refine below_alloc ?_ _) | (with_reducible refine Below.drew ?_) | (with_reducible refine below_drewN ?_ _) | (with_reducible refine Below.setCell ?_ ?_ _) | refine below_then ?_ (by with_reducible assumption))) <;> (first | omega | (simp; done) | (simp; omega))))⟩
theorem spec_l4Alike (a b : ByteArray) (hsa : a.size ≤ 9223372036854775807) (hsb : b.size ≤ 9223372036854775807) (w : World) : Calls Tryz.prog 126 #[.string a, .string b] w fun e w' => e = .returned (.bool (alikeB a b)) ∧ Below w.heap.size w w' := by
  go_enter Tryz.func126, Tryz.ntmps126
  go_wp2_with (first | (go_at_call 118; ((with_reducible refine (spec_l1Lower a _ hsa).mono ?_); rintro e w' ⟨rfl, hb⟩; obtain ⟨hc, hf⟩ := bcell hb; have hz := hb.size; (try simp only [World.size_alloc, World.size_setCell, World.size_drew] at hz); obtain ⟨hlt, hle, hn1, hn2, hn3, hn4⟩ := bsize hb; (try simp only [World.size_alloc, World.size_setCell, World.size_drew] at hlt hle hn1 hn2 hn3 hn4); (try have hr0 : w.heap.size < w'.heap.size := by omega); (try have hr1 : w.heap.size + 1 < w'.heap.size := by omega); (try have hs0 : wS.heap.size < w'.heap.size := by omega); (try have hs1 : wG.heap.size < w'.heap.size := by omega))) | (go_at_call 118; ((with_reducible refine (spec_l1Lower b _ hsb).mono ?_); rintro e w' ⟨rfl, hb⟩; obtain ⟨hc, hf⟩ := bcell hb; have hz := hb.size; (try simp only [World.size_alloc, World.size_setCell, World.size_drew] at hz); obtain ⟨hlt, hle, hn1, hn2, hn3, hn4⟩ := bsize hb; (try simp only [World.size_alloc, World.size_setCell, World.size_drew] at hlt hle hn1 hn2 hn3 hn4); (try have hr0 : w.heap.size < w'.heap.size := by omega); (try have hr1 : w.heap.size + 1 < w'.heap.size := by omega); (try have hs0 : wS.heap.size < w'.heap.size := by omega); (try have hs1 : wG.heap.size < w'.heap.size := by omega))))
  go_ret
  exact ⟨rfl, (by first | (with_reducible exact Below.refl _ _) | ((repeat' (first | (with_reducible exact Below.refl _ _) | (with_reducible assumption) | (with_reducible refine below_alloc ?_ _) | (with_reducible refine Below.drew ?_) | (with_reducible refine below_drewN ?_ _) | (with_reducible refine Below.setCell ?_ ?_ _) | refine below_then ?_ (by with_reducible assumption))) <;> (first | omega | (simp; done) | (simp; omega))))⟩
end Go.Proofs.YthiogijicknoiaaGreatDoor

/- A number's decimal digits: both texts write the same. -/
namespace Go.Proofs.YthiogijicknoiaaGreatDoor
open Go.RowKit
set_option linter.unusedSimpArgs false
set_option linter.unusedVariables false

theorem conv_one (c : Int) (w : World) (g : Nat) (h : w.cell? ⟨g, 0, none⟩ = some (.int .u8 c)) : (convert 22 9 (.slice (some ⟨g, 0, none⟩) 1 1)).run Tryz.prog w = .ok (.string ⟨#[UInt8.ofNat c.toNat]⟩) w := by
  have := run_convert_bytes_arg (P := Tryz.prog) w 22 5 Tryz.underlying22 Tryz.underlying5 g 0 1 1 [c] rfl (fun i hi => by
    obtain rfl : i = 0 := by omega
    simpa using h) 9 Tryz.underlying9
  rw [this]; rfl
theorem wrapi (n : Int) (h0 : -9223372036854775808 ≤ n) (h1 : n ≤ 9223372036854775807) : IntKind.i64.wrap n = n := by
  simp only [IntKind.wrap, IntKind.bits, IntKind.signed]
  simp
  omega
theorem wrapb (n : Int) (h0 : 0 ≤ n) (h1 : n < 256) : IntKind.u8.wrap n = n := by
  simp only [IntKind.wrap, IntKind.bits, IntKind.signed]
  simp
  omega
def decS (n : Int) : ByteArray := ⟨(Lib.decDigits n.toNat).toArray⟩
theorem decS_small {k : Nat} (h : k < 10) : decS (k : Int) = ⟨#[UInt8.ofNat (48 + k)]⟩ := by
  unfold decS; rw [Int.toNat_natCast, Lib.decDigits_one h]
theorem decS_big {k : Nat} (h : ¬ k < 10) : decS (k : Int) = decS ((k / 10 : Nat) : Int) ++ ⟨#[UInt8.ofNat (48 + k % 10)]⟩ := by
  unfold decS
  rw [Int.toNat_natCast, Int.toNat_natCast, Lib.decDigits, dif_neg h]
  apply ByteArray.ext
  simp
theorem decS_len (n : Int) (h0 : 0 ≤ n) (h1 : n ≤ 9223372036854775807) : (decS n).size ≤ 21 := by
  obtain ⟨k, rfl⟩ := Int.eq_ofNat_of_zero_le h0
  have := Lib.itoa_length_le (k : Int) (by omega) h1
  rw [Lib.itoa_nonneg] at this
  exact this
set_option maxHeartbeats 1600000 in
set_option maxRecDepth 100000 in
theorem spec_l1Digits : ∀ k : Nat, k ≤ 1000000000000000000 → ∀ w, Calls Tryz.prog 134 #[.int .i64 (k : Int)] w fun e w' => e = .returned (.string (decS (k : Int))) ∧ Below w.heap.size w w' := by
  intro k
  induction k using Nat.strongRecOn with
  | ind k ih =>
    intro hk w
    have hcv := conv_one
    by_cases h : k < 10
    · have E := Lib.hid (ret_str (decS_small h).symm)
      clear ih
      go_enter Tryz.func134, Tryz.ntmps134
      go_wp2
      go_ret
      exact ⟨E.out, (by first | (with_reducible exact Below.refl _ _) | ((repeat' (first | (with_reducible exact Below.refl _ _) | (with_reducible assumption) | (with_reducible refine below_alloc ?_ _) | (with_reducible refine Below.drew ?_) | (with_reducible refine below_drewN ?_ _) | (with_reducible refine Below.setCell ?_ ?_ _) | refine below_then ?_ (by with_reducible assumption))) <;> (first | omega | (simp; done) | (simp; omega))))⟩
    · have hc : ∀ w, Calls Tryz.prog 134 #[.int .i64 ((k : Int) / 10)] w fun e w' => e = .returned (.string (decS ((k : Int) / 10))) ∧ Below w.heap.size w w' := by
        rw [show (k : Int) / 10 = ((k / 10 : Nat) : Int) from by omega]
        exact ih (k / 10) (by omega) (by omega)
      have Hc := Lib.hid hc
      have e : decS ((k : Int) / 10) ++ ⟨#[48 + UInt8.ofNat (k % 10)]⟩ = decS (k : Int) := by
        rw [decS_big h, show (k : Int) / 10 = ((k / 10 : Nat) : Int) from by omega]
        have e8 : (48 : UInt8) + UInt8.ofNat (k % 10) = UInt8.ofNat (48 + k % 10) := by rw [UInt8.ofNat_add]; rfl
        rw [e8]
      have E := Lib.hid (ret_str e)
      have hsz := decS_len ((k : Int) / 10) (by omega) (by omega)
      have hcv := conv_one (48 + (k : Int) % 10)
      have hw1 : IntKind.i64.wrap ((k : Int) / 10) = (k : Int) / 10 := wrapi _ (by omega) (by omega)
      have hw2 : IntKind.i64.wrap ((k : Int) % 10) = (k : Int) % 10 := wrapi _ (by omega) (by omega)
      have hw3 : IntKind.i64.wrap (48 + (k : Int) % 10) = 48 + (k : Int) % 10 := wrapi _ (by omega) (by omega)
      have hw4 : IntKind.u8.wrap (48 + (k : Int) % 10) = 48 + (k : Int) % 10 := wrapb _ (by omega) (by omega)
      clear e ih hc
      go_enter Tryz.func134, Tryz.ntmps134
      go_upto_region 3 with fail
      go_cut [2] (fun s2 wx => s2 = .string (decS ((k : Int) / 10) ++ ⟨#[48 + UInt8.ofNat (k % 10)]⟩) ∧ Below w.heap.size w wx)
      case first =>
        go_region_with (first | (go_at_call 134; ((with_reducible refine (Hc.out _).mono ?_); rintro e w' ⟨rfl, hb⟩; obtain ⟨hc, hf⟩ := bcell hb; have hz := hb.size; (try simp only [World.size_alloc, World.size_setCell, World.size_drew] at hz); obtain ⟨hlt, hle, hn1, hn2, hn3, hn4⟩ := bsize hb; (try simp only [World.size_alloc, World.size_setCell, World.size_drew] at hlt hle hn1 hn2 hn3 hn4); (try have hr0 : w.heap.size < w'.heap.size := by omega); (try have hr1 : w.heap.size + 1 < w'.heap.size := by omega); (try have hs0 : wS.heap.size < w'.heap.size := by omega); (try have hs1 : wG.heap.size < w'.heap.size := by omega); (try (have hk1 := hc w.heap.size 0 (by simp); simp at hk1; have hk2 := conv_one _ w' _ hk1)))))
        all_goals (go_wp2_with fail; go_meet; exact ⟨rfl, (by first | (with_reducible exact Below.refl _ _) | ((repeat' (first | (with_reducible exact Below.refl _ _) | (with_reducible assumption) | (with_reducible refine below_alloc ?_ _) | (with_reducible refine Below.drew ?_) | (with_reducible refine below_drewN ?_ _) | (with_reducible refine Below.setCell ?_ ?_ _) | refine below_then ?_ (by with_reducible assumption))) <;> (first | omega | (simp; done) | (simp; omega))))⟩)
      case rest =>
        obtain ⟨rfl, hb⟩ := hcut
        go_wp2
        go_ret
        exact ⟨E.out, hb⟩
/-- The table of the library's that the fast road reads. -/
def Tab (w : World) : Prop := ∃ g, Tryz.prog.globalNamed "internal/strconv.uint64pow10" = some g ∧ g < w.heap.size ∧ Lib.TabIs Tryz.prog w "internal/strconv.uint64pow10" .u64 Lib.pow10Tab
theorem Tab.below {B : Nat} {w w' : World} (h : Tab w) (hb : Below B w w') (hB : w.heap.size ≤ B) : Tab w' := by
  obtain ⟨g, hg, hlt, ht⟩ := h
  exact ⟨g, hg, Nat.lt_of_lt_of_le hlt hb.size, var?_below hb hg (by omega) ht⟩
theorem Tab.then {w w' : World} (h : Tab w) (hb : Below w.heap.size w w') : Tab w' := h.below hb (Nat.le_refl _)
theorem Tab.alloc {w : World} (h : Tab w) (o : Obj) : Tab (w.alloc o) := h.then (below_alloc (Below.refl _ _) o)
theorem Tab.drew {w : World} (h : Tab w) : Tab w.drew := h.then (Below.refl _ _).drew
theorem below_growN (w : World) (k : Nat) (os : Array Obj) : Below w.heap.size w (Sort.grow (w.drewN k) os) :=
  ⟨rfl, rfl, rfl, by show w.heap.size ≤ (w.heap ++ os).size; rw [Array.size_append]; omega, fun j hj => by
    show (w.heap ++ os)[j]? = _
    rw [Array.getElem?_append_left hj]⟩
theorem impl_decimal (n : Int) (h0 : 0 ≤ n) (h1 : n ≤ 9223372036854775807) (w : World) (ht : Tab w) : Calls Tryz.prog 139 #[.int .i64 n] w fun e w' => e = .returned (.string (decS n)) ∧ Below w.heap.size w w' := by
  have hF : ∀ w, Tab w → Calls Tryz.prog 175 #[.int .i64 n, .int .i64 10] w fun e w' => e = .returned (.string (decS n)) ∧ Below w.heap.size w w' := fun w ht => by
    obtain ⟨g, hg, hlt, ht⟩ := ht
    refine (Tryz.strconv_FormatInt_10 n (by omega) h1 w ht).mono ?_
    rintro e w' ⟨rfl, k, os, rfl⟩
    refine ⟨?_, below_growN _ _ _⟩
    obtain ⟨k, rfl⟩ := Int.eq_ofNat_of_zero_le h0
    rw [Lib.itoa_nonneg]; rfl
  have HF := Lib.hid hF
  clear hF
  go_enter Tryz.func139, Tryz.ntmps139
  go_wp2_with (go_at_call 175; ((with_reducible refine (HF.out _ ht).mono ?_); rintro e w' ⟨rfl, hb⟩; obtain ⟨hc, hf⟩ := bcell hb; have hz := hb.size; (try simp only [World.size_alloc, World.size_setCell, World.size_drew] at hz); obtain ⟨hlt, hle, hn1, hn2, hn3, hn4⟩ := bsize hb; (try simp only [World.size_alloc, World.size_setCell, World.size_drew] at hlt hle hn1 hn2 hn3 hn4); (try have hr0 : w.heap.size < w'.heap.size := by omega); (try have hr1 : w.heap.size + 1 < w'.heap.size := by omega); (try have hs0 : wS.heap.size < w'.heap.size := by omega); (try have hs1 : wG.heap.size < w'.heap.size := by omega)))
  go_ret
  exact ⟨rfl, (by first | (with_reducible exact Below.refl _ _) | ((repeat' (first | (with_reducible exact Below.refl _ _) | (with_reducible assumption) | (with_reducible refine below_alloc ?_ _) | (with_reducible refine Below.drew ?_) | (with_reducible refine below_drewN ?_ _) | (with_reducible refine Below.setCell ?_ ?_ _) | refine below_then ?_ (by with_reducible assumption))) <;> (first | omega | (simp; done) | (simp; omega))))⟩
def numR (n : Int) : Int × ByteArray := if inB n 0 1000000000000000 then (0, decS n) else (3, ByteArray.empty)
theorem numR_yes {n : Int} (h : inB n 0 1000000000000000 = true) : numR n = (0, decS n) := by simp [numR, h]
theorem numR_no {n : Int} (h : inB n 0 1000000000000000 = false) : numR n = (3, ByteArray.empty) := by simp [numR, h]
end Go.Proofs.YthiogijicknoiaaGreatDoor

/- Quotes: both texts write the same bytes. -/
namespace Go.Proofs.YthiogijicknoiaaGreatDoor
open Go.RowKit
set_option linter.unusedSimpArgs false
set_option linter.unusedVariables false

theorem quoteTo_esc (s : ByteArray) (k : Nat) (h : k < s.size) (hb : s[k].toNat = 34 ∨ s[k].toNat = 92) : (quoteTo s k).map byteV ++ [.int .u8 92] ++ [.int .u8 (s[k].toNat : Int)] = (quoteTo s (k + 1)).map byteV := by
  rw [quoteTo_succ s k h, escB, if_pos hb]; simp [byteV]
theorem quoteTo_plain (s : ByteArray) (k : Nat) (h : k < s.size) (hb : ¬ (s[k].toNat = 34 ∨ s[k].toNat = 92)) : (quoteTo s k).map byteV ++ [.int .u8 (s[k].toNat : Int)] = (quoteTo s (k + 1)).map byteV := by
  rw [quoteTo_succ s k h, escB, if_neg hb]; simp [byteV]
theorem quoteTo_esc_len (s : ByteArray) (k : Nat) (h : k < s.size) (hb : s[k].toNat = 34 ∨ s[k].toNat = 92) : (quoteTo s k).length + 1 + 1 = (quoteTo s (k + 1)).length := by
  rw [quoteTo_succ s k h, escB, if_pos hb]; simp
theorem quoteTo_plain_len (s : ByteArray) (k : Nat) (h : k < s.size) (hb : ¬ (s[k].toNat = 34 ∨ s[k].toNat = 92)) : (quoteTo s k).length + 1 = (quoteTo s (k + 1)).length := by
  rw [quoteTo_succ s k h, escB, if_neg hb]; simp

theorem impl_isPlain (c : Int) (w : World) : Calls Tryz.prog 177 #[.int .u8 c] w fun e w' => e = .returned (.bool (plainB c)) ∧ w = w' := by
  go_enter Tryz.func177, Tryz.ntmps177
  go_wp2
  all_goals (go_ret; exact ⟨ret_bool (by first | (simp_all [plainB]; done) | (rw [Bool.eq_iff_iff]; simp_all [plainB]; omega)), rfl⟩)
theorem spec_l2Plain (c : Int) (w : World) : Calls Tryz.prog 184 #[.int .u8 c] w fun e w' => e = .returned (.bool (plainB c)) ∧ w = w' := by
  go_enter Tryz.func184, Tryz.ntmps184
  go_wp2
  all_goals (go_ret; exact ⟨ret_bool (by first | (simp_all [plainB]; done) | (rw [Bool.eq_iff_iff]; simp_all [plainB]; omega)), rfl⟩)
set_option maxHeartbeats 800000 in
theorem areBytes_plain (s : ByteArray) (lo hi : Int) (w : World) (hs : s.size ≤ 9223372036854775807) : Calls Tryz.prog 81 #[.string s, .int .i64 lo, .int .i64 hi, .func (.func 177) #[] #[]] w fun e w' => e = .returned (.bool (inB s.size lo hi && allB plainB s)) ∧ w = w' := by
  by_cases hb : inB s.size lo hi = true
  · obtain ⟨h1, h2⟩ := inB_iff.1 hb
    have hfin : ∀ v, allB plainB s = v → (inB s.size lo hi && allB plainB s) = v := fun v h => by rw [hb, h]; rfl
    have Hfin := Lib.hid hfin
    clear hfin hb
    go_enter Tryz.func81, Tryz.ntmps81
    go_wp2
    go_loop [22] (fun i => ∃ k : Nat, k ≤ s.size ∧ i = .int .i64 k ∧ allTo plainB s k = true) (fun i => s.size - (intOf i).toNat)
    case atStart => exact ⟨0, Nat.zero_le _, rfl, rfl⟩
    case round =>
      obtain ⟨k, hk, rfl, hall⟩ := hrel
      have Hall := Lib.hid hall
      clear hall
      by_cases hlt : k < s.size
      · have hsn := Lib.hid (allTo_succ plainB s k hlt)
        by_cases hp : plainB (s[k].toNat : Int) = true
        · go_wp2_with (go_at_call 177; ((with_reducible refine (impl_isPlain _ _).mono ?_); rintro e w' ⟨rfl, rfl⟩))
          go_round
          case rel => exact ⟨k + 1, by omega, by go_num, by rw [hsn.out, Hall.out, hp]; rfl⟩
          case measure => simp [intOf]; omega
        · simp only [Bool.not_eq_true] at hp
          go_wp2_with (go_at_call 177; ((with_reducible refine (impl_isPlain _ _).mono ?_); rintro e w' ⟨rfl, rfl⟩))
          go_ret
          exact ⟨ret_bool (Hfin.out _ (allB_false _ _ _ hlt hp)).symm, rfl⟩
      · have hk' : k = s.size := by omega
        have Hk := Lib.hid hk'
        clear hk'
        go_wp2
        go_ret
        refine ⟨ret_bool (Hfin.out _ ?_).symm, rfl⟩
        have h := Hall.out
        rw [Hk.out, allTo_size] at h
        exact h
  · simp only [Bool.not_eq_true] at hb
    have h1 := inB_not.1 hb
    by_cases h2 : (s.size : Int) < lo
    all_goals
      go_enter Tryz.func81, Tryz.ntmps81
      go_wp2
      all_goals
        go_ret
        exact ⟨ret_bool (by first | rfl | (rw [hb]; rfl)), rfl⟩
theorem impl_arePlain (s : ByteArray) (w : World) (hs : s.size ≤ 9223372036854775807) : Calls Tryz.prog 146 #[.string s] w fun e w' => e = .returned (.bool (allB plainB s)) ∧ w = w' := by
  go_enter Tryz.func146, Tryz.ntmps146
  go_wp2_with (go_at_call 81; ((with_reducible refine (areBytes_plain _ _ _ _ hs).mono ?_); rintro e w' ⟨rfl, rfl⟩))
  go_ret
  exact ⟨ret_bool (by simp [inB]), rfl⟩
theorem spec_l2PlainText (s : ByteArray) (w : World) (hs : s.size ≤ 9223372036854775807) : Calls Tryz.prog 157 #[.string s] w fun e w' => e = .returned (.bool (allB plainB s)) ∧ w = w' := by
  have hfin : ∀ v, allB plainB s = v → Ending.returned (.bool v) = .returned (.bool (allB plainB s)) := fun v h => by rw [h]
  have Hfin := Lib.hid hfin
  clear hfin
  go_enter Tryz.func157, Tryz.ntmps157
  go_wp2
  go_loop [3] (fun i => ∃ k : Nat, k ≤ s.size ∧ i = .int .i64 k ∧ allTo plainB s k = true) (fun i => s.size - (intOf i).toNat)
  case atStart => exact ⟨0, Nat.zero_le _, rfl, rfl⟩
  case round =>
    obtain ⟨k, hk, rfl, hall⟩ := hrel
    have Hall := Lib.hid hall
    clear hall
    by_cases hlt : k < s.size
    · have hsn := Lib.hid (allTo_succ plainB s k hlt)
      by_cases hp : plainB (s[k].toNat : Int) = true
      · go_wp2_with (go_at_call 184; ((with_reducible refine (spec_l2Plain _ _).mono ?_); rintro e w' ⟨rfl, rfl⟩))
        go_round
        case rel => exact ⟨k + 1, by omega, by go_num, by rw [hsn.out, Hall.out, hp]; rfl⟩
        case measure => simp [intOf]; omega
      · simp only [Bool.not_eq_true] at hp
        go_wp2_with (go_at_call 184; ((with_reducible refine (spec_l2Plain _ _).mono ?_); rintro e w' ⟨rfl, rfl⟩))
        go_ret
        exact ⟨Hfin.out _ (allB_false _ _ _ hlt hp), rfl⟩
    · have hk' : k = s.size := by omega
      have Hk := Lib.hid hk'
      clear hk'
      go_wp2
      go_ret
      refine ⟨Hfin.out _ ?_, rfl⟩
      have h := Hall.out
      rw [Hk.out, allTo_size] at h
      exact h

def quoteR (s : ByteArray) : Int × ByteArray := if s.size ≤ 1000 then (if allB plainB s = true then (0, quoteS s) else (5, ByteArray.empty)) else (2, ByteArray.empty)
end Go.Proofs.YthiogijicknoiaaGreatDoor

/- From the listed variables to the table that the fast road reads. -/
namespace Go.Proofs.YthiogijicknoiaaGreatDoor
open Go.RowKit
theorem tab_data : (Rows.laid_internal_strconv_uint64pow10 : DataW Unit) = Lib.tabData .u64 Lib.pow10Tab := by kernel_rfl
theorem tab_of_vars {W : World} {n0 n1 : String} {d0 d1 : DataW Unit} {ps : List MemPlace} (h : DataW.LaidVars Tryz.prog W [(n0, d0), (n1, d1), ("internal/strconv.uint64pow10", Rows.laid_internal_strconv_uint64pow10)] ps) : Tab W := by
  obtain ⟨g0, t0, cs0, f0, p0, q0, _, _, _, _, ⟨g1, t1, cs1, f1, p1, q1, _, _, _, _, ⟨g, t, cs, fuel, p, q, hg, ht, hv, hd, _, _⟩, _⟩, _⟩ := h
  have hgN : Tryz.prog.globalNamed "internal/strconv.uint64pow10" = some 3 := by kernel_rfl
  obtain rfl := Option.some.inj (hgN.symm.trans hg)
  obtain rfl := Option.some.inj ((show (Tryz.prog.globals[3]?).map (·.type) = some 223 by kernel_rfl).symm.trans ht)
  rw [tab_data] at hd
  have hcs := Lib.cells_of_tab Tryz.underlying223 Tryz.underlying193 (by kernel_rfl) (by kernel_rfl) hd
  refine ⟨_, hgN, ?_, ?_⟩
  · unfold World.var? at hv
    rw [hgN] at hv
    simp only [Option.bind_some] at hv
    split at hv
    · rename_i h1; exact (Array.getElem?_eq_some_iff.1 h1).1
    · cases hv
  · unfold Lib.TabIs
    rw [hv, ← hcs]
theorem tab_of_laid {W : World} {n0 n1 : String} {d0 d1 : DataW Unit} (hh : ([(n0, d0), (n1, d1), ("internal/strconv.uint64pow10", Rows.laid_internal_strconv_uint64pow10)].all fun x => x.2.handleName?.isNone) = true)
    (h : laidMetH Tryz.prog [(n0, d0), (n1, d1), ("internal/strconv.uint64pow10", Rows.laid_internal_strconv_uint64pow10)] W) : Tab W := by
  rw [MakeChecks.laidMetH_plain _ _ _ hh] at h
  obtain ⟨ps, h, _⟩ := h
  exact tab_of_vars h
end Go.Proofs.YthiogijicknoiaaGreatDoor

/- The same, where more variables are listed behind the table. -/
namespace Go.Proofs.YthiogijicknoiaaGreatDoor
open Go.RowKit
theorem tab_of_vars_more {W : World} {n0 n1 : String} {d0 d1 : DataW Unit} {ps : List MemPlace} {r : List (String × DataW Unit)} (h : DataW.LaidVars Tryz.prog W ((n0, d0) :: (n1, d1) :: ("internal/strconv.uint64pow10", Rows.laid_internal_strconv_uint64pow10) :: r) ps) : Tab W := by
  obtain ⟨g0, t0, cs0, f0, p0, q0, _, _, _, _, ⟨g1, t1, cs1, f1, p1, q1, _, _, _, _, ⟨g, t, cs, fuel, p, q, hg, ht, hv, hd, _, _⟩, _⟩, _⟩ := h
  have hgN : Tryz.prog.globalNamed "internal/strconv.uint64pow10" = some 3 := by kernel_rfl
  obtain rfl := Option.some.inj (hgN.symm.trans hg)
  obtain rfl := Option.some.inj ((show (Tryz.prog.globals[3]?).map (·.type) = some 223 by kernel_rfl).symm.trans ht)
  rw [tab_data] at hd
  have hcs := Lib.cells_of_tab Tryz.underlying223 Tryz.underlying193 (by kernel_rfl) (by kernel_rfl) hd
  refine ⟨_, hgN, ?_, ?_⟩
  · unfold World.var? at hv
    rw [hgN] at hv
    simp only [Option.bind_some] at hv
    split at hv
    · rename_i h1; exact (Array.getElem?_eq_some_iff.1 h1).1
    · cases hv
  · unfold Lib.TabIs
    rw [hv, ← hcs]
theorem tab_of_laid_more {W : World} {n0 n1 : String} {d0 d1 : DataW Unit} {r : List (String × DataW Unit)} (hh : (((n0, d0) :: (n1, d1) :: ("internal/strconv.uint64pow10", Rows.laid_internal_strconv_uint64pow10) :: r).all fun x => x.2.handleName?.isNone) = true)
    (h : laidMetH Tryz.prog ((n0, d0) :: (n1, d1) :: ("internal/strconv.uint64pow10", Rows.laid_internal_strconv_uint64pow10) :: r) W) : Tab W := by
  rw [MakeChecks.laidMetH_plain _ _ _ hh] at h
  obtain ⟨ps, h, _⟩ := h
  exact tab_of_vars_more h
end Go.Proofs.YthiogijicknoiaaGreatDoor

/- Times: their sums and products; a number or a code. -/
namespace Go.Proofs.YthiogijicknoiaaGreatDoor
open Go.RowKit
set_option linter.unusedSimpArgs false
set_option linter.unusedVariables false

def addT (a b : Int) : Int × Int := if inB a 0 1000000000000000 && inB b 0 1000000000000000 then (0, min (a + b) 1000000000000000) else (3, 0)

def mulT (a b : Int) : Int × Int := if inB a 0 1000000000000000 && inB b 0 1000000000000000 then (0, min (a * b) 1000000000000000) else (3, 0)
theorem mul_le {a b : Int} (hb : 0 < b) (h : a * b ≤ 1000000000000000) : a ≤ 1000000000000000 / b := (Int.le_ediv_iff_mul_le hb).2 h
theorem mul_gt {a b : Int} (hb : 0 < b) (h : ¬ a * b ≤ 1000000000000000) : 1000000000000000 / b < a := by
  by_cases h' : 1000000000000000 / b < a
  · exact h'
  · exact absurd ((Int.le_ediv_iff_mul_le hb).1 (by omega)) h

end Go.Proofs.YthiogijicknoiaaGreatDoor

/- The number that digits tell. -/
namespace Go.Proofs.YthiogijicknoiaaGreatDoor
open Go.RowKit
set_option linter.unusedSimpArgs false
set_option linter.unusedVariables false
theorem deltaOk_of (s : ByteArray) : (inB s.size 1 64 && allB digitB s) = deltaOk s := by
  unfold deltaOk inB; congr 1; congr 1 <;> rw [Bool.eq_iff_iff] <;> simp only [decide_eq_true_eq] <;> omega
theorem allTo_of {p : Int → Bool} {s : ByteArray} (h : allB p s = true) (k : Nat) : allTo p s k = true := by
  unfold allTo
  rw [List.all_eq_true]
  intro b hb
  exact List.all_eq_true.1 h b (List.mem_of_mem_take hb)
theorem digit_at {s : ByteArray} (h : allB digitB s = true) (k : Nat) (hk : k < s.size) : 48 ≤ s[k].toNat ∧ s[k].toNat ≤ 57 := by
  have := List.all_eq_true.1 h s[k] (List.getElem_mem (l := s.data.toList) (by rw [Array.length_toList]; exact hk))
  simp only [digitB, Bool.and_eq_true, decide_eq_true_eq] at this
  omega
set_option maxHeartbeats 800000 in
theorem areBytes_digit (s : ByteArray) (lo hi : Int) (w : World) (hs : s.size ≤ 9223372036854775807) : Calls Tryz.prog 81 #[.string s, .int .i64 lo, .int .i64 hi, .func (.func 82) #[] #[]] w fun e w' => e = .returned (.bool (inB s.size lo hi && allB digitB s)) ∧ w = w' := by
  by_cases hb : inB s.size lo hi = true
  · obtain ⟨h1, h2⟩ := inB_iff.1 hb
    have hfin : ∀ v, allB digitB s = v → (inB s.size lo hi && allB digitB s) = v := fun v h => by rw [hb, h]; rfl
    have Hfin := Lib.hid hfin
    clear hfin hb
    go_enter Tryz.func81, Tryz.ntmps81
    go_wp2
    go_loop [22] (fun i => ∃ k : Nat, k ≤ s.size ∧ i = .int .i64 k ∧ allTo digitB s k = true) (fun i => s.size - (intOf i).toNat)
    case atStart => exact ⟨0, Nat.zero_le _, rfl, rfl⟩
    case round =>
      obtain ⟨k, hk, rfl, hall⟩ := hrel
      have Hall := Lib.hid hall
      clear hall
      by_cases hlt : k < s.size
      · have hsn := Lib.hid (allTo_succ digitB s k hlt)
        by_cases hp : digitB (s[k].toNat : Int) = true
        · go_wp2_with (go_at_call 82; ((with_reducible refine (impl_isDigit _ _).mono ?_); rintro e w' ⟨rfl, rfl⟩))
          go_round
          case rel => exact ⟨k + 1, by omega, by go_num, by rw [hsn.out, Hall.out, hp]; rfl⟩
          case measure => simp [intOf]; omega
        · simp only [Bool.not_eq_true] at hp
          go_wp2_with (go_at_call 82; ((with_reducible refine (impl_isDigit _ _).mono ?_); rintro e w' ⟨rfl, rfl⟩))
          go_ret
          exact ⟨ret_bool (Hfin.out _ (allB_false _ _ _ hlt hp)).symm, rfl⟩
      · have hk' : k = s.size := by omega
        have Hk := Lib.hid hk'
        clear hk'
        go_wp2
        go_ret
        refine ⟨ret_bool (Hfin.out _ ?_).symm, rfl⟩
        have h := Hall.out
        rw [Hk.out, allTo_size] at h
        exact h
  · simp only [Bool.not_eq_true] at hb
    have h1 := inB_not.1 hb
    by_cases h2 : (s.size : Int) < lo
    all_goals
      go_enter Tryz.func81, Tryz.ntmps81
      go_wp2
      all_goals
        go_ret
        exact ⟨ret_bool (by first | rfl | (rw [hb]; rfl)), rfl⟩

/-- spec.l1Delta: the number, or -1. -/
def deltaI (s : ByteArray) : Int := if deltaOk s then deltaTo s s.size else -1
set_option maxHeartbeats 800000 in
theorem spec_l1Delta (s : ByteArray) (w : World) (hs : s.size ≤ 9223372036854775807) : Calls Tryz.prog 87 #[.string s] w fun e w' => e = .returned (.int .i64 (deltaI s)) ∧ w = w' := by
  by_cases hb : inB s.size 1 64 = true
  · obtain ⟨h1, h2⟩ := inB_iff.1 hb
    have hyes : allB digitB s = true → Ending.returned (.int .i64 (deltaTo s s.size)) = .returned (.int .i64 (deltaI s)) := fun h => by rw [deltaI, ← deltaOk_of, hb, h]; rfl
    have hno : allB digitB s = false → Ending.returned (.int .i64 (-1)) = .returned (.int .i64 (deltaI s)) := fun h => by rw [deltaI, ← deltaOk_of, hb, h]; rfl
    have Hyes := Lib.hid hyes
    have Hno := Lib.hid hno
    clear hyes hno hb
    go_enter Tryz.func87, Tryz.ntmps87
    go_wp2
    go_loop [3, 4] (fun n i => ∃ k : Nat, k ≤ s.size ∧ i = .int .i64 k ∧ n = .int .i64 (deltaTo s k) ∧ allTo digitB s k = true) (fun _ i => s.size - (intOf i).toNat)
    case atStart => exact ⟨0, Nat.zero_le _, rfl, rfl, rfl⟩
    case round =>
      obtain ⟨k, hk, rfl, rfl, hall⟩ := hrel
      obtain ⟨hd1, hd2⟩ := deltaTo_bd s k hall
      have Hall := Lib.hid hall
      clear hall
      by_cases hlt : k < s.size
      · have hsn := Lib.hid (allTo_succ digitB s k hlt)
        have hdn := Lib.hid (deltaTo_succ s k hlt)
        by_cases hp : digitB (s[k].toNat : Int) = true
        · have hdig : 48 ≤ (s[k].toNat : Int) ∧ (s[k].toNat : Int) ≤ 57 := by simpa [digitB] using hp
          obtain ⟨hg1, hg2⟩ := hdig
          go_wp2_with (first | (go_at_call 124; ((with_reducible refine (spec_l1Digit _ _).mono ?_); rintro e w' ⟨rfl, rfl⟩)) | (go_at_call 79; ((with_reducible refine (spec_l1Min _ _ _).mono ?_); rintro e w' ⟨rfl, rfl⟩)))
          go_round
          case rel => exact ⟨k + 1, by omega, by go_num, by rw [hdn.out, Int.mul_comm 10], by rw [hsn.out, Hall.out, hp]; rfl⟩
          case measure => simp [intOf]; omega
        · simp only [Bool.not_eq_true] at hp
          go_wp2_with (go_at_call 124; ((with_reducible refine (spec_l1Digit _ _).mono ?_); rintro e w' ⟨rfl, rfl⟩))
          go_ret
          exact ⟨Hno.out (allB_false _ _ _ hlt hp), rfl⟩
      · have hk' : k = s.size := by omega
        have Hk := Lib.hid hk'
        clear hk'
        go_wp2
        go_ret
        have h := Hall.out
        rw [Hk.out, allTo_size] at h
        exact ⟨by rw [← Hyes.out h]; exact ret_int (by rw [Hk.out]), rfl⟩
  · simp only [Bool.not_eq_true] at hb
    have h1 := inB_not.1 hb
    have hfin : Ending.returned (.int .i64 (-1)) = .returned (.int .i64 (deltaI s)) := by rw [deltaI, ← deltaOk_of, hb]; rfl
    have Hfin := Lib.hid hfin
    clear hfin hb
    by_cases h2 : (s.size : Int) < 1
    all_goals
      go_enter Tryz.func87, Tryz.ntmps87
      go_wp2
      all_goals
        go_ret
        exact ⟨Hfin.out, rfl⟩
theorem deltaOk_bd {s : ByteArray} (h : deltaOk s = true) : 0 ≤ deltaTo s s.size ∧ deltaTo s s.size ≤ 2147483648 := by
  refine deltaTo_bd s s.size ?_
  rw [allTo_size]
  unfold deltaOk at h
  simp only [Bool.and_eq_true] at h
  exact h.2
set_option maxHeartbeats 800000 in
theorem impl_DeltaOf (s : ByteArray) (w : World) (hs : s.size ≤ 9223372036854775807) : Calls Tryz.prog 83 #[.string s] w fun e w' => e = .returned (.agg #[.int .i64 (deltaR s).1, .int .i64 (deltaR s).2]) ∧ Below w.heap.size w w' := by
  have hc := fun W => areBytes_digit s 1 64 W hs
  rw [deltaOk_of] at hc
  have Hc := Lib.hid hc
  clear hc
  by_cases h : deltaOk s = true
  · have e : deltaR s = (0, deltaTo s s.size) := by simp [deltaR, h]
    rw [e]
    have hall : allB digitB s = true := by unfold deltaOk at h; simp only [Bool.and_eq_true] at h; exact h.2
    clear e
    have Hall := Lib.hid hall
    clear hall
    go_enter Tryz.func83, Tryz.ntmps83
    go_wp2_with (go_at_call 81; ((with_reducible refine (Hc.out _).mono ?_); rintro e w' ⟨rfl, rfl⟩))
    go_loop [3, 11] (fun n i => ∃ k : Nat, k ≤ s.size ∧ i = .int .i64 k ∧ n = .int .i64 (deltaTo s k)) (fun _ i => s.size - (intOf i).toNat)
    case atStart => exact ⟨0, Nat.zero_le _, rfl, rfl⟩
    case round =>
      obtain ⟨k, hk, rfl, rfl⟩ := hrel
      obtain ⟨hd1, hd2⟩ := deltaTo_bd s k (allTo_of Hall.out k)
      by_cases hlt : k < s.size
      · have hdn := Lib.hid (deltaTo_succ s k hlt)
        obtain ⟨hg1, hg2⟩ := digit_at Hall.out k hlt
        go_wp2
        all_goals
          go_round
          case rel => exact ⟨k + 1, by omega, by go_num, by first | (rw [hdn.out]; done) | (rw [hdn.out]; exact congrArg (Value.int .i64) (by omega))⟩
          case measure => simp [intOf]; omega
      · obtain rfl : k = s.size := by omega
        go_wp2
        all_goals exact bodyPost_ret (by first | ((simp [results, Tryz.results83, go_sem]; try rfl); done) | ((simp [results, Tryz.results83, go_sem, *]; try rfl); done) | ((simp (maxDischargeDepth := 8) [results, Tryz.results83, go_sem, *]; try rfl); done)) rfl ⟨rfl, by first | (with_reducible rfl) | exact (by first | (with_reducible exact Below.refl _ _) | ((repeat' (first | (with_reducible exact Below.refl _ _) | (with_reducible assumption) | (with_reducible refine below_alloc ?_ _) | (with_reducible refine Below.drew ?_) | (with_reducible refine below_drewN ?_ _) | (with_reducible refine Below.setCell ?_ ?_ _) | refine below_then ?_ (by with_reducible assumption))) <;> (first | omega | (simp; done) | (simp; omega))))⟩
  · have e : deltaR s = (5, 0) := by simp [deltaR, h]
    rw [e]
    clear e
    simp only [Bool.not_eq_true] at h
    go_enter Tryz.func83, Tryz.ntmps83
    go_wp2_with (go_at_call 81; ((with_reducible refine (Hc.out _).mono ?_); rintro e w' ⟨rfl, rfl⟩))
    all_goals exact bodyPost_ret (by first | ((simp [results, Tryz.results83, go_sem]; try rfl); done) | ((simp [results, Tryz.results83, go_sem, *]; try rfl); done) | ((simp (maxDischargeDepth := 8) [results, Tryz.results83, go_sem, *]; try rfl); done)) rfl ⟨rfl, by first | (with_reducible rfl) | exact (by first | (with_reducible exact Below.refl _ _) | ((repeat' (first | (with_reducible exact Below.refl _ _) | (with_reducible assumption) | (with_reducible refine below_alloc ?_ _) | (with_reducible refine Below.drew ?_) | (with_reducible refine below_drewN ?_ _) | (with_reducible refine Below.setCell ?_ ?_ _) | refine below_then ?_ (by with_reducible assumption))) <;> (first | omega | (simp; done) | (simp; omega))))⟩
end Go.Proofs.YthiogijicknoiaaGreatDoor

/- Items: the code of one; the place of the first with a name. -/
namespace Go.Proofs.YthiogijicknoiaaGreatDoor
open Go.RowKit
set_option linter.unusedSimpArgs false
set_option linter.unusedVariables false

def itemFault (i : It) : Int := if wordS i.1 = false then 5 else if (!i.2.1 && !i.2.2.toList.isEmpty) = true then 1 else if 1000 < i.2.2.size then 2 else if allB plainB i.2.2 = false then 5 else 0
def alikeI (name : ByteArray) (i : It) : Bool := alikeB i.1 name
def findR (l : List It) (name : ByteArray) : Int × Int := if 20 < l.length then (2, 0) else if wordS name = false then (5, 0) else if idxI (alikeI name) l < 0 then (4, 0) else (0, idxI (alikeI name) l)
end Go.Proofs.YthiogijicknoiaaGreatDoor

/- The text of items: both texts write the same. -/
namespace Go.Proofs.YthiogijicknoiaaGreatDoor
open Go.RowKit
set_option linter.unusedSimpArgs false
set_option linter.unusedVariables false

def itT (i : It) : ByteArray := itText i.1 i.2.1 i.2.2
theorem itemFault_0 {i : It} (h : itemFault i = 0) : i.1.size ≤ 64 ∧ i.2.2.size ≤ 1000 := by
  unfold itemFault at h
  split at h
  · cases h
  · rename_i h1
    split at h
    · cases h
    · split at h
      · cases h
      · rename_i h3
        refine ⟨?_, by omega⟩
        simp only [Bool.not_eq_false] at h1
        simp only [wordS, Bool.and_eq_true, decide_eq_true_eq] at h1
        exact h1.1.2
theorem itT_size {i : It} (h : itemFault i = 0) : (itT i).size ≤ 2100 := by
  have ⟨h1, h2⟩ := itemFault_0 h
  have h3 := quoteS_size i.2.2
  have e1 : (⟨#[61]⟩ : ByteArray).size = 1 := rfl
  unfold itT itText
  split
  · split
    · rw [ByteArray.size_append, ByteArray.size_append, e1]; omega
    · rw [ByteArray.size_append, ByteArray.size_append, e1]; omega
  · omega
theorem items_size {l : List It} (k : Nat) (hk : k ≤ l.length) (hl : l.length ≤ 20) (h : ∀ j (hj : j < l.length), j < k → itemFault l[j] = 0) : (joinB commaS ((l.map itT).take k)).size ≤ 45000 := by
  rw [← List.map_take]
  have := joinB_size commaS 2100 ((l.take k).map itT) (fun x hx => by
    obtain ⟨i, hi, rfl⟩ := List.mem_map.1 hx
    obtain ⟨j, hj, rfl⟩ := List.getElem_of_mem hi
    have hj' : j < k := by rw [List.length_take] at hj; omega
    have hjl : j < l.length := by omega
    rw [List.getElem_take]
    exact itT_size (h j hjl hj'))
  have e : commaS.size = 2 := rfl
  have hlen : ((l.take k).map itT).length ≤ 20 := by rw [List.length_map, List.length_take]; omega
  have h2 := Nat.mul_le_mul_right (2100 + 2) hlen
  rw [e] at this
  omega
theorem take_map (l : List It) (k : Nat) (h : k < l.length) : (l.map itT).take (k + 1) = (l.map itT).take k ++ [itT l[k]] := by
  rw [List.take_succ_eq_append_getElem (by rw [List.length_map]; exact h), List.getElem_map]
theorem items_step0 (l : List It) (k : Nat) (h : k < l.length) (h0 : k = 0) : joinB commaS ((l.map itT).take k) ++ itT l[k] = joinB commaS ((l.map itT).take (k + 1)) := by
  subst h0
  rw [take_map l 0 h, List.take_zero, List.nil_append, joinB_one, joinB_nil]
  apply ByteArray.ext; simp
theorem items_step (l : List It) (k : Nat) (h : k < l.length) (h0 : 0 < k) : joinB commaS ((l.map itT).take k) ++ ⟨#[44, 32]⟩ ++ itT l[k] = joinB commaS ((l.map itT).take (k + 1)) := by
  rw [take_map l k h]
  refine (joinB_snoc _ _ _ fun e => ?_).symm
  have := congrArg List.length e
  rw [List.length_take, List.length_map, List.length_nil] at this
  omega
theorem itT_no (i : It) (h : i.2.1 = false) : itT i = i.1 := by simp [itT, itText, h]
theorem itT_word (i : It) (h : i.2.1 = true) (h2 : wordS i.2.2 = true) : itT i = i.1 ++ (⟨#[61]⟩ ++ i.2.2) := by simp [itT, itText, h, h2]
theorem itT_quote (i : It) (h : i.2.1 = true) (h2 : wordS i.2.2 = false) : itT i = i.1 ++ (⟨#[61]⟩ ++ quoteS i.2.2) := by simp [itT, itText, h, h2]
theorem app4 (a b c d e : ByteArray) (h : a ++ (b ++ (c ++ d)) = e) : a ++ b ++ c ++ d = e := by rw [← h]; simp only [ByteArray.append_assoc]
def itemsR (l : List It) : Int × ByteArray := if 20 < l.length then (2, ⟨#[]⟩) else if faultG itemFault l ≠ 0 then (faultG itemFault l, ⟨#[]⟩) else
  if 1000 < (joinB commaS (l.map itT)).size then (2, ⟨#[]⟩) else (0, joinB commaS (l.map itT))
theorem itemsR_many {l : List It} (h : 20 < l.length) : itemsR l = (2, ⟨#[]⟩) := by simp [itemsR, h]
theorem itemsR_bad {l : List It} (h : ¬ 20 < l.length) (h2 : faultG itemFault l ≠ 0) : itemsR l = (faultG itemFault l, ⟨#[]⟩) := by simp [itemsR, h, h2]
theorem itemsR_long {l : List It} (h : ¬ 20 < l.length) (h2 : faultG itemFault l = 0) (h3 : 1000 < (joinB commaS (l.map itT)).size) : itemsR l = (2, ⟨#[]⟩) := by simp [itemsR, h, h2, h3]
theorem itemsR_ok {l : List It} (h : ¬ 20 < l.length) (h2 : faultG itemFault l = 0) (h3 : ¬ 1000 < (joinB commaS (l.map itT)).size) : itemsR l = (0, joinB commaS (l.map itT)) := by simp [itemsR, h, h2, h3]
theorem ret_items (l : List It) : ∀ c t, itemsR l = (c, t) → Ending.returned (.agg #[.int .i64 c, .string t]) = .returned (.agg #[.int .i64 (itemsR l).1, .string (itemsR l).2]) := fun c t h => by rw [h]
end Go.Proofs.YthiogijicknoiaaGreatDoor

/- The text of items: the program's own, and the law. -/
namespace Go.Proofs.YthiogijicknoiaaGreatDoor
open Go.RowKit
set_option linter.unusedSimpArgs false
set_option linter.unusedVariables false

theorem join_own (g cap n lo : Nat) (xs : List ByteArray) (hx : xs.length = n) (w : World) (h : w.ownsRow lo 9 1 (.slice (some ⟨g, 0, none⟩) n cap) n (strV xs)) (hn : n ≤ 100000) (hlen : (joinB commaS xs).size ≤ 140737488355328) :
    Calls Tryz.prog 122 #[.slice (some ⟨g, 0, none⟩) n cap, .string ⟨#[44, 32]⟩] w fun e w' => e = .returned (.string (joinB commaS xs)) ∧ Below w.heap.size w w' := by
  subst hx
  have hrow := RowAt.of_own h
  have hcap : xs.length ≤ cap := by
    rcases h.2 with ⟨hn, _⟩ | ⟨g', cap', cur, hv, _, _, hc, _⟩
    · cases hn
    · cases hv; exact hc
  exact Tryz.strings_Join g 0 cap xs ⟨#[44, 32]⟩ w (fun j x hj => by
    rw [Nat.zero_add]
    refine hrow.cell j _ ?_
    have hj' : j < xs.length := (List.getElem?_eq_some_iff.1 hj).1
    rw [strV_at xs j hj']
    rw [List.getElem?_eq_getElem hj'] at hj
    rw [Option.some.inj hj]) hrow.lt (by omega) hcap hlen
theorem strV_snoc2 (l : List ByteArray) (x : ByteArray) : strV l ++ [.string x] = strV (l ++ [x]) := by simp [strV]
end Go.Proofs.YthiogijicknoiaaGreatDoor

/- Plain laws: a number's digits are read as the number. No program in sight. -/
namespace Go.Proofs.YthiogijicknoiaaGreatDoor
theorem dig_at (j : Nat) (h : j < 10) : (UInt8.ofNat (48 + j)).toNat = 48 + j := by simp; omega
theorem dec_fold : ∀ k : Nat, k ≤ 2147483648 → (Lib.decDigits k).foldl (fun (n : Int) b => min (10 * n + ((b.toNat : Int) - 48)) 2147483648) 0 = (k : Int) := by
  intro k
  induction k using Nat.strongRecOn with
  | ind k ih =>
    intro hk
    by_cases h : k < 10
    · rw [Lib.decDigits, dif_pos h, List.foldl_cons, List.foldl_nil, dig_at k h]
      omega
    · rw [Lib.decDigits, dif_neg h, List.foldl_append, ih (k / 10) (by omega) (by omega), List.foldl_cons, List.foldl_nil, dig_at (k % 10) (by omega)]
      omega
theorem dec_digit : ∀ k : Nat, ∀ b ∈ Lib.decDigits k, digitB (b.toNat : Int) = true := by
  intro k
  induction k using Nat.strongRecOn with
  | ind k ih =>
    intro b hb
    by_cases h : k < 10
    · rw [Lib.decDigits, dif_pos h, List.mem_singleton] at hb
      subst hb
      rw [dig_at k h]
      simp only [digitB, Bool.and_eq_true, decide_eq_true_eq]; omega
    · rw [Lib.decDigits, dif_neg h, List.mem_append, List.mem_singleton] at hb
      rcases hb with hb | rfl
      · exact ih (k / 10) (by omega) b hb
      · rw [dig_at (k % 10) (by omega)]
        simp only [digitB, Bool.and_eq_true, decide_eq_true_eq]; omega
theorem dec_len (k : Nat) : 1 ≤ (Lib.decDigits k).length := by
  rw [Lib.decDigits]
  split
  · simp
  · rw [List.length_append, List.length_singleton]; omega
theorem delta_dec (k : Nat) (h : k ≤ 2147483648) (h64 : (Lib.decDigits k).length ≤ 64) : deltaR ⟨(Lib.decDigits k).toArray⟩ = (0, (k : Int)) := by
  have hsz : (⟨(Lib.decDigits k).toArray⟩ : ByteArray).size = (Lib.decDigits k).length := rfl
  have h1 := dec_len k
  have hok : deltaOk ⟨(Lib.decDigits k).toArray⟩ = true := by
    unfold deltaOk
    rw [hsz, Bool.and_eq_true, Bool.and_eq_true, decide_eq_true_eq, decide_eq_true_eq]
    exact ⟨⟨h1, h64⟩, List.all_eq_true.2 (dec_digit k)⟩
  unfold deltaR
  rw [if_pos hok]
  unfold deltaTo
  rw [hsz]
  show (0, ((Lib.decDigits k).take (Lib.decDigits k).length).foldl _ 0) = _
  rw [List.take_length, dec_fold k h]
end Go.Proofs.YthiogijicknoiaaGreatDoor

/- Plain law: what stands between the first and the last byte that is no blank. No program in sight. -/
namespace Go.Proofs.YthiogijicknoiaaGreatDoor
open Go.RowKit

def blankB (c : Int) : Bool := decide (c = 32) || decide (c = 9)
def trimL (l : List UInt8) : List UInt8 := Lib.trimS l [32, 9]
def trimT (s : ByteArray) : ByteArray := ⟨(trimL s.data.toList).toArray⟩
theorem blank_has (b : UInt8) : ([32, 9] : List UInt8).contains b = blankB (b.toNat : Int) := by
  simp only [List.contains_cons, List.contains_nil, Bool.or_false, blankB]
  rw [Bool.eq_iff_iff]
  simp only [Bool.or_eq_true, beq_iff_eq, decide_eq_true_eq]
  constructor
  · rintro (h | h)
    · left; subst h; rfl
    · right; subst h; rfl
  · rintro (h | h)
    · left; apply UInt8.toNat_inj.1; show b.toNat = 32; omega
    · right; apply UInt8.toNat_inj.1; show b.toNat = 9; omega
theorem at_byte (s : ByteArray) (j : Nat) (b : UInt8) (h : s.data.toList[j]? = some b) : ∃ hj : j < s.size, b = s[j] := by
  have hj : j < s.data.toList.length := (List.getElem?_eq_some_iff.1 h).1
  have hj' : j < s.size := by rw [Array.length_toList] at hj; exact hj
  refine ⟨hj', ?_⟩
  obtain ⟨_, e⟩ := List.getElem?_eq_some_iff.1 h
  rw [← e]; rfl
/-- What the two loops end with. -/
theorem trim_of (s : ByteArray) (f e : Nat) (hfe : f ≤ e) (he : e ≤ s.size) (h1 : ∀ j (h : j < s.size), j < f → blankB (s[j].toNat : Int) = true)
    (h2 : ∀ h : f < s.size, blankB (s[f].toNat : Int) = false) (h3 : ∀ j (h : j < s.size), e ≤ j → blankB (s[j].toNat : Int) = true)
    (h4 : f < e → ∀ h : e - 1 < s.size, blankB (s[e - 1].toNat : Int) = false) : trimL s.data.toList = (s.data.toList.take e).drop f := by
  have hl : s.data.toList.length = s.size := Array.length_toList
  unfold trimL Lib.trimS
  by_cases hlt : f < e
  · rw [Lib.trimRightS_take _ _ e (by omega) (fun j b hj hb => by
      obtain ⟨hj', rfl⟩ := at_byte s j b hb
      rw [blank_has]; exact h3 j hj' hj) (fun b h0 hb => by
      obtain ⟨hj', rfl⟩ := at_byte s _ b hb
      rw [blank_has]; exact h4 hlt hj')]
    exact Lib.trimLeftS_drop _ _ f (by rw [List.length_take]; omega) (fun j b hj hb => by
      rw [List.getElem?_take, if_pos (by omega)] at hb
      obtain ⟨hj', rfl⟩ := at_byte s j b hb
      rw [blank_has]; exact h1 j hj' hj) (fun b hb => by
      rw [List.getElem?_take, if_pos hlt] at hb
      obtain ⟨hj', rfl⟩ := at_byte s _ b hb
      rw [blank_has]; exact h2 hj')
  · have e' : e = f := by omega
    subst e'
    have hall : ¬ e < s.size := fun h => by
      have a := h2 h
      have b := h3 e h (Nat.le_refl _)
      rw [a] at b; cases b
    rw [Lib.trimRightS_take _ _ 0 (by omega) (fun j b hj hb => by
      obtain ⟨hj', rfl⟩ := at_byte s j b hb
      rw [blank_has]; exact h1 j hj' (by omega)) (fun b h0 hb => by omega)]
    rw [List.drop_of_length_le (by rw [List.length_take]; omega)]
    rfl
/-- It is no longer; and twice is once. -/
theorem trimL_len (l : List UInt8) : (trimL l).length ≤ l.length := by
  unfold trimL Lib.trimS Lib.trimLeftS Lib.trimRightS
  refine Nat.le_trans ((List.dropWhile_sublist _).length_le) ?_
  rw [List.length_reverse]
  refine Nat.le_trans ((List.dropWhile_sublist _).length_le) ?_
  rw [List.length_reverse]
  exact Nat.le_refl _
theorem trimT_size (s : ByteArray) : (trimT s).size ≤ s.size := by
  have h := trimL_len s.data.toList
  rw [Array.length_toList] at h
  have e : (trimT s).size = (trimL s.data.toList).length := rfl
  rw [e]; exact h
def trimR (s : ByteArray) : Int × ByteArray := if s.size ≤ 1000 then (0, trimT s) else (2, ByteArray.empty)
end Go.Proofs.YthiogijicknoiaaGreatDoor

/- What is trimmed: both texts find the same. -/
namespace Go.Proofs.YthiogijicknoiaaGreatDoor
open Go.RowKit
set_option linter.unusedSimpArgs false
set_option linter.unusedVariables false

theorem strings_Trim (s : ByteArray) (w : World) (hs : s.size ≤ 9223372036854775807) : Calls Tryz.prog 102 #[.string s, .string ⟨#[32, 9]⟩] w fun e w' => e = .returned (.string (trimT s)) ∧ Below w.heap.size w w' :=
  Any.strings_Trim_laid Tryz.lays160 (by kernel_rfl) s ⟨#[32, 9]⟩ w hs (by decide) (ascii_of_all (by decide))
theorem spec_l1Blank (c : Int) (w : World) : Calls Tryz.prog 185 #[.int .u8 c] w fun e w' => e = .returned (.bool (blankB c)) ∧ w = w' := by
  go_enter Tryz.func185, Tryz.ntmps185
  go_wp2
  all_goals (go_ret; exact ⟨ret_bool (by first | (simp_all [blankB]; done) | (rw [Bool.eq_iff_iff]; simp_all [blankB])), rfl⟩)
theorem extract_eq (s : ByteArray) (f e : Nat) : s.extract f e = ⟨((s.data.toList.take e).drop f).toArray⟩ := by
  apply ByteArray.ext
  apply Array.toList_inj.1
  simp [ByteArray.data_extract, List.extract_eq_take_drop]
  rw [List.drop_take]
set_option maxHeartbeats 1600000 in
theorem spec_l1Trim (s : ByteArray) (w : World) (hs : s.size ≤ 9223372036854775807) : Calls Tryz.prog 158 #[.string s] w fun e w' => e = .returned (.string (trimT s)) ∧ w = w' := by
  go_enter Tryz.func158, Tryz.ntmps158
  go_wp2
  go_loop [3] (fun i => ∃ k : Nat, k ≤ s.size ∧ i = .int .i64 k ∧ ∀ j (h : j < s.size), j < k → blankB (s[j].toNat : Int) = true) (fun i => s.size - (intOf i).toNat)
  case atStart => exact ⟨0, Nat.zero_le _, rfl, fun j _ h => by omega⟩
  case round =>
    obtain ⟨f, hf, rfl, hall⟩ := hrel
    have Hall := Lib.hid hall
    clear hall
    by_cases hlt : f < s.size
    · by_cases hp : blankB (s[f].toNat : Int) = true
      · have Hp := Lib.hid hp
        go_wp2_with (go_at_call 185; ((with_reducible refine (spec_l1Blank _ _).mono ?_); rintro e w' ⟨rfl, rfl⟩))
        go_round
        case rel =>
          refine ⟨f + 1, by omega, by go_num, fun j h hj => ?_⟩
          by_cases e : j = f
          · subst e; exact Hp.out
          · exact Hall.out j h (by omega)
        case measure => (simp [intOf] <;> omega)
      · simp only [Bool.not_eq_true] at hp
        have hend : ∀ h : f < s.size, blankB (s[f].toNat : Int) = false := fun _ => hp
        have Hend := Lib.hid hend
        clear hend
        go_wp2_with (go_at_call 185; ((with_reducible refine (spec_l1Blank _ _).mono ?_); rintro e w' ⟨rfl, rfl⟩))
        go_loop [4] (fun i => ∃ k : Nat, f ≤ k ∧ k ≤ s.size ∧ i = .int .i64 k ∧ ∀ j (h : j < s.size), k ≤ j → blankB (s[j].toNat : Int) = true) (fun i => (intOf i).toNat)
        case atStart => exact ⟨s.size, hf, Nat.le_refl _, rfl, fun j h hj => by omega⟩
        case round =>
          obtain ⟨e, hfe, he, rfl, hall2⟩ := hrel
          have Hall2 := Lib.hid hall2
          clear hall2
          have hfin : (f < e → ∀ h : e - 1 < s.size, blankB (s[e - 1].toNat : Int) = false) → Ending.returned (.string (s.extract f e)) = .returned (.string (trimT s)) := fun h4 => by
            rw [extract_eq, trimT, trim_of s f e hfe he Hall.out Hend.out Hall2.out h4]
          have Hfin := Lib.hid hfin
          clear hfin
          by_cases hlt2 : f < e
          · obtain ⟨e', rfl⟩ : ∃ e', e = e' + 1 := ⟨e - 1, by omega⟩
            have he' : e' < s.size := by omega
            by_cases hp2 : blankB (s[e'].toNat : Int) = true
            · have Hp2 := Lib.hid hp2
              go_wp2_with (go_at_call 185; ((with_reducible refine (spec_l1Blank _ _).mono ?_); rintro e w' ⟨rfl, rfl⟩))
              go_round
              case rel =>
                refine ⟨e', by omega, by omega, by go_num, fun j h hj => ?_⟩
                by_cases e0 : j = e'
                · subst e0; exact Hp2.out
                · exact Hall2.out j h (by omega)
              case measure => (simp [intOf] <;> omega)
            · simp only [Bool.not_eq_true] at hp2
              have h5 : f < e' + 1 → ∀ h : e' + 1 - 1 < s.size, blankB (s[e' + 1 - 1].toNat : Int) = false := fun _ _ => hp2
              have H5 := Lib.hid h5
              clear h5
              go_wp2_with (go_at_call 185; ((with_reducible refine (spec_l1Blank _ _).mono ?_); rintro e w' ⟨rfl, rfl⟩))
              go_ret
              exact ⟨Hfin.out H5.out, rfl⟩
          · have e0 : e = f := by omega
            subst e0
            have e1 : s.extract e e = ByteArray.empty := by apply ByteArray.ext; simp
            have h6 : Ending.returned (.string ByteArray.empty) = .returned (.string (trimT s)) := by rw [← e1]; exact Hfin.out (fun h => absurd h (Nat.lt_irrefl _))
            have H6 := Lib.hid h6
            clear e1 h6
            go_wp2_with (go_at_call 185; ((with_reducible refine (spec_l1Blank _ _).mono ?_); rintro e w' ⟨rfl, rfl⟩))
            go_ret
            exact ⟨H6.out, rfl⟩
    · have hend : ∀ h : f < s.size, blankB (s[f].toNat : Int) = false := fun h => absurd h hlt
      have Hend := Lib.hid hend
      clear hend
      go_wp2_with (go_at_call 185; ((with_reducible refine (spec_l1Blank _ _).mono ?_); rintro e w' ⟨rfl, rfl⟩))
      go_loop [4] (fun i => ∃ k : Nat, f ≤ k ∧ k ≤ s.size ∧ i = .int .i64 k) (fun i => (intOf i).toNat)
      case atStart => exact ⟨s.size, hf, Nat.le_refl _, rfl⟩
      case round =>
        obtain ⟨e, hfe, he, rfl⟩ := hrel
        obtain rfl : e = f := by omega
        have e1 : s.extract e e = ByteArray.empty := by apply ByteArray.ext; simp
        have h6 : Ending.returned (.string ByteArray.empty) = .returned (.string (trimT s)) := by
          rw [← e1, extract_eq, trimT, trim_of s e e (Nat.le_refl _) hf Hall.out Hend.out (fun j h hj => by omega) (fun h => absurd h (Nat.lt_irrefl _))]
        have H6 := Lib.hid h6
        clear e1 h6
        go_wp2_with (go_at_call 185; ((with_reducible refine (spec_l1Blank _ _).mono ?_); rintro e w' ⟨rfl, rfl⟩))
        go_ret
        exact ⟨H6.out, rfl⟩
theorem trimR_yes {s : ByteArray} (h : s.size ≤ 1000) : trimR s = (0, trimT s) := by simp [trimR, h]
theorem trimR_no {s : ByteArray} (h : ¬ s.size ≤ 1000) : trimR s = (2, ByteArray.empty) := by simp [trimR, h]
end Go.Proofs.YthiogijicknoiaaGreatDoor

/- Plain laws: small letters stay so, what is trimmed stays so, a word bears no blank. No program in sight. -/
namespace Go.Proofs.YthiogijicknoiaaGreatDoor
theorem lowB_twice (b : UInt8) : lowB (lowB b) = lowB b := by
  unfold lowB
  by_cases h : 65 ≤ b.toNat ∧ b.toNat ≤ 90
  · rw [if_pos h, if_neg]
    have : (b + 32).toNat = b.toNat + 32 := by rw [UInt8.toNat_add]; simp; omega
    omega
  · rw [if_neg h, if_neg h]
theorem lowS_twice (s : ByteArray) : lowS (lowS s) = lowS s := by
  apply ByteArray.ext
  show (s.data.map lowB).map lowB = s.data.map lowB
  rw [Array.map_map]
  congr 1
  funext b
  exact lowB_twice b
theorem dw_twice (p : UInt8 → Bool) (l : List UInt8) : (l.dropWhile p).dropWhile p = l.dropWhile p := by
  induction l with
  | nil => rfl
  | cons b l ih =>
    by_cases h : p b = true
    · rw [List.dropWhile_cons_of_pos h, ih]
    · rw [List.dropWhile_cons_of_neg h, List.dropWhile_cons_of_neg h]
theorem dw_all (p : UInt8 → Bool) (l : List UInt8) (h : ∀ b ∈ l, p b = false) : l.dropWhile p = l := by
  cases l with
  | nil => rfl
  | cons b l => exact List.dropWhile_cons_of_neg (by simp [h b (by simp)])
/-- Cut off behind, then before: behind there is still nothing to cut off. -/
theorem trim_twice (l : List UInt8) : trimL (trimL l) = trimL l := by
  unfold trimL Lib.trimS Lib.trimLeftS Lib.trimRightS
  generalize (fun x => ([32, 9] : List UInt8).contains x) = p
  have key : ∀ m : List UInt8, (m.reverse.dropWhile p) = m.reverse → ((m.dropWhile p).reverse.dropWhile p) = (m.dropWhile p).reverse := by
    intro m hm
    by_cases e : m.dropWhile p = []
    · rw [e]; rfl
    · obtain ⟨a, ha⟩ : ∃ a, m = a ++ m.dropWhile p := ⟨m.takeWhile p, (List.takeWhile_append_dropWhile).symm⟩
      generalize m.dropWhile p = d at *
      subst ha
      rw [List.reverse_append] at hm
      cases hd : d.reverse with
      | nil => rfl
      | cons x r =>
        rw [hd, List.cons_append] at hm
        by_cases hx : p x = true
        · rw [List.dropWhile_cons_of_pos hx] at hm
          have h1 := (List.dropWhile_sublist p (l := r ++ a.reverse)).length_le
          rw [hm, List.length_cons] at h1
          omega
        · exact List.dropWhile_cons_of_neg hx
  have h0 : ((l.reverse.dropWhile p).reverse.reverse.dropWhile p) = (l.reverse.dropWhile p).reverse.reverse := by
    rw [List.reverse_reverse, dw_twice]
  rw [key _ h0, List.reverse_reverse, dw_twice]
theorem trimT_twice (s : ByteArray) : trimT (trimT s) = trimT s := by
  unfold trimT
  show (⟨(trimL (trimL s.data.toList)).toArray⟩ : ByteArray) = _
  rw [trim_twice]
theorem word_blank (b : UInt8) (h : wordB (b.toNat : Int) = true) : ([32, 9] : List UInt8).contains b = false := by
  rw [blank_has]
  cases hb : blankB (b.toNat : Int) with
  | false => rfl
  | true =>
    simp only [blankB, Bool.or_eq_true, decide_eq_true_eq] at hb
    rcases hb with e | e <;> (rw [e] at h; revert h; decide)
theorem word_trim (s : ByteArray) (h : wordS s = true) : trimT s = s := by
  unfold wordS at h
  rw [Bool.and_eq_true] at h
  have hall := List.all_eq_true.1 (show (s.data.toList.all fun b => wordB (b.toNat : Int)) = true from h.2)
  have hno : ∀ b ∈ s.data.toList, ([32, 9] : List UInt8).contains b = false := fun b hb => word_blank b (hall b hb)
  have e : trimL s.data.toList = s.data.toList := by
    unfold trimL Lib.trimS Lib.trimLeftS Lib.trimRightS
    rw [dw_all _ _ (fun b hb => hno b (List.mem_reverse.1 hb)), List.reverse_reverse, dw_all _ _ hno]
  unfold trimT
  rw [e]
theorem word_size (s : ByteArray) (h : wordS s = true) : s.size ≤ 64 := by
  unfold wordS at h
  simp only [Bool.and_eq_true, decide_eq_true_eq] at h
  exact h.1.2
end Go.Proofs.YthiogijicknoiaaGreatDoor
