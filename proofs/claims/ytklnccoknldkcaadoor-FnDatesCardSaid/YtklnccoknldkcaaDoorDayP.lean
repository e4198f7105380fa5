/- Plain words: the date that a text tells. No program in sight. -/
import Derived.Test.YtklnccoknldkcaaDoorFmtP
import Derived.Test.YtklnccoknldkcaaDoorReadP
import Derived.Lib.ParseIntB
import Derived.Lib.SlicesS
namespace Go.Proofs.YtklnccoknldkcaaDoor
open Go.RowKit
set_option linter.unusedVariables false

abbrev dg (k : Nat) : UInt8 := UInt8.ofNat (48 + k % 10)
theorem dg_nat (k : Nat) : (dg k).toNat = 48 + k % 10 := by
  show (UInt8.ofNat (48 + k % 10)).toNat = _
  rw [UInt8.toNat_ofNat']; omega
theorem dg_inj {a b : Nat} (ha : a < 10) (hb : b < 10) (h : dg a = dg b) : a = b := by
  have h1 := dg_nat a
  have h2 := dg_nat b
  rw [h] at h1
  omega
theorem pu_step (M acc k : Nat) (r : List UInt8) (ha : acc ≤ 100000) (hM : 10000000 ≤ M) : Lib.parseUintM M acc (dg k :: r) = Lib.parseUintM M (acc * 10 + k % 10) r := by
  have h := dg_nat k
  have hk : k % 10 < 10 := Nat.mod_lt _ (by omega)
  rw [Lib.parseUintM, h, if_pos (by omega), if_neg (by omega), if_neg (by omega), show 48 + k % 10 - 48 = k % 10 from by omega]
theorem pi_pos (k : Nat) (r : List UInt8) {u : Nat} (hu : u ≤ 1000000) (h : Lib.parseUintM (2 ^ 64 - 1) 0 (dg k :: r) = .ok u) : Lib.parseIntB 64 (dg k :: r) = .ok (u : Int) := by
  have h1 := dg_nat k
  have hk : k % 10 < 10 := Nat.mod_lt _ (by omega)
  have e : Lib.parseUintB 64 (dg k :: r) = .ok u := by rw [Lib.parseUintB, if_neg (by simp)]; exact h
  unfold Lib.parseIntB
  simp only [h1]
  rw [if_neg (by omega), e]
  simp only
  rw [if_neg (by omega), if_neg (by omega), if_neg (by omega)]
theorem parse_2 (k : Nat) (hk : k ≤ 99) : Lib.parseIntB 64 [dg (k / 10), dg k] = .ok (k : Int) := by
  refine pi_pos (k / 10) [dg k] (by omega) ?_
  rw [pu_step _ _ _ _ (by omega) (by decide), pu_step _ _ _ _ (by omega) (by decide), Lib.parseUintM]
  congr 1; omega
theorem parse_4 (y : Nat) (hy : y ≤ 9999) : Lib.parseIntB 64 [dg (y / 1000), dg (y / 100), dg (y / 10), dg y] = .ok (y : Int) := by
  refine pi_pos (y / 1000) [dg (y / 100), dg (y / 10), dg y] (by omega) ?_
  rw [pu_step _ _ _ _ (by omega) (by decide), pu_step _ _ _ _ (by omega) (by decide), pu_step _ _ _ _ (by omega) (by decide), pu_step _ _ _ _ (by omega) (by decide), Lib.parseUintM]
  congr 1; omega
theorem two_list (k : Nat) : (two k).data.toList = [dg (k / 10), dg k] := rfl
theorem year_list (y : Nat) (h1 : 1000 ≤ y) (h2 : y ≤ 9999) : (decS (y : Int)).data.toList = [dg (y / 1000), dg (y / 100), dg (y / 10), dg y] := by
  rw [← two_year y h1 h2, ByteArray.data_append, Array.toList_append, two_list, two_list]
  rw [show y / 100 / 10 = y / 1000 from by omega]
  rfl
/-- The names of the months, and of the days. -/
def monL : List ByteArray := [⟨#[74, 97, 110]⟩, ⟨#[70, 101, 98]⟩, ⟨#[77, 97, 114]⟩, ⟨#[65, 112, 114]⟩, ⟨#[77, 97, 121]⟩, ⟨#[74, 117, 110]⟩, ⟨#[74, 117, 108]⟩, ⟨#[65, 117, 103]⟩, ⟨#[83, 101, 112]⟩, ⟨#[79, 99, 116]⟩, ⟨#[78, 111, 118]⟩, ⟨#[68, 101, 99]⟩]
def dayL : List ByteArray := [⟨#[83, 117, 110]⟩, ⟨#[77, 111, 110]⟩, ⟨#[84, 117, 101]⟩, ⟨#[87, 101, 100]⟩, ⟨#[84, 104, 117]⟩, ⟨#[70, 114, 105]⟩, ⟨#[83, 97, 116]⟩]
theorem mon_ext {m : Nat} (h1 : 1 ≤ m) (h : m ≤ 12) : monL[m - 1]? = some (monthsA.extract (3 * m - 3) (3 * m)) := by
  rcases (show m = 1 ∨ m = 2 ∨ m = 3 ∨ m = 4 ∨ m = 5 ∨ m = 6 ∨ m = 7 ∨ m = 8 ∨ m = 9 ∨ m = 10 ∨ m = 11 ∨ m = 12 by omega) with rfl | rfl | rfl | rfl | rfl | rfl | rfl | rfl | rfl | rfl | rfl | rfl <;> kernel_rfl
theorem day_ext {k : Nat} (h : k ≤ 6) : dayL[k]? = some (daysA.extract (3 * k) (3 * k + 3)) := by
  rcases (show k = 0 ∨ k = 1 ∨ k = 2 ∨ k = 3 ∨ k = 4 ∨ k = 5 ∨ k = 6 by omega) with rfl | rfl | rfl | rfl | rfl | rfl | rfl <;> kernel_rfl
theorem mon_inj : ∀ i j : Fin 12, monL[i.1]? = monL[j.1]? → i = j := by decide
theorem mon_of {m : Nat} (h1 : 1 ≤ m) (h : m ≤ 12) : Lib.idxOfS monL (monthsA.extract (3 * m - 3) (3 * m)) + 1 = (m : Int) := by
  rcases (show m = 1 ∨ m = 2 ∨ m = 3 ∨ m = 4 ∨ m = 5 ∨ m = 6 ∨ m = 7 ∨ m = 8 ∨ m = 9 ∨ m = 10 ∨ m = 11 ∨ m = 12 by omega) with rfl | rfl | rfl | rfl | rfl | rfl | rfl | rfl | rfl | rfl | rfl | rfl <;> decide +kernel
theorem len3 {α : Type} {l : List α} (h : l.length = 3) : ∃ a b c, l = [a, b, c] := by
  match l, h with
  | [a, b, c], _ => exact ⟨a, b, c, rfl⟩
theorem ext_list (s : ByteArray) (f e : Nat) : (s.extract f e).data.toList = (s.data.toList.take e).drop f := by
  have h := extract_eq s f e
  have := congrArg (fun x : ByteArray => x.data.toList) h
  simpa using this
theorem fmt_list {wd m y d h i s : Nat} (b1 : wd ≤ 6) (b2 : 1 ≤ m) (b3 : m ≤ 12) (b4 : 1000 ≤ y) (b5 : y ≤ 9999) : ∃ a1 a2 a3 m1 m2 m3, (daysA.extract (3 * wd) (3 * wd + 3)).data.toList = [a1, a2, a3] ∧ (monthsA.extract (3 * m - 3) (3 * m)).data.toList = [m1, m2, m3] ∧
    (fmtT wd m y d h i s).data.toList = [a1, a2, a3, 44, 32, dg (d / 10), dg d, 32, m1, m2, m3, 32, dg (y / 1000), dg (y / 100), dg (y / 10), dg y, 32, dg (h / 10), dg h, 58, dg (i / 10), dg i, 58, dg (s / 10), dg s, 32, 71, 77, 84] := by
  obtain ⟨a1, a2, a3, ha⟩ := len3 (l := (daysA.extract (3 * wd) (3 * wd + 3)).data.toList) (by rw [Array.length_toList]; exact days_size b1)
  obtain ⟨m1, m2, m3, hm⟩ := len3 (l := (monthsA.extract (3 * m - 3) (3 * m)).data.toList) (by rw [Array.length_toList]; exact months_size b2 b3)
  refine ⟨a1, a2, a3, m1, m2, m3, ha, hm, ?_⟩
  unfold fmtT
  simp only [ByteArray.data_append, Array.toList_append, ha, hm, two_list, year_list y b4 b5]
  rfl
/-- What stands where in the text of a date. -/
theorem fmt_parts {t : ByteArray} {wd m y d h i s : Nat} (b1 : wd ≤ 6) (b2 : 1 ≤ m) (b3 : m ≤ 12) (b4 : 1000 ≤ y) (b5 : y ≤ 9999) (e : fmtT wd m y d h i s = t) :
    t.size = 29 ∧ t.extract 8 11 = monthsA.extract (3 * m - 3) (3 * m) ∧ (t.extract 12 16).data.toList = [dg (y / 1000), dg (y / 100), dg (y / 10), dg y] ∧ (t.extract 5 7).data.toList = [dg (d / 10), dg d] ∧ (t.extract 17 19).data.toList = [dg (h / 10), dg h] ∧ (t.extract 20 22).data.toList = [dg (i / 10), dg i] ∧ (t.extract 23 25).data.toList = [dg (s / 10), dg s] := by
  obtain ⟨a1, a2, a3, m1, m2, m3, ha, hm, hl⟩ := fmt_list (d := d) (h := h) (i := i) (s := s) b1 b2 b3 b4 b5
  rw [e] at hl
  refine ⟨?_, ?_, ?_, ?_, ?_, ?_, ?_⟩
  · have := congrArg List.length hl
    rw [Array.length_toList] at this
    exact this
  · apply ByteArray.ext
    apply Array.toList_inj.1
    rw [ext_list, hl, hm]; rfl
  all_goals (rw [ext_list, hl]; rfl)
/-- A date's text tells the date. -/
theorem fmtS_inj {n n' : Int} (h1 : inB n 0 253402300799 = true) (h2 : inB n' 0 253402300799 = true) (h : fmtS n = fmtS n') : n = n' := by
  obtain ⟨a1, a2⟩ := inB_iff.1 h1
  obtain ⟨c1, c2⟩ := inB_iff.1 h2
  obtain ⟨wd, m, y, d, hh, i, s, q1, q2, q3, q4, q5, q6, q7, ⟨b1, b2, b3, b4, b5, b6, b7, b8, b9, b10⟩, ef⟩ := parts a1 a2
  obtain ⟨wd', m', y', d', hh', i', s', q1', q2', q3', q4', q5', q6', q7', ⟨b1', b2', b3', b4', b5', b6', b7', b8', b9', b10'⟩, ef'⟩ := parts c1 c2
  obtain ⟨_, p1, p2, p3, p4, p5, p6⟩ := fmt_parts b1 b2 b3 (by omega) b5 ef.symm
  obtain ⟨_, p1', p2', p3', p4', p5', p6'⟩ := fmt_parts b1' b2' b3' (by omega) b5' (ef'.symm.trans h.symm)
  rw [p1] at p1'
  rw [p2] at p2'
  rw [p3] at p3'
  rw [p4] at p4'
  rw [p5] at p5'
  rw [p6] at p6'
  have em : m = m' := by
    have h3 := mon_ext b2 b3
    have h4 := mon_ext b2' b3'
    rw [p1', ← h4] at h3
    have := mon_inj ⟨m - 1, by omega⟩ ⟨m' - 1, by omega⟩ h3
    have := congrArg Fin.val this
    simp only at this
    omega
  have two_eq : ∀ {a b : Nat}, a ≤ 99 → b ≤ 99 → [dg (a / 10), dg a] = [dg (b / 10), dg b] → a = b := fun ha hb e => by
    have f1 := parse_2 _ ha
    rw [e, parse_2 _ hb] at f1
    cases f1; rfl
  have four_eq : y = y' := by
    have f1 := parse_4 _ b5
    rw [p2', parse_4 _ b5'] at f1
    cases f1; rfl
  have ed := two_eq (by omega) (by omega) p3'
  have eh := two_eq (by omega) (by omega) p4'
  have ei := two_eq (by omega) (by omega) p5'
  have es := two_eq (by omega) (by omega) p6'
  have x1 := (at_some a1 a2).day.2
  have x2 := (at_some c1 c2).day.2
  have y1 : daysI (yOf n) (mOf n) (dOf n) = n / 86400 := x1
  have y2 : daysI (yOf n') (mOf n') (dOf n') = n' / 86400 := x2
  rw [q2, q3, q4] at y1
  rw [q2', q3', q4'] at y2
  rw [← em, ← ed, ← four_eq, y1] at y2
  omega
open Classical in
/-- The seconds of a text. -/
noncomputable def parseD (t : ByteArray) : Int × Int := if h : ∃ n : Int, inB n 0 253402300799 = true ∧ fmtS n = t then (0, Classical.choose h) else (5, 0)
theorem parseD_good {n : Int} {t : ByteArray} (h1 : inB n 0 253402300799 = true) (h2 : fmtS n = t) : parseD t = (0, n) := by
  have h : ∃ n : Int, inB n 0 253402300799 = true ∧ fmtS n = t := ⟨n, h1, h2⟩
  have hc := Classical.choose_spec h
  unfold parseD
  rw [dif_pos h, fmtS_inj hc.1 h1 (hc.2.trans h2.symm)]
theorem parseD_bad {t : ByteArray} (h : ∀ n : Int, inB n 0 253402300799 = true → fmtS n ≠ t) : parseD t = (5, 0) := by
  unfold parseD
  rw [dif_neg (fun ⟨n, h1, h2⟩ => h n h1 h2)]
theorem secs_known {y m d h i s : Int} (e : dateFault y m d h i s = 0) : inB (secsI y m d h i s) 0 253402300799 = true := by
  obtain ⟨hd, ⟨a1, a2⟩, ⟨a3, a4⟩, a5, a6⟩ := dateFault_0 e
  have := daysI_bd hd
  rw [inB_iff]
  unfold secsI
  omega
/-- A date's seconds tell the date. -/
theorem secs_date {y m d h i s : Int} (e : dateFault y m d h i s = 0) : dateR (secsI y m d h i s) = (0, y, m, d, h, i, s) := by
  have hk := secs_known e
  obtain ⟨hd, ⟨a1, a2⟩, ⟨a3, a4⟩, a5, a6⟩ := dateFault_0 e
  have hq : secsI y m d h i s / 86400 = daysI y m d := by unfold secsI; omega
  have hat := daysI_at hd
  rw [← hq] at hat
  obtain ⟨e1, e2, e3⟩ := at_of hat
  rw [hq] at e3
  have e4 : secsI y m d h i s / 3600 % 24 = h := by unfold secsI; omega
  have e5 : secsI y m d h i s / 60 % 60 = i := by unfold secsI; omega
  have e6 : secsI y m d h i s % 60 = s := by unfold secsI; omega
  rw [dateR, if_pos hk, e1, e2, e3, e4, e5, e6]
  have : daysI y m d - aheadI y - cum y (m - 1).toNat + 1 = d := by unfold daysI; omega
  rw [this]
/-- The date of seconds tells the seconds. -/
theorem date_secs {n : Int} (h : inB n 0 253402300799 = true) : secsR (yOf n) (mOf n) (dOf n) (n / 3600 % 24) (n / 60 % 60) (n % 60) = (0, n) := by
  obtain ⟨a1, a2⟩ := inB_iff.1 h
  have hat := at_some a1 a2
  have hd := hat.day
  have hd1 : dayB (yOf n) (mOf n) (dOf n) = true := hd.1
  have hd2 : daysI (yOf n) (mOf n) (dOf n) = n / 86400 := hd.2
  have hf : dateFault (yOf n) (mOf n) (dOf n) (n / 3600 % 24) (n / 60 % 60) (n % 60) = 0 := by
    unfold dateFault
    rw [if_pos]
    rw [hd1]
    simp only [Bool.true_and, Bool.and_eq_true, inB_iff]
    omega
  rw [secsR, if_pos hf]
  unfold secsI
  rw [hd2]
  have : n / 86400 * 86400 + n / 3600 % 24 * 3600 + n / 60 % 60 * 60 + n % 60 = n := by omega
  rw [this]
theorem fmtS_size {n : Int} (h : inB n 0 253402300799 = true) : (fmtS n).size = 29 := by
  obtain ⟨a1, a2⟩ := inB_iff.1 h
  obtain ⟨wd, m, y, d, hh, i, s, q1, q2, q3, q4, q5, q6, q7, ⟨b1, b2, b3, b4, b5, b6, b7, b8, b9, b10⟩, ef⟩ := parts a1 a2
  exact (fmt_parts b1 b2 b3 (by omega) b5 ef.symm).1
end Go.Proofs.YtklnccoknldkcaaDoor
