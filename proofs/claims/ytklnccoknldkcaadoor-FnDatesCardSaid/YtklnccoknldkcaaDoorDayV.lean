/- Plain words: what stands in a date's text is the date. -/
import Derived.Test.YtklnccoknldkcaaDoorDayP
import Derived.Test.YtklnccoknldkcaaDoorDelta
namespace Go.Proofs.YtklnccoknldkcaaDoor
open Go.RowKit
set_option linter.unusedVariables false
set_option linter.unusedSimpArgs false

theorem size_list {s : ByteArray} {l : List UInt8} (h : s.data.toList = l) : s.size = l.length := by
  rw [← h, Array.length_toList]; rfl
theorem dg_int (k : Nat) : ((dg k).toNat : Int) = 48 + (k : Int) % 10 := by rw [dg_nat]; omega
theorem dg_digit (k : Nat) : digitB ((dg k).toNat : Int) = true := by
  rw [dg_int]; unfold digitB; simp only [Bool.and_eq_true, decide_eq_true_eq]; omega
theorem delta_2 {s : ByteArray} (k : Nat) (hk : k ≤ 99) (h : s.data.toList = [dg (k / 10), dg k]) : deltaI s = (k : Int) := by
  have hs : s.size = 2 := size_list h
  have hok : deltaOk s = true := by
    unfold deltaOk allB
    rw [h, hs]
    simp only [List.all_cons, List.all_nil, dg_digit]
    rfl
  rw [deltaI, if_pos hok]
  unfold deltaTo
  rw [h, hs]
  simp only [List.take_succ_cons, List.take_zero, List.foldl_cons, List.foldl_nil, dg_int]
  omega
theorem delta_4 {s : ByteArray} (k : Nat) (hk : k ≤ 9999) (h : s.data.toList = [dg (k / 1000), dg (k / 100), dg (k / 10), dg k]) : deltaI s = (k : Int) := by
  have hs : s.size = 4 := size_list h
  have hok : deltaOk s = true := by
    unfold deltaOk allB
    rw [h, hs]
    simp only [List.all_cons, List.all_nil, dg_digit]
    rfl
  rw [deltaI, if_pos hok]
  unfold deltaTo
  rw [h, hs]
  simp only [List.take_succ_cons, List.take_zero, List.foldl_cons, List.foldl_nil, dg_int]
  omega
/-- What a date's text says where. -/
theorem date_texts {n : Int} {t : ByteArray} (h : inB n 0 253402300799 = true) (e : fmtS n = t) :
    (∃ m : Nat, 1 ≤ m ∧ m ≤ 12 ∧ mOf n = (m : Int) ∧ t.extract 8 11 = monthsA.extract (3 * m - 3) (3 * m)) ∧
    (Lib.parseIntB 64 (t.extract 12 16).data.toList = .ok (yOf n) ∧ deltaI (t.extract 12 16) = yOf n) ∧
    (Lib.parseIntB 64 (t.extract 5 7).data.toList = .ok (dOf n) ∧ deltaI (t.extract 5 7) = dOf n) ∧
    (Lib.parseIntB 64 (t.extract 17 19).data.toList = .ok (n / 3600 % 24) ∧ deltaI (t.extract 17 19) = n / 3600 % 24) ∧
    (Lib.parseIntB 64 (t.extract 20 22).data.toList = .ok (n / 60 % 60) ∧ deltaI (t.extract 20 22) = n / 60 % 60) ∧
    (Lib.parseIntB 64 (t.extract 23 25).data.toList = .ok (n % 60) ∧ deltaI (t.extract 23 25) = n % 60) := by
  obtain ⟨a1, a2⟩ := inB_iff.1 h
  obtain ⟨wd, m, y, d, hh, i, s, q1, q2, q3, q4, q5, q6, q7, ⟨b1, b2, b3, b4, b5, b6, b7, b8, b9, b10⟩, ef⟩ := parts a1 a2
  obtain ⟨_, p1, p2, p3, p4, p5, p6⟩ := fmt_parts b1 b2 b3 (by omega) b5 (ef.symm.trans e)
  refine ⟨⟨m, b2, b3, q2, p1⟩, ⟨?_, ?_⟩, ⟨?_, ?_⟩, ⟨?_, ?_⟩, ⟨?_, ?_⟩, ?_, ?_⟩
  · rw [p2, parse_4 _ b5, q3]
  · rw [delta_4 _ b5 p2, q3]
  · rw [p3, parse_2 _ (by omega), q4]
  · rw [delta_2 _ (by omega) p3, q4]
  · rw [p4, parse_2 _ (by omega), q5]
  · rw [delta_2 _ (by omega) p4, q5]
  · rw [p5, parse_2 _ (by omega), q6]
  · rw [delta_2 _ (by omega) p5, q6]
  · rw [p6, parse_2 _ (by omega), q7]
  · rw [delta_2 _ (by omega) p6, q7]
/-- These numbers are those of every date that has this text. -/
def IsOf (t : ByteArray) (y m d h i s : Int) : Prop := ∀ n : Int, inB n 0 253402300799 = true → fmtS n = t → y = yOf n ∧ m = mOf n ∧ d = dOf n ∧ h = n / 3600 % 24 ∧ i = n / 60 % 60 ∧ s = n % 60
theorem secs_of {n : Int} (h : inB n 0 253402300799 = true) : dateFault (yOf n) (mOf n) (dOf n) (n / 3600 % 24) (n / 60 % 60) (n % 60) = 0 ∧ secsI (yOf n) (mOf n) (dOf n) (n / 3600 % 24) (n / 60 % 60) (n % 60) = n := by
  have := date_secs h
  unfold secsR at this
  split at this
  · rename_i hf; exact ⟨hf, (Prod.mk.inj this).2⟩
  · rename_i hf; exact absurd (Prod.mk.inj this).1 hf
theorem parse_yes {t : ByteArray} {y m d h i s : Int} (e : dateFault y m d h i s = 0) (hf : fmtS (secsI y m d h i s) = t) : parseD t = (0, secsI y m d h i s) := parseD_good (secs_known e) hf
theorem of_fault {t : ByteArray} {y m d h i s : Int} (hv : IsOf t y m d h i s) (e : ¬ dateFault y m d h i s = 0) : ∀ n : Int, inB n 0 253402300799 = true → fmtS n ≠ t := by
  intro n h1 h2
  obtain ⟨rfl, rfl, rfl, rfl, rfl, rfl⟩ := hv n h1 h2
  exact e (secs_of h1).1
theorem of_other {t : ByteArray} {y m d h i s : Int} (hv : IsOf t y m d h i s) (hf : fmtS (secsI y m d h i s) ≠ t) : ∀ n : Int, inB n 0 253402300799 = true → fmtS n ≠ t := by
  intro n h1 h2
  obtain ⟨rfl, rfl, rfl, rfl, rfl, rfl⟩ := hv n h1 h2
  rw [(secs_of h1).2] at hf
  exact hf h2
theorem isOf_impl {t : ByteArray} {y d h i s : Int} (hy : ∀ n, Lib.parseIntB 64 (t.extract 12 16).data.toList = .ok n → y = n) (hd : ∀ n, Lib.parseIntB 64 (t.extract 5 7).data.toList = .ok n → d = n)
    (hh : ∀ n, Lib.parseIntB 64 (t.extract 17 19).data.toList = .ok n → h = n) (hi : ∀ n, Lib.parseIntB 64 (t.extract 20 22).data.toList = .ok n → i = n) (hs : ∀ n, Lib.parseIntB 64 (t.extract 23 25).data.toList = .ok n → s = n) :
    IsOf t y (Lib.idxOfS monL (t.extract 8 11) + 1) d h i s := by
  intro n h1 h2
  obtain ⟨⟨m, m1, m2, e, em⟩, ⟨e1, _⟩, ⟨e2, _⟩, ⟨e3, _⟩, ⟨e4, _⟩, e5, _⟩ := date_texts h1 h2
  exact ⟨hy _ e1, by rw [em, mon_of m1 m2, e], hd _ e2, hh _ e3, hi _ e4, hs _ e5⟩
/-- No date before this month has this text. -/
def FromM (t : ByteArray) (m : Nat) : Prop := ∀ n : Int, inB n 0 253402300799 = true → fmtS n = t → (m : Int) ≤ mOf n
theorem from_1 (t : ByteArray) : FromM t 1 := fun n h1 h2 => by
  obtain ⟨⟨m, m1, m2, e, em⟩, _⟩ := date_texts h1 h2
  omega
theorem from_13 {t : ByteArray} (h : FromM t 13) : parseD t = (5, 0) := parseD_bad fun n h1 h2 => by
  obtain ⟨⟨m, m1, m2, e, em⟩, _⟩ := date_texts h1 h2
  have := h n h1 h2
  omega
theorem from_next {t : ByteArray} {m : Nat} (hF : FromM t m) (h1 : 1 ≤ m) (h2 : m ≤ 12) (hne : t.extract 8 11 ≠ monthsA.extract (3 * m - 3) (3 * m)) : FromM t (m + 1) := fun n g1 g2 => by
  obtain ⟨⟨k, m1, m2, e, em⟩, _⟩ := date_texts g1 g2
  have h3 := hF n g1 g2
  by_cases hk : k = m
  · subst hk; exact absurd em hne
  · omega
theorem month_eq {t : ByteArray} {n : Int} {m : Nat} (g1 : inB n 0 253402300799 = true) (g2 : fmtS n = t) (h1 : 1 ≤ m) (h2 : m ≤ 12) (he : t.extract 8 11 = monthsA.extract (3 * m - 3) (3 * m)) : (m : Int) = mOf n := by
  obtain ⟨⟨k, m1, m2, e, em⟩, _⟩ := date_texts g1 g2
  rw [he] at em
  have e1 := mon_of h1 h2
  rw [em, mon_of m1 m2] at e1
  omega
theorem isOf_spec {t : ByteArray} {m : Nat} (h1 : 1 ≤ m) (h2 : m ≤ 12) (he : t.extract 8 11 = monthsA.extract (3 * m - 3) (3 * m)) :
    IsOf t (deltaI (t.extract 12 16)) m (deltaI (t.extract 5 7)) (deltaI (t.extract 17 19)) (deltaI (t.extract 20 22)) (deltaI (t.extract 23 25)) := by
  intro n g1 g2
  have hm := month_eq g1 g2 h1 h2 he
  obtain ⟨_, ⟨_, e1⟩, ⟨_, e2⟩, ⟨_, e3⟩, ⟨_, e4⟩, _, e5⟩ := date_texts g1 g2
  exact ⟨e1, hm, e2, e3, e4, e5⟩
/-- No date of any month has this text, as the month's one has not. -/
theorem from_none {t : ByteArray} {m : Nat} (h : ∀ n : Int, inB n 0 253402300799 = true → fmtS n ≠ t) : FromM t m := fun n h1 h2 => absurd h2 (h n h1)
end Go.Proofs.YtklnccoknldkcaaDoor
