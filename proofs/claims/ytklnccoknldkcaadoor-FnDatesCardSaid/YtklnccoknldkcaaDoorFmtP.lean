/- Plain words: the text of a date. -/
import Derived.Test.YtklnccoknldkcaaDoorDate
import Derived.Test.YtklnccoknldkcaaDoorDigits
namespace Go.Proofs.YtklnccoknldkcaaDoor
open Go.RowKit

theorem ahead_find {N : Int} (h0 : 0 ≤ N) : ∀ j : Nat, j ≤ 8030 → N < aheadI (1970 + j) → ∃ y, (1970 ≤ y ∧ y ≤ 9999) ∧ aheadI y ≤ N ∧ N < aheadI (y + 1)
  | 0, _, h => by rw [show (1970 : Int) + ((0 : Nat) : Int) = 1970 from rfl, ahead_1970] at h; omega
  | j + 1, hj, h => by
    by_cases h1 : N < aheadI (1970 + j)
    · exact ahead_find h0 j (by omega) h1
    · exact ⟨1970 + j, by omega, by omega, by rw [show (1970 : Int) + (j : Int) + 1 = 1970 + ((j + 1 : Nat) : Int) from by omega]; exact h⟩
theorem cum_find {y N : Int} (h0 : 0 ≤ N) : ∀ j : Nat, j ≤ 12 → N < cum y j → ∃ k : Nat, k + 1 ≤ 12 ∧ cum y k ≤ N ∧ N < cum y (k + 1)
  | 0, _, h => by simp only [cum] at h; omega
  | j + 1, hj, h => by
    by_cases h1 : N < cum y j
    · exact cum_find h0 j (by omega) h1
    · exact ⟨j, by omega, by omega, h⟩
theorem at_some {n : Int} (h1 : 0 ≤ n) (h2 : n ≤ 253402300799) : AtI (n / 86400) (yOf n) (mOf n) := by
  obtain ⟨y, ⟨y1, y2⟩, a1, a2⟩ := ahead_find (N := n / 86400) (by omega) 8030 (Nat.le_refl _) (by rw [show (1970 : Int) + ((8030 : Nat) : Int) = 10000 from rfl, ahead_10000]; omega)
  have hs := ahead_succ y
  obtain ⟨k, k1, k2, k3⟩ := cum_find (y := y) (N := n / 86400 - aheadI y) (by omega) 12 (Nat.le_refl _) (by rw [cum_12]; omega)
  have h := AtI.mk' y1 y2 a1 a2 k1 k2 k3
  obtain ⟨e1, e2, _⟩ := at_of h
  rw [e1, e2]
  exact h
theorem of_bd {n : Int} (h1 : 0 ≤ n) (h2 : n ≤ 253402300799) : (1970 ≤ yOf n ∧ yOf n ≤ 9999) ∧ (1 ≤ mOf n ∧ mOf n ≤ 12) ∧ (1 ≤ dOf n ∧ dOf n ≤ 31) := by
  have h := at_some h1 h2
  have hd := dayB_bd h.day.1
  exact ⟨hd.1, hd.2.1, hd.2.2⟩
abbrev daysA : ByteArray := ⟨#[83, 117, 110, 77, 111, 110, 84, 117, 101, 87, 101, 100, 84, 104, 117, 70, 114, 105, 83, 97, 116]⟩
abbrev monthsA : ByteArray := ⟨#[74, 97, 110, 70, 101, 98, 77, 97, 114, 65, 112, 114, 77, 97, 121, 74, 117, 110, 74, 117, 108, 65, 117, 103, 83, 101, 112, 79, 99, 116, 78, 111, 118, 68, 101, 99]⟩
def two (k : Nat) : ByteArray := ⟨#[UInt8.ofNat (48 + k / 10 % 10), UInt8.ofNat (48 + k % 10)]⟩
theorem two_size (k : Nat) : (two k).size = 2 := rfl
theorem two_year (y : Nat) (h1 : 1000 ≤ y) (h2 : y ≤ 9999) : two (y / 100) ++ two y = decS (y : Int) := by
  rw [decS_big (k := y) (by omega), decS_big (k := y / 10) (by omega), decS_big (k := y / 10 / 10) (by omega), decS_small (k := y / 10 / 10 / 10) (by omega)]
  apply ByteArray.ext
  simp only [two, ByteArray.data_append]
  have e1 : y / 100 / 10 % 10 = y / 10 / 10 / 10 := by omega
  have e2 : y / 100 % 10 = y / 10 / 10 % 10 := by omega
  rw [e1, e2]
  simp
/-- The text of a date, of its weekday and its parts. -/
def fmtT (wd m y d h i s : Nat) : ByteArray :=
  daysA.extract (3 * wd) (3 * wd + 3) ++ ⟨#[44, 32]⟩ ++ two d ++ ⟨#[32]⟩ ++ monthsA.extract (3 * m - 3) (3 * m) ++ ⟨#[32]⟩ ++ decS (y : Int) ++ ⟨#[32]⟩ ++ two h ++ ⟨#[58]⟩ ++ two i ++ ⟨#[58]⟩ ++ two s ++ ⟨#[32, 71, 77, 84]⟩
noncomputable def fmtS (n : Int) : ByteArray := fmtT ((n / 86400 + 4) % 7).toNat (mOf n).toNat (yOf n).toNat (dOf n).toNat (n / 3600 % 24).toNat (n / 60 % 60).toNat (n % 60).toNat
noncomputable def fmtR (n : Int) : Int × ByteArray := if inB n 0 253402300799 then (0, fmtS n) else (3, ⟨#[]⟩)
theorem conv_two (c d : Int) (w : World) (g : Nat) (h : w.cell? ⟨g, 0, none⟩ = some (.int .u8 c)) (h1 : w.cell? ⟨g, 1, none⟩ = some (.int .u8 d)) : (convert 22 9 (.slice (some ⟨g, 0, none⟩) 2 2)).run Tryd.prog w = .ok (.string ⟨#[UInt8.ofNat c.toNat, UInt8.ofNat d.toNat]⟩) w := by
  have := run_convert_bytes_arg (P := Tryd.prog) w 22 5 Tryd.underlying22 Tryd.underlying5 g 0 2 2 [c, d] rfl (fun i hi => by
    rcases (show i = 0 ∨ i = 1 by omega) with rfl | rfl
    · simpa using h
    · simpa using h1) 9 Tryd.underlying9
  rw [this]; rfl
theorem two_of (x : Int) (k : Nat) (hx : x = (k : Int)) : (⟨#[UInt8.ofNat (48 + x / 10 % 10).toNat, UInt8.ofNat (48 + x % 10).toNat]⟩ : ByteArray) = two k := by
  subst hx
  unfold two
  have e1 : (48 + (k : Int) / 10 % 10).toNat = 48 + k / 10 % 10 := by omega
  have e2 : (48 + (k : Int) % 10).toNat = 48 + k % 10 := by omega
  rw [e1, e2]
theorem spec_l3Two (x : Int) (k : Nat) (hx : x = (k : Int)) (hk : k ≤ 9999) (w : World) : Calls Tryd.prog 211 #[.int .i64 x] w fun e w' => e = .returned (.string (two k)) ∧ Below w.heap.size w w' := by
  have hcv := conv_two (48 + x / 10 % 10) (48 + x % 10)
  have E := Lib.hid (two_of x k hx)
  have hw0 : IntKind.i64.wrap (x / 10) = x / 10 := wrapi _ (by omega) (by omega)
  have hw1 : IntKind.i64.wrap (x / 10 % 10) = x / 10 % 10 := wrapi _ (by omega) (by omega)
  have hw2 : IntKind.i64.wrap (x % 10) = x % 10 := wrapi _ (by omega) (by omega)
  have hw3 : IntKind.i64.wrap (48 + x / 10 % 10) = 48 + x / 10 % 10 := wrapi _ (by omega) (by omega)
  have hw4 : IntKind.i64.wrap (48 + x % 10) = 48 + x % 10 := wrapi _ (by omega) (by omega)
  have hw5 : IntKind.u8.wrap (48 + x / 10 % 10) = 48 + x / 10 % 10 := wrapb _ (by omega) (by omega)
  have hw6 : IntKind.u8.wrap (48 + x % 10) = 48 + x % 10 := wrapb _ (by omega) (by omega)
  have hx0 : 0 ≤ x := by omega
  have hx1 : x ≤ 9999 := by omega
  clear hx
  go_enter Tryd.func211, Tryd.ntmps211
  go_wp2
  go_ret
  exact ⟨by first | (rw [← E.out]; rfl) | (rw [← E.out]; simp), (by first | (with_reducible exact Below.refl _ _) | ((repeat' (first | (with_reducible exact Below.refl _ _) | (with_reducible assumption) | (with_reducible refine below_alloc ?_ _) | (with_reducible refine Below.drew ?_) | (with_reducible refine below_drewN ?_ _) | (with_reducible refine Below.setCell ?_ ?_ _) | refine below_then ?_ (by with_reducible assumption))) <;> (first | omega | (simp; done) | (simp; omega))))⟩
theorem impl_twoDigits (x : Int) (k : Nat) (hx : x = (k : Int)) (hk : k ≤ 99) (w : World) : Calls Tryd.prog 173 #[.int .i64 x] w fun e w' => e = .returned (.string (two k)) ∧ Below w.heap.size w w' := by
  have hcv := conv_two (48 + x / 10) (48 + x % 10)
  have e : x / 10 % 10 = x / 10 := by omega
  have h2 := two_of x k hx
  rw [e] at h2
  have E := Lib.hid h2
  clear e h2
  have hw0 : IntKind.i64.wrap (x / 10) = x / 10 := wrapi _ (by omega) (by omega)
  have hw2 : IntKind.i64.wrap (x % 10) = x % 10 := wrapi _ (by omega) (by omega)
  have hw3 : IntKind.u8.wrap (x / 10) = x / 10 := wrapb _ (by omega) (by omega)
  have hw4 : IntKind.u8.wrap (x % 10) = x % 10 := wrapb _ (by omega) (by omega)
  have hw5 : IntKind.u8.wrap (48 + x / 10) = 48 + x / 10 := wrapb _ (by omega) (by omega)
  have hw6 : IntKind.u8.wrap (48 + x % 10) = 48 + x % 10 := wrapb _ (by omega) (by omega)
  have hx0 : 0 ≤ x := by omega
  have hx1 : x ≤ 99 := by omega
  clear hx
  go_enter Tryd.func173, Tryd.ntmps173
  go_wp2
  go_ret
  exact ⟨by first | (rw [← E.out]; rfl) | (rw [← E.out]; simp), (by first | (with_reducible exact Below.refl _ _) | ((repeat' (first | (with_reducible exact Below.refl _ _) | (with_reducible assumption) | (with_reducible refine below_alloc ?_ _) | (with_reducible refine Below.drew ?_) | (with_reducible refine below_drewN ?_ _) | (with_reducible refine Below.setCell ?_ ?_ _) | refine below_then ?_ (by with_reducible assumption))) <;> (first | omega | (simp; done) | (simp; omega))))⟩
theorem days_size {k : Nat} (h : k ≤ 6) : (daysA.extract (3 * k) (3 * k + 3)).size = 3 := by
  rw [ByteArray.size_extract]
  show min (3 * k + 3) 21 - 3 * k = 3
  omega
theorem months_size {m : Nat} (h1 : 1 ≤ m) (h : m ≤ 12) : (monthsA.extract (3 * m - 3) (3 * m)).size = 3 := by
  rw [ByteArray.size_extract]
  show min (3 * m) 36 - (3 * m - 3) = 3
  omega
/-- A date's parts as numbers. -/
theorem parts {n : Int} (h1 : 0 ≤ n) (h2 : n ≤ 253402300799) : ∃ wd m y d h i s : Nat, (n / 86400 + 4) % 7 = (wd : Int) ∧ mOf n = (m : Int) ∧ yOf n = (y : Int) ∧ dOf n = (d : Int) ∧ n / 3600 % 24 = (h : Int) ∧ n / 60 % 60 = (i : Int) ∧ n % 60 = (s : Int) ∧
    (wd ≤ 6 ∧ 1 ≤ m ∧ m ≤ 12 ∧ 1970 ≤ y ∧ y ≤ 9999 ∧ 1 ≤ d ∧ d ≤ 31 ∧ h ≤ 23 ∧ i ≤ 59 ∧ s ≤ 59) ∧ fmtS n = fmtT wd m y d h i s := by
  obtain ⟨⟨y1, y2⟩, ⟨m1, m2⟩, d1, d2⟩ := of_bd h1 h2
  refine ⟨((n / 86400 + 4) % 7).toNat, (mOf n).toNat, (yOf n).toNat, (dOf n).toNat, (n / 3600 % 24).toNat, (n / 60 % 60).toNat, (n % 60).toNat, by omega, by omega, by omega, by omega, by omega, by omega, by omega, ⟨by omega, by omega, by omega, by omega, by omega, by omega, by omega, by omega, by omega, by omega⟩, rfl⟩
end Go.Proofs.YtklnccoknldkcaaDoor
