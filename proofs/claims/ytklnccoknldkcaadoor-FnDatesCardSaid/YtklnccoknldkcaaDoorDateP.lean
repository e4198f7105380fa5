/- Plain words on days and dates: no program in sight. -/
import Derived.Test.YtklnccoknldkcaaDoorPlain
namespace Go.Proofs.YtklnccoknldkcaaDoor

def leapB (y : Int) : Bool := decide (y % 4 = 0) && (decide (y % 100 ≠ 0) || decide (y % 400 = 0))
def dimI (y m : Int) : Int := if m = 2 then (if leapB y = true then 29 else 28) else if m = 4 ∨ m = 6 ∨ m = 9 ∨ m = 11 then 30 else 31
def dayB (y m d : Int) : Bool := inB y 1970 9999 && inB m 1 12 && inB d 1 (dimI y m)
def dateFault (y m d h i s : Int) : Int := if dayB y m d && inB h 0 23 && inB i 0 59 && inB s 0 59 then 0 else 3


def yearI (y : Int) : Int := if leapB y = true then 366 else 365
def aheadI (y : Int) : Int := 365 * (y - 1970) + (y - 1) / 4 - (y - 1) / 100 + (y - 1) / 400 - 477
theorem leapB_iff (y : Int) : leapB y = true ↔ y % 4 = 0 ∧ (y % 100 ≠ 0 ∨ y % 400 = 0) := by simp [leapB]
theorem ahead_succ (y : Int) : aheadI (y + 1) = aheadI y + yearI y := by
  unfold yearI aheadI
  by_cases h : leapB y = true
  · rw [if_pos h]; have := (leapB_iff y).1 h; omega
  · rw [if_neg h]; rw [leapB_iff] at h; omega
theorem yearI_bd (y : Int) : 365 ≤ yearI y ∧ yearI y ≤ 366 := by unfold yearI; split <;> omega
theorem ahead_1970 : aheadI 1970 = 0 := by decide
theorem ahead_10000 : aheadI 10000 = 2932897 := by decide
theorem ahead_guess (k : Int) (h : 0 ≤ k) : aheadI (1970 + k) ≤ 366 * k := by unfold aheadI; omega
theorem ahead_bd (y : Int) (h1 : 1970 ≤ y) (h2 : y ≤ 10000) : 0 ≤ aheadI y ∧ aheadI y ≤ 2932897 := by unfold aheadI; omega
theorem ahead_mono (a b : Int) (h : a ≤ b) : aheadI a ≤ aheadI b := by unfold aheadI; omega

/-- The days of the first k months. -/
def cum (y : Int) : Nat → Int
  | 0 => 0
  | k + 1 => cum y k + dimI y ((k : Int) + 1)
theorem dimI_bd (y m : Int) : 28 ≤ dimI y m ∧ dimI y m ≤ 31 := by
  unfold dimI
  split
  · split <;> omega
  · split <;> omega
theorem cum_bd (y : Int) (k : Nat) : 28 * (k : Int) ≤ cum y k ∧ cum y k ≤ 31 * (k : Int) := by
  induction k with
  | zero => simp [cum]
  | succ k ih => have := dimI_bd y ((k : Int) + 1); simp only [cum]; omega
theorem cum_12 (y : Int) : cum y 12 = yearI y := by
  simp only [cum, dimI, yearI]
  by_cases h : leapB y = true <;> simp [h]
theorem cum_mono (y : Int) {a b : Nat} (h : a ≤ b) : cum y a ≤ cum y b := by
  induction b with
  | zero =>
    obtain rfl : a = 0 := by omega
    exact Int.le_refl _
  | succ b ih =>
    by_cases e : a = b + 1
    · subst e; exact Int.le_refl _
    · have := ih (by omega); have := dimI_bd y ((b : Int) + 1); simp only [cum]; omega
def daysI (y m d : Int) : Int := aheadI y + cum y (m - 1).toNat + d - 1
def secsI (y m d h i s : Int) : Int := daysI y m d * 86400 + h * 3600 + i * 60 + s
/-- A date's year and month, by its day. -/
def AtI (n y m : Int) : Prop := (1970 ≤ y ∧ y ≤ 9999) ∧ (aheadI y ≤ n ∧ n < aheadI (y + 1)) ∧ (1 ≤ m ∧ m ≤ 12) ∧ (cum y (m - 1).toNat ≤ n - aheadI y ∧ n - aheadI y < cum y m.toNat)
theorem AtI.uniq {n y m y' m' : Int} (h : AtI n y m) (h' : AtI n y' m') : y = y' ∧ m = m' := by
  obtain ⟨⟨a1, a2⟩, ⟨a3, a4⟩, ⟨a5, a6⟩, a7, a8⟩ := h
  obtain ⟨⟨b1, b2⟩, ⟨b3, b4⟩, ⟨b5, b6⟩, b7, b8⟩ := h'
  have hy : y = y' := by
    rcases Int.lt_trichotomy y y' with h | h | h
    · have := ahead_mono (y + 1) y' (by omega); omega
    · exact h
    · have := ahead_mono (y' + 1) y (by omega); omega
  subst hy
  refine ⟨rfl, ?_⟩
  rcases Int.lt_trichotomy m m' with h | h | h
  · have := cum_mono y (a := m.toNat) (b := (m' - 1).toNat) (by omega); omega
  · exact h
  · have := cum_mono y (a := m'.toNat) (b := (m - 1).toNat) (by omega); omega
noncomputable def ymOf (n : Int) : Int × Int := @Classical.epsilon _ ⟨(0, 0)⟩ fun p : Int × Int => AtI n p.1 p.2
theorem ymOf_eq {n y m : Int} (h : AtI n y m) : ymOf n = (y, m) := by
  have := @Classical.epsilon_spec _ (fun p : Int × Int => AtI n p.1 p.2) ⟨(y, m), h⟩
  obtain ⟨h1, h2⟩ := this.uniq h
  exact Prod.ext h1 h2
/-- A day is told anew. -/
theorem daysI_at {y m d : Int} (h : dayB y m d = true) : AtI (daysI y m d) y m := by
  simp only [dayB, Bool.and_eq_true, inB_iff] at h
  obtain ⟨⟨⟨h1, h2⟩, h3, h4⟩, h5, h6⟩ := h
  have e : cum y m.toNat = cum y (m - 1).toNat + dimI y m := by
    obtain ⟨k, hk⟩ : ∃ k : Nat, m = (k : Int) + 1 := ⟨(m - 1).toNat, by omega⟩
    subst hk
    rw [show ((k : Int) + 1).toNat = k + 1 from by omega, show ((k : Int) + 1 - 1).toNat = k from by omega]; rfl
  have hs := ahead_succ y
  have h12 := cum_mono y (a := m.toNat) (b := 12) (by omega)
  rw [cum_12] at h12
  have hb := cum_bd y (m - 1).toNat
  unfold daysI
  refine ⟨⟨h1, h2⟩, ⟨by omega, by omega⟩, ⟨h3, h4⟩, by omega, by omega⟩
theorem AtI.day {n y m : Int} (h : AtI n y m) : dayB y m (n - aheadI y - cum y (m - 1).toNat + 1) = true ∧ daysI y m (n - aheadI y - cum y (m - 1).toNat + 1) = n := by
  obtain ⟨⟨h1, h2⟩, ⟨h3, h4⟩, ⟨h5, h6⟩, h7, h8⟩ := h
  have e : cum y m.toNat = cum y (m - 1).toNat + dimI y m := by
    obtain ⟨k, hk⟩ : ∃ k : Nat, m = (k : Int) + 1 := ⟨(m - 1).toNat, by omega⟩
    subst hk
    rw [show ((k : Int) + 1).toNat = k + 1 from by omega, show ((k : Int) + 1 - 1).toNat = k from by omega]; rfl
  refine ⟨?_, by unfold daysI; omega⟩
  simp only [dayB, Bool.and_eq_true, inB_iff]
  exact ⟨⟨⟨h1, h2⟩, h5, h6⟩, by omega, by omega⟩
end Go.Proofs.YtklnccoknldkcaaDoor
