/- Plain words: the first code in a list that is not 0. No program in sight. -/
import Derived.Test.YtklnccoknldkcaaDoorPlain
namespace Go.Proofs.YtklnccoknldkcaaDoor
def faultG {α : Type} (f : α → Int) : List α → Int
  | [] => 0
  | h :: t => if f h = 0 then faultG f t else f h
theorem faultG_at {α : Type} (f : α → Int) : ∀ (l : List α) (k : Nat) (hk : k < l.length), (∀ j (hj : j < l.length), j < k → f l[j] = 0) → f l[k] ≠ 0 → faultG f l = f l[k]
  | [], k, hk, _, _ => absurd hk (Nat.not_lt_zero _)
  | h :: t, 0, hk, _, hn => by
    show (if f h = 0 then _ else _) = _
    rw [if_neg (show ¬ f h = 0 from hn)]; rfl
  | h :: t, k + 1, hk, hz, hn => by
    show (if f h = 0 then _ else _) = _
    rw [if_pos (show f h = 0 from hz 0 (by simp) (by omega))]
    exact faultG_at f t k (by simpa using hk) (fun j hj hjk => hz (j + 1) (by simpa using hj) (by omega)) hn
theorem faultG_none {α : Type} (f : α → Int) : ∀ (l : List α), (∀ j (hj : j < l.length), f l[j] = 0) → faultG f l = 0
  | [], _ => rfl
  | h :: t, hz => by
    show (if f h = 0 then _ else _) = _
    rw [if_pos (show f h = 0 from hz 0 (by simp))]
    exact faultG_none f t fun j hj => hz (j + 1) (by simpa using hj)
theorem faultG_all {α : Type} (f : α → Int) : ∀ (l : List α), faultG f l = 0 → ∀ h ∈ l, f h = 0
  | [], _, h, hm => by cases hm
  | x :: t, hz, h, hm => by
    by_cases hx : f x = 0
    · have e : faultG f (x :: t) = faultG f t := if_pos hx
      rcases List.mem_cons.1 hm with rfl | hm
      · exact hx
      · exact faultG_all f t (e.symm.trans hz) h hm
    · have e : faultG f (x :: t) = f x := if_neg hx
      exact absurd (e.symm.trans hz) hx
end Go.Proofs.YtklnccoknldkcaaDoor
