/- Joined: ReadsP. -/
import Derived.Test.YtbiodbggaeglpaaGreatDoorJB18
/- What was read without a fault is without a fault. No program in sight. -/
namespace Go.Proofs.YtbiodbggaeglpaaGreatDoor
open Go.RowKit
set_option linter.unusedVariables false

theorem rqEnd_ok {o : Option Rq} {q : Rq} (e : rqEnd o = (0, q)) : rqFault q.1 q.2.1 q.2.2.1 q.2.2.2 = 0 := by
  cases o with
  | none => exact absurd (Prod.mk.inj e).1 (by decide)
  | some q' =>
    unfold rqEnd at e
    by_cases h : rqFault q'.1 q'.2.1 q'.2.2.1 q'.2.2.2 = 0
    · simp only [h, if_pos] at e
      have e2 := (Prod.mk.inj e).2
      rw [← e2]
      exact h
    · simp only [h, if_false] at e
      exact absurd (Prod.mk.inj e).1 h
theorem reqR_ok {t : List UInt8} {m h p : ByteArray} {l : List Hd} (e : reqR t = (0, m, h, p, l)) : rqFault m h p l = 0 := by
  unfold reqR at e
  split at e
  · exact absurd (Prod.mk.inj e).1 (by decide)
  · unfold rqMid at e
    split at e
    · exact absurd (Prod.mk.inj e).1 (by decide)
    · split at e
      · exact rqEnd_ok e
      · rename_i hne
        exact absurd (Prod.mk.inj e).1 hne
theorem rsEnd_ok {q q' : Rs} (e : rsEnd q = (0, q')) : rspFault q'.1 q'.2.1 q'.2.2.length = 0 := by
  unfold rsEnd at e
  by_cases h : rspFault q.1 q.2.1 q.2.2.length = 0
  · simp only [h, if_pos] at e
    have e2 := (Prod.mk.inj e).2
    rw [← e2]
    exact h
  · simp only [h, if_false] at e
    exact absurd (Prod.mk.inj e).1 h
theorem rspR_ok {t : List UInt8} {s : Int} {l : List Hd} {lb : List UInt8} (e : rspR t = (0, s, l, lb)) : rspFault s l lb.length = 0 := by
  unfold rspR at e
  split at e
  · exact absurd (Prod.mk.inj e).1 (by decide)
  · split at e
    · unfold rsMid at e
      split at e
      · split at e
        · exact rsEnd_ok e
        · exact absurd (Prod.mk.inj e).1 (by decide)
      · rename_i hne
        exact absurd (Prod.mk.inj e).1 hne
    · exact absurd (Prod.mk.inj e).1 (by decide)
end Go.Proofs.YtbiodbggaeglpaaGreatDoor
