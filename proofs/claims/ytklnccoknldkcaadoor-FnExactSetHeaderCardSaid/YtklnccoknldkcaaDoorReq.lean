/- Requests and responses: copied, measured, compared. -/
import Derived.Test.YtklnccoknldkcaaDoorHdrs
import Derived.Test.YtklnccoknldkcaaDoorBytes
import Derived.Test.YtklnccoknldkcaaDoorShelf
import Derived.Deep.DeepCutAuto
import Derived.Deep.RegionHeld3
namespace Go.Proofs.YtklnccoknldkcaaDoor
open Go.RowKit
set_option linter.unusedSimpArgs false
set_option linter.unusedVariables false

set_option maxHeartbeats 800000 in
theorem eqRequest (m h p : ByteArray) (a a' : Option Addr) (n c c' : Nat) (l : List Hd) (hl : l.length = n) (w : World) (hr : Rd w a (hV l)) (hr' : Rd w a' (hV l)) (hn : n ≤ 9223372036854775807) :
    Calls Tryd.prog 134 #[.agg #[.string m, .string h, .string p, .slice a n c], .agg #[.string m, .string h, .string p, .slice a' n c']] w fun e w' => e = .returned (.bool true) ∧ Below w.heap.size w w' := by
  have Hl := Lib.hid hl
  clear hl
  go_enter Tryd.func134, Tryd.ntmps134
  go_wp2_with (go_at_call 24; ((with_reducible refine (eqHeaderS _ _ _ _ _ l Hl.out _ (by first | (with_reducible assumption) | exact RowAt.rd (by repeat' (first | (with_reducible assumption) | (with_reducible refine RowAt.alloc ?_ _) | (with_reducible refine RowAt.drew ?_) | (with_reducible refine RowAt.other ?_ _ _ (by first | omega | (simp; done) | (simp; omega))) | refine RowAt.then ?_ (by with_reducible assumption))) | exact Rd.below (by with_reducible assumption) (by first | (with_reducible exact Below.refl _ _) | ((repeat' (first | (with_reducible exact Below.refl _ _) | (with_reducible assumption) | (with_reducible refine below_alloc ?_ _) | (with_reducible refine Below.drew ?_) | (with_reducible refine below_drewN ?_ _) | (with_reducible refine Below.setCell ?_ ?_ _) | refine below_then ?_ (by with_reducible assumption))) <;> (first | omega | (simp; done) | (simp; omega))))) (by first | (with_reducible assumption) | exact RowAt.rd (by repeat' (first | (with_reducible assumption) | (with_reducible refine RowAt.alloc ?_ _) | (with_reducible refine RowAt.drew ?_) | (with_reducible refine RowAt.other ?_ _ _ (by first | omega | (simp; done) | (simp; omega))) | refine RowAt.then ?_ (by with_reducible assumption))) | exact Rd.below (by with_reducible assumption) (by first | (with_reducible exact Below.refl _ _) | ((repeat' (first | (with_reducible exact Below.refl _ _) | (with_reducible assumption) | (with_reducible refine below_alloc ?_ _) | (with_reducible refine Below.drew ?_) | (with_reducible refine below_drewN ?_ _) | (with_reducible refine Below.setCell ?_ ?_ _) | refine below_then ?_ (by with_reducible assumption))) <;> (first | omega | (simp; done) | (simp; omega))))) hn).mono ?_); rintro e w' ⟨rfl, hb⟩))
  go_ret
  exact ⟨rfl, (by first | (with_reducible exact Below.refl _ _) | ((repeat' (first | (with_reducible exact Below.refl _ _) | (with_reducible assumption) | (with_reducible refine below_alloc ?_ _) | (with_reducible refine Below.drew ?_) | (with_reducible refine below_drewN ?_ _) | (with_reducible refine Below.setCell ?_ ?_ _) | refine below_then ?_ (by with_reducible assumption))) <;> (first | omega | (simp; done) | (simp; omega))))⟩

def sameReq (m h p : ByteArray) (l : List Hd) (m' h' p' : ByteArray) (l' : List Hd) : Bool := m.toList == m'.toList && h.toList == h'.toList && p.toList == p'.toList && decide (l = l')
end Go.Proofs.YtklnccoknldkcaaDoor
