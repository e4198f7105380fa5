/- A slice of bytes, opened. -/
import Derived.Test.YtklnccoknldkcaaDoorOpen
import Derived.Test.YtklnccoknldkcaaDoorBV
namespace Go.Proofs.YtklnccoknldkcaaDoor
open Go.ChangeShapes Go.WideShapes Go.Deep Go.Joins Go.RowKit
variable {H : Type} {enc : TypeId × Value → H} {P : Program} {w : World} {base : Nat} {spare : Nat → Bool} {held : Bool}
theorem open_bytesR {t e : TypeId} {fuel : Nat} {v : Value} {x : DataW H × List MemPlace} (ht : P.underlying t = some (.slice e)) (he : P.underlying e = some (.int .u8)) (hC : P.cellsOf e = 1) (h : DataW.trod enc P w base spare held fuel t [v] = some x) :
    ∃ (a : Option Addr) (n cap : Nat) (l : List UInt8), v = .slice a n cap ∧ l.length = n ∧ Rd w a (bV l) ∧ n ≤ 9223372036854775807 := by
  obtain ⟨a, n, cap, rfl, hn, hor⟩ := open_cells1 ht hC h
  rcases hor with rfl | ⟨b, off, rfl, hb, hc⟩
  · exact ⟨a, 0, cap, [], rfl, rfl, Rd.nil _ _, hn⟩
  · obtain ⟨l, hl, hp⟩ := list_of (P := fun i (s : UInt8) => w.cell? ⟨b, off + i, none⟩ = some (.int .u8 (s.toNat : Int))) n fun i hi => by
      obtain ⟨u, y, m, hu, hy⟩ := hc i hi
      obtain ⟨s, e1, _, e3⟩ := DataW.trod_int he hy
      cases e1
      have hs : 0 ≤ s ∧ s ≤ 255 := by
        simp [Lit.wf, IntKind.min, IntKind.max] at e3
        obtain ⟨q1, q2⟩ := e3
        constructor
        · have := q1; simp [IntKind.signed] at this; omega
        · have := q2; simp [IntKind.signed, IntKind.bits] at this; omega
      refine ⟨UInt8.ofNat s.toNat, ?_⟩
      rw [hu]
      congr 2
      simp only [UInt8.toNat_ofNat']
      omega
    refine ⟨_, n, cap, l, rfl, hl, fun j v hv => ?_, hn⟩
    unfold bV at hv
    rw [List.getElem?_map] at hv
    obtain ⟨s, hs, rfl⟩ := Option.map_eq_some_iff.1 hv
    exact ⟨b, off, rfl, hb, hp j s hs⟩
end Go.Proofs.YtklnccoknldkcaaDoor
