/- A region that draws its order, whose calls lay blocks of their own: walked once, in the order of the text. -/
import Derived.Test.YtklnccoknldkcaaDoorBase
import Derived.Deep.QuietTactic
namespace Go.Proofs.YtklnccoknldkcaaDoor
set_option linter.unusedVariables false
open Go.RowKit

/-- A world above W: what lay in W lies. -/
def Gb (W : World) : Type := {x : World // Below W.heap.size W x}
def Gb.w {W : World} (p : Gb W) : World := p.1
theorem Gb.h {W : World} (p : Gb W) : Below W.heap.size W p.w := p.2
instance (W : World) : Nonempty (Gb W) := ⟨⟨W, Below.refl _ _⟩⟩
instance (W : World) : Inhabited (Gb W) := ⟨⟨W, Below.refl _ _⟩⟩
theorem wp_region_below {P : Program} {id : Nat} {Q : Exit → Act → World → Prop} {a : Act} {w : World} {l : List Oper} (hm : P.follows .mixedOrders = true) (hB : Region.lexB .any l.toArray = true)
    (h : wpQuiet P l.toArray (fun w' => ∃ p : Gb w, w' = p.w) (fun a' => ∀ w', (∃ p : Gb w, w' = p.w) → Q .normal a' w') l a) : (Code.region id l.toArray true).wp P Q a w :=
  wp_region_quiet (C := fun w' => ∃ p : Gb w, w' = p.w) hm hB ⟨⟨w.drew, (Below.refl _ _).drew⟩, rfl⟩ (by simpa using h)
theorem gb_call {P : Program} {f : FuncId} {args : Array Value} {w : World} {p : Gb w} {v : Value} (h : Calls P f args p.w fun e w' => e = .returned v ∧ Below p.w.heap.size p.w w') :
    Calls P f args p.w fun e w'' => e = .returned v ∧ ∃ q : Gb w, w'' = q.w := h.mono fun _ w' ⟨he, hb⟩ => ⟨he, ⟨w', below_then p.h hb⟩, rfl⟩
theorem gb_pure {P : Program} {f : FuncId} {args : Array Value} {w : World} {p : Gb w} {v : Value} (h : Calls P f args p.w fun e w' => e = .returned v ∧ p.w = w') :
    Calls P f args p.w fun e w'' => e = .returned v ∧ ∃ q : Gb w, w'' = q.w := h.mono fun _ w' ⟨he, hb⟩ => ⟨he, p, hb.symm⟩
end Go.Proofs.YtklnccoknldkcaaDoor
