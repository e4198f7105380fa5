/- Joined: RegF. -/
import Derived.Test.YthiogijicknoiaaGreatDoorJXRegG
import Derived.Test.YthiogijicknoiaaGreatDoorJB0
/- A region that draws its order and bears guards, where some operations yield what lies in a block of its own: what each yields is a list, and some of it is told by a property. -/
namespace Go.Proofs.YthiogijicknoiaaGreatDoor
set_option linter.unusedVariables false
open Go.RowKit

def FF (vals : List Value) (sp : List (Nat × (Value → World → Prop))) (k : Nat) (v : Value) (w : World) : Prop :=
  match sp.find? (fun p => p.1 == k) with
  | some p => p.2 v w
  | none => vals[k]? = some v
theorem FF.keep {vals : List Value} {sp : List (Nat × (Value → World → Prop))} (h : ∀ p ∈ sp, ∀ v w w', Below w.heap.size w w' → p.2 v w → p.2 v w') (k : Nat) (v : Value) (w w' : World) (hb : Below w.heap.size w w') (hF : FF vals sp k v w) : FF vals sp k v w' := by
  unfold FF at *
  cases hf : sp.find? (fun p => p.1 == k) with
  | none => rw [hf] at hF; exact hF
  | some p =>
    rw [hf] at hF
    exact h p (List.mem_of_find?_eq_some hf) v w w' hb hF
def gsB (ops : Array Oper) (ks : List Nat) : Bool := (List.range ops.size).all fun i => match ops[i]? with
  | some o => (match o.guard with | none => true | some (j, _) => ks.all fun k => k != j)
  | none => true
theorem guard_FF {ops : Array Oper} {I : World → Prop} {vals : List Value} {sp : List (Nat × (Value → World → Prop))} {live : Nat → Bool} (hs : gsB ops (sp.map (·.1)) = true) (h : guardB ops vals live = true) : GuardOK ops I (FF vals sp) live := by
  intro i o hi
  have hlt : i < ops.size := (Array.getElem?_eq_some_iff.1 hi).1
  have h1 := List.all_eq_true.1 h i (List.mem_range.2 hlt)
  have h2 := List.all_eq_true.1 hs i (List.mem_range.2 hlt)
  simp only [hi] at h1 h2
  constructor
  · intro hg
    simp only [hg] at h1
    exact h1
  · intro j want hg v w _ hv
    simp only [hg] at h1 h2
    have hn : sp.find? (fun p => p.1 == j) = none := by
      rw [List.find?_eq_none]
      intro p hp e
      have h3 := List.all_eq_true.1 h2 p.1 (List.mem_map.2 ⟨p, hp, rfl⟩)
      rw [beq_iff_eq] at e
      rw [e] at h3
      simp at h3
    unfold FF at hv
    rw [hn] at hv
    simp only at hv
    rw [hv] at h1
    simpa using h1
/-- A code and a slice of cells xs. -/
def SpR (cd : Int) (n : Nat) (xs : List Value) (v : Value) (w : World) : Prop := ∃ a c, v = .agg #[.int .i64 cd, .slice a n c] ∧ Rd w a xs
/-- A slice of cells xs. -/
def SpV (n : Nat) (xs : List Value) (v : Value) (w : World) : Prop := ∃ a c, v = .slice a n c ∧ Rd w a xs
theorem SpR.keep {cd : Int} {n : Nat} {xs : List Value} (v : Value) (w w' : World) (hb : Below w.heap.size w w') (h : SpR cd n xs v w) : SpR cd n xs v w' := by
  obtain ⟨a, c, e, hr⟩ := h
  exact ⟨a, c, e, hr.below hb⟩
theorem SpV.keep {n : Nat} {xs : List Value} (v : Value) (w w' : World) (hb : Below w.heap.size w w') (h : SpV n xs v w) : SpV n xs v w' := by
  obtain ⟨a, c, e, hr⟩ := h
  exact ⟨a, c, e, hr.below hb⟩
/-- A code, three texts and a slice. -/
def SpQ (cd : Int) (m h p : ByteArray) (n : Nat) (xs : List Value) (v : Value) (w : World) : Prop := ∃ a c, v = .agg #[.int .i64 cd, .string m, .string h, .string p, .slice a n c] ∧ Rd w a xs
def SpQ1 (m h p : ByteArray) (n : Nat) (xs : List Value) (v : Value) (w : World) : Prop := ∃ a c, v = .agg #[.string m, .string h, .string p, .slice a n c] ∧ Rd w a xs
theorem SpQ.keep {cd : Int} {m h p : ByteArray} {n : Nat} {xs : List Value} (v : Value) (w w' : World) (hb : Below w.heap.size w w') (hs : SpQ cd m h p n xs v w) : SpQ cd m h p n xs v w' := by
  obtain ⟨a, c, e, hr⟩ := hs
  exact ⟨a, c, e, hr.below hb⟩
theorem SpQ1.keep {m h p : ByteArray} {n : Nat} {xs : List Value} (v : Value) (w w' : World) (hb : Below w.heap.size w w') (hs : SpQ1 m h p n xs v w) : SpQ1 m h p n xs v w' := by
  obtain ⟨a, c, e, hr⟩ := hs
  exact ⟨a, c, e, hr.below hb⟩
/-- A code, a status and two slices. -/
def SpT (cd t : Int) (n : Nat) (xs : List Value) (nb : Nat) (ys : List Value) (v : Value) (w : World) : Prop := ∃ a c ab cb, v = .agg #[.int .i64 cd, .int .i64 t, .slice a n c, .slice ab nb cb] ∧ Rd w a xs ∧ Rd w ab ys
def SpT1 (t : Int) (n : Nat) (xs : List Value) (nb : Nat) (ys : List Value) (v : Value) (w : World) : Prop := ∃ a c ab cb, v = .agg #[.int .i64 t, .slice a n c, .slice ab nb cb] ∧ Rd w a xs ∧ Rd w ab ys
theorem SpT.keep {cd t : Int} {n : Nat} {xs : List Value} {nb : Nat} {ys : List Value} (v : Value) (w w' : World) (hb : Below w.heap.size w w') (h : SpT cd t n xs nb ys v w) : SpT cd t n xs nb ys v w' := by
  obtain ⟨a, c, ab, cb, e, hr, hr2⟩ := h
  exact ⟨a, c, ab, cb, e, hr.below hb, hr2.below hb⟩
theorem SpT1.keep {t : Int} {n : Nat} {xs : List Value} {nb : Nat} {ys : List Value} (v : Value) (w w' : World) (hb : Below w.heap.size w w') (h : SpT1 t n xs nb ys v w) : SpT1 t n xs nb ys v w' := by
  obtain ⟨a, c, ab, cb, e, hr, hr2⟩ := h
  exact ⟨a, c, ab, cb, e, hr.below hb, hr2.below hb⟩
end Go.Proofs.YthiogijicknoiaaGreatDoor
