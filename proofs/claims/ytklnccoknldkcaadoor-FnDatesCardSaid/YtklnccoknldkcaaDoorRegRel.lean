/- A region that draws its order: what each operation yields is told by a property of its own, which stands for good; the order is of no account. -/
import Derived.Test.YtklnccoknldkcaaDoorBase
import Derived.Orders
namespace Go.Proofs.YtklnccoknldkcaaDoor
set_option linter.unusedVariables false
open Go.RowKit

/-- What an operation leaves: a value in the very world, or a call that hands back one and lays blocks of its own. -/
def Good (P : Program) (F : Value → World → Prop) (w : World) : Result Next → Prop
  | .ok (.value v) w' => w' = w ∧ F v w
  | .ok (.enter f args) w' => w' = w ∧ Calls P f args w (fun e w'' => ∃ v, e = .returned v ∧ Below w.heap.size w w'' ∧ F v w'')
  | _ => False
/-- What stands of the operations that one comes after. -/
def DepsOK (ops : Array Oper) (F : Nat → Value → World → Prop) (ρ : Operand → Value) (w : World) (o : Oper) : Prop :=
  ∀ e ∈ o.after, Region.binds .any e = true → ∀ (oj : Oper) (d : Tmp), ops[e.on]? = some oj → oj.dst = some d → F e.on (ρ (.tmp d)) w
def StepOK (P : Program) (ops : Array Oper) (F : Nat → Value → World → Prop) (a0 : Act) (w0 : World) (i : Nat) (o : Oper) : Prop :=
  ∀ (ρ : Operand → Value) (w : World), Below w0.heap.size w0 w → (∀ x, (∀ (i : Nat) (oi : Oper) (d : Tmp), ops[i]? = some oi → oi.dst = some d → x ≠ .tmp d) → ρ x = a0.eval x) → DepsOK ops F ρ w o → Good P (F i) w ((execOp ρ o).run P w)
/-- What the law asks of a region's form. -/
def regB (ops : Array Oper) (n : Nat) : Bool :=
  (List.range ops.size).all fun i => match ops[i]? with
    | some o => o.guard.isNone && (match o.dst with | some d => decide (d < n) && (List.range ops.size).all fun j => decide (j = i) || (match ops[j]? with | some oj => oj.dst != some d | none => true) | none => false) &&
        o.after.all fun e => !Region.binds .any e || decide (e.on < i)
    | none => false
theorem regB_spec {ops : Array Oper} {n : Nat} (h : regB ops n = true) {i : Nat} {o : Oper} (hi : ops[i]? = some o) : o.guard = none ∧ (∃ d, o.dst = some d ∧ d < n ∧ ∀ (j : Nat) (oj : Oper), j ≠ i → ops[j]? = some oj → oj.dst ≠ some d) ∧ ∀ e ∈ o.after, Region.binds .any e = true → e.on < i := by
  unfold regB at h
  have hlt : i < ops.size := (Array.getElem?_eq_some_iff.1 hi).1
  have h1 := List.all_eq_true.1 h i (List.mem_range.2 hlt)
  simp only [hi, Bool.and_eq_true, Option.isNone_iff_eq_none] at h1
  obtain ⟨⟨hg, hd⟩, ha⟩ := h1
  refine ⟨hg, ?_, fun e he hb => ?_⟩
  · cases hdst : o.dst with
    | none => simp [hdst] at hd
    | some d =>
      simp only [hdst, Bool.and_eq_true, decide_eq_true_eq] at hd
      refine ⟨d, rfl, hd.1, fun j oj hj hoj e => ?_⟩
      have hjl : j < ops.size := (Array.getElem?_eq_some_iff.1 hoj).1
      have h2 := List.all_eq_true.1 hd.2 j (List.mem_range.2 hjl)
      simp [hoj, hj, e] at h2
  · have h2 := Array.all_eq_true_iff_forall_mem.1 ha e he
    simpa [hb] using h2
structure RInv (ops : Array Oper) (F : Nat → Value → World → Prop) (a0 : Act) (w0 : World) (listed : Array Bool) (a : Act) (w : World) : Prop where
  bel : Below w0.heap.size w0 w
  size : a.tmps.size = a0.tmps.size
  defers : a.defers = a0.defers
  lsize : listed.size = ops.size
  done : ∀ (i : Nat) (oi : Oper) (d : Tmp), ops[i]? = some oi → oi.dst = some d → listed.getD i false = true → F i (a.tmps.getD d undef) w
  rest : ∀ x, (∀ (i : Nat) (oi : Oper) (d : Tmp), ops[i]? = some oi → oi.dst = some d → x ≠ .tmp d) → a.eval x = a0.eval x
theorem countP_lt {α : Type} {p q : α → Bool} : ∀ {l : List α}, (∀ x ∈ l, p x = true → q x = true) → ∀ x, x ∈ l → p x = false → q x = true → l.countP p < l.countP q
  | [], _, x, hx, _, _ => by cases hx
  | y :: l, h, x, hx, hp, hq => by
    rw [List.countP_cons, List.countP_cons]
    have hle : l.countP p ≤ l.countP q := List.countP_mono_left fun z hz hz' => h z (List.mem_cons_of_mem _ hz) hz'
    rcases List.mem_cons.1 hx with rfl | hx'
    · rw [hp, hq]; simp; omega
    · have ih := countP_lt (fun z hz hz' => h z (List.mem_cons_of_mem _ hz) hz') x hx' hp hq
      by_cases hy : p y = true
      · rw [hy, h y (List.mem_cons_self ..) hy]; omega
      · simp only [Bool.not_eq_true] at hy
        rw [hy]
        split <;> simp_all <;> omega
def left (ops : Array Oper) (listed : Array Bool) : Nat := (List.range ops.size).countP fun i => !listed.getD i true
theorem ready_nil {ops : Array Oper} {n : Nat} (hB : regB ops n = true) {listed : Array Bool} (hl : listed.size = ops.size) (h : Region.ready .any ops listed = []) : ∀ i, i < ops.size → listed.getD i true = true := by
  intro i
  induction i using Nat.strongRecOn with
  | ind i ih =>
    intro hi
    by_cases hc : listed.getD i true = true
    · exact hc
    · exfalso
      simp only [Bool.not_eq_true] at hc
      have hmem : i ∈ Region.ready .any ops listed := mem_ready.2 ⟨hc, ops[i], Array.getElem?_eq_getElem hi, fun e he hb => by
        have hlt := (regB_spec hB (Array.getElem?_eq_getElem hi)).2.2 e he hb
        have := ih e.on hlt (by omega)
        have hel : e.on < listed.size := by omega
        simp only [Array.getD, hel, dif_pos] at this ⊢
        exact this⟩
      rw [h] at hmem
      cases hmem
theorem wpAny_rel {P : Program} {ops : Array Oper} {F : Nat → Value → World → Prop} {a0 : Act} {w0 : World} {Q : Exit → Act → World → Prop} (hB : regB ops a0.tmps.size = true)
    (hmono : ∀ i v w w', F i v w → Below w.heap.size w w' → F i v w') (hstep : ∀ i o, ops[i]? = some o → StepOK P ops F a0 w0 i o)
    (hQ : ∀ a w, Below w0.heap.size w0 w → a.tmps.size = a0.tmps.size → a.defers = a0.defers → (∀ (i : Nat) (oi : Oper) (d : Tmp), ops[i]? = some oi → oi.dst = some d → F i (a.tmps.getD d undef) w) → Q .normal a w) :
    ∀ (fuel : Nat) (listed : Array Bool) (a : Act) (w : World), left ops listed ≤ fuel → RInv ops F a0 w0 listed a w → wpAny P .any ops Q fuel listed a w := by
  have fin : ∀ (listed : Array Bool) (a : Act) (w : World), RInv ops F a0 w0 listed a w → Region.ready .any ops listed = [] → Q .normal a w := by
    intro listed a w hI hr
    refine hQ a w hI.bel hI.size hI.defers fun i oi d hi hd => hI.done i oi d hi hd ?_
    have hlt : i < ops.size := (Array.getElem?_eq_some_iff.1 hi).1
    have := ready_nil hB hI.lsize hr i hlt
    have hl := hI.lsize
    have hel : i < listed.size := by omega
    simp only [Array.getD, hel, dif_pos] at this ⊢
    exact this
  intro fuel
  induction fuel with
  | zero =>
    intro listed a w hf hI
    have hnil : Region.ready .any ops listed = [] := by
      cases hr : Region.ready .any ops listed with
      | nil => rfl
      | cons i r =>
        exfalso
        have hi : i ∈ Region.ready .any ops listed := by rw [hr]; exact List.mem_cons_self ..
        obtain ⟨h0, o, ho, _⟩ := mem_ready.1 hi
        have hlt : i < ops.size := (Array.getElem?_eq_some_iff.1 ho).1
        have : 0 < left ops listed := List.countP_pos_iff.2 ⟨i, List.mem_range.2 hlt, by simp [h0]⟩
        omega
    exact ⟨hnil, fin listed a w hI hnil⟩
  | succ fuel ih =>
    intro listed a w hf hI
    refine ⟨fin listed a w hI, fun i hi => ?_⟩
    obtain ⟨h0, o, ho, hdep⟩ := mem_ready.1 hi
    have hlt : i < ops.size := (Array.getElem?_eq_some_iff.1 ho).1
    obtain ⟨hg, ⟨d, hd, hdn, hdu⟩, _⟩ := regB_spec hB ho
    have hll : i < listed.size := by rw [hI.lsize]; exact hlt
    have hcount : left ops (listed.setIfInBounds i true) ≤ fuel := by
      have : left ops (listed.setIfInBounds i true) < left ops listed := by
        refine countP_lt (fun x hx hp => ?_) i (List.mem_range.2 hlt) ?_ (by simp [h0])
        · by_cases hxi : i = x
          · subst hxi; simp [hll] at hp
          · rw [getD_set_ne true hxi] at hp; exact hp
        · simp [hll]
      omega
    have next : ∀ v w', Below w.heap.size w w' → F i v w' → wpAny P .any ops Q fuel (listed.setIfInBounds i true) (a.put o.dst v) w' := by
      intro v w' hb hF
      refine ih _ _ _ hcount ⟨hI.bel.trans (hb.mono hI.bel.size), ?_, ?_, ?_, ?_, ?_⟩
      · rw [hd]; simp [Act.put, hI.size]
      · rw [hd]; exact hI.defers
      · rw [Array.size_setIfInBounds]; exact hI.lsize
      · intro j oj dj hj hdj hlj
        by_cases hji : j = i
        · subst hji
          rw [ho] at hj
          obtain rfl := Option.some.inj hj
          rw [hd] at hdj
          obtain rfl := Option.some.inj hdj
          rw [hd]
          have hdl : d < a.tmps.size := by rw [hI.size]; exact hdn
          simpa [Act.put, hdl] using hF
        · have hne : d ≠ dj := fun e => hdu j oj hji hj (by rw [hdj, e])
          rw [getD_set_ne false (Ne.symm hji)] at hlj
          have h1 := hmono j _ _ _ (hI.done j oj dj hj hdj hlj) hb
          rw [hd]
          simpa [Act.put, Array.getElem?_setIfInBounds_ne hne] using h1
      · intro x hx
        have hxd : ∀ d', o.dst = some d' → x ≠ .tmp d' := fun d' hd' => hx i o d' ho hd'
        rw [Act.eval_put hxd]
        exact hI.rest x hx
    unfold wpOp
    rw [ho]
    simp only []
    have hw : Region.wanted o (yielded ops a.tmps) = true := by unfold Region.wanted; rw [hg]
    rw [if_pos hw]
    refine .inl ?_
    have hgood := hstep i o ho a.eval w hI.bel hI.rest (fun e he hb oj dj hoj hdj => hI.done e.on oj dj hoj hdj (hdep e he hb))
    unfold Oper.wp
    generalize (execOp a.eval o).run P w = r at hgood
    cases r with
    | ok n w' =>
      cases n <;> simp only [Good] at hgood
      case value v =>
        obtain ⟨rfl, hF⟩ := hgood
        exact next v _ (Below.refl _ _) hF
      case enter f args =>
        obtain ⟨rfl, hc⟩ := hgood
        exact hc.mono fun e w'' ⟨v, he, hb, hF⟩ => by subst he; exact next v w'' hb hF
    | halt x w' => simp only [Good] at hgood
theorem wp_region_rel {P : Program} {id : Nat} {ops : Array Oper} {a0 : Act} {w0 : World} {Q : Exit → Act → World → Prop} (F : Nat → Value → World → Prop) (hm : P.follows .mixedOrders = true) (hB : regB ops a0.tmps.size = true)
    (hmono : ∀ i v w w', F i v w → Below w.heap.size w w' → F i v w') (hstep : ∀ i o, ops[i]? = some o → StepOK P ops F a0 w0 i o)
    (hQ : ∀ a w, Below w0.heap.size w0 w → a.tmps.size = a0.tmps.size → a.defers = a0.defers → (∀ (i : Nat) (oi : Oper) (d : Tmp), ops[i]? = some oi → oi.dst = some d → F i (a.tmps.getD d undef) w) → Q .normal a w) :
    (Code.region id ops true).wp P Q a0 w0 := by
  refine wp_region_any hm (wpAny_rel (a0 := a0) (w0 := w0) hB hmono hstep hQ _ _ _ _ ?_ ⟨(Below.refl _ _).drew, rfl, rfl, by simp, ?_, fun x _ => rfl⟩)
  · exact Nat.le_trans (List.countP_le_length) (by simp)
  · intro i oi d hi _ hl
    have hlt : i < ops.size := (Array.getElem?_eq_some_iff.1 hi).1
    simp [hlt] at hl
end Go.Proofs.YtklnccoknldkcaaDoor
