/- Joined: RegG. -/
import Derived.Test.YthiogijicknoiaaGreatDoorJB0
/- A region that draws its order and bears guards: 'live' tells which operations are wanted; what is not wanted yields nothing. -/
namespace Go.Proofs.YthiogijicknoiaaGreatDoor
set_option linter.unusedVariables false
open Go.RowKit

def asB : Value → Option Bool
  | .bool b => some b
  | _ => none
theorem yielded_eq {ops : Array Oper} {tmps : Array Value} {j d : Nat} {oj : Oper} (hj : ops[j]? = some oj) (hd : oj.dst = some d) (hl : d < tmps.size) : yielded ops tmps j = asB (tmps.getD d undef) := by
  unfold yielded
  rw [hj]
  simp only [Option.bind_some, hd]
  rw [Array.getElem?_eq_getElem hl]
  have : tmps.getD d undef = tmps[d] := by simp [hl]
  rw [this]
  generalize tmps[d] = v
  cases v <;> rfl
/-- What the law asks of a region's form. -/
def regBG (ops : Array Oper) (n : Nat) : Bool :=
  (List.range ops.size).all fun i => match ops[i]? with
    | some o => (match o.guard with | none => true | some (j, _) => (match ops[j]? with | some oj => oj.dst.isSome && o.after.any (fun e => Region.binds .any e && decide (e.on = j)) | none => false)) &&
        (match o.dst with | some d => decide (d < n) && (List.range ops.size).all fun j => decide (j = i) || (match ops[j]? with | some oj => oj.dst != some d | none => true) | none => true) &&
        o.after.all fun e => !Region.binds .any e || decide (e.on < i)
    | none => false
theorem regBG_spec {ops : Array Oper} {n : Nat} (h : regBG ops n = true) {i : Nat} {o : Oper} (hi : ops[i]? = some o) :
    (∀ j want, o.guard = some (j, want) → ∃ oj dj, ops[j]? = some oj ∧ oj.dst = some dj ∧ ∃ e ∈ o.after, Region.binds .any e = true ∧ e.on = j) ∧ (∀ d, o.dst = some d → d < n ∧ ∀ (j : Nat) (oj : Oper), j ≠ i → ops[j]? = some oj → oj.dst ≠ some d) ∧ ∀ e ∈ o.after, Region.binds .any e = true → e.on < i := by
  unfold regBG at h
  have hlt : i < ops.size := (Array.getElem?_eq_some_iff.1 hi).1
  have h1 := List.all_eq_true.1 h i (List.mem_range.2 hlt)
  simp only [hi, Bool.and_eq_true] at h1
  obtain ⟨⟨hg, hd⟩, ha⟩ := h1
  refine ⟨?_, ?_, fun e he hb => ?_⟩
  · intro j want hgd
    simp only [hgd] at hg
    cases hoj : ops[j]? with
    | none => simp [hoj] at hg
    | some oj =>
      simp only [hoj, Bool.and_eq_true] at hg
      obtain ⟨h3, h4⟩ := hg
      obtain ⟨dj, hdj⟩ := Option.isSome_iff_exists.1 h3
      obtain ⟨k, hk, hb⟩ := Array.any_eq_true.1 h4
      simp only [Bool.and_eq_true, decide_eq_true_eq] at hb
      exact ⟨oj, dj, rfl, hdj, o.after[k], Array.getElem_mem hk, hb.1, hb.2⟩
  · intro d hdst
    simp only [hdst, Bool.and_eq_true, decide_eq_true_eq] at hd
    refine ⟨hd.1, fun j oj hj hoj e => ?_⟩
    have hjl : j < ops.size := (Array.getElem?_eq_some_iff.1 hoj).1
    have h2 := List.all_eq_true.1 hd.2 j (List.mem_range.2 hjl)
    simp [hoj, hj, e] at h2
  · have h2 := Array.all_eq_true_iff_forall_mem.1 ha e he
    simpa [hb] using h2
theorem ready_nilG {ops : Array Oper} {n : Nat} (hB : regBG ops n = true) {listed : Array Bool} (hl : listed.size = ops.size) (h : Region.ready .any ops listed = []) : ∀ i, i < ops.size → listed.getD i true = true := by
  intro i
  induction i using Nat.strongRecOn with
  | ind i ih =>
    intro hi
    by_cases hc : listed.getD i true = true
    · exact hc
    · exfalso
      simp only [Bool.not_eq_true] at hc
      have hmem : i ∈ Region.ready .any ops listed := mem_ready.2 ⟨hc, ops[i], Array.getElem?_eq_getElem hi, fun e he hb => by
        have hlt := (regBG_spec hB (Array.getElem?_eq_getElem hi)).2.2 e he hb
        have := ih e.on hlt (by omega)
        have hel : e.on < listed.size := by omega
        simp only [Array.getD, hel, dif_pos] at this ⊢
        exact this⟩
      rw [h] at hmem
      cases hmem
/-- A guard is met just where the operation is live. -/
def GuardOK (ops : Array Oper) (I : World → Prop) (F : Nat → Value → World → Prop) (live : Nat → Bool) : Prop :=
  ∀ (i : Nat) (o : Oper), ops[i]? = some o → (o.guard = none → live i = true) ∧ ∀ j want, o.guard = some (j, want) → ∀ v w, I w → F j v w → (asB v == some want) = live i
theorem wpAny_relG {P : Program} {ops : Array Oper} {I : World → Prop} {R : Nat → World → World → Prop} {F : Nat → Value → World → Prop} {live : Nat → Bool} {a0 : Act} {Q : Exit → Act → World → Prop} (hB : regBG ops a0.tmps.size = true) (hG : GuardOK ops I F live) (hdead : ∀ i w, live i = false → I w → F i undef w)
    (hinv : ∀ i w w', I w → R i w w' → I w') (hkeep : ∀ i j v w w', j ≠ i → I w → R i w w' → F j v w → F j v w') (hun : ∀ (i : Nat) (o : Oper) (v : Value) (w : World), ops[i]? = some o → o.dst = none → F i v w → F i undef w) (hstep : ∀ i o, ops[i]? = some o → live i = true → StepOK P ops I R F a0 i o)
    (hQ : ∀ a w, I w → a.tmps.size = a0.tmps.size → a.defers = a0.defers → (∀ (i : Nat) (oi : Oper) (d : Tmp), ops[i]? = some oi → oi.dst = some d → F i (a.tmps.getD d undef) w) → (∀ (i : Nat) (oi : Oper), ops[i]? = some oi → oi.dst = none → F i undef w) →
      (∀ x, (∀ (i : Nat) (oi : Oper) (d : Tmp), ops[i]? = some oi → oi.dst = some d → x ≠ .tmp d) → a.eval x = a0.eval x) → Q .normal a w) :
    ∀ (fuel : Nat) (listed : Array Bool) (a : Act) (w : World), left ops listed ≤ fuel → RInv ops I F a0 listed a w → wpAny P .any ops Q fuel listed a w := by
  have fin : ∀ (listed : Array Bool) (a : Act) (w : World), RInv ops I F a0 listed a w → Region.ready .any ops listed = [] → Q .normal a w := by
    intro listed a w hI hr
    have key : ∀ i, i < ops.size → listed.getD i false = true := by
      intro i hlt
      have := ready_nilG hB hI.lsize hr i hlt
      have hl := hI.lsize
      have hel : i < listed.size := by omega
      simp only [Array.getD, hel, dif_pos] at this ⊢
      exact this
    exact hQ a w hI.inv hI.size hI.defers (fun i oi d hi hd => hI.done i oi d hi hd (key i (Array.getElem?_eq_some_iff.1 hi).1)) (fun i oi hi hd => hI.doneN i oi hi hd (key i (Array.getElem?_eq_some_iff.1 hi).1)) hI.rest
  intro fuel
  induction fuel with
  | zero =>
    intro listed a w hf hI
    have hnil : Region.ready .any ops listed = [] := by
      cases hr : Region.ready .any ops listed with
      | nil => rfl
      | cons i r =>
        exfalso
        have hi : i ∈ Region.ready .any ops listed := by rw [hr]; exact List.mem_cons_self ..
        obtain ⟨h0, o, ho, _⟩ := mem_ready.1 hi
        have hlt : i < ops.size := (Array.getElem?_eq_some_iff.1 ho).1
        have : 0 < left ops listed := List.countP_pos_iff.2 ⟨i, List.mem_range.2 hlt, by simp [h0]⟩
        omega
    exact ⟨hnil, fin listed a w hI hnil⟩
  | succ fuel ih =>
    intro listed a w hf hI
    refine ⟨fin listed a w hI, fun i hi => ?_⟩
    obtain ⟨h0, o, ho, hdep⟩ := mem_ready.1 hi
    have hlt : i < ops.size := (Array.getElem?_eq_some_iff.1 ho).1
    obtain ⟨hg, hdst, _⟩ := regBG_spec hB ho
    have hll : i < listed.size := by rw [hI.lsize]; exact hlt
    have hcount : left ops (listed.setIfInBounds i true) ≤ fuel := by
      have : left ops (listed.setIfInBounds i true) < left ops listed := by
        refine countP_lt (fun x hx hp => ?_) i (List.mem_range.2 hlt) ?_ (by simp [h0])
        · by_cases hxi : i = x
          · subst hxi; simp [hll] at hp
          · rw [getD_set_ne true hxi] at hp; exact hp
        · simp [hll]
      omega
    have next : ∀ v w', (R i w w' ∨ w' = w) → F i v w' → wpAny P .any ops Q fuel (listed.setIfInBounds i true) (a.put o.dst v) w' := by
      intro v w' hb hF
      have hI' : I w' := by
        rcases hb with hb | rfl
        · exact hinv i w w' hI.inv hb
        · exact hI.inv
      have hk : ∀ j x, j ≠ i → F j x w → F j x w' := fun j x hji hF' => by
        rcases hb with hb | rfl
        · exact hkeep i j _ _ _ hji hI.inv hb hF'
        · exact hF'
      refine ih _ _ _ hcount ⟨hI', ?_, ?_, ?_, ?_, ?_, ?_⟩
      · cases hd : o.dst <;> simp [Act.put, hI.size]
      · cases hd : o.dst <;> exact hI.defers
      · rw [Array.size_setIfInBounds]; exact hI.lsize
      · intro j oj dj hj hdj hlj
        by_cases hji : j = i
        · subst hji
          rw [ho] at hj
          obtain rfl := Option.some.inj hj
          have hdl : dj < a.tmps.size := by rw [hI.size]; exact (hdst dj hdj).1
          rw [hdj]
          simpa [Act.put, hdl] using hF
        · rw [getD_set_ne false (Ne.symm hji)] at hlj
          have h1 := hk j _ hji (hI.done j oj dj hj hdj hlj)
          cases hd : o.dst with
          | none => exact h1
          | some d =>
            have hne : d ≠ dj := fun e => (hdst d hd).2 j oj hji hj (by rw [hdj, e])
            simpa [Act.put, Array.getElem?_setIfInBounds_ne hne] using h1
      · intro j oj hj hdj hlj
        by_cases hji : j = i
        · subst hji
          rw [ho] at hj
          obtain rfl := Option.some.inj hj
          exact hun _ _ v _ ho hdj hF
        · rw [getD_set_ne false (Ne.symm hji)] at hlj
          exact hk j _ hji (hI.doneN j oj hj hdj hlj)
      · intro x hx
        have hxd : ∀ d', o.dst = some d' → x ≠ .tmp d' := fun d' hd' => hx i o d' ho hd'
        rw [Act.eval_put hxd]
        exact hI.rest x hx
    unfold wpOp
    rw [ho]
    simp only []
    have hw : Region.wanted o (yielded ops a.tmps) = live i := by
      unfold Region.wanted
      cases hgd : o.guard with
      | none => exact ((hG i o ho).1 hgd).symm
      | some p =>
        obtain ⟨j, want⟩ := p
        obtain ⟨oj, dj, hoj, hdj, e, he, hb, hon⟩ := hg j want hgd
        have hl := hdep e he hb
        rw [hon] at hl
        have hdl : dj < a.tmps.size := by rw [hI.size]; exact ((regBG_spec hB hoj).2.1 dj hdj).1
        simp only
        rw [yielded_eq hoj hdj hdl]
        exact (hG i o ho).2 j want hgd _ w hI.inv (hI.done j oj dj hoj hdj hl)
    rw [hw]
    cases hlv : live i with
    | false =>
      rw [if_neg (by decide)]
      exact next undef w (.inr rfl) (hdead i w hlv hI.inv)
    | true =>
      rw [if_pos rfl]
      refine .inl ?_
      have hgood := hstep i o ho hlv a.eval w hI.inv hI.rest (fun e he hb oj dj hoj hdj => hI.done e.on oj dj hoj hdj (hdep e he hb))
      unfold Oper.wp
      generalize (execOp a.eval o).run P w = r at hgood
      cases r with
      | ok n w' =>
        cases n <;> simp only [Good] at hgood
        case value v => exact next v w' (.inl hgood.1) hgood.2
        case skip => exact next undef w' (.inl hgood.1) hgood.2
        case enter f args =>
          obtain ⟨rfl, hc⟩ := hgood
          exact hc.mono fun e w'' ⟨v, he, hb, hF⟩ => by subst he; exact next v w'' (.inl hb) hF
      | halt x w' => simp only [Good] at hgood
def StepsFromG (P : Program) (ops : Array Oper) (I : World → Prop) (R : Nat → World → World → Prop) (F : Nat → Value → World → Prop) (live : Nat → Bool) (a0 : Act) : Nat → List Oper → Prop
  | _, [] => True
  | k, o :: r => (live k = true → StepOK P ops I R F a0 k o) ∧ StepsFromG P ops I R F live a0 (k + 1) r
theorem steps_ofG {P : Program} {ops : Array Oper} {I : World → Prop} {R : Nat → World → World → Prop} {F : Nat → Value → World → Prop} {live : Nat → Bool} {a0 : Act} : ∀ (l : List Oper) (k : Nat), StepsFromG P ops I R F live a0 k l → ∀ i o, l[i]? = some o → live (k + i) = true → StepOK P ops I R F a0 (k + i) o
  | [], _, _, i, o, h => by simp at h
  | x :: r, k, ⟨h0, h1⟩, 0, o, h => by
    have : x = o := by simpa using h
    subst this
    exact h0
  | x :: r, k, ⟨h0, h1⟩, i + 1, o, h => by
    have := steps_ofG r (k + 1) h1 i o (by simpa using h)
    rw [show k + (i + 1) = k + 1 + i from by omega]
    exact this
theorem wp_region_relG {P : Program} {id : Nat} {l : List Oper} {a0 : Act} {w0 : World} {Q : Exit → Act → World → Prop} (I : World → Prop) (R : Nat → World → World → Prop) (F : Nat → Value → World → Prop) (live : Nat → Bool) (hm : P.follows .mixedOrders = true) (hB : regBG l.toArray a0.tmps.size = true) (hG : GuardOK l.toArray I F live) (hdead : ∀ i w, live i = false → I w → F i undef w)
    (h0 : I w0.drew) (hinv : ∀ i w w', I w → R i w w' → I w') (hkeep : ∀ i j v w w', j ≠ i → I w → R i w w' → F j v w → F j v w') (hun : ∀ (i : Nat) (o : Oper) (v : Value) (w : World), l.toArray[i]? = some o → o.dst = none → F i v w → F i undef w)
    (hstep : StepsFromG P l.toArray I R F live a0 0 l)
    (hQ : ∀ a w, I w → a.tmps.size = a0.tmps.size → a.defers = a0.defers → (∀ (i : Nat) (oi : Oper) (d : Tmp), l.toArray[i]? = some oi → oi.dst = some d → F i (a.tmps.getD d undef) w) → (∀ (i : Nat) (oi : Oper), l.toArray[i]? = some oi → oi.dst = none → F i undef w) →
      (∀ x, (∀ (i : Nat) (oi : Oper) (d : Tmp), l.toArray[i]? = some oi → oi.dst = some d → x ≠ .tmp d) → a.eval x = a0.eval x) → Q .normal a w) :
    (Code.region id l.toArray true).wp P Q a0 w0 := by
  have hst : ∀ i o, l.toArray[i]? = some o → live i = true → StepOK P l.toArray I R F a0 i o := fun i o h hl => by
    have := steps_ofG l 0 hstep i o (by simpa using h)
    rw [Nat.zero_add] at this
    exact this hl
  refine wp_region_any hm (wpAny_relG (a0 := a0) hB hG hdead hinv hkeep hun hst hQ _ _ _ _ ?_ ⟨h0, rfl, rfl, by simp, ?_, ?_, fun x _ => rfl⟩)
  · exact Nat.le_trans (List.countP_le_length) (by simp)
  · intro i oi d hi _ hl
    have hlt : i < l.toArray.size := (Array.getElem?_eq_some_iff.1 hi).1
    simp at hlt
    simp [hlt] at hl
  · intro i oi hi _ hl
    have hlt : i < l.toArray.size := (Array.getElem?_eq_some_iff.1 hi).1
    simp at hlt
    simp [hlt] at hl
/-- Where each operation yields a value that is told ahead: the guards by computation. -/
def guardB (ops : Array Oper) (vals : List Value) (live : Nat → Bool) : Bool :=
  (List.range ops.size).all fun i => match ops[i]? with
    | some o => (match o.guard with | none => live i | some (j, want) => (match vals[j]? with | some v => (asB v == some want) == live i | none => false))
    | none => true
theorem guard_vals {ops : Array Oper} {I : World → Prop} {vals : List Value} {live : Nat → Bool} {F : Nat → Value → World → Prop} (hF : ∀ k v w, F k v w → ∀ u, vals[k]? = some u → v = u) (h : guardB ops vals live = true) : GuardOK ops I F live := by
  intro i o hi
  have hlt : i < ops.size := (Array.getElem?_eq_some_iff.1 hi).1
  have h1 := List.all_eq_true.1 h i (List.mem_range.2 hlt)
  simp only [hi] at h1
  constructor
  · intro hg
    simp only [hg] at h1
    exact h1
  · intro j want hg v w _ hv
    simp only [hg] at h1
    cases hj : vals[j]? with
    | none => rw [hj] at h1; cases h1
    | some u =>
      rw [hj] at h1
      rw [hF j v w hv u hj]
      exact beq_iff_eq.1 h1
end Go.Proofs.YthiogijicknoiaaGreatDoor
