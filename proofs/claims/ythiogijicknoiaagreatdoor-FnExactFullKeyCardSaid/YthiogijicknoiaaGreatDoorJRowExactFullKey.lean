/- Joined: RowExactFullKey. -/
import Derived.Test.YthiogijicknoiaaGreatDoorJXKeyG
import Derived.Test.YthiogijicknoiaaGreatDoorJB3
import Derived.Test.YthiogijicknoiaaGreatDoorRows
import Derived.Test.YthiogijicknoiaaGreatDoorJB6
import Derived.Test.YthiogijicknoiaaGreatDoorCards
import Derived.Test.YthiogijicknoiaaGreatDoorTie
import Derived.ProofKit
import Derived.OpenShut
import Derived.LaidMore
import Derived.Lay
import Derived.SevenTiedAt
import Derived.Stop.Joined
import Derived.ShutString
import Derived.ChangeOld
import Derived.SizedLaws
/- The law FnExactFullKey: for every input it returns true and leaves its arguments as they were. The listed variables of Go's library read as listed, tied to the program's text. -/
namespace Go.Proofs.YthiogijicknoiaaGreatDoor.RowFnExactFullKey
open Go.ChangeShapes Go.WideShapes Go.ChangeAt Go.RowKit
open Go.ChangeMaps (open_string shut_string)
set_option linter.unusedVariables false
theorem own : ownKnob Tryz.prog.godebug = none := by kernel_rfl
theorem laidOut : laidOutB Tryz.prog = true := by kernel_rfl
set_option maxRecDepth 100000 in
theorem lifted (os : Os) (started : os.Started) (H : Type) (enc : TypeId × Value → H) :
    ReturnsInHanded {} Tryz.checked os 4 .any (fun w args => (Rows.fnExactFullKeySpec.pre enc Tryz.prog Tryz.f4 Rows.fnExactFullKeyRow.domain false w args ∧ laidMetH Tryz.prog Rows.fnExactFullKeyRow.laid w) ∧ sizedMet enc Tryz.prog Tryz.f4 (OpenSpec.ofChange Rows.fnExactFullKeySpec) false w args)
      (Rows.fnExactFullKeySpec.post enc Tryz.prog Tryz.f4 false true false false) := by
  refine handed_and_shaped (C := Tryz.checked) (X := fun w _ => laidMetH Tryz.prog Rows.fnExactFullKeyRow.laid w) (fun _ _ _ hh h => h.of_heap hh) own started (by kernel_rfl) Tryz.func4
    (ChangeSpec.witness_shaped (enc := enc) (C := Tryz.checked) (os := os) (X := fun w _ => laidMetH Tryz.prog Rows.fnExactFullKeyRow.laid w) false (World.laidAll Tryz.prog os Rows.fnExactFullKeyRow.laid) #[.agg #[.string ⟨#[]⟩, .string ⟨#[]⟩, .string ⟨#[]⟩, .slice none 0 0], .slice none 0 0] 8 (World.laidAll_os _ _ _)
      (World.shaped_of_ZipB (by kernel_rfl) (by kernel_rfl)) (by kernel_rfl) (by kernel_rfl) (by kernel_rfl)
      (by rw [MakeChecks.laidMetH_plain _ _ _ (by kernel_rfl)]; exact laidMet_laidAll _ (by kernel_rfl) (by kernel_rfl))) ?_
  intro W base args ds gs before hval0 hW hcnd _ hL hsh _
  have hval : ∀ (j : Nat) t v, Tryz.f4.params[j]? = some t → args[j]? = some v → Value.okWide Tryz.prog W .any base t v := hval0
  have hW' := hW
  obtain ⟨p, q, hA0, hV, rfl, hfz, hnd⟩ := hW
  have hA : DataW.TrodAll enc Tryz.prog W 0 (fun _ => true) true Tryz.f4.params.toList args.toList ds p := hA0
  rw [Tryz.params4] at hA hval
  obtain ⟨v0, vs0, d0, ds0, p0, q0, hargs, rfl, rfl, h0, r0⟩ := trodAll_cons hA
  obtain ⟨v1, vs1, d1, ds1, p1, q1, rfl, rfl, rfl, h1, r1⟩ := trodAll_cons r0
  obtain ⟨rfl, rfl, rfl⟩ := trodAll_nil r1
  obtain rfl : args = #[v0, v1] := by cases args; simp_all
  obtain ⟨rfl, rfl⟩ := trodVars_none hV
  clear hA0 hval0
  simp only [List.append_nil] at hW'
  have k0 : ∀ W', Below W.heap.size W W' → DataW.Trod enc Tryz.prog W' 0 (fun b => decide (b < W.heap.size)) true 38 v0 d0 p0 := fun W' hn => Below.trod laidOut (by kernel_rfl) (of_decide_eq_true (by kernel_rfl)) h0 hn (fun x hx => hW'.lt x (by simp [hx]))
  have k1 : ∀ W', Below W.heap.size W W' → DataW.Trod enc Tryz.prog W' 0 (fun b => decide (b < W.heap.size)) true 27 v1 d1 p1 := fun W' hn => Below.trod laidOut (by kernel_rfl) (of_decide_eq_true (by kernel_rfl)) h1 hn (fun x hx => hW'.lt x (by simp [hx]))
  obtain ⟨cs0, rfl, hlen0, hfld0⟩ := open_struct_val Tryz.underlying38 (by kernel_rfl) (by kernel_rfl) (hval 0 38 v0 rfl rfl) h0
  obtain ⟨u0_0, y0_0, m0_0, e0_0, t0_0⟩ := hfld0 0 _ rfl
  obtain ⟨x0_0, g0_0, _, b0_0⟩ := DataW.trod_string Tryz.underlying9 t0_0
  cases g0_0
  unfold maxLen at b0_0
  obtain ⟨u0_1, y0_1, m0_1, e0_1, t0_1⟩ := hfld0 1 _ rfl
  obtain ⟨x0_1, g0_1, _, b0_1⟩ := DataW.trod_string Tryz.underlying9 t0_1
  cases g0_1
  unfold maxLen at b0_1
  obtain ⟨u0_2, y0_2, m0_2, e0_2, t0_2⟩ := hfld0 2 _ rfl
  obtain ⟨x0_2, g0_2, _, b0_2⟩ := DataW.trod_string Tryz.underlying9 t0_2
  cases g0_2
  unfold maxLen at b0_2
  obtain ⟨u0_3, y0_3, m0_3, e0_3, t0_3⟩ := hfld0 3 _ rfl
  obtain ⟨a0_3, n0_3, c0_3, l0_3, hv0_3, hl0_3, hr0_3, hn0_3, hs0_3⟩ := open_pairsR Tryz.underlying36 Tryz.underlying138 (by kernel_rfl) (by kernel_rfl) Tryz.underlying9 Tryz.underlying9 t0_3
  cases hv0_3
  obtain rfl := list4 hlen0 e0_0 e0_1 e0_2 e0_3
  obtain ⟨av1, nv1, cv1, rfl⟩ := okWide_slice Tryz.underlying27 (hval 1 27 v1 rfl rfl)
  obtain ⟨fuel1, hf1⟩ := h1
  obtain ⟨a1, n1, c1, l1, hv1, hl1, hr1, hn1, hs1⟩ := open_strsR Tryz.underlying27 Tryz.underlying9 (by kernel_rfl) hf1
  cases hv1
  refine (FnExactFullKey_walk x0_0 b0_0 x0_1 b0_1 x0_2 b0_2 _ _ _ l0_3 hl0_3 _ _ _ l1 hl1 W hr0_3 hn0_3 hs0_3 hr1 hn1 hs1 (MaxL.of_shape hsh)).mono fun e W' ⟨he, bel⟩ => ?_
  subst he
  exact ⟨_, rfl, _, _, _, [], _, [], hW', trodAll_mk1 (shut_bool Tryz.underlying4 _), (trodAll_cons_mk (k0 _ bel) (trodAll_cons_mk (k1 _ bel) trodAll_mk0)), rfl, bel.frame _, fun h => by cases h⟩
theorem over : Rows.fnExactFullKeyRow.holds Tryz.pinned (OpenSpec.ofChange Rows.fnExactFullKeySpec) :=
  OpenClaim.holds_of_wide 4 Tryz.f4 rfl rfl rfl rfl rfl rfl rfl ⟨rfl, rfl, rfl, rfl, rfl⟩ rfl rfl rfl rfl rfl (by kernel_rfl) Tryz.func4 (by kernel_rfl)
    (of_decide_eq_true (by kernel_rfl)) (by unfold Func.isWrapper; first | (rw [if_pos (by decide +kernel)]; kernel_rfl) | (rw [if_neg (by decide +kernel)]; exact ⟨rfl, rfl⟩))
    (fun os started H enc _ => lifted os started H enc)
theorem card : Claim7.holds Tryz.pinned (.plain (OpenSpec.ofChange Rows.fnExactFullKeySpec)) Rows.fnExactFullKeyCard :=
  Claim7.holds_tied_plain_at .later [] [.data, .pinned] true (true, "de7e1950e376efa7228d65711ae40221a4e71cad7309273526fc28959af896dc") false
    over (fun _ h => by cases h) (by kernel_rfl) (fun _ h => by cases h) fnExactFullKey_row_tie rfl ⟨rfl, rfl⟩ (by kernel_rfl) rfl
    (fun f fn hf hfn => by
      obtain rfl : f = 4 := Option.some.inj ((show Tryz.prog.funcNamed "loop.example/g00665/laws.FnExactFullKey" = some 4 by kernel_rfl).symm.trans hf) |>.symm
      obtain rfl : fn = Tryz.f4 := (Option.some.inj (Tryz.func4.symm.trans hfn)).symm
      exact ⟨by kernel_rfl, fun j t ht => by
        rw [Tryz.params4] at ht
        have hm : t ∈ [38, 27] := by simpa using Array.mem_of_getElem? ht
        have hall : ([38, 27].all fun u => !Tryz.prog.wantsStandIn u) = true := by kernel_rfl
        exact (show Tryz.prog.wantsStandIn t = false by simpa using List.all_eq_true.1 hall t hm)⟩)
    (by kernel_rfl)
end Go.Proofs.YthiogijicknoiaaGreatDoor.RowFnExactFullKey
namespace Go.Proofs.YthiogijicknoiaaGreatDoor
theorem fnExactFullKey_holds : Rows.FnExactFullKeyCardSaid := RowFnExactFullKey.card
end Go.Proofs.YthiogijicknoiaaGreatDoor
