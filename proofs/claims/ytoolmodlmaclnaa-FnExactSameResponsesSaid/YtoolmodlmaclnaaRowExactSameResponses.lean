/- The law FnExactSameResponses: for every input it returns true and leaves its arguments as they were. No condition. -/
import Derived.Test.YtoolmodlmaclnaaRsp
import Derived.Test.YtoolmodlmaclnaaOpenB
import Derived.Test.YtoolmodlmaclnaaOpen
import Derived.Test.YtoolmodlmaclnaaRows
import Derived.ShutString
import Derived.ChangeOld
import Derived.SizedLaws
namespace Go.Proofs.Ytoolmodlmaclnaa.RowFnExactSameResponses
open Go.ChangeShapes Go.WideShapes Go.ChangeAt Go.RowKit
open Go.ChangeMaps (open_string shut_string)
set_option linter.unusedVariables false
theorem own : ownKnob Try.prog.godebug = none := by kernel_rfl
theorem laidOut : laidOutB Try.prog = true := by kernel_rfl
set_option maxRecDepth 100000 in
theorem lifted (os : Os) (started : os.Started) (H : Type) (enc : TypeId × Value → H) :
    ReturnsInHanded {} Try.checked os 11 .any (Rows.fnExactSameResponsesSpec.pre6 enc Try.prog Try.f11 Rows.fnExactSameResponsesRow.domain false) (Rows.fnExactSameResponsesSpec.post enc Try.prog Try.f11 false true false false) := by
  refine returnsInHanded_of_change_sized (C := Try.checked) own started (by kernel_rfl) Try.func11
    (ChangeSpec.witness6 (enc := enc) (C := Try.checked) false ⟨#[], #[.agg #[.int .i64 0, .slice none 0 0, .slice none 0 0], .agg #[.int .i64 0, .slice none 0 0, .slice none 0 0]], []⟩ 8 (by kernel_rfl) (by kernel_rfl) (by kernel_rfl) (by kernel_rfl)) ?_
  intro W base args ds gs before hval0 hW hcnd hsz0 _
  have hval : ∀ (j : Nat) t v, Try.f11.params[j]? = some t → args[j]? = some v → Value.okWide Try.prog W .any base t v := hval0
  have hW' := hW
  obtain ⟨p, q, hA0, hV, rfl, hfz, hnd⟩ := hW
  have hA : DataW.TrodAll enc Try.prog W 0 (fun _ => true) true Try.f11.params.toList args.toList ds p := hA0
  rw [Try.params11] at hA hval
  obtain ⟨v0, vs0, d0, ds0, p0, q0, hargs, rfl, rfl, h0, r0⟩ := trodAll_cons hA
  obtain ⟨v1, vs1, d1, ds1, p1, q1, rfl, rfl, rfl, h1, r1⟩ := trodAll_cons r0
  obtain ⟨rfl, rfl, rfl⟩ := trodAll_nil r1
  obtain rfl : args = #[v0, v1] := by cases args; simp_all
  obtain ⟨rfl, rfl⟩ := trodVars_none hV
  clear hA0 hval0 hsz0
  have k0 : ∀ W', Below W.heap.size W W' → DataW.Trod enc Try.prog W' 0 (fun b => decide (b < W.heap.size)) true 71 v0 d0 p0 := fun W' hn => Below.trod laidOut (by kernel_rfl) (of_decide_eq_true (by kernel_rfl)) h0 hn (fun x hx => hW'.lt x (by simp [hx]))
  have k1 : ∀ W', Below W.heap.size W W' → DataW.Trod enc Try.prog W' 0 (fun b => decide (b < W.heap.size)) true 71 v1 d1 p1 := fun W' hn => Below.trod laidOut (by kernel_rfl) (of_decide_eq_true (by kernel_rfl)) h1 hn (fun x hx => hW'.lt x (by simp [hx]))
  obtain ⟨cs0, rfl, hlen0, hfld0⟩ := open_struct_val Try.underlying71 (by kernel_rfl) (by kernel_rfl) (hval 0 71 v0 rfl rfl) h0
  obtain ⟨u0_0, y0_0, m0_0, e0_0, t0_0⟩ := hfld0 0 _ rfl
  obtain ⟨x0_0, g0_0, _, _⟩ := DataW.trod_int Try.underlying2 t0_0
  cases g0_0
  obtain ⟨u0_1, y0_1, m0_1, e0_1, t0_1⟩ := hfld0 1 _ rfl
  obtain ⟨a0_1, n0_1, c0_1, l0_1, hv0_1, hl0_1, hr0_1, hn0_1, hs0_1⟩ := open_pairsR Try.underlying56 Try.underlying112 (by kernel_rfl) (by kernel_rfl) Try.underlying9 Try.underlying9 t0_1
  cases hv0_1
  obtain ⟨u0_2, y0_2, m0_2, e0_2, t0_2⟩ := hfld0 2 _ rfl
  obtain ⟨a0_2, n0_2, c0_2, l0_2, hv0_2, hl0_2, hr0_2, hn0_2⟩ := open_bytesR Try.underlying66 Try.underlying5 (by kernel_rfl) t0_2
  cases hv0_2
  obtain rfl := list3 hlen0 e0_0 e0_1 e0_2
  obtain ⟨cs1, rfl, hlen1, hfld1⟩ := open_struct_val Try.underlying71 (by kernel_rfl) (by kernel_rfl) (hval 1 71 v1 rfl rfl) h1
  obtain ⟨u1_0, y1_0, m1_0, e1_0, t1_0⟩ := hfld1 0 _ rfl
  obtain ⟨x1_0, g1_0, _, _⟩ := DataW.trod_int Try.underlying2 t1_0
  cases g1_0
  obtain ⟨u1_1, y1_1, m1_1, e1_1, t1_1⟩ := hfld1 1 _ rfl
  obtain ⟨a1_1, n1_1, c1_1, l1_1, hv1_1, hl1_1, hr1_1, hn1_1, hs1_1⟩ := open_pairsR Try.underlying56 Try.underlying112 (by kernel_rfl) (by kernel_rfl) Try.underlying9 Try.underlying9 t1_1
  cases hv1_1
  obtain ⟨u1_2, y1_2, m1_2, e1_2, t1_2⟩ := hfld1 2 _ rfl
  obtain ⟨a1_2, n1_2, c1_2, l1_2, hv1_2, hl1_2, hr1_2, hn1_2⟩ := open_bytesR Try.underlying66 Try.underlying5 (by kernel_rfl) t1_2
  cases hv1_2
  obtain rfl := list3 hlen1 e1_0 e1_1 e1_2
  refine (FnExactSameResponses_walk x0_0 _ _ _ l0_1 hl0_1 _ _ _ l0_2 hl0_2 x1_0 _ _ _ l1_1 hl1_1 _ _ _ l1_2 hl1_2 W hr0_1 hn0_1 hs0_1 hr0_2 hn0_2 hr1_1 hn1_1 hs1_1 hr1_2 hn1_2).mono fun e W' ⟨he, bel⟩ => ?_
  subst he
  exact ⟨_, rfl, _, _, _, [], _, [], hW', trodAll_mk1 (shut_bool Try.underlying4 _), (trodAll_cons_mk (k0 _ bel) (trodAll_cons_mk (k1 _ bel) trodAll_mk0)), rfl, bel.frame _, fun h => by cases h⟩
theorem over : Rows.fnExactSameResponsesRow.holds Try.pinned (OpenSpec.ofChange Rows.fnExactSameResponsesSpec) :=
  OpenClaim.holds_of_wide 11 Try.f11 rfl rfl rfl rfl rfl rfl rfl ⟨rfl, rfl, rfl, rfl, rfl⟩ rfl rfl rfl rfl rfl (by kernel_rfl) Try.func11 (by kernel_rfl)
    (of_decide_eq_true (by kernel_rfl)) (by unfold Func.isWrapper; first | (rw [if_pos (by decide +kernel)]; kernel_rfl) | (rw [if_neg (by decide +kernel)]; exact ⟨rfl, rfl⟩))
    (fun os started H enc _ => lifted os started H enc)
end Go.Proofs.Ytoolmodlmaclnaa.RowFnExactSameResponses
namespace Go.Proofs.Ytoolmodlmaclnaa
theorem fnExactSameResponses_holds : Rows.FnExactSameResponsesSaid := RowFnExactSameResponses.over
end Go.Proofs.Ytoolmodlmaclnaa
