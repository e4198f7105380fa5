/- The law FnExactSameRequests: for every input it returns true and leaves its arguments as they were. No condition. -/
import Derived.Test.YtoolmodlmaclnaaReq
import Derived.Test.YtoolmodlmaclnaaOpen
import Derived.Test.YtoolmodlmaclnaaRows
import Derived.ShutString
import Derived.ChangeOld
import Derived.SizedLaws
namespace Go.Proofs.Ytoolmodlmaclnaa.RowFnExactSameRequests
open Go.ChangeShapes Go.WideShapes Go.ChangeAt Go.RowKit
open Go.ChangeMaps (open_string shut_string)
set_option linter.unusedVariables false
theorem own : ownKnob Try.prog.godebug = none := by kernel_rfl
theorem laidOut : laidOutB Try.prog = true := by kernel_rfl
set_option maxRecDepth 100000 in
theorem lifted (os : Os) (started : os.Started) (H : Type) (enc : TypeId × Value → H) :
    ReturnsInHanded {} Try.checked os 9 .any (Rows.fnExactSameRequestsSpec.pre6 enc Try.prog Try.f9 Rows.fnExactSameRequestsRow.domain false) (Rows.fnExactSameRequestsSpec.post enc Try.prog Try.f9 false true false false) := by
  refine returnsInHanded_of_change_sized (C := Try.checked) own started (by kernel_rfl) Try.func9
    (ChangeSpec.witness6 (enc := enc) (C := Try.checked) false ⟨#[], #[.agg #[.string ⟨#[]⟩, .string ⟨#[]⟩, .string ⟨#[]⟩, .slice none 0 0], .agg #[.string ⟨#[]⟩, .string ⟨#[]⟩, .string ⟨#[]⟩, .slice none 0 0]], []⟩ 8 (by kernel_rfl) (by kernel_rfl) (by kernel_rfl) (by kernel_rfl)) ?_
  intro W base args ds gs before hval0 hW hcnd hsz0 _
  have hval : ∀ (j : Nat) t v, Try.f9.params[j]? = some t → args[j]? = some v → Value.okWide Try.prog W .any base t v := hval0
  have hW' := hW
  obtain ⟨p, q, hA0, hV, rfl, hfz, hnd⟩ := hW
  have hA : DataW.TrodAll enc Try.prog W 0 (fun _ => true) true Try.f9.params.toList args.toList ds p := hA0
  rw [Try.params9] at hA hval
  obtain ⟨v0, vs0, d0, ds0, p0, q0, hargs, rfl, rfl, h0, r0⟩ := trodAll_cons hA
  obtain ⟨v1, vs1, d1, ds1, p1, q1, rfl, rfl, rfl, h1, r1⟩ := trodAll_cons r0
  obtain ⟨rfl, rfl, rfl⟩ := trodAll_nil r1
  obtain rfl : args = #[v0, v1] := by cases args; simp_all
  obtain ⟨rfl, rfl⟩ := trodVars_none hV
  clear hA0 hval0 hsz0
  have k0 : ∀ W', Below W.heap.size W W' → DataW.Trod enc Try.prog W' 0 (fun b => decide (b < W.heap.size)) true 58 v0 d0 p0 := fun W' hn => Below.trod laidOut (by kernel_rfl) (of_decide_eq_true (by kernel_rfl)) h0 hn (fun x hx => hW'.lt x (by simp [hx]))
  have k1 : ∀ W', Below W.heap.size W W' → DataW.Trod enc Try.prog W' 0 (fun b => decide (b < W.heap.size)) true 58 v1 d1 p1 := fun W' hn => Below.trod laidOut (by kernel_rfl) (of_decide_eq_true (by kernel_rfl)) h1 hn (fun x hx => hW'.lt x (by simp [hx]))
  obtain ⟨cs0, rfl, hlen0, hfld0⟩ := open_struct_val Try.underlying58 (by kernel_rfl) (by kernel_rfl) (hval 0 58 v0 rfl rfl) h0
  obtain ⟨u0_0, y0_0, m0_0, e0_0, t0_0⟩ := hfld0 0 _ rfl
  obtain ⟨x0_0, g0_0, _, b0_0⟩ := DataW.trod_string Try.underlying9 t0_0
  cases g0_0
  unfold maxLen at b0_0
  obtain ⟨u0_1, y0_1, m0_1, e0_1, t0_1⟩ := hfld0 1 _ rfl
  obtain ⟨x0_1, g0_1, _, b0_1⟩ := DataW.trod_string Try.underlying9 t0_1
  cases g0_1
  unfold maxLen at b0_1
  obtain ⟨u0_2, y0_2, m0_2, e0_2, t0_2⟩ := hfld0 2 _ rfl
  obtain ⟨x0_2, g0_2, _, b0_2⟩ := DataW.trod_string Try.underlying9 t0_2
  cases g0_2
  unfold maxLen at b0_2
  obtain ⟨u0_3, y0_3, m0_3, e0_3, t0_3⟩ := hfld0 3 _ rfl
  obtain ⟨a0_3, n0_3, c0_3, l0_3, hv0_3, hl0_3, hr0_3, hn0_3, hs0_3⟩ := open_pairsR Try.underlying56 Try.underlying112 (by kernel_rfl) (by kernel_rfl) Try.underlying9 Try.underlying9 t0_3
  cases hv0_3
  obtain rfl := list4 hlen0 e0_0 e0_1 e0_2 e0_3
  obtain ⟨cs1, rfl, hlen1, hfld1⟩ := open_struct_val Try.underlying58 (by kernel_rfl) (by kernel_rfl) (hval 1 58 v1 rfl rfl) h1
  obtain ⟨u1_0, y1_0, m1_0, e1_0, t1_0⟩ := hfld1 0 _ rfl
  obtain ⟨x1_0, g1_0, _, b1_0⟩ := DataW.trod_string Try.underlying9 t1_0
  cases g1_0
  unfold maxLen at b1_0
  obtain ⟨u1_1, y1_1, m1_1, e1_1, t1_1⟩ := hfld1 1 _ rfl
  obtain ⟨x1_1, g1_1, _, b1_1⟩ := DataW.trod_string Try.underlying9 t1_1
  cases g1_1
  unfold maxLen at b1_1
  obtain ⟨u1_2, y1_2, m1_2, e1_2, t1_2⟩ := hfld1 2 _ rfl
  obtain ⟨x1_2, g1_2, _, b1_2⟩ := DataW.trod_string Try.underlying9 t1_2
  cases g1_2
  unfold maxLen at b1_2
  obtain ⟨u1_3, y1_3, m1_3, e1_3, t1_3⟩ := hfld1 3 _ rfl
  obtain ⟨a1_3, n1_3, c1_3, l1_3, hv1_3, hl1_3, hr1_3, hn1_3, hs1_3⟩ := open_pairsR Try.underlying56 Try.underlying112 (by kernel_rfl) (by kernel_rfl) Try.underlying9 Try.underlying9 t1_3
  cases hv1_3
  obtain rfl := list4 hlen1 e1_0 e1_1 e1_2 e1_3
  refine (FnExactSameRequests_walk x0_0 b0_0 x0_1 b0_1 x0_2 b0_2 _ _ _ l0_3 hl0_3 x1_0 b1_0 x1_1 b1_1 x1_2 b1_2 _ _ _ l1_3 hl1_3 W hr0_3 hn0_3 hs0_3 hr1_3 hn1_3 hs1_3).mono fun e W' ⟨he, bel⟩ => ?_
  subst he
  exact ⟨_, rfl, _, _, _, [], _, [], hW', trodAll_mk1 (shut_bool Try.underlying4 _), (trodAll_cons_mk (k0 _ bel) (trodAll_cons_mk (k1 _ bel) trodAll_mk0)), rfl, bel.frame _, fun h => by cases h⟩
theorem over : Rows.fnExactSameRequestsRow.holds Try.pinned (OpenSpec.ofChange Rows.fnExactSameRequestsSpec) :=
  OpenClaim.holds_of_wide 9 Try.f9 rfl rfl rfl rfl rfl rfl rfl ⟨rfl, rfl, rfl, rfl, rfl⟩ rfl rfl rfl rfl rfl (by kernel_rfl) Try.func9 (by kernel_rfl)
    (of_decide_eq_true (by kernel_rfl)) (by unfold Func.isWrapper; first | (rw [if_pos (by decide +kernel)]; kernel_rfl) | (rw [if_neg (by decide +kernel)]; exact ⟨rfl, rfl⟩))
    (fun os started H enc _ => lifted os started H enc)
end Go.Proofs.Ytoolmodlmaclnaa.RowFnExactSameRequests
namespace Go.Proofs.Ytoolmodlmaclnaa
theorem fnExactSameRequests_holds : Rows.FnExactSameRequestsSaid := RowFnExactSameRequests.over
end Go.Proofs.Ytoolmodlmaclnaa
