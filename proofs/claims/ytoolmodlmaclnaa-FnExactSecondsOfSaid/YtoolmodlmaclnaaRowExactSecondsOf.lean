/- The law FnExactSecondsOf: for every input it returns true and leaves its arguments as they were. No condition. -/
import Derived.Test.YtoolmodlmaclnaaDate
import Derived.Test.YtoolmodlmaclnaaOpen
import Derived.Test.YtoolmodlmaclnaaRows
import Derived.ShutString
import Derived.ChangeOld
import Derived.SizedLaws
namespace Go.Proofs.Ytoolmodlmaclnaa.RowFnExactSecondsOf
open Go.ChangeShapes Go.WideShapes Go.ChangeAt Go.RowKit
open Go.ChangeMaps (open_string shut_string)
set_option linter.unusedVariables false
theorem own : ownKnob Try.prog.godebug = none := by kernel_rfl
theorem laidOut : laidOutB Try.prog = true := by kernel_rfl
set_option maxRecDepth 100000 in
theorem lifted (os : Os) (started : os.Started) (H : Type) (enc : TypeId × Value → H) :
    ReturnsInHanded {} Try.checked os 7 .any (Rows.fnExactSecondsOfSpec.pre6 enc Try.prog Try.f7 Rows.fnExactSecondsOfRow.domain false) (Rows.fnExactSecondsOfSpec.post enc Try.prog Try.f7 false true false false) := by
  refine returnsInHanded_of_change_sized (C := Try.checked) own started (by kernel_rfl) Try.func7
    (ChangeSpec.witness6 (enc := enc) (C := Try.checked) false ⟨#[], #[.agg #[.int .i64 0, .int .i64 0, .int .i64 0, .int .i64 0, .int .i64 0, .int .i64 0]], []⟩ 8 (by kernel_rfl) (by kernel_rfl) (by kernel_rfl) (by kernel_rfl)) ?_
  intro W base args ds gs before hval0 hW hcnd hsz0 _
  have hval : ∀ (j : Nat) t v, Try.f7.params[j]? = some t → args[j]? = some v → Value.okWide Try.prog W .any base t v := hval0
  have hW' := hW
  obtain ⟨p, q, hA0, hV, rfl, hfz, hnd⟩ := hW
  have hA : DataW.TrodAll enc Try.prog W 0 (fun _ => true) true Try.f7.params.toList args.toList ds p := hA0
  rw [Try.params7] at hA hval
  obtain ⟨v0, vs0, d0, ds0, p0, q0, hargs, rfl, rfl, h0, r0⟩ := trodAll_cons hA
  obtain ⟨rfl, rfl, rfl⟩ := trodAll_nil r0
  obtain rfl : args = #[v0] := by cases args; simp_all
  obtain ⟨rfl, rfl⟩ := trodVars_none hV
  clear hA0 hval0 hsz0
  have k0 : ∀ W', Below W.heap.size W W' → DataW.Trod enc Try.prog W' 0 (fun b => decide (b < W.heap.size)) true 46 v0 d0 p0 := fun W' hn => Below.trod laidOut (by kernel_rfl) (of_decide_eq_true (by kernel_rfl)) h0 hn (fun x hx => hW'.lt x (by simp [hx]))
  obtain ⟨cs0, rfl, hlen0, hfld0⟩ := open_struct_val Try.underlying46 (by kernel_rfl) (by kernel_rfl) (hval 0 46 v0 rfl rfl) h0
  obtain ⟨u0_0, y0_0, m0_0, e0_0, t0_0⟩ := hfld0 0 _ rfl
  obtain ⟨x0_0, g0_0, _, _⟩ := DataW.trod_int Try.underlying2 t0_0
  cases g0_0
  obtain ⟨u0_1, y0_1, m0_1, e0_1, t0_1⟩ := hfld0 1 _ rfl
  obtain ⟨x0_1, g0_1, _, _⟩ := DataW.trod_int Try.underlying2 t0_1
  cases g0_1
  obtain ⟨u0_2, y0_2, m0_2, e0_2, t0_2⟩ := hfld0 2 _ rfl
  obtain ⟨x0_2, g0_2, _, _⟩ := DataW.trod_int Try.underlying2 t0_2
  cases g0_2
  obtain ⟨u0_3, y0_3, m0_3, e0_3, t0_3⟩ := hfld0 3 _ rfl
  obtain ⟨x0_3, g0_3, _, _⟩ := DataW.trod_int Try.underlying2 t0_3
  cases g0_3
  obtain ⟨u0_4, y0_4, m0_4, e0_4, t0_4⟩ := hfld0 4 _ rfl
  obtain ⟨x0_4, g0_4, _, _⟩ := DataW.trod_int Try.underlying2 t0_4
  cases g0_4
  obtain ⟨u0_5, y0_5, m0_5, e0_5, t0_5⟩ := hfld0 5 _ rfl
  obtain ⟨x0_5, g0_5, _, _⟩ := DataW.trod_int Try.underlying2 t0_5
  cases g0_5
  obtain rfl := list6 hlen0 e0_0 e0_1 e0_2 e0_3 e0_4 e0_5
  refine (FnExactSecondsOf_walk x0_0 x0_1 x0_2 x0_3 x0_4 x0_5 W ).mono fun e W' ⟨he, bel⟩ => ?_
  subst he
  exact ⟨_, rfl, _, _, _, [], _, [], hW', trodAll_mk1 (shut_bool Try.underlying4 _), (trodAll_cons_mk (k0 _ bel) trodAll_mk0), rfl, bel.frame _, fun h => by cases h⟩
theorem over : Rows.fnExactSecondsOfRow.holds Try.pinned (OpenSpec.ofChange Rows.fnExactSecondsOfSpec) :=
  OpenClaim.holds_of_wide 7 Try.f7 rfl rfl rfl rfl rfl rfl rfl ⟨rfl, rfl, rfl, rfl, rfl⟩ rfl rfl rfl rfl rfl (by kernel_rfl) Try.func7 (by kernel_rfl)
    (of_decide_eq_true (by kernel_rfl)) (by unfold Func.isWrapper; first | (rw [if_pos (by decide +kernel)]; kernel_rfl) | (rw [if_neg (by decide +kernel)]; exact ⟨rfl, rfl⟩))
    (fun os started H enc _ => lifted os started H enc)
end Go.Proofs.Ytoolmodlmaclnaa.RowFnExactSecondsOf
namespace Go.Proofs.Ytoolmodlmaclnaa
theorem fnExactSecondsOf_holds : Rows.FnExactSecondsOfSaid := RowFnExactSecondsOf.over
end Go.Proofs.Ytoolmodlmaclnaa
