/- The law FnExactPackResponse: for every input it returns true and leaves its arguments as they were. The listed variables of Go's library read as listed, tied to the program's text. -/
import Derived.Test.YtaoegcfifdjbkaaDoorPackT
import Derived.Test.YtaoegcfifdjbkaaDoorTabMore
import Derived.Test.YtaoegcfifdjbkaaDoorOpenB
import Derived.Test.YtaoegcfifdjbkaaDoorOpen
import Derived.Test.YtaoegcfifdjbkaaDoorRows
import Derived.Test.YtaoegcfifdjbkaaDoorCards
import Derived.Test.YtaoegcfifdjbkaaDoorTie
import Derived.ProofKit
import Derived.OpenShut
import Derived.LaidMore
import Derived.Lay
import Derived.SevenTiedAt
import Derived.Stop.Joined
import Derived.ShutString
import Derived.ChangeOld
import Derived.SizedLaws
namespace Go.Proofs.YtaoegcfifdjbkaaDoor.RowFnExactPackResponse
open Go.ChangeShapes Go.WideShapes Go.ChangeAt Go.RowKit
open Go.ChangeMaps (open_string shut_string)
set_option linter.unusedVariables false
theorem own : ownKnob Tryd.prog.godebug = none := by kernel_rfl
theorem laidOut : laidOutB Tryd.prog = true := by kernel_rfl
set_option maxRecDepth 100000 in
theorem lifted (os : Os) (started : os.Started) (H : Type) (enc : TypeId × Value → H) :
    ReturnsInHanded {} Tryd.checked os 11 .any (fun w args => (Rows.fnExactPackResponseSpec.pre enc Tryd.prog Tryd.f11 Rows.fnExactPackResponseRow.domain false w args ∧ laidMetH Tryd.prog Rows.fnExactPackResponseRow.laid w) ∧ sizedMet enc Tryd.prog Tryd.f11 (OpenSpec.ofChange Rows.fnExactPackResponseSpec) false w args)
      (Rows.fnExactPackResponseSpec.post enc Tryd.prog Tryd.f11 false true false false) := by
  refine returnsInHanded_of_change_and (C := Tryd.checked) (X := fun w _ => laidMetH Tryd.prog Rows.fnExactPackResponseRow.laid w) (fun _ _ _ hh h => h.of_heap hh) own started (by kernel_rfl) Tryd.func11
    (ChangeSpec.witness_shaped (enc := enc) (C := Tryd.checked) (os := os) (X := fun w _ => laidMetH Tryd.prog Rows.fnExactPackResponseRow.laid w) false (World.laidAll Tryd.prog os Rows.fnExactPackResponseRow.laid) #[.agg #[.int .i64 0, .slice none 0 0, .slice none 0 0]] 8 (World.laidAll_os _ _ _)
      (World.shaped_of_ZipB (by kernel_rfl) (by kernel_rfl)) (by kernel_rfl) (by kernel_rfl) (by kernel_rfl)
      (by rw [MakeChecks.laidMetH_plain _ _ _ (by kernel_rfl)]; exact laidMet_laidAll _ (by kernel_rfl) (by kernel_rfl))) ?_
  intro W base args ds gs before hval0 hW hcnd _ hL _
  have hval : ∀ (j : Nat) t v, Tryd.f11.params[j]? = some t → args[j]? = some v → Value.okWide Tryd.prog W .any base t v := hval0
  have hW' := hW
  obtain ⟨p, q, hA0, hV, rfl, hfz, hnd⟩ := hW
  have hA : DataW.TrodAll enc Tryd.prog W 0 (fun _ => true) true Tryd.f11.params.toList args.toList ds p := hA0
  rw [Tryd.params11] at hA hval
  obtain ⟨v0, vs0, d0, ds0, p0, q0, hargs, rfl, rfl, h0, r0⟩ := trodAll_cons hA
  obtain ⟨rfl, rfl, rfl⟩ := trodAll_nil r0
  obtain rfl : args = #[v0] := by cases args; simp_all
  obtain ⟨rfl, rfl⟩ := trodVars_none hV
  clear hA0 hval0
  simp only [List.append_nil] at hW'
  have k0 : ∀ W', Below W.heap.size W W' → DataW.Trod enc Tryd.prog W' 0 (fun b => decide (b < W.heap.size)) true 65 v0 d0 p0 := fun W' hn => Below.trod laidOut (by kernel_rfl) (of_decide_eq_true (by kernel_rfl)) h0 hn (fun x hx => hW'.lt x (by simp [hx]))
  obtain ⟨cs0, rfl, hlen0, hfld0⟩ := open_struct_val Tryd.underlying65 (by kernel_rfl) (by kernel_rfl) (hval 0 65 v0 rfl rfl) h0
  obtain ⟨u0_0, y0_0, m0_0, e0_0, t0_0⟩ := hfld0 0 _ rfl
  obtain ⟨x0_0, g0_0, _, _⟩ := DataW.trod_int Tryd.underlying2 t0_0
  cases g0_0
  obtain ⟨u0_1, y0_1, m0_1, e0_1, t0_1⟩ := hfld0 1 _ rfl
  obtain ⟨a0_1, n0_1, c0_1, l0_1, hv0_1, hl0_1, hr0_1, hn0_1, hs0_1⟩ := open_pairsR Tryd.underlying32 Tryd.underlying94 (by kernel_rfl) (by kernel_rfl) Tryd.underlying9 Tryd.underlying9 t0_1
  cases hv0_1
  obtain ⟨u0_2, y0_2, m0_2, e0_2, t0_2⟩ := hfld0 2 _ rfl
  obtain ⟨a0_2, n0_2, c0_2, l0_2, hv0_2, hl0_2, hr0_2, hn0_2⟩ := open_bytesR Tryd.underlying22 Tryd.underlying5 (by kernel_rfl) t0_2
  cases hv0_2
  obtain rfl := list3 hlen0 e0_0 e0_1 e0_2
  refine (FnExactPackResponse_walk x0_0 _ _ _ l0_1 hl0_1 _ _ _ l0_2 hl0_2 W hr0_1 hn0_1 hs0_1 hr0_2 hn0_2 (tab_of_laid_more (by kernel_rfl) hL)).mono fun e W' ⟨he, bel⟩ => ?_
  subst he
  exact ⟨_, rfl, _, _, _, [], _, [], hW', trodAll_mk1 (shut_bool Tryd.underlying4 _), (trodAll_cons_mk (k0 _ bel) trodAll_mk0), rfl, bel.frame _, fun h => by cases h⟩
theorem over : Rows.fnExactPackResponseRow.holds Tryd.pinned (OpenSpec.ofChange Rows.fnExactPackResponseSpec) :=
  OpenClaim.holds_of_wide 11 Tryd.f11 rfl rfl rfl rfl rfl rfl rfl ⟨rfl, rfl, rfl, rfl, rfl⟩ rfl rfl rfl rfl rfl (by kernel_rfl) Tryd.func11 (by kernel_rfl)
    (of_decide_eq_true (by kernel_rfl)) (by unfold Func.isWrapper; first | (rw [if_pos (by decide +kernel)]; kernel_rfl) | (rw [if_neg (by decide +kernel)]; exact ⟨rfl, rfl⟩))
    (fun os started H enc _ => lifted os started H enc)
theorem card : Claim7.holds Tryd.pinned (.plain (OpenSpec.ofChange Rows.fnExactPackResponseSpec)) Rows.fnExactPackResponseCard :=
  Claim7.holds_tied_plain_at .later [] [.data, .data, .data, .data, .pinned] true (true, "ad63f58c77796af4a5d4de15777084f7fa78837c614e4d3d2a1fc746e2b0685b") false
    over (fun _ h => by cases h) (by kernel_rfl) (fun _ h => by cases h) fnExactPackResponse_row_tie rfl ⟨rfl, rfl⟩ (by kernel_rfl) rfl
    (fun f fn hf hfn => by
      obtain rfl : f = 11 := Option.some.inj ((show Tryd.prog.funcNamed "loop.example/g00665/laws.FnExactPackResponse" = some 11 by kernel_rfl).symm.trans hf) |>.symm
      obtain rfl : fn = Tryd.f11 := (Option.some.inj (Tryd.func11.symm.trans hfn)).symm
      exact ⟨by kernel_rfl, fun j t ht => by
        rw [Tryd.params11] at ht
        have hm : t ∈ [65] := by simpa using Array.mem_of_getElem? ht
        have hall : ([65].all fun u => !Tryd.prog.wantsStandIn u) = true := by kernel_rfl
        exact (show Tryd.prog.wantsStandIn t = false by simpa using List.all_eq_true.1 hall t hm)⟩)
    (by kernel_rfl)
end Go.Proofs.YtaoegcfifdjbkaaDoor.RowFnExactPackResponse
namespace Go.Proofs.YtaoegcfifdjbkaaDoor
theorem fnExactPackResponse_holds : Rows.FnExactPackResponseCardSaid := RowFnExactPackResponse.card
end Go.Proofs.YtaoegcfifdjbkaaDoor
