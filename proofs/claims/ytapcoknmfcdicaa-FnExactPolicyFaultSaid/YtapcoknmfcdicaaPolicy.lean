/- Policies: the code of one. -/
import Derived.Test.YtapcoknmfcdicaaNum
namespace Go.Proofs.Ytapcoknmfcdicaa
open Go.RowKit
set_option linter.unusedSimpArgs false
set_option linter.unusedVariables false

def polFault (life swr sie age : Int) : Int := if ((!inB life 0 1000000000000000) && (life != -1)) || (!inB swr 0 1000000000000000) || (!inB sie 0 1000000000000000) || (!inB age 0 1000000000000000) then 3 else 0

set_option maxHeartbeats 1000000 in
theorem spec_PolicyFault (a b c : Bool) (l s i g : Int) (w : World) : Calls Try.prog 18 #[.agg #[.bool a, .bool b, .bool c, .int .i64 l, .int .i64 s, .int .i64 i, .int .i64 g]] w fun e w' => e = .returned (.int .i64 (polFault l s i g)) ∧ Below w.heap.size w w' := by
  go_enter Try.func18, Try.ntmps18
  go_wp2_with (go_at_call 50; ((with_reducible refine (spec_l1Time _ _).mono ?_); rintro e w' ⟨rfl, rfl⟩))
  all_goals (go_ret; exact ⟨ret_int (by simp_all [polFault]), (by first | exact Below.refl _ _ | ((repeat' (first | exact Below.refl _ _ | (with_reducible assumption) | (with_reducible refine below_alloc ?_ _) | (with_reducible refine Below.drew ?_) | (with_reducible refine below_drewN ?_ _) | (with_reducible refine Below.setCell ?_ ?_ _) | refine below_then ?_ (by with_reducible assumption))) <;> (first | omega | (simp; done) | (simp; omega))))⟩)
set_option maxHeartbeats 1000000 in
  theorem impl_PolicyFault (a b c : Bool) (l s i g : Int) (w : World) : Calls Try.prog 20 #[.agg #[.bool a, .bool b, .bool c, .int .i64 l, .int .i64 s, .int .i64 i, .int .i64 g]] w fun e w' => e = .returned (.int .i64 (polFault l s i g)) ∧ Below w.heap.size w w' := by
    go_enter Try.func20, Try.ntmps20
    go_wp2_with (go_at_call 51; ((with_reducible refine (impl_isTime _ _).mono ?_); rintro e w' ⟨rfl, rfl⟩))
    all_goals (go_ret; exact ⟨ret_int (by simp_all [polFault]), (by first | exact Below.refl _ _ | ((repeat' (first | exact Below.refl _ _ | (with_reducible assumption) | (with_reducible refine below_alloc ?_ _) | (with_reducible refine Below.drew ?_) | (with_reducible refine below_drewN ?_ _) | (with_reducible refine Below.setCell ?_ ?_ _) | refine below_then ?_ (by with_reducible assumption))) <;> (first | omega | (simp; done) | (simp; omega))))⟩)

theorem toPolicy (a b c : Bool) (l s i g : Int) (w : World) : Calls Try.prog 19 #[.agg #[.bool a, .bool b, .bool c, .int .i64 l, .int .i64 s, .int .i64 i, .int .i64 g]] w fun e w' => e = .returned (.agg #[.bool a, .bool b, .bool c, .int .i64 l, .int .i64 s, .int .i64 i, .int .i64 g]) ∧ Below w.heap.size w w' := by
  go_enter Try.func19, Try.ntmps19
  go_wp2
  all_goals exact bodyPost_ret (by first | ((simp [results, Try.results19, go_sem]; try rfl); done) | ((simp [results, Try.results19, go_sem, *]; try rfl); done)) rfl ⟨rfl, by first | rfl | exact (by first | exact Below.refl _ _ | ((repeat' (first | exact Below.refl _ _ | (with_reducible assumption) | (with_reducible refine below_alloc ?_ _) | (with_reducible refine Below.drew ?_) | (with_reducible refine below_drewN ?_ _) | (with_reducible refine Below.setCell ?_ ?_ _) | refine below_then ?_ (by with_reducible assumption))) <;> (first | omega | (simp; done) | (simp; omega))))⟩

theorem FnExactPolicyFault_walk (a b c : Bool) (l s i g : Int) (w : World) : Calls Try.prog 5 #[.agg #[.bool a, .bool b, .bool c, .int .i64 l, .int .i64 s, .int .i64 i, .int .i64 g]] w fun e w' => e = .returned (.bool true) ∧ Below w.heap.size w w' := by
  go_enter Try.func5, Try.ntmps5
  go_wp2_with (first | (go_at_call 19; ((with_reducible refine (toPolicy _ _ _ _ _ _ _ _).mono ?_); rintro e w' ⟨rfl, hb⟩; obtain ⟨hc, hf⟩ := bcell hb; have hz := hb.size; (try simp only [World.size_alloc, World.size_setCell, World.size_drew] at hz); obtain ⟨hlt, hle, hn1, hn2, hn3, hn4⟩ := bsize hb; (try simp only [World.size_alloc, World.size_setCell, World.size_drew] at hlt hle hn1 hn2 hn3 hn4))) | (go_at_call 18; ((with_reducible refine (spec_PolicyFault _ _ _ _ _ _ _ _).mono ?_); rintro e w' ⟨rfl, hb⟩; obtain ⟨hc, hf⟩ := bcell hb; have hz := hb.size; (try simp only [World.size_alloc, World.size_setCell, World.size_drew] at hz); obtain ⟨hlt, hle, hn1, hn2, hn3, hn4⟩ := bsize hb; (try simp only [World.size_alloc, World.size_setCell, World.size_drew] at hlt hle hn1 hn2 hn3 hn4))) | (go_at_call 20; ((with_reducible refine (impl_PolicyFault _ _ _ _ _ _ _ _).mono ?_); rintro e w' ⟨rfl, hb⟩; obtain ⟨hc, hf⟩ := bcell hb; have hz := hb.size; (try simp only [World.size_alloc, World.size_setCell, World.size_drew] at hz); obtain ⟨hlt, hle, hn1, hn2, hn3, hn4⟩ := bsize hb; (try simp only [World.size_alloc, World.size_setCell, World.size_drew] at hlt hle hn1 hn2 hn3 hn4))))
  all_goals (go_ret; exact ⟨by first | rfl | (simp [*]; done) | (simp [*]; omega), by first | rfl | exact (by first | exact Below.refl _ _ | ((repeat' (first | exact Below.refl _ _ | (with_reducible assumption) | (with_reducible refine below_alloc ?_ _) | (with_reducible refine Below.drew ?_) | (with_reducible refine below_drewN ?_ _) | (with_reducible refine Below.setCell ?_ ?_ _) | refine below_then ?_ (by with_reducible assumption))) <;> (first | omega | (simp; done) | (simp; omega))))⟩)
end Go.Proofs.Ytapcoknmfcdicaa
