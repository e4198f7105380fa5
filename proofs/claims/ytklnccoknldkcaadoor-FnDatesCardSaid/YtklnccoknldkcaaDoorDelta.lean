/- The number that digits tell. -/
import Derived.Test.YtklnccoknldkcaaDoorText
import Derived.Test.YtklnccoknldkcaaDoorTimes
namespace Go.Proofs.YtklnccoknldkcaaDoor
open Go.RowKit
set_option linter.unusedSimpArgs false
set_option linter.unusedVariables false
theorem deltaOk_of (s : ByteArray) : (inB s.size 1 64 && allB digitB s) = deltaOk s := by
  unfold deltaOk inB; congr 1; congr 1 <;> rw [Bool.eq_iff_iff] <;> simp only [decide_eq_true_eq] <;> omega
theorem allTo_of {p : Int → Bool} {s : ByteArray} (h : allB p s = true) (k : Nat) : allTo p s k = true := by
  unfold allTo
  rw [List.all_eq_true]
  intro b hb
  exact List.all_eq_true.1 h b (List.mem_of_mem_take hb)
theorem digit_at {s : ByteArray} (h : allB digitB s = true) (k : Nat) (hk : k < s.size) : 48 ≤ s[k].toNat ∧ s[k].toNat ≤ 57 := by
  have := List.all_eq_true.1 h s[k] (List.getElem_mem (l := s.data.toList) (by rw [Array.length_toList]; exact hk))
  simp only [digitB, Bool.and_eq_true, decide_eq_true_eq] at this
  omega
set_option maxHeartbeats 800000 in
theorem areBytes_digit (s : ByteArray) (lo hi : Int) (w : World) (hs : s.size ≤ 9223372036854775807) : Calls Tryd.prog 75 #[.string s, .int .i64 lo, .int .i64 hi, .func (.func 141) #[] #[]] w fun e w' => e = .returned (.bool (inB s.size lo hi && allB digitB s)) ∧ w = w' := by
  by_cases hb : inB s.size lo hi = true
  · obtain ⟨h1, h2⟩ := inB_iff.1 hb
    have hfin : ∀ v, allB digitB s = v → (inB s.size lo hi && allB digitB s) = v := fun v h => by rw [hb, h]; rfl
    have Hfin := Lib.hid hfin
    clear hfin hb
    go_enter Tryd.func75, Tryd.ntmps75
    go_wp2
    go_loop [22] (fun i => ∃ k : Nat, k ≤ s.size ∧ i = .int .i64 k ∧ allTo digitB s k = true) (fun i => s.size - (intOf i).toNat)
    case atStart => exact ⟨0, Nat.zero_le _, rfl, rfl⟩
    case round =>
      obtain ⟨k, hk, rfl, hall⟩ := hrel
      have Hall := Lib.hid hall
      clear hall
      by_cases hlt : k < s.size
      · have hsn := Lib.hid (allTo_succ digitB s k hlt)
        by_cases hp : digitB (s[k].toNat : Int) = true
        · go_wp2_with (go_at_call 141; ((with_reducible refine (impl_isDigit _ _).mono ?_); rintro e w' ⟨rfl, rfl⟩))
          go_round
          case rel => exact ⟨k + 1, by omega, by go_num, by rw [hsn.out, Hall.out, hp]; rfl⟩
          case measure => simp [intOf]; omega
        · simp only [Bool.not_eq_true] at hp
          go_wp2_with (go_at_call 141; ((with_reducible refine (impl_isDigit _ _).mono ?_); rintro e w' ⟨rfl, rfl⟩))
          go_ret
          exact ⟨ret_bool (Hfin.out _ (allB_false _ _ _ hlt hp)).symm, rfl⟩
      · have hk' : k = s.size := by omega
        have Hk := Lib.hid hk'
        clear hk'
        go_wp2
        go_ret
        refine ⟨ret_bool (Hfin.out _ ?_).symm, rfl⟩
        have h := Hall.out
        rw [Hk.out, allTo_size] at h
        exact h
  · simp only [Bool.not_eq_true] at hb
    have h1 := inB_not.1 hb
    by_cases h2 : (s.size : Int) < lo
    all_goals
      go_enter Tryd.func75, Tryd.ntmps75
      go_wp2
      all_goals
        go_ret
        exact ⟨ret_bool (by first | rfl | (rw [hb]; rfl)), rfl⟩

/-- spec.l1Delta: the number, or -1. -/
def deltaI (s : ByteArray) : Int := if deltaOk s then deltaTo s s.size else -1
set_option maxHeartbeats 800000 in
theorem spec_l1Delta (s : ByteArray) (w : World) (hs : s.size ≤ 9223372036854775807) : Calls Tryd.prog 137 #[.string s] w fun e w' => e = .returned (.int .i64 (deltaI s)) ∧ w = w' := by
  by_cases hb : inB s.size 1 64 = true
  · obtain ⟨h1, h2⟩ := inB_iff.1 hb
    have hyes : allB digitB s = true → Ending.returned (.int .i64 (deltaTo s s.size)) = .returned (.int .i64 (deltaI s)) := fun h => by rw [deltaI, ← deltaOk_of, hb, h]; rfl
    have hno : allB digitB s = false → Ending.returned (.int .i64 (-1)) = .returned (.int .i64 (deltaI s)) := fun h => by rw [deltaI, ← deltaOk_of, hb, h]; rfl
    have Hyes := Lib.hid hyes
    have Hno := Lib.hid hno
    clear hyes hno hb
    go_enter Tryd.func137, Tryd.ntmps137
    go_wp2
    go_loop [3, 4] (fun n i => ∃ k : Nat, k ≤ s.size ∧ i = .int .i64 k ∧ n = .int .i64 (deltaTo s k) ∧ allTo digitB s k = true) (fun _ i => s.size - (intOf i).toNat)
    case atStart => exact ⟨0, Nat.zero_le _, rfl, rfl, rfl⟩
    case round =>
      obtain ⟨k, hk, rfl, rfl, hall⟩ := hrel
      obtain ⟨hd1, hd2⟩ := deltaTo_bd s k hall
      have Hall := Lib.hid hall
      clear hall
      by_cases hlt : k < s.size
      · have hsn := Lib.hid (allTo_succ digitB s k hlt)
        have hdn := Lib.hid (deltaTo_succ s k hlt)
        by_cases hp : digitB (s[k].toNat : Int) = true
        · have hdig : 48 ≤ (s[k].toNat : Int) ∧ (s[k].toNat : Int) ≤ 57 := by simpa [digitB] using hp
          obtain ⟨hg1, hg2⟩ := hdig
          go_wp2_with (first | (go_at_call 158; ((with_reducible refine (spec_l1Digit _ _).mono ?_); rintro e w' ⟨rfl, rfl⟩)) | (go_at_call 175; ((with_reducible refine (spec_l1Min _ _ _).mono ?_); rintro e w' ⟨rfl, rfl⟩)))
          go_round
          case rel => exact ⟨k + 1, by omega, by go_num, by rw [hdn.out, Int.mul_comm 10], by rw [hsn.out, Hall.out, hp]; rfl⟩
          case measure => simp [intOf]; omega
        · simp only [Bool.not_eq_true] at hp
          go_wp2_with (go_at_call 158; ((with_reducible refine (spec_l1Digit _ _).mono ?_); rintro e w' ⟨rfl, rfl⟩))
          go_ret
          exact ⟨Hno.out (allB_false _ _ _ hlt hp), rfl⟩
      · have hk' : k = s.size := by omega
        have Hk := Lib.hid hk'
        clear hk'
        go_wp2
        go_ret
        have h := Hall.out
        rw [Hk.out, allTo_size] at h
        exact ⟨by rw [← Hyes.out h]; exact ret_int (by rw [Hk.out]), rfl⟩
  · simp only [Bool.not_eq_true] at hb
    have h1 := inB_not.1 hb
    have hfin : Ending.returned (.int .i64 (-1)) = .returned (.int .i64 (deltaI s)) := by rw [deltaI, ← deltaOk_of, hb]; rfl
    have Hfin := Lib.hid hfin
    clear hfin hb
    by_cases h2 : (s.size : Int) < 1
    all_goals
      go_enter Tryd.func137, Tryd.ntmps137
      go_wp2
      all_goals
        go_ret
        exact ⟨Hfin.out, rfl⟩
theorem deltaOk_bd {s : ByteArray} (h : deltaOk s = true) : 0 ≤ deltaTo s s.size ∧ deltaTo s s.size ≤ 2147483648 := by
  refine deltaTo_bd s s.size ?_
  rw [allTo_size]
  unfold deltaOk at h
  simp only [Bool.and_eq_true] at h
  exact h.2
set_option maxHeartbeats 800000 in
theorem impl_DeltaOf (s : ByteArray) (w : World) (hs : s.size ≤ 9223372036854775807) : Calls Tryd.prog 142 #[.string s] w fun e w' => e = .returned (.agg #[.int .i64 (deltaR s).1, .int .i64 (deltaR s).2]) ∧ Below w.heap.size w w' := by
  have hc := fun W => areBytes_digit s 1 64 W hs
  rw [deltaOk_of] at hc
  have Hc := Lib.hid hc
  clear hc
  by_cases h : deltaOk s = true
  · have e : deltaR s = (0, deltaTo s s.size) := by simp [deltaR, h]
    rw [e]
    have hall : allB digitB s = true := by unfold deltaOk at h; simp only [Bool.and_eq_true] at h; exact h.2
    clear e
    have Hall := Lib.hid hall
    clear hall
    go_enter Tryd.func142, Tryd.ntmps142
    go_wp2_with (go_at_call 75; ((with_reducible refine (Hc.out _).mono ?_); rintro e w' ⟨rfl, rfl⟩))
    go_loop [3, 11] (fun n i => ∃ k : Nat, k ≤ s.size ∧ i = .int .i64 k ∧ n = .int .i64 (deltaTo s k)) (fun _ i => s.size - (intOf i).toNat)
    case atStart => exact ⟨0, Nat.zero_le _, rfl, rfl⟩
    case round =>
      obtain ⟨k, hk, rfl, rfl⟩ := hrel
      obtain ⟨hd1, hd2⟩ := deltaTo_bd s k (allTo_of Hall.out k)
      by_cases hlt : k < s.size
      · have hdn := Lib.hid (deltaTo_succ s k hlt)
        obtain ⟨hg1, hg2⟩ := digit_at Hall.out k hlt
        go_wp2
        all_goals
          go_round
          case rel => exact ⟨k + 1, by omega, by go_num, by first | (rw [hdn.out]; done) | (rw [hdn.out]; exact congrArg (Value.int .i64) (by omega))⟩
          case measure => simp [intOf]; omega
      · obtain rfl : k = s.size := by omega
        go_wp2
        all_goals exact bodyPost_ret (by first | ((simp [results, Tryd.results142, go_sem]; try rfl); done) | ((simp [results, Tryd.results142, go_sem, *]; try rfl); done) | ((simp (maxDischargeDepth := 8) [results, Tryd.results142, go_sem, *]; try rfl); done)) rfl ⟨rfl, by first | (with_reducible rfl) | exact (by first | (with_reducible exact Below.refl _ _) | ((repeat' (first | (with_reducible exact Below.refl _ _) | (with_reducible assumption) | (with_reducible refine below_alloc ?_ _) | (with_reducible refine Below.drew ?_) | (with_reducible refine below_drewN ?_ _) | (with_reducible refine Below.setCell ?_ ?_ _) | refine below_then ?_ (by with_reducible assumption))) <;> (first | omega | (simp; done) | (simp; omega))))⟩
  · have e : deltaR s = (5, 0) := by simp [deltaR, h]
    rw [e]
    clear e
    simp only [Bool.not_eq_true] at h
    go_enter Tryd.func142, Tryd.ntmps142
    go_wp2_with (go_at_call 75; ((with_reducible refine (Hc.out _).mono ?_); rintro e w' ⟨rfl, rfl⟩))
    all_goals exact bodyPost_ret (by first | ((simp [results, Tryd.results142, go_sem]; try rfl); done) | ((simp [results, Tryd.results142, go_sem, *]; try rfl); done) | ((simp (maxDischargeDepth := 8) [results, Tryd.results142, go_sem, *]; try rfl); done)) rfl ⟨rfl, by first | (with_reducible rfl) | exact (by first | (with_reducible exact Below.refl _ _) | ((repeat' (first | (with_reducible exact Below.refl _ _) | (with_reducible assumption) | (with_reducible refine below_alloc ?_ _) | (with_reducible refine Below.drew ?_) | (with_reducible refine below_drewN ?_ _) | (with_reducible refine Below.setCell ?_ ?_ _) | refine below_then ?_ (by with_reducible assumption))) <;> (first | omega | (simp; done) | (simp; omega))))⟩
end Go.Proofs.YtklnccoknldkcaaDoor
