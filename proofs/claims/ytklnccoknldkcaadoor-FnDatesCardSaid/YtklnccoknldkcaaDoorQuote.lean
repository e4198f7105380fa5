/- Quotes: both texts write the same bytes. -/
import Derived.Test.YtklnccoknldkcaaDoorText
import Derived.Test.YtklnccoknldkcaaDoorMem
import Derived.Test.YtklnccoknldkcaaDoorLower
namespace Go.Proofs.YtklnccoknldkcaaDoor
open Go.RowKit
set_option linter.unusedSimpArgs false
set_option linter.unusedVariables false

theorem quoteTo_esc (s : ByteArray) (k : Nat) (h : k < s.size) (hb : s[k].toNat = 34 ∨ s[k].toNat = 92) : (quoteTo s k).map byteV ++ [.int .u8 92] ++ [.int .u8 (s[k].toNat : Int)] = (quoteTo s (k + 1)).map byteV := by
  rw [quoteTo_succ s k h, escB, if_pos hb]; simp [byteV]
theorem quoteTo_plain (s : ByteArray) (k : Nat) (h : k < s.size) (hb : ¬ (s[k].toNat = 34 ∨ s[k].toNat = 92)) : (quoteTo s k).map byteV ++ [.int .u8 (s[k].toNat : Int)] = (quoteTo s (k + 1)).map byteV := by
  rw [quoteTo_succ s k h, escB, if_neg hb]; simp [byteV]
theorem quoteTo_esc_len (s : ByteArray) (k : Nat) (h : k < s.size) (hb : s[k].toNat = 34 ∨ s[k].toNat = 92) : (quoteTo s k).length + 1 + 1 = (quoteTo s (k + 1)).length := by
  rw [quoteTo_succ s k h, escB, if_pos hb]; simp
theorem quoteTo_plain_len (s : ByteArray) (k : Nat) (h : k < s.size) (hb : ¬ (s[k].toNat = 34 ∨ s[k].toNat = 92)) : (quoteTo s k).length + 1 = (quoteTo s (k + 1)).length := by
  rw [quoteTo_succ s k h, escB, if_neg hb]; simp

set_option maxHeartbeats 800000 in
theorem spec_l2Quote (s : ByteArray) (w : World) (hs : s.size ≤ 1000000) : Calls Tryd.prog 117 #[.string s] w fun e w' => e = .returned (.string (quoteS s)) ∧ Below w.heap.size w w' := by
  go_enter Tryd.func117, Tryd.ntmps117
  go_wp2
  go_loopw [3, 4] (fun v i wr => ∃ k : Nat, k ≤ s.size ∧ i = .int .i64 k ∧ wr.ownsRow w.heap.size 5 1 v (quoteTo s k).length ((quoteTo s k).map byteV) ∧ Below w.heap.size w wr) (fun _ i _ => s.size - (intOf i).toNat)
  case atStart => exact ⟨0, Nat.zero_le _, rfl, World.ownsRow_lit w _ 1 (Nat.le_refl _) (by unfold maxLen; omega) rfl, below_alloc (Below.refl _ _) _⟩
  case round =>
    obtain ⟨k, hk, rfl, hown, hb⟩ := hrel
    have hql := quoteTo_len s k
    by_cases hlt : k < s.size
    · by_cases h1 : s[k].toNat = 34
      · have g1 : ((s[k].toNat : Int) == 34) = true := by simp; omega
        have H1 := Lib.hid h1
        clear h1
        go_wp2_with (first | (at_builtin; refine app1 rfl _ _ 22 rfl Tryd.underlying22 infoByte rfl (by decide) hown1 hb1 rfl rfl rfl (by intro u hu; simp at hu; subst hu; rfl) (by omega) (by unfold maxLen; omega) ?_; intro v2 w2 hown2 hb2 _ _) | (at_builtin; refine app1 rfl _ _ 22 rfl Tryd.underlying22 infoByte rfl (by decide) hown hb rfl rfl rfl (by intro u hu; simp at hu; subst hu; rfl) (by omega) (by unfold maxLen; omega) ?_; intro v1 w1 hown1 hb1 _ _))
        go_roundw
        case rel => exact ⟨k + 1, by omega, by go_num, own_cast hown2 (quoteTo_esc_len s k hlt (.inl H1.out)) (quoteTo_esc s k hlt (.inl H1.out)), hb2⟩
        case measure => simp [intOf]; omega
      · have g1 : ((s[k].toNat : Int) == 34) = false := by simp; omega
        by_cases h2 : s[k].toNat = 92
        · have g2 : ((s[k].toNat : Int) == 92) = true := by simp; omega
          have H2 := Lib.hid h2
          clear h1 h2
          go_wp2_with (first | (at_builtin; refine app1 rfl _ _ 22 rfl Tryd.underlying22 infoByte rfl (by decide) hown1 hb1 rfl rfl rfl (by intro u hu; simp at hu; subst hu; rfl) (by omega) (by unfold maxLen; omega) ?_; intro v2 w2 hown2 hb2 _ _) | (at_builtin; refine app1 rfl _ _ 22 rfl Tryd.underlying22 infoByte rfl (by decide) hown hb rfl rfl rfl (by intro u hu; simp at hu; subst hu; rfl) (by omega) (by unfold maxLen; omega) ?_; intro v1 w1 hown1 hb1 _ _))
          go_roundw
          case rel => exact ⟨k + 1, by omega, by go_num, own_cast hown2 (quoteTo_esc_len s k hlt (.inr H2.out)) (quoteTo_esc s k hlt (.inr H2.out)), hb2⟩
          case measure => simp [intOf]; omega
        · have g2 : ((s[k].toNat : Int) == 92) = false := by simp; omega
          have H2 := Lib.hid (show ¬ (s[k].toNat = 34 ∨ s[k].toNat = 92) from fun h => h.elim h1 h2)
          clear h1 h2
          go_wp2_with (at_builtin; refine app1 rfl _ _ 22 rfl Tryd.underlying22 infoByte rfl (by decide) hown hb rfl rfl rfl (by intro u hu; simp at hu; subst hu; rfl) (by omega) (by unfold maxLen; omega) ?_; intro v1 w1 hown1 hb1 _ _)
          go_roundw
          case rel => exact ⟨k + 1, by omega, by go_num, own_cast hown1 (quoteTo_plain_len s k hlt H2.out) (quoteTo_plain s k hlt H2.out), hb1⟩
          case measure => simp [intOf]; omega
    · obtain rfl : k = s.size := by omega
      go_wp2_with ((at_builtin; refine app1 rfl _ _ 22 rfl Tryd.underlying22 infoByte rfl (by decide) hown hb rfl rfl rfl (by intro u hu; simp at hu; subst hu; rfl) (by omega) (by unfold maxLen; omega) ?_; intro v1 w1 hown1 hb1 _ _); obtain ⟨g, cap, rfl, hg, hrow⟩ := own_shape hown1; have hcv := conv_back w1 g cap (quoteL s) ((quoteTo s s.size).length + 1) (by rw [← quoteTo_size]; simp) (by rw [← quoteTo_size]; simpa [byteV] using hrow))
      go_ret
      exact ⟨rfl, hb1⟩
set_option maxHeartbeats 800000 in
theorem impl_quote (s : ByteArray) (w : World) (hs : s.size ≤ 1000000) : Calls Tryd.prog 111 #[.string s] w fun e w' => e = .returned (.string (quoteS s)) ∧ Below w.heap.size w w' := by
  go_enter Tryd.func111, Tryd.ntmps111
  go_wp2
  go_loopw [3, 8] (fun v i wr => ∃ k : Nat, k ≤ s.size ∧ i = .int .i64 k ∧ wr.ownsRow w.heap.size 5 1 v (quoteTo s k).length ((quoteTo s k).map byteV) ∧ Below w.heap.size w wr) (fun _ i _ => s.size - (intOf i).toNat)
  case atStart => exact ⟨0, Nat.zero_le _, rfl, World.ownsRow_lit w _ 1 (Nat.le_refl _) (by unfold maxLen; omega) rfl, below_alloc (Below.refl _ _) _⟩
  case round =>
    obtain ⟨k, hk, rfl, hown, hb⟩ := hrel
    have hql := quoteTo_len s k
    by_cases hlt : k < s.size
    · by_cases h1 : s[k].toNat = 34
      · have g1 : ((s[k].toNat : Int) == 34) = true := by simp; omega
        have H1 := Lib.hid h1
        clear h1
        go_wp2_with (first | (at_builtin; refine app1 rfl _ _ 22 rfl Tryd.underlying22 infoByte rfl (by decide) hown1 hb1 rfl rfl rfl (by intro u hu; simp at hu; subst hu; rfl) (by omega) (by unfold maxLen; omega) ?_; intro v2 w2 hown2 hb2 _ _) | (at_builtin; refine app1 rfl _ _ 22 rfl Tryd.underlying22 infoByte rfl (by decide) hown hb rfl rfl rfl (by intro u hu; simp at hu; subst hu; rfl) (by omega) (by unfold maxLen; omega) ?_; intro v1 w1 hown1 hb1 _ _))
        go_roundw
        case rel => exact ⟨k + 1, by omega, by go_num, own_cast hown2 (quoteTo_esc_len s k hlt (.inl H1.out)) (quoteTo_esc s k hlt (.inl H1.out)), hb2⟩
        case measure => simp [intOf]; omega
      · have g1 : ((s[k].toNat : Int) == 34) = false := by simp; omega
        by_cases h2 : s[k].toNat = 92
        · have g2 : ((s[k].toNat : Int) == 92) = true := by simp; omega
          have H2 := Lib.hid h2
          clear h1 h2
          go_wp2_with (first | (at_builtin; refine app1 rfl _ _ 22 rfl Tryd.underlying22 infoByte rfl (by decide) hown1 hb1 rfl rfl rfl (by intro u hu; simp at hu; subst hu; rfl) (by omega) (by unfold maxLen; omega) ?_; intro v2 w2 hown2 hb2 _ _) | (at_builtin; refine app1 rfl _ _ 22 rfl Tryd.underlying22 infoByte rfl (by decide) hown hb rfl rfl rfl (by intro u hu; simp at hu; subst hu; rfl) (by omega) (by unfold maxLen; omega) ?_; intro v1 w1 hown1 hb1 _ _))
          go_roundw
          case rel => exact ⟨k + 1, by omega, by go_num, own_cast hown2 (quoteTo_esc_len s k hlt (.inr H2.out)) (quoteTo_esc s k hlt (.inr H2.out)), hb2⟩
          case measure => simp [intOf]; omega
        · have g2 : ((s[k].toNat : Int) == 92) = false := by simp; omega
          have H2 := Lib.hid (show ¬ (s[k].toNat = 34 ∨ s[k].toNat = 92) from fun h => h.elim h1 h2)
          clear h1 h2
          go_wp2_with (at_builtin; refine app1 rfl _ _ 22 rfl Tryd.underlying22 infoByte rfl (by decide) hown hb rfl rfl rfl (by intro u hu; simp at hu; subst hu; rfl) (by omega) (by unfold maxLen; omega) ?_; intro v1 w1 hown1 hb1 _ _)
          go_roundw
          case rel => exact ⟨k + 1, by omega, by go_num, own_cast hown1 (quoteTo_plain_len s k hlt H2.out) (quoteTo_plain s k hlt H2.out), hb1⟩
          case measure => simp [intOf]; omega
    · obtain rfl : k = s.size := by omega
      go_wp2_with ((at_builtin; refine app1 rfl _ _ 22 rfl Tryd.underlying22 infoByte rfl (by decide) hown hb rfl rfl rfl (by intro u hu; simp at hu; subst hu; rfl) (by omega) (by unfold maxLen; omega) ?_; intro v1 w1 hown1 hb1 _ _); obtain ⟨g, cap, rfl, hg, hrow⟩ := own_shape hown1; have hcv := conv_back w1 g cap (quoteL s) ((quoteTo s s.size).length + 1) (by rw [← quoteTo_size]; simp) (by rw [← quoteTo_size]; simpa [byteV] using hrow))
      go_ret
      exact ⟨rfl, hb1⟩

theorem impl_isPlain (c : Int) (w : World) : Calls Tryd.prog 208 #[.int .u8 c] w fun e w' => e = .returned (.bool (plainB c)) ∧ w = w' := by
  go_enter Tryd.func208, Tryd.ntmps208
  go_wp2
  all_goals (go_ret; exact ⟨ret_bool (by first | (simp_all [plainB]; done) | (rw [Bool.eq_iff_iff]; simp_all [plainB]; omega)), rfl⟩)
theorem spec_l2Plain (c : Int) (w : World) : Calls Tryd.prog 207 #[.int .u8 c] w fun e w' => e = .returned (.bool (plainB c)) ∧ w = w' := by
  go_enter Tryd.func207, Tryd.ntmps207
  go_wp2
  all_goals (go_ret; exact ⟨ret_bool (by first | (simp_all [plainB]; done) | (rw [Bool.eq_iff_iff]; simp_all [plainB]; omega)), rfl⟩)
set_option maxHeartbeats 800000 in
theorem areBytes_plain (s : ByteArray) (lo hi : Int) (w : World) (hs : s.size ≤ 9223372036854775807) : Calls Tryd.prog 75 #[.string s, .int .i64 lo, .int .i64 hi, .func (.func 208) #[] #[]] w fun e w' => e = .returned (.bool (inB s.size lo hi && allB plainB s)) ∧ w = w' := by
  by_cases hb : inB s.size lo hi = true
  · obtain ⟨h1, h2⟩ := inB_iff.1 hb
    have hfin : ∀ v, allB plainB s = v → (inB s.size lo hi && allB plainB s) = v := fun v h => by rw [hb, h]; rfl
    have Hfin := Lib.hid hfin
    clear hfin hb
    go_enter Tryd.func75, Tryd.ntmps75
    go_wp2
    go_loop [22] (fun i => ∃ k : Nat, k ≤ s.size ∧ i = .int .i64 k ∧ allTo plainB s k = true) (fun i => s.size - (intOf i).toNat)
    case atStart => exact ⟨0, Nat.zero_le _, rfl, rfl⟩
    case round =>
      obtain ⟨k, hk, rfl, hall⟩ := hrel
      have Hall := Lib.hid hall
      clear hall
      by_cases hlt : k < s.size
      · have hsn := Lib.hid (allTo_succ plainB s k hlt)
        by_cases hp : plainB (s[k].toNat : Int) = true
        · go_wp2_with (go_at_call 208; ((with_reducible refine (impl_isPlain _ _).mono ?_); rintro e w' ⟨rfl, rfl⟩))
          go_round
          case rel => exact ⟨k + 1, by omega, by go_num, by rw [hsn.out, Hall.out, hp]; rfl⟩
          case measure => simp [intOf]; omega
        · simp only [Bool.not_eq_true] at hp
          go_wp2_with (go_at_call 208; ((with_reducible refine (impl_isPlain _ _).mono ?_); rintro e w' ⟨rfl, rfl⟩))
          go_ret
          exact ⟨ret_bool (Hfin.out _ (allB_false _ _ _ hlt hp)).symm, rfl⟩
      · have hk' : k = s.size := by omega
        have Hk := Lib.hid hk'
        clear hk'
        go_wp2
        go_ret
        refine ⟨ret_bool (Hfin.out _ ?_).symm, rfl⟩
        have h := Hall.out
        rw [Hk.out, allTo_size] at h
        exact h
  · simp only [Bool.not_eq_true] at hb
    have h1 := inB_not.1 hb
    by_cases h2 : (s.size : Int) < lo
    all_goals
      go_enter Tryd.func75, Tryd.ntmps75
      go_wp2
      all_goals
        go_ret
        exact ⟨ret_bool (by first | rfl | (rw [hb]; rfl)), rfl⟩
theorem impl_arePlain (s : ByteArray) (w : World) (hs : s.size ≤ 9223372036854775807) : Calls Tryd.prog 163 #[.string s] w fun e w' => e = .returned (.bool (allB plainB s)) ∧ w = w' := by
  go_enter Tryd.func163, Tryd.ntmps163
  go_wp2_with (go_at_call 75; ((with_reducible refine (areBytes_plain _ _ _ _ hs).mono ?_); rintro e w' ⟨rfl, rfl⟩))
  go_ret
  exact ⟨ret_bool (by simp [inB]), rfl⟩
theorem spec_l2PlainText (s : ByteArray) (w : World) (hs : s.size ≤ 9223372036854775807) : Calls Tryd.prog 160 #[.string s] w fun e w' => e = .returned (.bool (allB plainB s)) ∧ w = w' := by
  have hfin : ∀ v, allB plainB s = v → Ending.returned (.bool v) = .returned (.bool (allB plainB s)) := fun v h => by rw [h]
  have Hfin := Lib.hid hfin
  clear hfin
  go_enter Tryd.func160, Tryd.ntmps160
  go_wp2
  go_loop [3] (fun i => ∃ k : Nat, k ≤ s.size ∧ i = .int .i64 k ∧ allTo plainB s k = true) (fun i => s.size - (intOf i).toNat)
  case atStart => exact ⟨0, Nat.zero_le _, rfl, rfl⟩
  case round =>
    obtain ⟨k, hk, rfl, hall⟩ := hrel
    have Hall := Lib.hid hall
    clear hall
    by_cases hlt : k < s.size
    · have hsn := Lib.hid (allTo_succ plainB s k hlt)
      by_cases hp : plainB (s[k].toNat : Int) = true
      · go_wp2_with (go_at_call 207; ((with_reducible refine (spec_l2Plain _ _).mono ?_); rintro e w' ⟨rfl, rfl⟩))
        go_round
        case rel => exact ⟨k + 1, by omega, by go_num, by rw [hsn.out, Hall.out, hp]; rfl⟩
        case measure => simp [intOf]; omega
      · simp only [Bool.not_eq_true] at hp
        go_wp2_with (go_at_call 207; ((with_reducible refine (spec_l2Plain _ _).mono ?_); rintro e w' ⟨rfl, rfl⟩))
        go_ret
        exact ⟨Hfin.out _ (allB_false _ _ _ hlt hp), rfl⟩
    · have hk' : k = s.size := by omega
      have Hk := Lib.hid hk'
      clear hk'
      go_wp2
      go_ret
      refine ⟨Hfin.out _ ?_, rfl⟩
      have h := Hall.out
      rw [Hk.out, allTo_size] at h
      exact h

def quoteR (s : ByteArray) : Int × ByteArray := if s.size ≤ 1000 then (if allB plainB s = true then (0, quoteS s) else (5, ByteArray.empty)) else (2, ByteArray.empty)
end Go.Proofs.YtklnccoknldkcaaDoor
