/- Quotes: both texts write the same bytes. -/
import Derived.Test.YtcnjbifdlieboaaText
import Derived.Test.YtcnjbifdlieboaaMem
import Derived.Test.YtcnjbifdlieboaaLower
namespace Go.Proofs.Ytcnjbifdlieboaa
open Go.RowKit
set_option linter.unusedSimpArgs false
set_option linter.unusedVariables false

theorem quoteTo_esc (s : ByteArray) (k : Nat) (h : k < s.size) (hb : s[k].toNat = 34 ∨ s[k].toNat = 92) : (quoteTo s k).map byteV ++ [.int .u8 92] ++ [.int .u8 (s[k].toNat : Int)] = (quoteTo s (k + 1)).map byteV := by
  rw [quoteTo_succ s k h, escB, if_pos hb]; simp [byteV]
theorem quoteTo_plain (s : ByteArray) (k : Nat) (h : k < s.size) (hb : ¬ (s[k].toNat = 34 ∨ s[k].toNat = 92)) : (quoteTo s k).map byteV ++ [.int .u8 (s[k].toNat : Int)] = (quoteTo s (k + 1)).map byteV := by
  rw [quoteTo_succ s k h, escB, if_neg hb]; simp [byteV]
theorem quoteTo_esc_len (s : ByteArray) (k : Nat) (h : k < s.size) (hb : s[k].toNat = 34 ∨ s[k].toNat = 92) : (quoteTo s k).length + 1 + 1 = (quoteTo s (k + 1)).length := by
  rw [quoteTo_succ s k h, escB, if_pos hb]; simp
theorem quoteTo_plain_len (s : ByteArray) (k : Nat) (h : k < s.size) (hb : ¬ (s[k].toNat = 34 ∨ s[k].toNat = 92)) : (quoteTo s k).length + 1 = (quoteTo s (k + 1)).length := by
  rw [quoteTo_succ s k h, escB, if_neg hb]; simp

set_option maxHeartbeats 800000 in
theorem spec_l2Quote (s : ByteArray) (w : World) (hs : s.size ≤ 1000000) : Calls Try.prog 33 #[.string s] w fun e w' => e = .returned (.string (quoteS s)) ∧ Below w.heap.size w w' := by
  go_enter Try.func33, Try.ntmps33
  go_wp2
  go_loopw [3, 4] (fun v i wr => ∃ k : Nat, k ≤ s.size ∧ i = .int .i64 k ∧ wr.ownsRow w.heap.size 5 1 v (quoteTo s k).length ((quoteTo s k).map byteV) ∧ Below w.heap.size w wr) (fun _ i _ => s.size - (intOf i).toNat)
  case atStart => exact ⟨0, Nat.zero_le _, rfl, World.ownsRow_lit w _ 1 (Nat.le_refl _) (by unfold maxLen; omega) rfl, below_alloc (Below.refl _ _) _⟩
  case round =>
    obtain ⟨k, hk, rfl, hown, hb⟩ := hrel
    have hql := quoteTo_len s k
    by_cases hlt : k < s.size
    · by_cases h1 : s[k].toNat = 34
      · have g1 : ((s[k].toNat : Int) == 34) = true := by simp; omega
        have H1 := Lib.hid h1
        clear h1
        go_wp2_with (first | (at_builtin; refine app1 rfl _ _ 22 rfl Try.underlying22 infoByte rfl (by decide) hown1 hb1 rfl rfl rfl (by intro u hu; simp at hu; subst hu; rfl) (by omega) (by unfold maxLen; omega) ?_; intro v2 w2 hown2 hb2 _ _) | (at_builtin; refine app1 rfl _ _ 22 rfl Try.underlying22 infoByte rfl (by decide) hown hb rfl rfl rfl (by intro u hu; simp at hu; subst hu; rfl) (by omega) (by unfold maxLen; omega) ?_; intro v1 w1 hown1 hb1 _ _))
        go_roundw
        case rel => exact ⟨k + 1, by omega, by go_num, own_cast hown2 (quoteTo_esc_len s k hlt (.inl H1.out)) (quoteTo_esc s k hlt (.inl H1.out)), hb2⟩
        case measure => simp [intOf]; omega
      · have g1 : ((s[k].toNat : Int) == 34) = false := by simp; omega
        by_cases h2 : s[k].toNat = 92
        · have g2 : ((s[k].toNat : Int) == 92) = true := by simp; omega
          have H2 := Lib.hid h2
          clear h1 h2
          go_wp2_with (first | (at_builtin; refine app1 rfl _ _ 22 rfl Try.underlying22 infoByte rfl (by decide) hown1 hb1 rfl rfl rfl (by intro u hu; simp at hu; subst hu; rfl) (by omega) (by unfold maxLen; omega) ?_; intro v2 w2 hown2 hb2 _ _) | (at_builtin; refine app1 rfl _ _ 22 rfl Try.underlying22 infoByte rfl (by decide) hown hb rfl rfl rfl (by intro u hu; simp at hu; subst hu; rfl) (by omega) (by unfold maxLen; omega) ?_; intro v1 w1 hown1 hb1 _ _))
          go_roundw
          case rel => exact ⟨k + 1, by omega, by go_num, own_cast hown2 (quoteTo_esc_len s k hlt (.inr H2.out)) (quoteTo_esc s k hlt (.inr H2.out)), hb2⟩
          case measure => simp [intOf]; omega
        · have g2 : ((s[k].toNat : Int) == 92) = false := by simp; omega
          have H2 := Lib.hid (show ¬ (s[k].toNat = 34 ∨ s[k].toNat = 92) from fun h => h.elim h1 h2)
          clear h1 h2
          go_wp2_with (at_builtin; refine app1 rfl _ _ 22 rfl Try.underlying22 infoByte rfl (by decide) hown hb rfl rfl rfl (by intro u hu; simp at hu; subst hu; rfl) (by omega) (by unfold maxLen; omega) ?_; intro v1 w1 hown1 hb1 _ _)
          go_roundw
          case rel => exact ⟨k + 1, by omega, by go_num, own_cast hown1 (quoteTo_plain_len s k hlt H2.out) (quoteTo_plain s k hlt H2.out), hb1⟩
          case measure => simp [intOf]; omega
    · obtain rfl : k = s.size := by omega
      go_wp2_with ((at_builtin; refine app1 rfl _ _ 22 rfl Try.underlying22 infoByte rfl (by decide) hown hb rfl rfl rfl (by intro u hu; simp at hu; subst hu; rfl) (by omega) (by unfold maxLen; omega) ?_; intro v1 w1 hown1 hb1 _ _); obtain ⟨g, cap, rfl, hg, hrow⟩ := own_shape hown1; have hcv := conv_back w1 g cap (quoteL s) ((quoteTo s s.size).length + 1) (by rw [← quoteTo_size]; simp) (by rw [← quoteTo_size]; simpa [byteV] using hrow))
      go_ret
      exact ⟨rfl, hb1⟩
set_option maxHeartbeats 800000 in
theorem impl_quote (s : ByteArray) (w : World) (hs : s.size ≤ 1000000) : Calls Try.prog 32 #[.string s] w fun e w' => e = .returned (.string (quoteS s)) ∧ Below w.heap.size w w' := by
  go_enter Try.func32, Try.ntmps32
  go_wp2
  go_loopw [3, 8] (fun v i wr => ∃ k : Nat, k ≤ s.size ∧ i = .int .i64 k ∧ wr.ownsRow w.heap.size 5 1 v (quoteTo s k).length ((quoteTo s k).map byteV) ∧ Below w.heap.size w wr) (fun _ i _ => s.size - (intOf i).toNat)
  case atStart => exact ⟨0, Nat.zero_le _, rfl, World.ownsRow_lit w _ 1 (Nat.le_refl _) (by unfold maxLen; omega) rfl, below_alloc (Below.refl _ _) _⟩
  case round =>
    obtain ⟨k, hk, rfl, hown, hb⟩ := hrel
    have hql := quoteTo_len s k
    by_cases hlt : k < s.size
    · by_cases h1 : s[k].toNat = 34
      · have g1 : ((s[k].toNat : Int) == 34) = true := by simp; omega
        have H1 := Lib.hid h1
        clear h1
        go_wp2_with (first | (at_builtin; refine app1 rfl _ _ 22 rfl Try.underlying22 infoByte rfl (by decide) hown1 hb1 rfl rfl rfl (by intro u hu; simp at hu; subst hu; rfl) (by omega) (by unfold maxLen; omega) ?_; intro v2 w2 hown2 hb2 _ _) | (at_builtin; refine app1 rfl _ _ 22 rfl Try.underlying22 infoByte rfl (by decide) hown hb rfl rfl rfl (by intro u hu; simp at hu; subst hu; rfl) (by omega) (by unfold maxLen; omega) ?_; intro v1 w1 hown1 hb1 _ _))
        go_roundw
        case rel => exact ⟨k + 1, by omega, by go_num, own_cast hown2 (quoteTo_esc_len s k hlt (.inl H1.out)) (quoteTo_esc s k hlt (.inl H1.out)), hb2⟩
        case measure => simp [intOf]; omega
      · have g1 : ((s[k].toNat : Int) == 34) = false := by simp; omega
        by_cases h2 : s[k].toNat = 92
        · have g2 : ((s[k].toNat : Int) == 92) = true := by simp; omega
          have H2 := Lib.hid h2
          clear h1 h2
          go_wp2_with (first | (at_builtin; refine app1 rfl _ _ 22 rfl Try.underlying22 infoByte rfl (by decide) hown1 hb1 rfl rfl rfl (by intro u hu; simp at hu; subst hu; rfl) (by omega) (by unfold maxLen; omega) ?_; intro v2 w2 hown2 hb2 _ _) | (at_builtin; refine app1 rfl _ _ 22 rfl Try.underlying22 infoByte rfl (by decide) hown hb rfl rfl rfl (by intro u hu; simp at hu; subst hu; rfl) (by omega) (by unfold maxLen; omega) ?_; intro v1 w1 hown1 hb1 _ _))
          go_roundw
          case rel => exact ⟨k + 1, by omega, by go_num, own_cast hown2 (quoteTo_esc_len s k hlt (.inr H2.out)) (quoteTo_esc s k hlt (.inr H2.out)), hb2⟩
          case measure => simp [intOf]; omega
        · have g2 : ((s[k].toNat : Int) == 92) = false := by simp; omega
          have H2 := Lib.hid (show ¬ (s[k].toNat = 34 ∨ s[k].toNat = 92) from fun h => h.elim h1 h2)
          clear h1 h2
          go_wp2_with (at_builtin; refine app1 rfl _ _ 22 rfl Try.underlying22 infoByte rfl (by decide) hown hb rfl rfl rfl (by intro u hu; simp at hu; subst hu; rfl) (by omega) (by unfold maxLen; omega) ?_; intro v1 w1 hown1 hb1 _ _)
          go_roundw
          case rel => exact ⟨k + 1, by omega, by go_num, own_cast hown1 (quoteTo_plain_len s k hlt H2.out) (quoteTo_plain s k hlt H2.out), hb1⟩
          case measure => simp [intOf]; omega
    · obtain rfl : k = s.size := by omega
      go_wp2_with ((at_builtin; refine app1 rfl _ _ 22 rfl Try.underlying22 infoByte rfl (by decide) hown hb rfl rfl rfl (by intro u hu; simp at hu; subst hu; rfl) (by omega) (by unfold maxLen; omega) ?_; intro v1 w1 hown1 hb1 _ _); obtain ⟨g, cap, rfl, hg, hrow⟩ := own_shape hown1; have hcv := conv_back w1 g cap (quoteL s) ((quoteTo s s.size).length + 1) (by rw [← quoteTo_size]; simp) (by rw [← quoteTo_size]; simpa [byteV] using hrow))
      go_ret
      exact ⟨rfl, hb1⟩

theorem impl_isPlain (c : Int) (w : World) : Calls Try.prog 57 #[.int .u8 c] w fun e w' => e = .returned (.bool (plainB c)) ∧ w = w' := by
  go_enter Try.func57, Try.ntmps57
  go_wp2
  all_goals (go_ret; exact ⟨ret_bool (by first | (simp_all [plainB]; done) | (rw [Bool.eq_iff_iff]; simp_all [plainB]; omega)), rfl⟩)
theorem spec_l2Plain (c : Int) (w : World) : Calls Try.prog 59 #[.int .u8 c] w fun e w' => e = .returned (.bool (plainB c)) ∧ w = w' := by
  go_enter Try.func59, Try.ntmps59
  go_wp2
  all_goals (go_ret; exact ⟨ret_bool (by first | (simp_all [plainB]; done) | (rw [Bool.eq_iff_iff]; simp_all [plainB]; omega)), rfl⟩)
set_option maxHeartbeats 800000 in
theorem areBytes_plain (s : ByteArray) (lo hi : Int) (w : World) (hs : s.size ≤ 9223372036854775807) : Calls Try.prog 56 #[.string s, .int .i64 lo, .int .i64 hi, .func (.func 57) #[] #[]] w fun e w' => e = .returned (.bool (inB s.size lo hi && allB plainB s)) ∧ w = w' := by
  by_cases hb : inB s.size lo hi = true
  · obtain ⟨h1, h2⟩ := inB_iff.1 hb
    have hfin : ∀ v, allB plainB s = v → (inB s.size lo hi && allB plainB s) = v := fun v h => by rw [hb, h]; rfl
    have Hfin := Lib.hid hfin
    clear hfin hb
    go_enter Try.func56, Try.ntmps56
    go_wp2
    go_loop [22] (fun i => ∃ k : Nat, k ≤ s.size ∧ i = .int .i64 k ∧ allTo plainB s k = true) (fun i => s.size - (intOf i).toNat)
    case atStart => exact ⟨0, Nat.zero_le _, rfl, rfl⟩
    case round =>
      obtain ⟨k, hk, rfl, hall⟩ := hrel
      have Hall := Lib.hid hall
      clear hall
      by_cases hlt : k < s.size
      · have hsn := Lib.hid (allTo_succ plainB s k hlt)
        by_cases hp : plainB (s[k].toNat : Int) = true
        · go_wp2_with (go_at_call 57; ((with_reducible refine (impl_isPlain _ _).mono ?_); rintro e w' ⟨rfl, rfl⟩))
          go_round
          case rel => exact ⟨k + 1, by omega, by go_num, by rw [hsn.out, Hall.out, hp]; rfl⟩
          case measure => simp [intOf]; omega
        · simp only [Bool.not_eq_true] at hp
          go_wp2_with (go_at_call 57; ((with_reducible refine (impl_isPlain _ _).mono ?_); rintro e w' ⟨rfl, rfl⟩))
          go_ret
          exact ⟨ret_bool (Hfin.out _ (allB_false _ _ _ hlt hp)).symm, rfl⟩
      · have hk' : k = s.size := by omega
        have Hk := Lib.hid hk'
        clear hk'
        go_wp2
        go_ret
        refine ⟨ret_bool (Hfin.out _ ?_).symm, rfl⟩
        have h := Hall.out
        rw [Hk.out, allTo_size] at h
        exact h
  · simp only [Bool.not_eq_true] at hb
    have h1 := inB_not.1 hb
    by_cases h2 : (s.size : Int) < lo
    all_goals
      go_enter Try.func56, Try.ntmps56
      go_wp2
      all_goals
        go_ret
        exact ⟨ret_bool (by first | rfl | (rw [hb]; rfl)), rfl⟩
theorem impl_arePlain (s : ByteArray) (w : World) (hs : s.size ≤ 9223372036854775807) : Calls Try.prog 31 #[.string s] w fun e w' => e = .returned (.bool (allB plainB s)) ∧ w = w' := by
  go_enter Try.func31, Try.ntmps31
  go_wp2_with (go_at_call 56; ((with_reducible refine (areBytes_plain _ _ _ _ hs).mono ?_); rintro e w' ⟨rfl, rfl⟩))
  go_ret
  exact ⟨ret_bool (by simp [inB]), rfl⟩
theorem spec_l2PlainText (s : ByteArray) (w : World) (hs : s.size ≤ 9223372036854775807) : Calls Try.prog 36 #[.string s] w fun e w' => e = .returned (.bool (allB plainB s)) ∧ w = w' := by
  have hfin : ∀ v, allB plainB s = v → Ending.returned (.bool v) = .returned (.bool (allB plainB s)) := fun v h => by rw [h]
  have Hfin := Lib.hid hfin
  clear hfin
  go_enter Try.func36, Try.ntmps36
  go_wp2
  go_loop [3] (fun i => ∃ k : Nat, k ≤ s.size ∧ i = .int .i64 k ∧ allTo plainB s k = true) (fun i => s.size - (intOf i).toNat)
  case atStart => exact ⟨0, Nat.zero_le _, rfl, rfl⟩
  case round =>
    obtain ⟨k, hk, rfl, hall⟩ := hrel
    have Hall := Lib.hid hall
    clear hall
    by_cases hlt : k < s.size
    · have hsn := Lib.hid (allTo_succ plainB s k hlt)
      by_cases hp : plainB (s[k].toNat : Int) = true
      · go_wp2_with (go_at_call 59; ((with_reducible refine (spec_l2Plain _ _).mono ?_); rintro e w' ⟨rfl, rfl⟩))
        go_round
        case rel => exact ⟨k + 1, by omega, by go_num, by rw [hsn.out, Hall.out, hp]; rfl⟩
        case measure => simp [intOf]; omega
      · simp only [Bool.not_eq_true] at hp
        go_wp2_with (go_at_call 59; ((with_reducible refine (spec_l2Plain _ _).mono ?_); rintro e w' ⟨rfl, rfl⟩))
        go_ret
        exact ⟨Hfin.out _ (allB_false _ _ _ hlt hp), rfl⟩
    · have hk' : k = s.size := by omega
      have Hk := Lib.hid hk'
      clear hk'
      go_wp2
      go_ret
      refine ⟨Hfin.out _ ?_, rfl⟩
      have h := Hall.out
      rw [Hk.out, allTo_size] at h
      exact h

def quoteR (s : ByteArray) : Int × ByteArray := if s.size ≤ 1000 then (if allB plainB s = true then (0, quoteS s) else (5, ByteArray.empty)) else (2, ByteArray.empty)
theorem spec_QuoteText (s : ByteArray) (w : World) (hs : s.size ≤ 9223372036854775807) : Calls Try.prog 14 #[.string s] w fun e w' => e = .returned (.agg #[.int .i64 (quoteR s).1, .string (quoteR s).2]) ∧ Below w.heap.size w w' := by
  by_cases h : s.size ≤ 1000
  · by_cases hp : allB plainB s = true
    · have e : quoteR s = (0, quoteS s) := by simp [quoteR, h, hp]
      rw [e]
      go_enter Try.func14, Try.ntmps14
      go_wp2_with (first | (go_at_call 36; ((with_reducible refine (spec_l2PlainText s _ hs).mono ?_); rintro e w' ⟨rfl, rfl⟩)) | (go_at_call 33; ((with_reducible refine (spec_l2Quote s _ (by omega)).mono ?_); rintro e w' ⟨rfl, hb⟩; obtain ⟨hc, hf⟩ := bcell hb; have hz := hb.size; (try simp only [World.size_alloc, World.size_setCell, World.size_drew] at hz); obtain ⟨hlt, hle, hn1, hn2, hn3, hn4⟩ := bsize hb; (try simp only [World.size_alloc, World.size_setCell, World.size_drew] at hlt hle hn1 hn2 hn3 hn4); (try have hr0 : w.heap.size < w'.heap.size := by omega); (try have hr1 : w.heap.size + 1 < w'.heap.size := by omega); (try have hs0 : wS.heap.size < w'.heap.size := by omega); (try have hs1 : wG.heap.size < w'.heap.size := by omega))))
      all_goals exact bodyPost_ret (by first | ((simp [results, Try.results14, go_sem]; try rfl); done) | ((simp [results, Try.results14, go_sem, *]; try rfl); done) | ((simp (maxDischargeDepth := 8) [results, Try.results14, go_sem, *]; try rfl); done)) rfl ⟨rfl, by first | (with_reducible rfl) | exact (by first | (with_reducible exact Below.refl _ _) | ((repeat' (first | (with_reducible exact Below.refl _ _) | (with_reducible assumption) | (with_reducible refine below_alloc ?_ _) | (with_reducible refine Below.drew ?_) | (with_reducible refine below_drewN ?_ _) | (with_reducible refine Below.setCell ?_ ?_ _) | refine below_then ?_ (by with_reducible assumption))) <;> (first | omega | (simp; done) | (simp; omega))))⟩
    · have e : quoteR s = (5, ByteArray.empty) := by simp [quoteR, h, hp]
      simp only [Bool.not_eq_true] at hp
      rw [e]
      go_enter Try.func14, Try.ntmps14
      go_wp2_with (go_at_call 36; ((with_reducible refine (spec_l2PlainText s _ hs).mono ?_); rintro e w' ⟨rfl, rfl⟩))
      all_goals exact bodyPost_ret (by first | ((simp [results, Try.results14, go_sem]; try rfl); done) | ((simp [results, Try.results14, go_sem, *]; try rfl); done) | ((simp (maxDischargeDepth := 8) [results, Try.results14, go_sem, *]; try rfl); done)) rfl ⟨rfl, by first | (with_reducible rfl) | exact (by first | (with_reducible exact Below.refl _ _) | ((repeat' (first | (with_reducible exact Below.refl _ _) | (with_reducible assumption) | (with_reducible refine below_alloc ?_ _) | (with_reducible refine Below.drew ?_) | (with_reducible refine below_drewN ?_ _) | (with_reducible refine Below.setCell ?_ ?_ _) | refine below_then ?_ (by with_reducible assumption))) <;> (first | omega | (simp; done) | (simp; omega))))⟩
  · have e : quoteR s = (2, ByteArray.empty) := by simp [quoteR, h]
    rw [e]
    go_enter Try.func14, Try.ntmps14
    go_wp2
    all_goals exact bodyPost_ret (by first | ((simp [results, Try.results14, go_sem]; try rfl); done) | ((simp [results, Try.results14, go_sem, *]; try rfl); done) | ((simp (maxDischargeDepth := 8) [results, Try.results14, go_sem, *]; try rfl); done)) rfl ⟨rfl, by first | (with_reducible rfl) | exact (by first | (with_reducible exact Below.refl _ _) | ((repeat' (first | (with_reducible exact Below.refl _ _) | (with_reducible assumption) | (with_reducible refine below_alloc ?_ _) | (with_reducible refine Below.drew ?_) | (with_reducible refine below_drewN ?_ _) | (with_reducible refine Below.setCell ?_ ?_ _) | refine below_then ?_ (by with_reducible assumption))) <;> (first | omega | (simp; done) | (simp; omega))))⟩
theorem impl_QuoteText (s : ByteArray) (w : World) (hs : s.size ≤ 9223372036854775807) : Calls Try.prog 11 #[.string s] w fun e w' => e = .returned (.agg #[.int .i64 (quoteR s).1, .string (quoteR s).2]) ∧ Below w.heap.size w w' := by
  by_cases h : s.size ≤ 1000
  · by_cases hp : allB plainB s = true
    · have e : quoteR s = (0, quoteS s) := by simp [quoteR, h, hp]
      rw [e]
      go_enter Try.func11, Try.ntmps11
      go_wp2_with (first | (go_at_call 31; ((with_reducible refine (impl_arePlain s _ hs).mono ?_); rintro e w' ⟨rfl, rfl⟩)) | (go_at_call 32; ((with_reducible refine (impl_quote s _ (by omega)).mono ?_); rintro e w' ⟨rfl, hb⟩; obtain ⟨hc, hf⟩ := bcell hb; have hz := hb.size; (try simp only [World.size_alloc, World.size_setCell, World.size_drew] at hz); obtain ⟨hlt, hle, hn1, hn2, hn3, hn4⟩ := bsize hb; (try simp only [World.size_alloc, World.size_setCell, World.size_drew] at hlt hle hn1 hn2 hn3 hn4); (try have hr0 : w.heap.size < w'.heap.size := by omega); (try have hr1 : w.heap.size + 1 < w'.heap.size := by omega); (try have hs0 : wS.heap.size < w'.heap.size := by omega); (try have hs1 : wG.heap.size < w'.heap.size := by omega))))
      all_goals exact bodyPost_ret (by first | ((simp [results, Try.results11, go_sem]; try rfl); done) | ((simp [results, Try.results11, go_sem, *]; try rfl); done) | ((simp (maxDischargeDepth := 8) [results, Try.results11, go_sem, *]; try rfl); done)) rfl ⟨rfl, by first | (with_reducible rfl) | exact (by first | (with_reducible exact Below.refl _ _) | ((repeat' (first | (with_reducible exact Below.refl _ _) | (with_reducible assumption) | (with_reducible refine below_alloc ?_ _) | (with_reducible refine Below.drew ?_) | (with_reducible refine below_drewN ?_ _) | (with_reducible refine Below.setCell ?_ ?_ _) | refine below_then ?_ (by with_reducible assumption))) <;> (first | omega | (simp; done) | (simp; omega))))⟩
    · have e : quoteR s = (5, ByteArray.empty) := by simp [quoteR, h, hp]
      simp only [Bool.not_eq_true] at hp
      rw [e]
      go_enter Try.func11, Try.ntmps11
      go_wp2_with (go_at_call 31; ((with_reducible refine (impl_arePlain s _ hs).mono ?_); rintro e w' ⟨rfl, rfl⟩))
      all_goals exact bodyPost_ret (by first | ((simp [results, Try.results11, go_sem]; try rfl); done) | ((simp [results, Try.results11, go_sem, *]; try rfl); done) | ((simp (maxDischargeDepth := 8) [results, Try.results11, go_sem, *]; try rfl); done)) rfl ⟨rfl, by first | (with_reducible rfl) | exact (by first | (with_reducible exact Below.refl _ _) | ((repeat' (first | (with_reducible exact Below.refl _ _) | (with_reducible assumption) | (with_reducible refine below_alloc ?_ _) | (with_reducible refine Below.drew ?_) | (with_reducible refine below_drewN ?_ _) | (with_reducible refine Below.setCell ?_ ?_ _) | refine below_then ?_ (by with_reducible assumption))) <;> (first | omega | (simp; done) | (simp; omega))))⟩
  · have e : quoteR s = (2, ByteArray.empty) := by simp [quoteR, h]
    rw [e]
    go_enter Try.func11, Try.ntmps11
    go_wp2
    all_goals exact bodyPost_ret (by first | ((simp [results, Try.results11, go_sem]; try rfl); done) | ((simp [results, Try.results11, go_sem, *]; try rfl); done) | ((simp (maxDischargeDepth := 8) [results, Try.results11, go_sem, *]; try rfl); done)) rfl ⟨rfl, by first | (with_reducible rfl) | exact (by first | (with_reducible exact Below.refl _ _) | ((repeat' (first | (with_reducible exact Below.refl _ _) | (with_reducible assumption) | (with_reducible refine below_alloc ?_ _) | (with_reducible refine Below.drew ?_) | (with_reducible refine below_drewN ?_ _) | (with_reducible refine Below.setCell ?_ ?_ _) | refine below_then ?_ (by with_reducible assumption))) <;> (first | omega | (simp; done) | (simp; omega))))⟩
end Go.Proofs.Ytcnjbifdlieboaa
