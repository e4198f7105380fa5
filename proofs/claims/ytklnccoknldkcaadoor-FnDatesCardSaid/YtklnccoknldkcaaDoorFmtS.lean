/- The text of a date: the second text. -/
import Derived.Test.YtklnccoknldkcaaDoorFmtP
import Derived.Test.YtklnccoknldkcaaDoorQuietB
import Derived.Test.YtklnccoknldkcaaDoorFrame
import Derived.Deep.DeepCutAuto
namespace Go.Proofs.YtklnccoknldkcaaDoor
open Go.RowKit
set_option linter.unusedSimpArgs false
set_option linter.unusedVariables false

theorem fmt_spec (wd m y d h i s : Nat) (hy : 1000 ≤ y) (hy2 : y ≤ 9999) : daysA.extract (3 * wd) (3 * wd + 3) ++ ⟨#[44, 32]⟩ ++ two d ++ ⟨#[32]⟩ ++ monthsA.extract (3 * m - 3) (3 * m) ++ ⟨#[32]⟩ ++ two (y / 100) ++ two y ++ ⟨#[32]⟩ ++ two h ++ ⟨#[58]⟩ ++ two i ++ ⟨#[58]⟩ ++ two s ++ ⟨#[32, 71, 77, 84]⟩ = fmtT wd m y d h i s := by
  unfold fmtT
  rw [← two_year y hy hy2]
  simp only [ByteArray.append_assoc]
set_option maxRecDepth 100000 in
set_option maxHeartbeats 6400000 in
theorem spec_l3Format (n : Int) (h1 : 0 ≤ n) (h2 : n ≤ 253402300799) (w : World) : Calls Tryd.prog 169 #[.int .i64 n] w fun e w' => e = .returned (.string (fmtS n)) ∧ Below w.heap.size w w' := by
  obtain ⟨wd, m, y, d, h, i, s, q1, q2, q3, q4, q5, q6, q7, ⟨b1, b2, b3, b4, b5, b6, b7, b8, b9, b10⟩, ef⟩ := parts h1 h2
  have hat := fun W => spec_l3At n h1 h2 W
  rw [q2, q3, q4, q5, q6, q7] at hat
  have Hat := Lib.hid hat
  have E := Lib.hid ((fmt_spec wd m y d h i s (by omega) b5).trans ef.symm)
  have hd1 : 0 ≤ n / 86400 := by omega
  have hd2 : n / 86400 ≤ 2932896 := by omega
  clear hat q2 q3 q4 q5 q6 q7 ef
  go_enter Tryd.func169, Tryd.ntmps169
  go_upto_region 5 with (go_at_call 106; ((with_reducible refine (Hat.out _).mono ?_); rintro e w' ⟨rfl, hb⟩; obtain ⟨hc, hf⟩ := bcell hb; have hz := hb.size; (try simp only [World.size_alloc, World.size_setCell, World.size_drew] at hz); obtain ⟨hlt, hle, hn1, hn2, hn3, hn4⟩ := bsize hb; (try simp only [World.size_alloc, World.size_setCell, World.size_drew] at hlt hle hn1 hn2 hn3 hn4); (try have hr0 : w.heap.size < w'.heap.size := by omega); (try have hr1 : w.heap.size + 1 < w'.heap.size := by omega); (try have hs0 : wS.heap.size < w'.heap.size := by omega); (try have hs1 : wG.heap.size < w'.heap.size := by omega)))
  have bk : (w'.alloc (.cells #[.int .i64 (y : Int), .int .i64 (m : Int), .int .i64 (d : Int), .int .i64 (h : Int), .int .i64 (i : Int), .int .i64 (s : Int)] 46)).heap[w'.heap.size]? = some (.cells #[.int .i64 (y : Int), .int .i64 (m : Int), .int .i64 (d : Int), .int .i64 (h : Int), .int .i64 (i : Int), .int .i64 (s : Int)] 46 (0, 0)) := blk_new _ _
  have belV : Below w.heap.size w (w'.alloc (.cells #[.int .i64 (y : Int), .int .i64 (m : Int), .int .i64 (d : Int), .int .i64 (h : Int), .int .i64 (i : Int), .int .i64 (s : Int)] 46)) := by exact (by first | (with_reducible exact Below.refl _ _) | ((repeat' (first | (with_reducible exact Below.refl _ _) | (with_reducible assumption) | (with_reducible refine below_alloc ?_ _) | (with_reducible refine Below.drew ?_) | (with_reducible refine below_drewN ?_ _) | (with_reducible refine Below.setCell ?_ ?_ _) | refine below_then ?_ (by with_reducible assumption))) <;> (first | omega | (simp; done) | (simp; omega))))
  generalize (w'.alloc (.cells #[.int .i64 (y : Int), .int .i64 (m : Int), .int .i64 (d : Int), .int .i64 (h : Int), .int .i64 (i : Int), .int .i64 (s : Int)] 46)) = V at *
  generalize w'.heap.size = b at *
  have hG : ∀ p : Gb V, p.w.heap[b]? = some (.cells #[.int .i64 (y : Int), .int .i64 (m : Int), .int .i64 (d : Int), .int .i64 (h : Int), .int .i64 (i : Int), .int .i64 (s : Int)] 46 (0, 0)) := fun p => blk_then bk p.h
  have g0 : ∀ p : Gb V, p.w.cell? ⟨b, 0, none⟩ = some (.int .i64 (y : Int)) := fun p => by simp [World.cell?, hG p]
  have g1 : ∀ p : Gb V, p.w.cell? ⟨b, 1, none⟩ = some (.int .i64 (m : Int)) := fun p => by simp [World.cell?, hG p]
  have g2 : ∀ p : Gb V, p.w.cell? ⟨b, 2, none⟩ = some (.int .i64 (d : Int)) := fun p => by simp [World.cell?, hG p]
  have g3 : ∀ p : Gb V, p.w.cell? ⟨b, 3, none⟩ = some (.int .i64 (h : Int)) := fun p => by simp [World.cell?, hG p]
  have g4 : ∀ p : Gb V, p.w.cell? ⟨b, 4, none⟩ = some (.int .i64 (i : Int)) := fun p => by simp [World.cell?, hG p]
  have g5 : ∀ p : Gb V, p.w.cell? ⟨b, 5, none⟩ = some (.int .i64 (s : Int)) := fun p => by simp [World.cell?, hG p]
  clear hG bk hb hc hf
  have w1 : IntKind.i64.wrap (3 * (wd : Int)) = 3 * (wd : Int) := wrapi _ (by omega) (by omega)
  have w2 : IntKind.i64.wrap (3 * (wd : Int) + 3) = 3 * (wd : Int) + 3 := wrapi _ (by omega) (by omega)
  have w3 : IntKind.i64.wrap (3 * (m : Int)) = 3 * (m : Int) := wrapi _ (by omega) (by omega)
  have w4 : IntKind.i64.wrap (3 * (m : Int) - 3) = 3 * (m : Int) - 3 := wrapi _ (by omega) (by omega)
  have w5 : IntKind.i64.wrap ((y : Int) / 100) = (y : Int) / 100 := wrapi _ (by omega) (by omega)
  have c1 : (0 : Int) ≤ 3 * (wd : Int) := by omega
  have c2 : 3 * (wd : Int) ≤ 3 * (wd : Int) + 3 := by omega
  have c3 : 3 * (wd : Int) + 3 ≤ 21 := by omega
  have c4 : (0 : Int) ≤ 3 * (m : Int) - 3 := by omega
  have c5 : 3 * (m : Int) - 3 ≤ 3 * (m : Int) := by omega
  have c6 : 3 * (m : Int) ≤ 36 := by omega
  have c7 : (3 : Int) ≤ 3 * (m : Int) := by omega
  have c8 : (1 : Int) ≤ (m : Int) := by omega
  have c9 : 0 < m := by omega
  have t1 : (3 * (wd : Int)).toNat = 3 * wd := by omega
  have t2 : (3 * (wd : Int) + 3).toNat = 3 * wd + 3 := by omega
  have t3 : (3 * (m : Int) - 3).toNat = 3 * m - 3 := by omega
  have t4 : (3 * (m : Int)).toNat = 3 * m := by omega
  have z1 := days_size b1
  have z2 := months_size b2 b3
  have z3 := two_size
  refine wp_region_below (by kernel_rfl) (by kernel_rfl) ?_
  repeat (quiet_step (first
    | (go_at_call 211; with_reducible exact gb_call (spec_l3Two _ d rfl (by omega) _))
    | (go_at_call 211; with_reducible exact gb_call (spec_l3Two _ (y / 100) (by omega) (by omega) _))
    | (go_at_call 211; with_reducible exact gb_call (spec_l3Two _ y rfl (by omega) _))
    | (go_at_call 211; with_reducible exact gb_call (spec_l3Two _ h rfl (by omega) _))
    | (go_at_call 211; with_reducible exact gb_call (spec_l3Two _ i rfl (by omega) _))
    | (go_at_call 211; with_reducible exact gb_call (spec_l3Two _ s rfl (by omega) _))))
  refine wpQuiet_nil ?_
  intro _ hw'
  obtain ⟨pz, rfl⟩ := hw'
  have belz := belV.trans (pz.h.mono belV.size)
  go_wp2
  go_ret
  exact ⟨by rw [← E.out]; rfl, belz⟩
end Go.Proofs.YtklnccoknldkcaaDoor
