/- The text of a date: the program's own text, and the law. Its steps are printed by gen/fmt.py. -/
import Derived.Test.YtklnccoknldkcaaDoorFmtS
import Derived.Test.YtklnccoknldkcaaDoorRegRel
import Derived.Test.YtklnccoknldkcaaDoorTimes
namespace Go.Proofs.YtklnccoknldkcaaDoor
open Go.RowKit
set_option linter.unusedSimpArgs false
set_option linter.unusedVariables false

def monthsV : List Value := [.string ⟨#[74, 97, 110]⟩, .string ⟨#[70, 101, 98]⟩, .string ⟨#[77, 97, 114]⟩, .string ⟨#[65, 112, 114]⟩, .string ⟨#[77, 97, 121]⟩, .string ⟨#[74, 117, 110]⟩, .string ⟨#[74, 117, 108]⟩, .string ⟨#[65, 117, 103]⟩, .string ⟨#[83, 101, 112]⟩, .string ⟨#[79, 99, 116]⟩, .string ⟨#[78, 111, 118]⟩, .string ⟨#[68, 101, 99]⟩]
theorem monthsV_at (m : Nat) (h1 : 1 ≤ m) (h : m ≤ 12) : monthsV[m - 1]? = some (.string (monthsA.extract (3 * m - 3) (3 * m))) := by
  rcases (show m = 1 ∨ m = 2 ∨ m = 3 ∨ m = 4 ∨ m = 5 ∨ m = 6 ∨ m = 7 ∨ m = 8 ∨ m = 9 ∨ m = 10 ∨ m = 11 ∨ m = 12 by omega) with rfl | rfl | rfl | rfl | rfl | rfl | rfl | rfl | rfl | rfl | rfl | rfl <;> kernel_rfl
abbrev daysV : Array Value := #[.string ⟨#[83, 117, 110]⟩, .string ⟨#[77, 111, 110]⟩, .string ⟨#[84, 117, 101]⟩, .string ⟨#[87, 101, 100]⟩, .string ⟨#[84, 104, 117]⟩, .string ⟨#[70, 114, 105]⟩, .string ⟨#[83, 97, 116]⟩]
theorem daysV_at (k : Nat) (h : k ≤ 6) : daysV[k]? = some (.string (daysA.extract (3 * k) (3 * k + 3))) := by
  rcases (show k = 0 ∨ k = 1 ∨ k = 2 ∨ k = 3 ∨ k = 4 ∨ k = 5 ∨ k = 6 by omega) with rfl | rfl | rfl | rfl | rfl | rfl | rfl <;> kernel_rfl
theorem impl_monthNames (w : World) : Calls Tryd.prog 91 #[] w fun e w' => ∃ v, e = .returned v ∧ Below w.heap.size w w' ∧ ∃ g, v = .slice (some ⟨g, 0, none⟩) 12 12 ∧ RowAt w' g monthsV := by
  go_enter Tryd.func91, Tryd.ntmps91
  go_wp2
  go_ret
  exact ⟨_, rfl, below_alloc (Below.refl _ _) _, _, rfl, RowAt.of_alloc _ _ _ _ rfl⟩
theorem impl_weekday' (n : Int) (wd : Nat) (h1 : 0 ≤ n) (h2 : n ≤ 253402300799) (hw : (n / 86400 + 4) % 7 = (wd : Int)) (w : World) : Calls Tryd.prog 107 #[.int .i64 n] w fun e w' => e = .returned (.int .i64 (wd : Int)) ∧ w = w' := by
  have hd1 : 0 ≤ n / 86400 := by omega
  have hd2 : n / 86400 ≤ 2932896 := by omega
  have E := Lib.hid hw
  clear hw
  go_enter Tryd.func107, Tryd.ntmps107
  go_wp2
  go_ret
  exact ⟨by rw [← E.out]; rfl, rfl⟩
def fmtV (n : Int) (wd m y d h i s b3 b4 : Nat) : List Value := [.int .i64 (n : Int),
  .int .i64 (wd : Int),
  .pointer (some ⟨b3, wd, none⟩),
  .string (daysA.extract (3 * wd) (3 * wd + 3)),
  .string (daysA.extract (3 * wd) (3 * wd + 3) ++ ⟨#[44, 32]⟩),
  .pointer (some ⟨b4, 2, none⟩),
  .int .i64 (d : Int),
  .string (two d),
  .string (daysA.extract (3 * wd) (3 * wd + 3) ++ ⟨#[44, 32]⟩ ++ two d),
  .string (daysA.extract (3 * wd) (3 * wd + 3) ++ ⟨#[44, 32]⟩ ++ two d ++ ⟨#[32]⟩),
  undef,
  .pointer (some ⟨b4, 1, none⟩),
  .int .i64 (m : Int),
  .int .i64 ((m : Int) - 1),
  undef,
  .string (monthsA.extract (3 * m - 3) (3 * m)),
  .string (daysA.extract (3 * wd) (3 * wd + 3) ++ ⟨#[44, 32]⟩ ++ two d ++ ⟨#[32]⟩ ++ monthsA.extract (3 * m - 3) (3 * m)),
  .string (daysA.extract (3 * wd) (3 * wd + 3) ++ ⟨#[44, 32]⟩ ++ two d ++ ⟨#[32]⟩ ++ monthsA.extract (3 * m - 3) (3 * m) ++ ⟨#[32]⟩),
  .pointer (some ⟨b4, 0, none⟩),
  .int .i64 (y : Int),
  .string (decS (y : Int)),
  .string (daysA.extract (3 * wd) (3 * wd + 3) ++ ⟨#[44, 32]⟩ ++ two d ++ ⟨#[32]⟩ ++ monthsA.extract (3 * m - 3) (3 * m) ++ ⟨#[32]⟩ ++ decS (y : Int)),
  .string (daysA.extract (3 * wd) (3 * wd + 3) ++ ⟨#[44, 32]⟩ ++ two d ++ ⟨#[32]⟩ ++ monthsA.extract (3 * m - 3) (3 * m) ++ ⟨#[32]⟩ ++ decS (y : Int) ++ ⟨#[32]⟩),
  .pointer (some ⟨b4, 3, none⟩),
  .int .i64 (h : Int),
  .string (two h),
  .string (daysA.extract (3 * wd) (3 * wd + 3) ++ ⟨#[44, 32]⟩ ++ two d ++ ⟨#[32]⟩ ++ monthsA.extract (3 * m - 3) (3 * m) ++ ⟨#[32]⟩ ++ decS (y : Int) ++ ⟨#[32]⟩ ++ two h),
  .string (daysA.extract (3 * wd) (3 * wd + 3) ++ ⟨#[44, 32]⟩ ++ two d ++ ⟨#[32]⟩ ++ monthsA.extract (3 * m - 3) (3 * m) ++ ⟨#[32]⟩ ++ decS (y : Int) ++ ⟨#[32]⟩ ++ two h ++ ⟨#[58]⟩),
  .pointer (some ⟨b4, 4, none⟩),
  .int .i64 (i : Int),
  .string (two i),
  .string (daysA.extract (3 * wd) (3 * wd + 3) ++ ⟨#[44, 32]⟩ ++ two d ++ ⟨#[32]⟩ ++ monthsA.extract (3 * m - 3) (3 * m) ++ ⟨#[32]⟩ ++ decS (y : Int) ++ ⟨#[32]⟩ ++ two h ++ ⟨#[58]⟩ ++ two i),
  .string (daysA.extract (3 * wd) (3 * wd + 3) ++ ⟨#[44, 32]⟩ ++ two d ++ ⟨#[32]⟩ ++ monthsA.extract (3 * m - 3) (3 * m) ++ ⟨#[32]⟩ ++ decS (y : Int) ++ ⟨#[32]⟩ ++ two h ++ ⟨#[58]⟩ ++ two i ++ ⟨#[58]⟩),
  .pointer (some ⟨b4, 5, none⟩),
  .int .i64 (s : Int),
  .string (two s),
  .string (daysA.extract (3 * wd) (3 * wd + 3) ++ ⟨#[44, 32]⟩ ++ two d ++ ⟨#[32]⟩ ++ monthsA.extract (3 * m - 3) (3 * m) ++ ⟨#[32]⟩ ++ decS (y : Int) ++ ⟨#[32]⟩ ++ two h ++ ⟨#[58]⟩ ++ two i ++ ⟨#[58]⟩ ++ two s),
  .string (daysA.extract (3 * wd) (3 * wd + 3) ++ ⟨#[44, 32]⟩ ++ two d ++ ⟨#[32]⟩ ++ monthsA.extract (3 * m - 3) (3 * m) ++ ⟨#[32]⟩ ++ decS (y : Int) ++ ⟨#[32]⟩ ++ two h ++ ⟨#[58]⟩ ++ two i ++ ⟨#[58]⟩ ++ two s ++ ⟨#[32, 71, 77, 84]⟩),
  .string (daysA.extract (3 * wd) (3 * wd + 3) ++ ⟨#[44, 32]⟩ ++ two d ++ ⟨#[32]⟩ ++ monthsA.extract (3 * m - 3) (3 * m) ++ ⟨#[32]⟩ ++ decS (y : Int) ++ ⟨#[32]⟩ ++ two h ++ ⟨#[58]⟩ ++ two i ++ ⟨#[58]⟩ ++ two s ++ ⟨#[32, 71, 77, 84]⟩)]
def FmtF (n : Int) (wd m y d h i s b3 b4 : Nat) (k : Nat) (v : Value) (w : World) : Prop :=
  if k = 10 then ∃ g, v = .slice (some ⟨g, 0, none⟩) 12 12 ∧ RowAt w g monthsV
  else if k = 14 then ∃ g, v = .pointer (some ⟨g, m - 1, none⟩) ∧ RowAt w g monthsV
  else (fmtV n wd m y d h i s b3 b4)[k]? = some v
theorem FmtF_mono {n : Int} {wd m y d h i s b3 b4 : Nat} : ∀ (k : Nat) (v : Value) (w w' : World), FmtF n wd m y d h i s b3 b4 k v w → Below w.heap.size w w' → FmtF n wd m y d h i s b3 b4 k v w' := by
  intro k v w w' hF hb
  unfold FmtF at *
  split at hF
  · rename_i hk; rw [if_pos hk]; obtain ⟨g, e, hr⟩ := hF; exact ⟨g, e, hr.then hb⟩
  · rename_i hk
    rw [if_neg hk]
    split at hF
    · rename_i hk2; rw [if_pos hk2]; obtain ⟨g, e, hr⟩ := hF; exact ⟨g, e, hr.then hb⟩
    · rename_i hk2; rw [if_neg hk2]; exact hF
theorem base_tmp {ops : Array Oper} {t : Tmp} (hB : (ops.all fun o => o.dst != some t) = true) : ∀ (i : Nat) (oi : Oper) (d : Tmp), ops[i]? = some oi → oi.dst = some d → Operand.tmp t ≠ .tmp d := by
  intro i oi d hi hd e
  have h1 : oi ∈ ops := Array.mem_of_getElem? hi
  have h2 := Array.all_eq_true_iff_forall_mem.1 hB oi h1
  cases e
  simp [hd] at h2
def StepsFrom (P : Program) (ops : Array Oper) (F : Nat → Value → World → Prop) (a0 : Act) (w0 : World) : Nat → List Oper → Prop
  | _, [] => True
  | k, o :: r => StepOK P ops F a0 w0 k o ∧ StepsFrom P ops F a0 w0 (k + 1) r
theorem steps_of {P : Program} {ops : Array Oper} {F : Nat → Value → World → Prop} {a0 : Act} {w0 : World} : ∀ (l : List Oper) (k : Nat), StepsFrom P ops F a0 w0 k l → ∀ i o, l[i]? = some o → StepOK P ops F a0 w0 (k + i) o
  | [], _, _, i, o, h => by simp at h
  | x :: r, k, ⟨h0, h1⟩, 0, o, h => by
    have : x = o := by simpa using h
    subst this
    exact h0
  | x :: r, k, ⟨h0, h1⟩, i + 1, o, h => by
    have := steps_of r (k + 1) h1 i o (by simpa using h)
    rw [show k + (i + 1) = k + 1 + i from by omega]
    exact this
theorem wp_region_rel_lit {P : Program} {id : Nat} {l : List Oper} {a0 : Act} {w0 : World} {Q : Exit → Act → World → Prop} (F : Nat → Value → World → Prop) (hm : P.follows .mixedOrders = true) (hB : regB l.toArray a0.tmps.size = true)
    (hmono : ∀ i v w w', F i v w → Below w.heap.size w w' → F i v w') (hstep : StepsFrom P l.toArray F a0 w0 0 l)
    (hQ : ∀ a w, Below w0.heap.size w0 w → a.tmps.size = a0.tmps.size → a.defers = a0.defers → (∀ (i : Nat) (oi : Oper) (d : Tmp), l.toArray[i]? = some oi → oi.dst = some d → F i (a.tmps.getD d undef) w) → Q .normal a w) :
    (Code.region id l.toArray true).wp P Q a0 w0 :=
  wp_region_rel F hm hB hmono (fun i o h => by
    have := steps_of l 0 hstep i o (by simpa using h)
    rw [Nat.zero_add] at this
    exact this) hQ
set_option maxRecDepth 100000 in
set_option maxHeartbeats 12800000 in
theorem impl_formatDate (n : Int) (h1 : 0 ≤ n) (h2 : n ≤ 253402300799) (w : World) (ht0 : Tab w) : Calls Tryd.prog 94 #[.int .i64 n] w fun e w' => e = .returned (.string (fmtS n)) ∧ Below w.heap.size w w' := by
  obtain ⟨wd, m, y, d, h, i, s, q1, q2, q3, q4, q5, q6, q7, ⟨b1, b2, b3', b4', b5, b6, b7, b8, b9, b10⟩, ef⟩ := parts h1 h2
  have hat := fun W => impl_dateAt n h1 h2 W
  rw [q2, q3, q4, q5, q6, q7] at hat
  have Hat := Lib.hid hat
  have EF := Lib.hid ef
  clear hat q2 q3 q4 q5 q6 q7 ef
  go_enter Tryd.func94, Tryd.ntmps94
  go_upto_region 3 with (go_at_call 98; ((with_reducible refine (Hat.out _).mono ?_); rintro e w' ⟨rfl, hb⟩; obtain ⟨hc, hf⟩ := bcell hb; have hz := hb.size; (try simp only [World.size_alloc, World.size_setCell, World.size_drew] at hz); obtain ⟨hlt, hle, hn1, hn2, hn3, hn4⟩ := bsize hb; (try simp only [World.size_alloc, World.size_setCell, World.size_drew] at hlt hle hn1 hn2 hn3 hn4); (try have hr0 : w.heap.size < w'.heap.size := by omega); (try have hr1 : w.heap.size + 1 < w'.heap.size := by omega); (try have hs0 : wS.heap.size < w'.heap.size := by omega); (try have hs1 : wG.heap.size < w'.heap.size := by omega)))
  have bk4 : (w'.alloc (.cells #[.int .i64 (y : Int), .int .i64 (m : Int), .int .i64 (d : Int), .int .i64 (h : Int), .int .i64 (i : Int), .int .i64 (s : Int)] 46)).heap[w'.heap.size]? = some (.cells #[.int .i64 (y : Int), .int .i64 (m : Int), .int .i64 (d : Int), .int .i64 (h : Int), .int .i64 (i : Int), .int .i64 (s : Int)] 46 (0, 0)) := blk_new _ _
  have bk3 : (w'.alloc (.cells #[.int .i64 (y : Int), .int .i64 (m : Int), .int .i64 (d : Int), .int .i64 (h : Int), .int .i64 (i : Int), .int .i64 (s : Int)] 46)).heap[w.heap.size]? = some (.cells daysV 170 (0, 0)) := by exact (by repeat' (first | (with_reducible assumption) | (with_reducible exact blk_new _ _) | (with_reducible apply blk_set) | (with_reducible refine blk_new' _ _ _ (by first | omega | (simp only [World.size_alloc]; first | done | omega))) | (with_reducible refine blk_other ?_ _ _ _ (by omega)) | (with_reducible refine blk_drew ?_) | (with_reducible refine blk_alloc ?_ _) | refine blk_then ?_ (by with_reducible assumption)))
  have belV : Below w.heap.size w (w'.alloc (.cells #[.int .i64 (y : Int), .int .i64 (m : Int), .int .i64 (d : Int), .int .i64 (h : Int), .int .i64 (i : Int), .int .i64 (s : Int)] 46)) := by exact (by first | (with_reducible exact Below.refl _ _) | ((repeat' (first | (with_reducible exact Below.refl _ _) | (with_reducible assumption) | (with_reducible refine below_alloc ?_ _) | (with_reducible refine Below.drew ?_) | (with_reducible refine below_drewN ?_ _) | (with_reducible refine Below.setCell ?_ ?_ _) | refine below_then ?_ (by with_reducible assumption))) <;> (first | omega | (simp; done) | (simp; omega))))
  have ht : Tab (w'.alloc (.cells #[.int .i64 (y : Int), .int .i64 (m : Int), .int .i64 (d : Int), .int .i64 (h : Int), .int .i64 (i : Int), .int .i64 (s : Int)] 46)) := ht0.then belV
  generalize (w'.alloc (.cells #[.int .i64 (y : Int), .int .i64 (m : Int), .int .i64 (d : Int), .int .i64 (h : Int), .int .i64 (i : Int), .int .i64 (s : Int)] 46)) = V at *
  generalize w'.heap.size = b4 at *
  generalize hb3 : w.heap.size = b3 at *
  have hdat0 : ∀ W, Below V.heap.size V W → W.cell? ⟨b4, 0, none⟩ = some (.int .i64 (y : Int)) := fun W hb => by simp [World.cell?, blk_then bk4 hb]
  have hdat1 : ∀ W, Below V.heap.size V W → W.cell? ⟨b4, 1, none⟩ = some (.int .i64 (m : Int)) := fun W hb => by simp [World.cell?, blk_then bk4 hb]
  have hdat2 : ∀ W, Below V.heap.size V W → W.cell? ⟨b4, 2, none⟩ = some (.int .i64 (d : Int)) := fun W hb => by simp [World.cell?, blk_then bk4 hb]
  have hdat3 : ∀ W, Below V.heap.size V W → W.cell? ⟨b4, 3, none⟩ = some (.int .i64 (h : Int)) := fun W hb => by simp [World.cell?, blk_then bk4 hb]
  have hdat4 : ∀ W, Below V.heap.size V W → W.cell? ⟨b4, 4, none⟩ = some (.int .i64 (i : Int)) := fun W hb => by simp [World.cell?, blk_then bk4 hb]
  have hdat5 : ∀ W, Below V.heap.size V W → W.cell? ⟨b4, 5, none⟩ = some (.int .i64 (s : Int)) := fun W hb => by simp [World.cell?, blk_then bk4 hb]
  have hday : ∀ W, Below V.heap.size V W → W.cell? ⟨b3, wd, none⟩ = some (.string (daysA.extract (3 * wd) (3 * wd + 3))) := fun W hb => by
    have := daysV_at wd b1
    simp only [World.cell?, blk_then bk3 hb]
    exact this
  clear bk3 bk4 hb hc hf
  have x1 : (wd : Int) < 7 := by omega
  have x2 : (0 : Int) ≤ (m : Int) - 1 := by omega
  have x3 : (m : Int) - 1 < 12 := by omega
  have x4 : IntKind.i64.wrap ((m : Int) - 1) = (m : Int) - 1 := wrapi _ (by omega) (by omega)
  have x5 : ((m : Int) - 1).toNat = m - 1 := by omega
  have z1 := days_size b1
  have z2 := months_size b2 b3'
  have z3 := two_size
  have z4 : (decS (y : Int)).size = 4 := by rw [← two_year y (by omega) b5, ByteArray.size_append, two_size, two_size]
  have x6 : (1 : Int) ≤ (m : Int) := by omega
  have x7 : 0 < m := by omega
  refine wp_region_rel_lit (FmtF n wd m y d h i s b3 b4) (by kernel_rfl) (by kernel_rfl) FmtF_mono ?_ ?_
  · skip
    · repeat' (refine And.intro ?_ ?_)
      · intro ρ W hb hbase hdep
        have hc : ∀ v, ρ (.const v) = v := fun v => hbase _ (fun _ _ _ _ _ e => by cases e)
        have hfn : ∀ f, ρ (.func f) = .func (.func f) #[] #[] := fun v => hbase _ (fun _ _ _ _ _ e => by cases e)
        have e0 : ρ (.tmp 0) = .int .i64 n := hbase (.tmp 0) (base_tmp (by kernel_rfl))
        simp only [execOp, hc, hfn, e0]
        go_simp
        exact ⟨rfl, rfl⟩
      · intro ρ W hb hbase hdep
        have hc : ∀ v, ρ (.const v) = v := fun v => hbase _ (fun _ _ _ _ _ e => by cases e)
        have hfn : ∀ f, ρ (.func f) = .func (.func f) #[] #[] := fun v => hbase _ (fun _ _ _ _ _ e => by cases e)
        have p0 : ρ (.tmp 8) = .int .i64 (n : Int) := (Option.some.inj (hdep ⟨0, .data⟩ (by simp) rfl _ 8 rfl rfl : some (.int .i64 (n : Int)) = some (ρ (.tmp 8)))).symm
        simp only [execOp, hc, hfn, p0]
        go_simp
        exact ⟨rfl, (impl_weekday' n wd h1 h2 q1 W).mono fun e w' h => ⟨_, h.1, by rw [← h.2]; exact Below.refl _ _, rfl⟩⟩
      · intro ρ W hb hbase hdep
        have hc : ∀ v, ρ (.const v) = v := fun v => hbase _ (fun _ _ _ _ _ e => by cases e)
        have hfn : ∀ f, ρ (.func f) = .func (.func f) #[] #[] := fun v => hbase _ (fun _ _ _ _ _ e => by cases e)
        have p1 : ρ (.tmp 9) = .int .i64 (wd : Int) := (Option.some.inj (hdep ⟨1, .data⟩ (by simp) rfl _ 9 rfl rfl : some (.int .i64 (wd : Int)) = some (ρ (.tmp 9)))).symm
        have e3 : ρ (.tmp 3) = .pointer (some ⟨b3, 0, none⟩) := hbase (.tmp 3) (base_tmp (by kernel_rfl))
        simp only [execOp, hc, hfn, p1, e3]
        go_simp
        exact ⟨rfl, rfl⟩
      · intro ρ W hb hbase hdep
        have hc : ∀ v, ρ (.const v) = v := fun v => hbase _ (fun _ _ _ _ _ e => by cases e)
        have hfn : ∀ f, ρ (.func f) = .func (.func f) #[] #[] := fun v => hbase _ (fun _ _ _ _ _ e => by cases e)
        have p2 : ρ (.tmp 10) = .pointer (some ⟨b3, wd, none⟩) := (Option.some.inj (hdep ⟨2, .data⟩ (by simp) rfl _ 10 rfl rfl : some (.pointer (some ⟨b3, wd, none⟩)) = some (ρ (.tmp 10)))).symm
        have hl := hday W hb
        simp only [execOp, hc, hfn, p2]
        go_simp
        exact ⟨rfl, rfl⟩
      · intro ρ W hb hbase hdep
        have hc : ∀ v, ρ (.const v) = v := fun v => hbase _ (fun _ _ _ _ _ e => by cases e)
        have hfn : ∀ f, ρ (.func f) = .func (.func f) #[] #[] := fun v => hbase _ (fun _ _ _ _ _ e => by cases e)
        have p3 : ρ (.tmp 11) = .string (daysA.extract (3 * wd) (3 * wd + 3)) := (Option.some.inj (hdep ⟨3, .data⟩ (by simp) rfl _ 11 rfl rfl : some (.string (daysA.extract (3 * wd) (3 * wd + 3))) = some (ρ (.tmp 11)))).symm
        simp only [execOp, hc, hfn, p3]
        go_simp
        exact ⟨rfl, rfl⟩
      · intro ρ W hb hbase hdep
        have hc : ∀ v, ρ (.const v) = v := fun v => hbase _ (fun _ _ _ _ _ e => by cases e)
        have hfn : ∀ f, ρ (.func f) = .func (.func f) #[] #[] := fun v => hbase _ (fun _ _ _ _ _ e => by cases e)
        have e4 : ρ (.tmp 4) = .pointer (some ⟨b4, 0, none⟩) := hbase (.tmp 4) (base_tmp (by kernel_rfl))
        simp only [execOp, hc, hfn, e4]
        go_simp
        exact ⟨rfl, rfl⟩
      · intro ρ W hb hbase hdep
        have hc : ∀ v, ρ (.const v) = v := fun v => hbase _ (fun _ _ _ _ _ e => by cases e)
        have hfn : ∀ f, ρ (.func f) = .func (.func f) #[] #[] := fun v => hbase _ (fun _ _ _ _ _ e => by cases e)
        have p5 : ρ (.tmp 13) = .pointer (some ⟨b4, 2, none⟩) := (Option.some.inj (hdep ⟨5, .data⟩ (by simp) rfl _ 13 rfl rfl : some (.pointer (some ⟨b4, 2, none⟩)) = some (ρ (.tmp 13)))).symm
        have hl := hdat2 W hb
        simp only [execOp, hc, hfn, p5]
        go_simp
        exact ⟨rfl, rfl⟩
      · intro ρ W hb hbase hdep
        have hc : ∀ v, ρ (.const v) = v := fun v => hbase _ (fun _ _ _ _ _ e => by cases e)
        have hfn : ∀ f, ρ (.func f) = .func (.func f) #[] #[] := fun v => hbase _ (fun _ _ _ _ _ e => by cases e)
        have p6 : ρ (.tmp 14) = .int .i64 (d : Int) := (Option.some.inj (hdep ⟨6, .data⟩ (by simp) rfl _ 14 rfl rfl : some (.int .i64 (d : Int)) = some (ρ (.tmp 14)))).symm
        simp only [execOp, hc, hfn, p6]
        go_simp
        exact ⟨rfl, (impl_twoDigits _ d rfl (by omega) W).mono fun e w' h => ⟨_, h.1, h.2, rfl⟩⟩
      · intro ρ W hb hbase hdep
        have hc : ∀ v, ρ (.const v) = v := fun v => hbase _ (fun _ _ _ _ _ e => by cases e)
        have hfn : ∀ f, ρ (.func f) = .func (.func f) #[] #[] := fun v => hbase _ (fun _ _ _ _ _ e => by cases e)
        have p4 : ρ (.tmp 12) = .string (daysA.extract (3 * wd) (3 * wd + 3) ++ ⟨#[44, 32]⟩) := (Option.some.inj (hdep ⟨4, .data⟩ (by simp) rfl _ 12 rfl rfl : some (.string (daysA.extract (3 * wd) (3 * wd + 3) ++ ⟨#[44, 32]⟩)) = some (ρ (.tmp 12)))).symm
        have p7 : ρ (.tmp 15) = .string (two d) := (Option.some.inj (hdep ⟨7, .data⟩ (by simp) rfl _ 15 rfl rfl : some (.string (two d)) = some (ρ (.tmp 15)))).symm
        simp only [execOp, hc, hfn, p4, p7]
        go_simp
        exact ⟨rfl, rfl⟩
      · intro ρ W hb hbase hdep
        have hc : ∀ v, ρ (.const v) = v := fun v => hbase _ (fun _ _ _ _ _ e => by cases e)
        have hfn : ∀ f, ρ (.func f) = .func (.func f) #[] #[] := fun v => hbase _ (fun _ _ _ _ _ e => by cases e)
        have p8 : ρ (.tmp 16) = .string (daysA.extract (3 * wd) (3 * wd + 3) ++ ⟨#[44, 32]⟩ ++ two d) := (Option.some.inj (hdep ⟨8, .data⟩ (by simp) rfl _ 16 rfl rfl : some (.string (daysA.extract (3 * wd) (3 * wd + 3) ++ ⟨#[44, 32]⟩ ++ two d)) = some (ρ (.tmp 16)))).symm
        simp only [execOp, hc, hfn, p8]
        go_simp
        exact ⟨rfl, rfl⟩
      · intro ρ W hb hbase hdep
        have hc : ∀ v, ρ (.const v) = v := fun v => hbase _ (fun _ _ _ _ _ e => by cases e)
        have hfn : ∀ f, ρ (.func f) = .func (.func f) #[] #[] := fun v => hbase _ (fun _ _ _ _ _ e => by cases e)
        simp only [execOp, hc, hfn]
        go_simp
        exact ⟨rfl, impl_monthNames W⟩
      · intro ρ W hb hbase hdep
        have hc : ∀ v, ρ (.const v) = v := fun v => hbase _ (fun _ _ _ _ _ e => by cases e)
        have hfn : ∀ f, ρ (.func f) = .func (.func f) #[] #[] := fun v => hbase _ (fun _ _ _ _ _ e => by cases e)
        have e4 : ρ (.tmp 4) = .pointer (some ⟨b4, 0, none⟩) := hbase (.tmp 4) (base_tmp (by kernel_rfl))
        simp only [execOp, hc, hfn, e4]
        go_simp
        exact ⟨rfl, rfl⟩
      · intro ρ W hb hbase hdep
        have hc : ∀ v, ρ (.const v) = v := fun v => hbase _ (fun _ _ _ _ _ e => by cases e)
        have hfn : ∀ f, ρ (.func f) = .func (.func f) #[] #[] := fun v => hbase _ (fun _ _ _ _ _ e => by cases e)
        have p11 : ρ (.tmp 19) = .pointer (some ⟨b4, 1, none⟩) := (Option.some.inj (hdep ⟨11, .data⟩ (by simp) rfl _ 19 rfl rfl : some (.pointer (some ⟨b4, 1, none⟩)) = some (ρ (.tmp 19)))).symm
        have hl := hdat1 W hb
        simp only [execOp, hc, hfn, p11]
        go_simp
        exact ⟨rfl, rfl⟩
      · intro ρ W hb hbase hdep
        have hc : ∀ v, ρ (.const v) = v := fun v => hbase _ (fun _ _ _ _ _ e => by cases e)
        have hfn : ∀ f, ρ (.func f) = .func (.func f) #[] #[] := fun v => hbase _ (fun _ _ _ _ _ e => by cases e)
        have p12 : ρ (.tmp 20) = .int .i64 (m : Int) := (Option.some.inj (hdep ⟨12, .data⟩ (by simp) rfl _ 20 rfl rfl : some (.int .i64 (m : Int)) = some (ρ (.tmp 20)))).symm
        simp only [execOp, hc, hfn, p12]
        go_simp
        exact ⟨rfl, rfl⟩
      · intro ρ W hb hbase hdep
        have hc : ∀ v, ρ (.const v) = v := fun v => hbase _ (fun _ _ _ _ _ e => by cases e)
        have hfn : ∀ f, ρ (.func f) = .func (.func f) #[] #[] := fun v => hbase _ (fun _ _ _ _ _ e => by cases e)
        obtain ⟨g, p10, hrow⟩ : ∃ g, ρ (.tmp 18) = .slice (some ⟨g, 0, none⟩) 12 12 ∧ RowAt W g monthsV := hdep ⟨10, .data⟩ (by simp) rfl _ 18 rfl rfl
        have p13 : ρ (.tmp 21) = .int .i64 ((m : Int) - 1) := (Option.some.inj (hdep ⟨13, .data⟩ (by simp) rfl _ 21 rfl rfl : some (.int .i64 ((m : Int) - 1)) = some (ρ (.tmp 21)))).symm
        simp only [execOp, hc, hfn, p10, p13]
        go_simp
        exact ⟨rfl, g, rfl, hrow⟩
      · intro ρ W hb hbase hdep
        have hc : ∀ v, ρ (.const v) = v := fun v => hbase _ (fun _ _ _ _ _ e => by cases e)
        have hfn : ∀ f, ρ (.func f) = .func (.func f) #[] #[] := fun v => hbase _ (fun _ _ _ _ _ e => by cases e)
        obtain ⟨g, p14, hrow⟩ : ∃ g, ρ (.tmp 22) = .pointer (some ⟨g, m - 1, none⟩) ∧ RowAt W g monthsV := hdep ⟨14, .data⟩ (by simp) rfl _ 22 rfl rfl
        have hl := hrow.cell (m - 1) _ (monthsV_at m b2 b3')
        simp only [execOp, hc, hfn, p14]
        go_simp
        exact ⟨rfl, rfl⟩
      · intro ρ W hb hbase hdep
        have hc : ∀ v, ρ (.const v) = v := fun v => hbase _ (fun _ _ _ _ _ e => by cases e)
        have hfn : ∀ f, ρ (.func f) = .func (.func f) #[] #[] := fun v => hbase _ (fun _ _ _ _ _ e => by cases e)
        have p9 : ρ (.tmp 17) = .string (daysA.extract (3 * wd) (3 * wd + 3) ++ ⟨#[44, 32]⟩ ++ two d ++ ⟨#[32]⟩) := (Option.some.inj (hdep ⟨9, .data⟩ (by simp) rfl _ 17 rfl rfl : some (.string (daysA.extract (3 * wd) (3 * wd + 3) ++ ⟨#[44, 32]⟩ ++ two d ++ ⟨#[32]⟩)) = some (ρ (.tmp 17)))).symm
        have p15 : ρ (.tmp 23) = .string (monthsA.extract (3 * m - 3) (3 * m)) := (Option.some.inj (hdep ⟨15, .data⟩ (by simp) rfl _ 23 rfl rfl : some (.string (monthsA.extract (3 * m - 3) (3 * m))) = some (ρ (.tmp 23)))).symm
        simp only [execOp, hc, hfn, p9, p15]
        go_simp
        exact ⟨rfl, rfl⟩
      · intro ρ W hb hbase hdep
        have hc : ∀ v, ρ (.const v) = v := fun v => hbase _ (fun _ _ _ _ _ e => by cases e)
        have hfn : ∀ f, ρ (.func f) = .func (.func f) #[] #[] := fun v => hbase _ (fun _ _ _ _ _ e => by cases e)
        have p16 : ρ (.tmp 24) = .string (daysA.extract (3 * wd) (3 * wd + 3) ++ ⟨#[44, 32]⟩ ++ two d ++ ⟨#[32]⟩ ++ monthsA.extract (3 * m - 3) (3 * m)) := (Option.some.inj (hdep ⟨16, .data⟩ (by simp) rfl _ 24 rfl rfl : some (.string (daysA.extract (3 * wd) (3 * wd + 3) ++ ⟨#[44, 32]⟩ ++ two d ++ ⟨#[32]⟩ ++ monthsA.extract (3 * m - 3) (3 * m))) = some (ρ (.tmp 24)))).symm
        simp only [execOp, hc, hfn, p16]
        go_simp
        exact ⟨rfl, rfl⟩
      · intro ρ W hb hbase hdep
        have hc : ∀ v, ρ (.const v) = v := fun v => hbase _ (fun _ _ _ _ _ e => by cases e)
        have hfn : ∀ f, ρ (.func f) = .func (.func f) #[] #[] := fun v => hbase _ (fun _ _ _ _ _ e => by cases e)
        have e4 : ρ (.tmp 4) = .pointer (some ⟨b4, 0, none⟩) := hbase (.tmp 4) (base_tmp (by kernel_rfl))
        simp only [execOp, hc, hfn, e4]
        go_simp
        exact ⟨rfl, rfl⟩
      · intro ρ W hb hbase hdep
        have hc : ∀ v, ρ (.const v) = v := fun v => hbase _ (fun _ _ _ _ _ e => by cases e)
        have hfn : ∀ f, ρ (.func f) = .func (.func f) #[] #[] := fun v => hbase _ (fun _ _ _ _ _ e => by cases e)
        have p18 : ρ (.tmp 26) = .pointer (some ⟨b4, 0, none⟩) := (Option.some.inj (hdep ⟨18, .data⟩ (by simp) rfl _ 26 rfl rfl : some (.pointer (some ⟨b4, 0, none⟩)) = some (ρ (.tmp 26)))).symm
        have hl := hdat0 W hb
        simp only [execOp, hc, hfn, p18]
        go_simp
        exact ⟨rfl, rfl⟩
      · intro ρ W hb hbase hdep
        have hc : ∀ v, ρ (.const v) = v := fun v => hbase _ (fun _ _ _ _ _ e => by cases e)
        have hfn : ∀ f, ρ (.func f) = .func (.func f) #[] #[] := fun v => hbase _ (fun _ _ _ _ _ e => by cases e)
        have p19 : ρ (.tmp 27) = .int .i64 (y : Int) := (Option.some.inj (hdep ⟨19, .data⟩ (by simp) rfl _ 27 rfl rfl : some (.int .i64 (y : Int)) = some (ρ (.tmp 27)))).symm
        simp only [execOp, hc, hfn, p19]
        go_simp
        exact ⟨rfl, (impl_decimal _ (by omega) (by omega) W (ht.below hb (Nat.le_refl _))).mono fun e w' h => ⟨_, h.1, h.2, rfl⟩⟩
      · intro ρ W hb hbase hdep
        have hc : ∀ v, ρ (.const v) = v := fun v => hbase _ (fun _ _ _ _ _ e => by cases e)
        have hfn : ∀ f, ρ (.func f) = .func (.func f) #[] #[] := fun v => hbase _ (fun _ _ _ _ _ e => by cases e)
        have p17 : ρ (.tmp 25) = .string (daysA.extract (3 * wd) (3 * wd + 3) ++ ⟨#[44, 32]⟩ ++ two d ++ ⟨#[32]⟩ ++ monthsA.extract (3 * m - 3) (3 * m) ++ ⟨#[32]⟩) := (Option.some.inj (hdep ⟨17, .data⟩ (by simp) rfl _ 25 rfl rfl : some (.string (daysA.extract (3 * wd) (3 * wd + 3) ++ ⟨#[44, 32]⟩ ++ two d ++ ⟨#[32]⟩ ++ monthsA.extract (3 * m - 3) (3 * m) ++ ⟨#[32]⟩)) = some (ρ (.tmp 25)))).symm
        have p20 : ρ (.tmp 28) = .string (decS (y : Int)) := (Option.some.inj (hdep ⟨20, .data⟩ (by simp) rfl _ 28 rfl rfl : some (.string (decS (y : Int))) = some (ρ (.tmp 28)))).symm
        simp only [execOp, hc, hfn, p17, p20]
        go_simp
        exact ⟨rfl, rfl⟩
      · intro ρ W hb hbase hdep
        have hc : ∀ v, ρ (.const v) = v := fun v => hbase _ (fun _ _ _ _ _ e => by cases e)
        have hfn : ∀ f, ρ (.func f) = .func (.func f) #[] #[] := fun v => hbase _ (fun _ _ _ _ _ e => by cases e)
        have p21 : ρ (.tmp 29) = .string (daysA.extract (3 * wd) (3 * wd + 3) ++ ⟨#[44, 32]⟩ ++ two d ++ ⟨#[32]⟩ ++ monthsA.extract (3 * m - 3) (3 * m) ++ ⟨#[32]⟩ ++ decS (y : Int)) := (Option.some.inj (hdep ⟨21, .data⟩ (by simp) rfl _ 29 rfl rfl : some (.string (daysA.extract (3 * wd) (3 * wd + 3) ++ ⟨#[44, 32]⟩ ++ two d ++ ⟨#[32]⟩ ++ monthsA.extract (3 * m - 3) (3 * m) ++ ⟨#[32]⟩ ++ decS (y : Int))) = some (ρ (.tmp 29)))).symm
        simp only [execOp, hc, hfn, p21]
        go_simp
        exact ⟨rfl, rfl⟩
      · intro ρ W hb hbase hdep
        have hc : ∀ v, ρ (.const v) = v := fun v => hbase _ (fun _ _ _ _ _ e => by cases e)
        have hfn : ∀ f, ρ (.func f) = .func (.func f) #[] #[] := fun v => hbase _ (fun _ _ _ _ _ e => by cases e)
        have e4 : ρ (.tmp 4) = .pointer (some ⟨b4, 0, none⟩) := hbase (.tmp 4) (base_tmp (by kernel_rfl))
        simp only [execOp, hc, hfn, e4]
        go_simp
        exact ⟨rfl, rfl⟩
      · intro ρ W hb hbase hdep
        have hc : ∀ v, ρ (.const v) = v := fun v => hbase _ (fun _ _ _ _ _ e => by cases e)
        have hfn : ∀ f, ρ (.func f) = .func (.func f) #[] #[] := fun v => hbase _ (fun _ _ _ _ _ e => by cases e)
        have p23 : ρ (.tmp 31) = .pointer (some ⟨b4, 3, none⟩) := (Option.some.inj (hdep ⟨23, .data⟩ (by simp) rfl _ 31 rfl rfl : some (.pointer (some ⟨b4, 3, none⟩)) = some (ρ (.tmp 31)))).symm
        have hl := hdat3 W hb
        simp only [execOp, hc, hfn, p23]
        go_simp
        exact ⟨rfl, rfl⟩
      · intro ρ W hb hbase hdep
        have hc : ∀ v, ρ (.const v) = v := fun v => hbase _ (fun _ _ _ _ _ e => by cases e)
        have hfn : ∀ f, ρ (.func f) = .func (.func f) #[] #[] := fun v => hbase _ (fun _ _ _ _ _ e => by cases e)
        have p24 : ρ (.tmp 32) = .int .i64 (h : Int) := (Option.some.inj (hdep ⟨24, .data⟩ (by simp) rfl _ 32 rfl rfl : some (.int .i64 (h : Int)) = some (ρ (.tmp 32)))).symm
        simp only [execOp, hc, hfn, p24]
        go_simp
        exact ⟨rfl, (impl_twoDigits _ h rfl (by omega) W).mono fun e w' h => ⟨_, h.1, h.2, rfl⟩⟩
      · intro ρ W hb hbase hdep
        have hc : ∀ v, ρ (.const v) = v := fun v => hbase _ (fun _ _ _ _ _ e => by cases e)
        have hfn : ∀ f, ρ (.func f) = .func (.func f) #[] #[] := fun v => hbase _ (fun _ _ _ _ _ e => by cases e)
        have p22 : ρ (.tmp 30) = .string (daysA.extract (3 * wd) (3 * wd + 3) ++ ⟨#[44, 32]⟩ ++ two d ++ ⟨#[32]⟩ ++ monthsA.extract (3 * m - 3) (3 * m) ++ ⟨#[32]⟩ ++ decS (y : Int) ++ ⟨#[32]⟩) := (Option.some.inj (hdep ⟨22, .data⟩ (by simp) rfl _ 30 rfl rfl : some (.string (daysA.extract (3 * wd) (3 * wd + 3) ++ ⟨#[44, 32]⟩ ++ two d ++ ⟨#[32]⟩ ++ monthsA.extract (3 * m - 3) (3 * m) ++ ⟨#[32]⟩ ++ decS (y : Int) ++ ⟨#[32]⟩)) = some (ρ (.tmp 30)))).symm
        have p25 : ρ (.tmp 33) = .string (two h) := (Option.some.inj (hdep ⟨25, .data⟩ (by simp) rfl _ 33 rfl rfl : some (.string (two h)) = some (ρ (.tmp 33)))).symm
        simp only [execOp, hc, hfn, p22, p25]
        go_simp
        exact ⟨rfl, rfl⟩
      · intro ρ W hb hbase hdep
        have hc : ∀ v, ρ (.const v) = v := fun v => hbase _ (fun _ _ _ _ _ e => by cases e)
        have hfn : ∀ f, ρ (.func f) = .func (.func f) #[] #[] := fun v => hbase _ (fun _ _ _ _ _ e => by cases e)
        have p26 : ρ (.tmp 34) = .string (daysA.extract (3 * wd) (3 * wd + 3) ++ ⟨#[44, 32]⟩ ++ two d ++ ⟨#[32]⟩ ++ monthsA.extract (3 * m - 3) (3 * m) ++ ⟨#[32]⟩ ++ decS (y : Int) ++ ⟨#[32]⟩ ++ two h) := (Option.some.inj (hdep ⟨26, .data⟩ (by simp) rfl _ 34 rfl rfl : some (.string (daysA.extract (3 * wd) (3 * wd + 3) ++ ⟨#[44, 32]⟩ ++ two d ++ ⟨#[32]⟩ ++ monthsA.extract (3 * m - 3) (3 * m) ++ ⟨#[32]⟩ ++ decS (y : Int) ++ ⟨#[32]⟩ ++ two h)) = some (ρ (.tmp 34)))).symm
        simp only [execOp, hc, hfn, p26]
        go_simp
        exact ⟨rfl, rfl⟩
      · intro ρ W hb hbase hdep
        have hc : ∀ v, ρ (.const v) = v := fun v => hbase _ (fun _ _ _ _ _ e => by cases e)
        have hfn : ∀ f, ρ (.func f) = .func (.func f) #[] #[] := fun v => hbase _ (fun _ _ _ _ _ e => by cases e)
        have e4 : ρ (.tmp 4) = .pointer (some ⟨b4, 0, none⟩) := hbase (.tmp 4) (base_tmp (by kernel_rfl))
        simp only [execOp, hc, hfn, e4]
        go_simp
        exact ⟨rfl, rfl⟩
      · intro ρ W hb hbase hdep
        have hc : ∀ v, ρ (.const v) = v := fun v => hbase _ (fun _ _ _ _ _ e => by cases e)
        have hfn : ∀ f, ρ (.func f) = .func (.func f) #[] #[] := fun v => hbase _ (fun _ _ _ _ _ e => by cases e)
        have p28 : ρ (.tmp 36) = .pointer (some ⟨b4, 4, none⟩) := (Option.some.inj (hdep ⟨28, .data⟩ (by simp) rfl _ 36 rfl rfl : some (.pointer (some ⟨b4, 4, none⟩)) = some (ρ (.tmp 36)))).symm
        have hl := hdat4 W hb
        simp only [execOp, hc, hfn, p28]
        go_simp
        exact ⟨rfl, rfl⟩
      · intro ρ W hb hbase hdep
        have hc : ∀ v, ρ (.const v) = v := fun v => hbase _ (fun _ _ _ _ _ e => by cases e)
        have hfn : ∀ f, ρ (.func f) = .func (.func f) #[] #[] := fun v => hbase _ (fun _ _ _ _ _ e => by cases e)
        have p29 : ρ (.tmp 37) = .int .i64 (i : Int) := (Option.some.inj (hdep ⟨29, .data⟩ (by simp) rfl _ 37 rfl rfl : some (.int .i64 (i : Int)) = some (ρ (.tmp 37)))).symm
        simp only [execOp, hc, hfn, p29]
        go_simp
        exact ⟨rfl, (impl_twoDigits _ i rfl (by omega) W).mono fun e w' h => ⟨_, h.1, h.2, rfl⟩⟩
      · intro ρ W hb hbase hdep
        have hc : ∀ v, ρ (.const v) = v := fun v => hbase _ (fun _ _ _ _ _ e => by cases e)
        have hfn : ∀ f, ρ (.func f) = .func (.func f) #[] #[] := fun v => hbase _ (fun _ _ _ _ _ e => by cases e)
        have p27 : ρ (.tmp 35) = .string (daysA.extract (3 * wd) (3 * wd + 3) ++ ⟨#[44, 32]⟩ ++ two d ++ ⟨#[32]⟩ ++ monthsA.extract (3 * m - 3) (3 * m) ++ ⟨#[32]⟩ ++ decS (y : Int) ++ ⟨#[32]⟩ ++ two h ++ ⟨#[58]⟩) := (Option.some.inj (hdep ⟨27, .data⟩ (by simp) rfl _ 35 rfl rfl : some (.string (daysA.extract (3 * wd) (3 * wd + 3) ++ ⟨#[44, 32]⟩ ++ two d ++ ⟨#[32]⟩ ++ monthsA.extract (3 * m - 3) (3 * m) ++ ⟨#[32]⟩ ++ decS (y : Int) ++ ⟨#[32]⟩ ++ two h ++ ⟨#[58]⟩)) = some (ρ (.tmp 35)))).symm
        have p30 : ρ (.tmp 38) = .string (two i) := (Option.some.inj (hdep ⟨30, .data⟩ (by simp) rfl _ 38 rfl rfl : some (.string (two i)) = some (ρ (.tmp 38)))).symm
        simp only [execOp, hc, hfn, p27, p30]
        go_simp
        exact ⟨rfl, rfl⟩
      · intro ρ W hb hbase hdep
        have hc : ∀ v, ρ (.const v) = v := fun v => hbase _ (fun _ _ _ _ _ e => by cases e)
        have hfn : ∀ f, ρ (.func f) = .func (.func f) #[] #[] := fun v => hbase _ (fun _ _ _ _ _ e => by cases e)
        have p31 : ρ (.tmp 39) = .string (daysA.extract (3 * wd) (3 * wd + 3) ++ ⟨#[44, 32]⟩ ++ two d ++ ⟨#[32]⟩ ++ monthsA.extract (3 * m - 3) (3 * m) ++ ⟨#[32]⟩ ++ decS (y : Int) ++ ⟨#[32]⟩ ++ two h ++ ⟨#[58]⟩ ++ two i) := (Option.some.inj (hdep ⟨31, .data⟩ (by simp) rfl _ 39 rfl rfl : some (.string (daysA.extract (3 * wd) (3 * wd + 3) ++ ⟨#[44, 32]⟩ ++ two d ++ ⟨#[32]⟩ ++ monthsA.extract (3 * m - 3) (3 * m) ++ ⟨#[32]⟩ ++ decS (y : Int) ++ ⟨#[32]⟩ ++ two h ++ ⟨#[58]⟩ ++ two i)) = some (ρ (.tmp 39)))).symm
        simp only [execOp, hc, hfn, p31]
        go_simp
        exact ⟨rfl, rfl⟩
      · intro ρ W hb hbase hdep
        have hc : ∀ v, ρ (.const v) = v := fun v => hbase _ (fun _ _ _ _ _ e => by cases e)
        have hfn : ∀ f, ρ (.func f) = .func (.func f) #[] #[] := fun v => hbase _ (fun _ _ _ _ _ e => by cases e)
        have e4 : ρ (.tmp 4) = .pointer (some ⟨b4, 0, none⟩) := hbase (.tmp 4) (base_tmp (by kernel_rfl))
        simp only [execOp, hc, hfn, e4]
        go_simp
        exact ⟨rfl, rfl⟩
      · intro ρ W hb hbase hdep
        have hc : ∀ v, ρ (.const v) = v := fun v => hbase _ (fun _ _ _ _ _ e => by cases e)
        have hfn : ∀ f, ρ (.func f) = .func (.func f) #[] #[] := fun v => hbase _ (fun _ _ _ _ _ e => by cases e)
        have p33 : ρ (.tmp 41) = .pointer (some ⟨b4, 5, none⟩) := (Option.some.inj (hdep ⟨33, .data⟩ (by simp) rfl _ 41 rfl rfl : some (.pointer (some ⟨b4, 5, none⟩)) = some (ρ (.tmp 41)))).symm
        have hl := hdat5 W hb
        simp only [execOp, hc, hfn, p33]
        go_simp
        exact ⟨rfl, rfl⟩
      · intro ρ W hb hbase hdep
        have hc : ∀ v, ρ (.const v) = v := fun v => hbase _ (fun _ _ _ _ _ e => by cases e)
        have hfn : ∀ f, ρ (.func f) = .func (.func f) #[] #[] := fun v => hbase _ (fun _ _ _ _ _ e => by cases e)
        have p34 : ρ (.tmp 42) = .int .i64 (s : Int) := (Option.some.inj (hdep ⟨34, .data⟩ (by simp) rfl _ 42 rfl rfl : some (.int .i64 (s : Int)) = some (ρ (.tmp 42)))).symm
        simp only [execOp, hc, hfn, p34]
        go_simp
        exact ⟨rfl, (impl_twoDigits _ s rfl (by omega) W).mono fun e w' h => ⟨_, h.1, h.2, rfl⟩⟩
      · intro ρ W hb hbase hdep
        have hc : ∀ v, ρ (.const v) = v := fun v => hbase _ (fun _ _ _ _ _ e => by cases e)
        have hfn : ∀ f, ρ (.func f) = .func (.func f) #[] #[] := fun v => hbase _ (fun _ _ _ _ _ e => by cases e)
        have p32 : ρ (.tmp 40) = .string (daysA.extract (3 * wd) (3 * wd + 3) ++ ⟨#[44, 32]⟩ ++ two d ++ ⟨#[32]⟩ ++ monthsA.extract (3 * m - 3) (3 * m) ++ ⟨#[32]⟩ ++ decS (y : Int) ++ ⟨#[32]⟩ ++ two h ++ ⟨#[58]⟩ ++ two i ++ ⟨#[58]⟩) := (Option.some.inj (hdep ⟨32, .data⟩ (by simp) rfl _ 40 rfl rfl : some (.string (daysA.extract (3 * wd) (3 * wd + 3) ++ ⟨#[44, 32]⟩ ++ two d ++ ⟨#[32]⟩ ++ monthsA.extract (3 * m - 3) (3 * m) ++ ⟨#[32]⟩ ++ decS (y : Int) ++ ⟨#[32]⟩ ++ two h ++ ⟨#[58]⟩ ++ two i ++ ⟨#[58]⟩)) = some (ρ (.tmp 40)))).symm
        have p35 : ρ (.tmp 43) = .string (two s) := (Option.some.inj (hdep ⟨35, .data⟩ (by simp) rfl _ 43 rfl rfl : some (.string (two s)) = some (ρ (.tmp 43)))).symm
        simp only [execOp, hc, hfn, p32, p35]
        go_simp
        exact ⟨rfl, rfl⟩
      · intro ρ W hb hbase hdep
        have hc : ∀ v, ρ (.const v) = v := fun v => hbase _ (fun _ _ _ _ _ e => by cases e)
        have hfn : ∀ f, ρ (.func f) = .func (.func f) #[] #[] := fun v => hbase _ (fun _ _ _ _ _ e => by cases e)
        have p36 : ρ (.tmp 44) = .string (daysA.extract (3 * wd) (3 * wd + 3) ++ ⟨#[44, 32]⟩ ++ two d ++ ⟨#[32]⟩ ++ monthsA.extract (3 * m - 3) (3 * m) ++ ⟨#[32]⟩ ++ decS (y : Int) ++ ⟨#[32]⟩ ++ two h ++ ⟨#[58]⟩ ++ two i ++ ⟨#[58]⟩ ++ two s) := (Option.some.inj (hdep ⟨36, .data⟩ (by simp) rfl _ 44 rfl rfl : some (.string (daysA.extract (3 * wd) (3 * wd + 3) ++ ⟨#[44, 32]⟩ ++ two d ++ ⟨#[32]⟩ ++ monthsA.extract (3 * m - 3) (3 * m) ++ ⟨#[32]⟩ ++ decS (y : Int) ++ ⟨#[32]⟩ ++ two h ++ ⟨#[58]⟩ ++ two i ++ ⟨#[58]⟩ ++ two s)) = some (ρ (.tmp 44)))).symm
        simp only [execOp, hc, hfn, p36]
        go_simp
        exact ⟨rfl, rfl⟩
      · intro ρ W hb hbase hdep
        have hc : ∀ v, ρ (.const v) = v := fun v => hbase _ (fun _ _ _ _ _ e => by cases e)
        have hfn : ∀ f, ρ (.func f) = .func (.func f) #[] #[] := fun v => hbase _ (fun _ _ _ _ _ e => by cases e)
        have p37 : ρ (.tmp 45) = .string (daysA.extract (3 * wd) (3 * wd + 3) ++ ⟨#[44, 32]⟩ ++ two d ++ ⟨#[32]⟩ ++ monthsA.extract (3 * m - 3) (3 * m) ++ ⟨#[32]⟩ ++ decS (y : Int) ++ ⟨#[32]⟩ ++ two h ++ ⟨#[58]⟩ ++ two i ++ ⟨#[58]⟩ ++ two s ++ ⟨#[32, 71, 77, 84]⟩) := (Option.some.inj (hdep ⟨37, .data⟩ (by simp) rfl _ 45 rfl rfl : some (.string (daysA.extract (3 * wd) (3 * wd + 3) ++ ⟨#[44, 32]⟩ ++ two d ++ ⟨#[32]⟩ ++ monthsA.extract (3 * m - 3) (3 * m) ++ ⟨#[32]⟩ ++ decS (y : Int) ++ ⟨#[32]⟩ ++ two h ++ ⟨#[58]⟩ ++ two i ++ ⟨#[58]⟩ ++ two s ++ ⟨#[32, 71, 77, 84]⟩)) = some (ρ (.tmp 45)))).symm
        simp only [execOp, hc, hfn, p37]
        go_simp
        exact ⟨rfl, rfl⟩
      · trivial
  · intro a W hbW hsz hdf hall
    have h38 := hall 38 _ 2 rfl rfl
    have e38 : a.tmps.getD 2 undef = .string (fmtS n) := by
      have : some (.string (fmtT wd m y d h i s)) = some (a.tmps.getD 2 undef) := h38
      rw [EF.out]; exact (Option.some.inj this).symm
    obtain ⟨tmps, defers⟩ := a
    simp only at hsz hdf e38
    subst hdf
    go_wp2
    exact bodyPost_ret (results_tmp Tryd.results94 _ _ _) rfl ⟨congrArg Ending.returned e38, belV.trans (hbW.mono (by have := belV.size; omega))⟩
theorem fmtR_yes {n : Int} (h : inB n 0 253402300799 = true) : fmtR n = (0, fmtS n) := by simp [fmtR, h]
theorem fmtR_no {n : Int} (h : inB n 0 253402300799 = false) : fmtR n = (3, ⟨#[]⟩) := by simp [fmtR, h]
theorem spec_FormatDate (n : Int) (w : World) : Calls Tryd.prog 99 #[.int .i64 n] w fun e w' => e = .returned (.agg #[.int .i64 (fmtR n).1, .string (fmtR n).2]) ∧ Below w.heap.size w w' := by
  by_cases h : inB n 0 253402300799 = true
  · obtain ⟨h1, h2⟩ := inB_iff.1 h
    rw [fmtR_yes h]
    go_enter Tryd.func99, Tryd.ntmps99
    go_wp2_with (first | (go_at_call 105; ((with_reducible refine (spec_l3Known _ _).mono ?_); rintro e w' ⟨rfl, rfl⟩)) | (go_at_call 169; ((with_reducible refine (spec_l3Format _ h1 h2 _).mono ?_); rintro e w' ⟨rfl, hb⟩; obtain ⟨hc, hf⟩ := bcell hb; have hz := hb.size; (try simp only [World.size_alloc, World.size_setCell, World.size_drew] at hz); obtain ⟨hlt, hle, hn1, hn2, hn3, hn4⟩ := bsize hb; (try simp only [World.size_alloc, World.size_setCell, World.size_drew] at hlt hle hn1 hn2 hn3 hn4); (try have hr0 : w.heap.size < w'.heap.size := by omega); (try have hr1 : w.heap.size + 1 < w'.heap.size := by omega); (try have hs0 : wS.heap.size < w'.heap.size := by omega); (try have hs1 : wG.heap.size < w'.heap.size := by omega))))
    all_goals exact bodyPost_ret (res_row Tryd.results99 _ _ rfl (blk_cast (by repeat' (first | (with_reducible assumption) | (with_reducible exact blk_new _ _) | (with_reducible apply blk_set) | (with_reducible refine blk_alloc ?_ _) | (with_reducible refine blk_drew ?_) | refine blk_then ?_ (by with_reducible assumption))) (by first | (simp; done) | rfl)) Tryd.underlying26 rfl _ (by kernel_rfl) rfl) rfl ⟨rfl, by first | (with_reducible rfl) | exact (by first | (with_reducible exact Below.refl _ _) | ((repeat' (first | (with_reducible exact Below.refl _ _) | (with_reducible assumption) | (with_reducible refine below_alloc ?_ _) | (with_reducible refine Below.drew ?_) | (with_reducible refine below_drewN ?_ _) | (with_reducible refine Below.setCell ?_ ?_ _) | refine below_then ?_ (by with_reducible assumption))) <;> (first | omega | (simp; done) | (simp; omega))))⟩
  · simp only [Bool.not_eq_true] at h
    rw [fmtR_no h]
    go_enter Tryd.func99, Tryd.ntmps99
    go_wp2_with (go_at_call 105; ((with_reducible refine (spec_l3Known _ _).mono ?_); rintro e w' ⟨rfl, rfl⟩))
    all_goals exact bodyPost_ret (res_row Tryd.results99 _ _ rfl (blk_cast (by repeat' (first | (with_reducible assumption) | (with_reducible exact blk_new _ _) | (with_reducible apply blk_set) | (with_reducible refine blk_alloc ?_ _) | (with_reducible refine blk_drew ?_) | refine blk_then ?_ (by with_reducible assumption))) (by first | (simp; done) | rfl)) Tryd.underlying26 rfl _ (by kernel_rfl) rfl) rfl ⟨rfl, by first | (with_reducible rfl) | exact (by first | (with_reducible exact Below.refl _ _) | ((repeat' (first | (with_reducible exact Below.refl _ _) | (with_reducible assumption) | (with_reducible refine below_alloc ?_ _) | (with_reducible refine Below.drew ?_) | (with_reducible refine below_drewN ?_ _) | (with_reducible refine Below.setCell ?_ ?_ _) | refine below_then ?_ (by with_reducible assumption))) <;> (first | omega | (simp; done) | (simp; omega))))⟩
theorem impl_FormatDate (n : Int) (w : World) (ht : Tab w) : Calls Tryd.prog 39 #[.int .i64 n] w fun e w' => e = .returned (.agg #[.int .i64 (fmtR n).1, .string (fmtR n).2]) ∧ Below w.heap.size w w' := by
  by_cases h : inB n 0 253402300799 = true
  · obtain ⟨h1, h2⟩ := inB_iff.1 h
    rw [fmtR_yes h]
    go_enter Tryd.func39, Tryd.ntmps39
    go_wp2_with (first | (go_at_call 97; ((with_reducible refine (impl_isSeconds _ _).mono ?_); rintro e w' ⟨rfl, rfl⟩)) | (go_at_call 94; ((with_reducible refine (impl_formatDate _ h1 h2 _ (ht.then (by exact (by first | (with_reducible exact Below.refl _ _) | ((repeat' (first | (with_reducible exact Below.refl _ _) | (with_reducible assumption) | (with_reducible refine below_alloc ?_ _) | (with_reducible refine Below.drew ?_) | (with_reducible refine below_drewN ?_ _) | (with_reducible refine Below.setCell ?_ ?_ _) | refine below_then ?_ (by with_reducible assumption))) <;> (first | omega | (simp; done) | (simp; omega))))))).mono ?_); rintro e w' ⟨rfl, hb⟩; obtain ⟨hc, hf⟩ := bcell hb; have hz := hb.size; (try simp only [World.size_alloc, World.size_setCell, World.size_drew] at hz); obtain ⟨hlt, hle, hn1, hn2, hn3, hn4⟩ := bsize hb; (try simp only [World.size_alloc, World.size_setCell, World.size_drew] at hlt hle hn1 hn2 hn3 hn4); (try have hr0 : w.heap.size < w'.heap.size := by omega); (try have hr1 : w.heap.size + 1 < w'.heap.size := by omega); (try have hs0 : wS.heap.size < w'.heap.size := by omega); (try have hs1 : wG.heap.size < w'.heap.size := by omega))))
    all_goals exact bodyPost_ret (res_row Tryd.results39 _ _ rfl (blk_cast (by repeat' (first | (with_reducible assumption) | (with_reducible exact blk_new _ _) | (with_reducible apply blk_set) | (with_reducible refine blk_alloc ?_ _) | (with_reducible refine blk_drew ?_) | refine blk_then ?_ (by with_reducible assumption))) (by first | (simp; done) | rfl)) Tryd.underlying26 rfl _ (by kernel_rfl) rfl) rfl ⟨rfl, by first | (with_reducible rfl) | exact (by first | (with_reducible exact Below.refl _ _) | ((repeat' (first | (with_reducible exact Below.refl _ _) | (with_reducible assumption) | (with_reducible refine below_alloc ?_ _) | (with_reducible refine Below.drew ?_) | (with_reducible refine below_drewN ?_ _) | (with_reducible refine Below.setCell ?_ ?_ _) | refine below_then ?_ (by with_reducible assumption))) <;> (first | omega | (simp; done) | (simp; omega))))⟩
  · simp only [Bool.not_eq_true] at h
    rw [fmtR_no h]
    go_enter Tryd.func39, Tryd.ntmps39
    go_wp2_with (go_at_call 97; ((with_reducible refine (impl_isSeconds _ _).mono ?_); rintro e w' ⟨rfl, rfl⟩))
    all_goals exact bodyPost_ret (res_row Tryd.results39 _ _ rfl (blk_cast (by repeat' (first | (with_reducible assumption) | (with_reducible exact blk_new _ _) | (with_reducible apply blk_set) | (with_reducible refine blk_alloc ?_ _) | (with_reducible refine blk_drew ?_) | refine blk_then ?_ (by with_reducible assumption))) (by first | (simp; done) | rfl)) Tryd.underlying26 rfl _ (by kernel_rfl) rfl) rfl ⟨rfl, by first | (with_reducible rfl) | exact (by first | (with_reducible exact Below.refl _ _) | ((repeat' (first | (with_reducible exact Below.refl _ _) | (with_reducible assumption) | (with_reducible refine below_alloc ?_ _) | (with_reducible refine Below.drew ?_) | (with_reducible refine below_drewN ?_ _) | (with_reducible refine Below.setCell ?_ ?_ _) | refine below_then ?_ (by with_reducible assumption))) <;> (first | omega | (simp; done) | (simp; omega))))⟩
end Go.Proofs.YtklnccoknldkcaaDoor
