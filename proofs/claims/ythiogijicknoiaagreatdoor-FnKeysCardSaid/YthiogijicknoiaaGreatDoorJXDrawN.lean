/- Joined: DrawN. -/
import Derived.Test.YthiogijicknoiaaGreatDoorJXDrawM
import Derived.Test.YthiogijicknoiaaGreatDoorJB11
/- What is drawn for keys. -/
namespace Go.Proofs.YthiogijicknoiaaGreatDoor
open Go.RowKit
set_option linter.unusedSimpArgs false
set_option linter.unusedVariables false
set_option maxRecDepth 100000

theorem res_row2n {P : Program} {fn : Func} {p q : Tmp} {ty : TypeId} (h : fn.results = #[.cell p ty, .tmp q]) (tmps : Array Value) (w : World) {g : Nat} {t : TypeId} {cs : Array Value} {fr : Nat × Nat} {d : TypeDesc}
    (hp : tmps.getD p undef = .pointer (some ⟨g, 0, none⟩)) (hg : w.heap[g]? = some (.cells cs t fr))
    (hu : P.underlying ty = some d) (hd : (match d with | .struct _ | .array _ _ => true | _ => false) = true) (n : Nat) (hi : (P.info? ty).map (·.size) = some n) (hn : n = cs.size) {v : Value} (hv : tmps.getD q undef = v) :
    (results fn tmps).run P w = .ok (.tuple #[.agg cs, v]) w := by
  have hl := run_loadVar_row (P := P) w g t ty cs fr d hg hu hd (by rw [hi, hn])
  have ha : (asAddr (tmps.getD p undef)).run P w = .ok ⟨g, 0, none⟩ w := by rw [hp]; rfl
  rw [Array.getD_eq_getD_getElem?] at ha hv
  simp only [results, h]
  simp [Sem.run_bind, ha, hl, hv, Result.andThen]
/-- One name behind a row of names. -/
theorem app_nm (g n cap : Nat) (l : List ByteArray) (hl : l.length = n) (hn : n ≤ 1000) (x : ByteArray) (w : World) (hB : VRow w g n cap 1 (strV l)) (ty : TypeId) :
    ∃ g' cap' w', (Builtin.append_ #[27, 27] ty #[.slice (some ⟨g, 0, none⟩) n cap, .slice (some ⟨w.heap.size, 0, none⟩) 1 1]).run Tryz.prog (w.alloc (.cells #[.string x] 9)) = .ok (.slice (some ⟨g', 0, none⟩) (n + 1) cap') w' ∧
      (g' = g ∨ w.heap.size ≤ g') ∧ VRow w' g' (n + 1) cap' 1 (strV (l ++ [x])) ∧ Chg (w.alloc (.cells #[.string x] 9)) w' g (g + 1) := by
  obtain ⟨g', cap', w', h1, h2, h3, h4⟩ := app_vals Tryz.underlying27 infoStr rfl (some ⟨w.heap.size, 0, none⟩) 1 1 (strV [x]) rfl (one_strV _) g n cap (strV l) (w.alloc (.cells #[.string x] 9)) (hB.alloc _) (RowAt.rd (RowAt.of_alloc _ _ _ _ rfl)) (fun h => by cases h) (by omega) (by omega) (by omega) ty
  rw [World.size_alloc] at h2
  exact ⟨g', cap', w', h1, by omega, by rw [strV_app]; exact h3, h4⟩
set_option maxHeartbeats 6400000 in
theorem spec_DrawFullKey (a : Option Addr) (n c : Nat) (bs : List UInt8) (hl : bs.length = n) (hn : n ≤ 1048576) (w : World) (hr : Rd w a (bs.map byteV)) :
    Calls Tryz.prog 10 #[.slice a n c] w fun e w' => ∃ (m h p : ByteArray) (g cap : Nat) (l : List Hd) (gn capn : Nat) (ns : List ByteArray), e = .returned (.tuple #[.agg #[.string m, .string h, .string p, .slice (some ⟨g, 0, none⟩) l.length cap], .slice (some ⟨gn, 0, none⟩) ns.length capn]) ∧ (m.size ≤ 20 ∧ h.size ≤ 20 ∧ p.size ≤ 101) ∧ RowAt w' g (hV l) ∧ RowAt w' gn (strV ns) ∧ (l.length ≤ 201 ∧ SmH 210 l) ∧ (ns.length ≤ 5 ∧ ∀ x ∈ ns, x.size ≤ 20) ∧ Below w.heap.size w w' := by
  have hs0 := src_start (w.alloc (.cells #[.string ⟨#[]⟩, .string ⟨#[]⟩, .string ⟨#[]⟩, .slice none 0 0] 26)) a n c bs hl hn (hr.alloc _)
  rw [World.size_alloc] at hs0
  have hG := hs0.lt
  have hne0 : w.heap.size ≠ (w.heap.size + 1) := by omega
  go_enter Tryz.func10, Tryz.ntmps10
  go_wp2_with (first
    | (go_at_call 54; ((with_reducible refine (spec_l1Source a n c _).mono ?_); rintro e w' ⟨rfl, rfl⟩))
    | (go_at_call 55; ((with_reducible refine (spec_l1Pick (fun x => 0 ≤ x ∧ x ≤ 5) (w.heap.size + 1) a n c (0) _ 6 _ _ rfl (by omega) (by omega) (by (simp; done)) _ (by repeat' (first | (with_reducible assumption) | (with_reducible refine Src.alloc ?_ _) | (with_reducible refine Src.drew ?_) | (with_reducible refine Src.other ?_ _ _ (by first | omega | (simp; done) | (simp; omega))) | refine Src.then ?_ (by with_reducible assumption))) (by omega) (rd_at (by first | rfl | (simp; done))) (by first | omega | (simp; omega))).mono ?_); rintro e w1 ⟨r, rfl, ⟨hr0, hr1⟩, hs1, hg1⟩; have z1 := blk_g (blk_alloc (blk_alloc (blk_alloc (blk_new w (.cells #[.string ⟨#[]⟩, .string ⟨#[]⟩, .string ⟨#[]⟩, .slice none 0 0] 26)) _) _) _) hg1 hne0; have hW1 := ((VRow.start ((w.alloc (.cells #[.string ⟨#[]⟩, .string ⟨#[]⟩, .string ⟨#[]⟩, .slice none 0 0] 26)).alloc (.cells #[.slice a n c, .int .i64 0] 131)) 9 1).alloc (.cells #[.int .i64 0, .int .i64 1, .int .i64 2, .int .i64 2, .int .i64 4, .int .i64 5] 2)).grown hg1 (by simp only [World.size_alloc]; omega); obtain ⟨M, rfl⟩ := Int.eq_ofNat_of_zero_le hr0; have hgx1 : (((w.alloc (.cells #[.string ⟨#[]⟩, .string ⟨#[]⟩, .string ⟨#[]⟩, .slice none 0 0] 26)).alloc (.cells #[.slice a n c, .int .i64 0] 131))).grownBy w1 (some (w.heap.size + 1)) := (by exact (by repeat' (first | (with_reducible assumption) | (with_reducible exact World.grownBy.refl _ _) | (with_reducible refine g_alloc ?_ _) | (with_reducible refine g_drew ?_) | (with_reducible refine g_drewN ?_ _) | (with_reducible refine g_set ?_ (by first | omega | (simp; done) | (simp; omega)) _) | refine g_then ?_ (by with_reducible assumption) | refine g_below ?_ (by with_reducible assumption)))))))
  simp only [World.size_alloc] at hW1
  have HZ := Lib.hid z1
  clear z1 hg1 hs0 hG
  go_loopw [5, 6] (fun v i wr => ∃ (m g cap : Nat) (ns : List ByteArray), i = .int .i64 (m : Int) ∧ ns.length + m ≤ 5 ∧ v = .slice (some ⟨g, 0, none⟩) ns.length cap ∧ w.heap.size + 2 ≤ g ∧ VRow wr g ns.length cap 1 (strV ns) ∧ (∀ x ∈ ns, x.size ≤ 20) ∧ Src wr (w.heap.size + 1) a n c (1 + ns.length) ∧ (((w.alloc (.cells #[.string ⟨#[]⟩, .string ⟨#[]⟩, .string ⟨#[]⟩, .slice none 0 0] 26)).alloc (.cells #[.slice a n c, .int .i64 0] 131))).grownBy wr (some (w.heap.size + 1)) ∧ wr.heap[w.heap.size]? = some (.cells #[.string ⟨#[]⟩, .string ⟨#[]⟩, .string ⟨#[]⟩, .slice none 0 0] 26)) (fun _ i _ => (intOf i).toNat)
  case atStart => exact ⟨M, _, _, [], rfl, by show 0 + M ≤ 5; omega, rfl, Nat.le_refl _, hW1, (fun _ h => by cases h), hs1, hgx1, HZ.out⟩
  case round =>
    clear hs1 hgx1 hW1 HZ
    obtain ⟨m, g, cap, l, rfl, hlm, rfl, hg, hU, hsm, hsr, hgr, zR⟩ := hrel
    have lR := hsr.lt
    have zlt := (Array.getElem?_eq_some_iff.1 zR).1
    have glt := hU.lt
    by_cases hm : 0 < m
    · obtain ⟨m, rfl⟩ : ∃ j, m = j + 1 := ⟨m - 1, by omega⟩
      have HV := Lib.hid hU
      have Hsm := Lib.hid hsm
      have HZ := Lib.hid zR
      clear hU hsm zR
      go_wp2_with (first
        | (go_at_call 56; ((with_reducible refine (spec_l1Word (fun x => x.size ≤ 20) (w.heap.size + 1) a n c (1 + l.length) _ 7 _ _ rfl (by omega) (by omega) (strs_small _ _ (by kernel_rfl)) _ (by repeat' (first | (with_reducible assumption) | (with_reducible refine Src.alloc ?_ _) | (with_reducible refine Src.drew ?_) | (with_reducible refine Src.other ?_ _ _ (by first | omega | (simp; done) | (simp; omega))) | refine Src.then ?_ (by with_reducible assumption))) (by omega) (rd_at (by first | rfl | (simp; done))) (by first | omega | (simp; omega))).mono ?_); rintro e w2 ⟨x, rfl, hx, hs2, hg2⟩; obtain ⟨g', cap', W', d1, d2, d3, d4⟩ := app_nm g l.length cap l rfl (by omega) x w2 ((HV.out.alloc _).grown hg2 (by omega)) 27; have D1 := Lib.hid d1; clear d1))
        | (at_builtin; refine wpList_appB (v := .slice (some ⟨g, 0, none⟩) l.length cap) (xv := .slice (some ⟨w2.heap.size, 0, none⟩) 1 1) rfl _ _ rfl (by rfl) (by rfl) D1.out ?_))
      go_roundw
      case rel =>
        have hg3 := (g_alloc hgr _).trans hg2
        have hz2 := hg2.size
        simp only [World.size_alloc] at hz2
        exact ⟨m, g', cap', l ++ [x], by go_num, by rw [List.length_append, List.length_singleton]; omega, by rw [List.length_append, List.length_singleton], by omega, by rw [List.length_append, List.length_singleton]; exact d3, (fun i hi => (List.mem_append.1 hi).elim (fun h => Hsm.out i h) (fun h => by rw [List.mem_singleton.1 h]; exact hx)), by rw [List.length_append, List.length_singleton]; exact (src_chg (hs2.alloc _) d4 (by omega)).mono (by omega), g_chg (g_alloc hg3 _) d4 (by simp only [World.size_alloc]; omega), d4.blk (blk_alloc (blk_g (blk_alloc HZ.out _) hg2 hne0) _) (.inl (by omega))⟩
      case measure => (simp [intOf] <;> omega)
    · obtain rfl : m = 0 := by omega
      go_wp2_with (go_at_call 57; ((with_reducible refine (spec_l5Bent (w.heap.size + 1) a n c 10 _ (hsr.mono (by omega)) (by omega)).mono ?_); rintro e w3 ⟨m, h, p, g3, cap3, l3, rfl, ⟨hm, hh, hp⟩, hg3, hW3, ⟨hl3, hsm3⟩, hs3, hgr3⟩; have z3 := blk_g zR hgr3 hne0; have hV3 := hU.grown hgr3 (by omega); have fz := fzh z3; obtain ⟨j0, j1, j2, j3⟩ := cells4 z3))
      have hgx3 := hgr.trans hgr3
      have hbx := g_start (w := w.alloc (.cells #[.string ⟨#[]⟩, .string ⟨#[]⟩, .string ⟨#[]⟩, .slice none 0 0] 26)) (o := .cells #[.slice a n c, .int .i64 0] 131) (by rw [World.size_alloc]; exact hgx3)
      have r3 : VRow _ g3 l3.length cap3 2 (hV l3) := ((((hW3.other w.heap.size 0 (.string m) (by omega)).other w.heap.size 1 (.string h) (by omega)).other w.heap.size 2 (.string p) (by omega)).other w.heap.size 3 (.slice (some ⟨g3, 0, none⟩) l3.length cap3) (by omega))
      have rn : VRow _ g l.length cap 1 (strV l) := ((((hV3.other w.heap.size 0 (.string m) (by omega)).other w.heap.size 1 (.string h) (by omega)).other w.heap.size 2 (.string p) (by omega)).other w.heap.size 3 (.slice (some ⟨g3, 0, none⟩) l3.length cap3) (by omega))
      exact bodyPost_ret (res_row2n Tryz.results10 _ _ rfl (blk_set (blk_set (blk_set (blk_set z3 0 _) 1 _) 2 _) 3 _) Tryz.underlying26 rfl _ (by kernel_rfl) rfl rfl) rfl ⟨m, h, p, g3, cap3, l3, g, cap, l, rfl, ⟨hm, hh, hp⟩, r3.row, rn.row, ⟨hl3, hsm3⟩, ⟨by omega, hsm⟩, by exact (by first | (with_reducible exact Below.refl _ _) | ((repeat' (first | (with_reducible exact Below.refl _ _) | (with_reducible assumption) | (with_reducible refine below_alloc ?_ _) | (with_reducible refine Below.drew ?_) | (with_reducible refine below_drewN ?_ _) | (with_reducible refine Below.setCell ?_ ?_ _) | refine below_then ?_ (by with_reducible assumption))) <;> (first | omega | (simp; done) | (simp; omega))))⟩
end Go.Proofs.YthiogijicknoiaaGreatDoor
