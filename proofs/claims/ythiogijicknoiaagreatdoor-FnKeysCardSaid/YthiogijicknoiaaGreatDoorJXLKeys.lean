/- Joined: LKeys. -/
import Derived.Test.YthiogijicknoiaaGreatDoorJXDrawN
import Derived.Test.YthiogijicknoiaaGreatDoorJXKeyF
import Derived.Test.YthiogijicknoiaaGreatDoorJB23
import Derived.Test.YthiogijicknoiaaGreatDoorJXBig
import Derived.Test.YthiogijicknoiaaGreatDoorJB0
import Derived.Deep.DeepCutAuto
/- The law on keys: its walk. -/
namespace Go.Proofs.YthiogijicknoiaaGreatDoor
open Go.RowKit
set_option linter.unusedSimpArgs false
set_option linter.unusedVariables false

theorem keyR_code (m h p : ByteArray) (l : List Hd) : (keyR m h p l).1 = rqFault m h p l := by
  unfold keyR
  split
  · rename_i q; exact q.symm
  · rfl
theorem fullR_good {m h p : ByteArray} {l : List Hd} {ns : List ByteArray} (e : (fullR m h p l ns).1 = 0) : rqFault m h p l = 0 ∧ namesF ns = 0 ∧ fullR m h p l ns = (0, fullTo h p l ns) := by
  by_cases hz : rqFault m h p l = 0
  · by_cases hf : namesF ns = 0
    · exact ⟨hz, hf, fullR_ok hz hf⟩
    · rw [fullR_ns hz hf] at e; exact absurd e hf
  · rw [fullR_rq hz] at e; exact absurd e hz
theorem fullTo_key {h p h' p' : ByteArray} (l : List Hd) (ns : List ByteArray) (e : keyT h' p' = keyT h p) : fullTo h' p' l ns = fullTo h p l ns := by
  unfold fullTo
  rw [e]
theorem fullTo_pre (h p : ByteArray) (l : List Hd) (ns : List ByteArray) : (keyT h p).size ≤ (fullTo h p l ns).size ∧ (fullTo h p l ns).extract 0 (keyT h p).size = keyT h p := by
  have e : fullTo h p l ns = keyT h p ++ ba (ns.flatMap fun nm => (namedT l nm).data.toList) := by
    apply ByteArray.ext; apply Array.toList_inj.1
    simp [fullTo, ba]
  rw [e, ByteArray.size_append]
  refine ⟨by omega, ?_⟩
  apply ByteArray.ext; apply Array.toList_inj.1
  simp
  exact List.take_of_length_le (Nat.le_of_eq Array.length_toList)
theorem key_cut (h p : ByteArray) : (lowS h).size ≤ (keyT h p).size ∧ (keyT h p).extract (lowS h).size (keyT h p).size = ba (normL p.data.toList) := by
  have e : keyT h p = lowS h ++ ba (normL p.data.toList) := by
    apply ByteArray.ext; apply Array.toList_inj.1
    rw [keyT_list]; simp [ba]
  rw [e, ByteArray.size_append]
  refine ⟨by omega, ?_⟩
  apply ByteArray.ext; apply Array.toList_inj.1
  simp
  have d1 : List.drop (lowS h).size (lowS h).data.toList = [] := List.drop_of_length_le (Nat.le_of_eq Array.length_toList)
  rw [d1, List.take_nil, List.nil_append]
  exact List.take_of_length_le (Nat.le_of_eq Array.length_toList)
theorem fieldK0 (x : Int) (y : ByteArray) (w : World) : (Instr.field 31 (.agg #[.int .i64 x, .string y]) 0).run Tryz.prog w = .ok (.int .i64 x) w := by kernel_rfl
theorem fieldK1 (x : Int) (y : ByteArray) (w : World) : (Instr.field 31 (.agg #[.int .i64 x, .string y]) 1).run Tryz.prog w = .ok (.string y) w := by kernel_rfl
set_option maxHeartbeats 20000000 in
set_option maxRecDepth 100000 in
theorem FnKeys_walk (a : Option Addr) (n c : Nat) (bs : List UInt8) (hl : bs.length = n) (w : World) (hr : Rd w a (bs.map byteV)) (hn : n ≤ 9223372036854775807) (hm : MaxL w) : Calls Tryz.prog 3 #[.slice a n c] w fun e w' => e = .returned (.bool true) ∧ Below w.heap.size w w' := by
  by_cases h : n ≤ 1048576
  · have HM := Lib.hid hm
    clear hm
    go_enter Tryz.func3, Tryz.ntmps3
    go_upto_region 5 with (first
      | (go_at_call 9; ((with_reducible refine (lwBig _ _ _ _).mono ?_); rintro e w' ⟨rfl, rfl⟩))
      | (go_at_call 10; ((with_reducible refine (spec_DrawFullKey a n c bs hl h _ (by first | (with_reducible assumption) | exact RowAt.rd (by repeat' (first | (with_reducible assumption) | (with_reducible refine RowAt.alloc ?_ _) | (with_reducible refine RowAt.drew ?_) | (with_reducible refine RowAt.other ?_ _ _ (by first | omega | (simp; done) | (simp; omega))) | refine RowAt.then ?_ (by with_reducible assumption))) | exact Rd.below (by with_reducible assumption) (by first | (with_reducible exact Below.refl _ _) | ((repeat' (first | (with_reducible exact Below.refl _ _) | (with_reducible assumption) | (with_reducible refine below_alloc ?_ _) | (with_reducible refine Below.drew ?_) | (with_reducible refine below_drewN ?_ _) | (with_reducible refine Below.setCell ?_ ?_ _) | refine below_then ?_ (by with_reducible assumption))) <;> (first | omega | (simp; done) | (simp; omega)))))).mono ?_); rintro e w1 ⟨m, q, p, gl, capl, l, gn, capn, ns, rfl, ⟨hmz, hqz, hpz⟩, rowl, rown, ⟨hl2, hsm⟩, ⟨hns5, hns⟩, hb⟩; obtain ⟨hc, hf⟩ := bcell hb; have hz := hb.size; (try simp only [World.size_alloc, World.size_setCell, World.size_drew] at hz); obtain ⟨hlt, hle, hn1, hn2, hn3, hn4⟩ := bsize hb; (try simp only [World.size_alloc, World.size_setCell, World.size_drew] at hlt hle hn1 hn2 hn3 hn4); (try have hr0 : w.heap.size < w1.heap.size := by omega); (try have hr1 : w.heap.size + 1 < w1.heap.size := by omega); (try have hs0 : wS.heap.size < w1.heap.size := by omega); (try have hs1 : wG.heap.size < w1.heap.size := by omega)))
      | (go_at_call 11; ((with_reducible refine (impl_FullKey m q p (by omega) (by omega) (by omega) _ _ _ l rfl _ _ _ ns rfl _ (by first | (with_reducible assumption) | exact RowAt.rd (by repeat' (first | (with_reducible assumption) | (with_reducible refine RowAt.alloc ?_ _) | (with_reducible refine RowAt.drew ?_) | (with_reducible refine RowAt.other ?_ _ _ (by first | omega | (simp; done) | (simp; omega))) | refine RowAt.then ?_ (by with_reducible assumption))) | exact Rd.below (by with_reducible assumption) (by first | (with_reducible exact Below.refl _ _) | ((repeat' (first | (with_reducible exact Below.refl _ _) | (with_reducible assumption) | (with_reducible refine below_alloc ?_ _) | (with_reducible refine Below.drew ?_) | (with_reducible refine below_drewN ?_ _) | (with_reducible refine Below.setCell ?_ ?_ _) | refine below_then ?_ (by with_reducible assumption))) <;> (first | omega | (simp; done) | (simp; omega))))) (by omega) (hsm.big (by omega)) (by first | (with_reducible assumption) | exact RowAt.rd (by repeat' (first | (with_reducible assumption) | (with_reducible refine RowAt.alloc ?_ _) | (with_reducible refine RowAt.drew ?_) | (with_reducible refine RowAt.other ?_ _ _ (by first | omega | (simp; done) | (simp; omega))) | refine RowAt.then ?_ (by with_reducible assumption))) | exact Rd.below (by with_reducible assumption) (by first | (with_reducible exact Below.refl _ _) | ((repeat' (first | (with_reducible exact Below.refl _ _) | (with_reducible assumption) | (with_reducible refine below_alloc ?_ _) | (with_reducible refine Below.drew ?_) | (with_reducible refine below_drewN ?_ _) | (with_reducible refine Below.setCell ?_ ?_ _) | refine below_then ?_ (by with_reducible assumption))) <;> (first | omega | (simp; done) | (simp; omega))))) (by omega) (fun x hx => Nat.le_trans (hns x hx) (by omega)) (HM.out.then (by exact (by first | (with_reducible exact Below.refl _ _) | ((repeat' (first | (with_reducible exact Below.refl _ _) | (with_reducible assumption) | (with_reducible refine below_alloc ?_ _) | (with_reducible refine Below.drew ?_) | (with_reducible refine below_drewN ?_ _) | (with_reducible refine Below.setCell ?_ ?_ _) | refine below_then ?_ (by with_reducible assumption))) <;> (first | omega | (simp; done) | (simp; omega))))))).mono ?_); rintro e w2 ⟨rfl, hb⟩; obtain ⟨hc, hf⟩ := bcell hb; have hz := hb.size; (try simp only [World.size_alloc, World.size_setCell, World.size_drew] at hz); obtain ⟨hlt, hle, hn1, hn2, hn3, hn4⟩ := bsize hb; (try simp only [World.size_alloc, World.size_setCell, World.size_drew] at hlt hle hn1 hn2 hn3 hn4); (try have hr0 : w.heap.size < w2.heap.size := by omega); (try have hr1 : w.heap.size + 1 < w2.heap.size := by omega); (try have hs0 : wS.heap.size < w2.heap.size := by omega); (try have hs1 : wG.heap.size < w2.heap.size := by omega))))
    all_goals (try (go_ret; exact ⟨by first | rfl | (simp [*]; done) | (simp [*]; omega), by first | (with_reducible rfl) | exact (by first | (with_reducible exact Below.refl _ _) | ((repeat' (first | (with_reducible exact Below.refl _ _) | (with_reducible assumption) | (with_reducible refine below_alloc ?_ _) | (with_reducible refine Below.drew ?_) | (with_reducible refine below_drewN ?_ _) | (with_reducible refine Below.setCell ?_ ?_ _) | refine below_then ?_ (by with_reducible assumption))) <;> (first | omega | (simp; done) | (simp; omega))))⟩))
    have kR : (w2.alloc (.cells #[.int .i64 (fullR m q p l ns).1, .string (fullR m q p l ns).2] 31)).heap[w1.heap.size]? = some (.cells #[.string m, .string q, .string p, .slice (some ⟨gl, 0, none⟩) l.length capl] 26 (0, 0)) := (by repeat' (first | (with_reducible assumption) | (with_reducible exact blk_new _ _) | (with_reducible apply blk_set) | (with_reducible refine blk_new' _ _ _ (by first | omega | (simp only [World.size_alloc]; first | done | omega))) | (with_reducible refine blk_other ?_ _ _ _ (by omega)) | (with_reducible refine blk_drew ?_) | (with_reducible refine blk_alloc ?_ _) | refine blk_then ?_ (by with_reducible assumption)))
    have kT : (w2.alloc (.cells #[.int .i64 (fullR m q p l ns).1, .string (fullR m q p l ns).2] 31)).heap[w2.heap.size]? = some (.cells #[.int .i64 (fullR m q p l ns).1, .string (fullR m q p l ns).2] 31 (0, 0)) := blk_new _ _
    have belV : Below w.heap.size w (w2.alloc (.cells #[.int .i64 (fullR m q p l ns).1, .string (fullR m q p l ns).2] 31)) := by exact (by first | (with_reducible exact Below.refl _ _) | ((repeat' (first | (with_reducible exact Below.refl _ _) | (with_reducible assumption) | (with_reducible refine below_alloc ?_ _) | (with_reducible refine Below.drew ?_) | (with_reducible refine below_drewN ?_ _) | (with_reducible refine Below.setCell ?_ ?_ _) | refine below_then ?_ (by with_reducible assumption))) <;> (first | omega | (simp; done) | (simp; omega))))
    have rdl : Rd (w2.alloc (.cells #[.int .i64 (fullR m q p l ns).1, .string (fullR m q p l ns).2] 31)) (some ⟨gl, 0, none⟩) (hV l) := RowAt.rd (by exact (by repeat' (first | (with_reducible assumption) | (with_reducible refine RowAt.alloc ?_ _) | (with_reducible refine RowAt.drew ?_) | (with_reducible refine RowAt.other ?_ _ _ (by first | omega | (simp; done) | (simp; omega))) | refine RowAt.then ?_ (by with_reducible assumption))))
    have rdn : Rd (w2.alloc (.cells #[.int .i64 (fullR m q p l ns).1, .string (fullR m q p l ns).2] 31)) (some ⟨gn, 0, none⟩) (strV ns) := RowAt.rd (by exact (by repeat' (first | (with_reducible assumption) | (with_reducible refine RowAt.alloc ?_ _) | (with_reducible refine RowAt.drew ?_) | (with_reducible refine RowAt.other ?_ _ _ (by first | omega | (simp; done) | (simp; omega))) | refine RowAt.then ?_ (by with_reducible assumption))))
    have hM := HM.out.then belV
    have hns' : ∀ x ∈ ns, x.size ≤ 9223372036854775807 := fun x hx => Nat.le_trans (hns x hx) (by omega)
    have hbig := hsm.big (by omega)
    have Hbig := Lib.hid hbig
    have Hns := Lib.hid hns'
    have c1 := fun W hr rn => spec_FullKey m q p (by omega) (by omega) (by omega) (some ⟨gl, 0, none⟩) l.length capl l rfl (some ⟨gn, 0, none⟩) ns.length capn ns rfl W hr (by omega) hbig rn (by omega) hns'
    have c2 := fun W hr hM => impl_KeyOf m q p (by omega) (by omega) (by omega) (some ⟨gl, 0, none⟩) l.length capl l rfl W hr (by omega) hbig hM
    have c3 := fun W hr => spec_RequestFault m q p (by omega) (by omega) (by omega) (some ⟨gl, 0, none⟩) l.length capl l rfl W hr (by omega) hbig
    have hkc := keyR_code m q p l
    have hgood := fun e => fullR_good (m := m) (h := q) (p := p) (l := l) (ns := ns) e
    generalize (w2.alloc (.cells #[.int .i64 (fullR m q p l ns).1, .string (fullR m q p l ns).2] 31)) = V at *
    generalize w1.heap.size = bR at *
    generalize w2.heap.size = bT at *
    clear HM hr hb hc hf hz hsm hns hbig hns' rowl rown
    rcases hfr : fullR m q p l ns with ⟨c0, T⟩
    rcases hkr : keyR m q p l with ⟨k0, K⟩
    rw [hkr] at hkc
    simp only at hkc
    rw [← hkc] at c3
    simp only [hfr] at kT c1 hgood
    simp only [hkr] at c2
    have Hgood := Lib.hid hgood
    have Hkc := Lib.hid hkc
    have Hkr := Lib.hid hkr
    have C1 := Lib.hid c1
    have C2 := Lib.hid c2
    have C3 := Lib.hid c3
    have RDL := Lib.hid rdl
    have RDN := Lib.hid rdn
    have HMV := Lib.hid hM
    have HBV := Lib.hid belV
    clear c1 c2 c3 rdl rdn hM belV hgood hkc hkr hfr
    have x0 := fun p : Gb V => (cells4 (blk_then kR p.h)).1
    have x1 := fun p : Gb V => (cells4 (blk_then kR p.h)).2.1
    have x2 := fun p : Gb V => (cells4 (blk_then kR p.h)).2.2.1
    have x3 := fun p : Gb V => (cells4 (blk_then kR p.h)).2.2.2
    have t0 := fun p : Gb V => (cells2 (blk_then kT p.h)).1
    have hf0 := fieldK0
    have KR := Lib.hid kR
    have KT := Lib.hid kT
    clear kR kT
    refine wp_region_below (by kernel_rfl) (by kernel_rfl) ?_
    repeat (quiet_step (first | (go_at_call 12; exact gb_call (C1.out _ (RDL.out.below (Gb.h _)) (RDN.out.below (Gb.h _)))) | (go_at_call 13; exact gb_call (C2.out _ (RDL.out.below (Gb.h _)) (HMV.out.then (Gb.h _)))) | (go_at_call 14; exact gb_call (C3.out _ (RDL.out.below (Gb.h _))))))
    refine wpQuiet_nil ?_
    intro _ hw'
    obtain ⟨pz, rfl⟩ := hw'
    have hbz : Below V.heap.size V pz.w := pz.h
    clear x0 x1 x2 x3 t0
    generalize pz.w = z at *
    have kR := blk_then KR.out hbz
    have kT := blk_then KT.out hbz
    have hMz := HMV.out.then hbz
    have belz := below_then HBV.out hbz
    have rdl := RDL.out.below hbz
    have rdn := RDN.out.below hbz
    clear hbz KR KT HMV HBV RDL RDN C1 C3
    obtain ⟨x0, x1, x2, x3⟩ := cells4 kR
    obtain ⟨t0, t1⟩ := cells2 kT
    have lR := (Array.getElem?_eq_some_iff.1 kR).1
    have lT := (Array.getElem?_eq_some_iff.1 kT).1
    by_cases hc0 : c0 = 0
    · subst hc0
      obtain ⟨hz, hf, hfull⟩ := Hgood.out rfl
      have hT : T = fullTo q p l ns := (Prod.mk.inj hfull).2
      have hK0 := keyR_ok hz
      rw [Hkr.out] at hK0
      have hK : K = keyT q p := (Prod.mk.inj hK0).2
      obtain ⟨r1, r2, e1, e2⟩ := again_fault hz
      obtain ⟨kz, kx⟩ := key_cut q p
      obtain ⟨tz, tx⟩ := fullTo_pre q p l ns
      obtain ⟨_, _, _, _, pz2⟩ := rq_small r2
      have kz2 : K.size ≤ 300 := by rw [hK]; have := keyT_size (h := q) (p := p); omega
      rw [← hK] at kz kx tz tx
      rw [← hT] at tz tx
      have hH : (lowS q).size ≤ 20 := by rw [lowS_size]; exact hqz
      have elow : lowerR q = (0, lowS q) := by simp [lowerR, show q.size ≤ 1000 by omega]
      have ef1 : fullR m (lowS q) p l ns = (0, T) := by rw [fullR_ok r1 hf, fullTo_key l ns e1, ← hT]
      have ef2 : fullR m (lowS q) (ba (normL p.data.toList)) l ns = (0, T) := by rw [fullR_ok r2 hf, fullTo_key l ns e2, ← hT]
      have ek2 : keyR m (lowS q) (ba (normL p.data.toList)) l = (0, K) := by rw [keyR_ok r2, e2, ← hK]
      have c4 := fun W => impl_LowerText q W (by omega)
      simp only [elow] at c4
      generalize ba (normL p.data.toList) = P' at *
      generalize lowS q = H at *
      have c5 := fun W hr rn hM => impl_FullKey m H p (by omega) (by omega) (by omega) (some ⟨gl, 0, none⟩) l.length capl l rfl (some ⟨gn, 0, none⟩) ns.length capn ns rfl W hr (by omega) Hbig.out rn (by omega) Hns.out hM
      have c6 := fun W hr hM => impl_KeyOf m H P' (by omega) (by omega) (by omega) (some ⟨gl, 0, none⟩) l.length capl l rfl W hr (by omega) Hbig.out hM
      have c7 := fun W hr rn => spec_FullKey m H P' (by omega) (by omega) (by omega) (some ⟨gl, 0, none⟩) l.length capl l rfl (some ⟨gn, 0, none⟩) ns.length capn ns rfl W hr (by omega) Hbig.out rn (by omega) Hns.out
      simp only [ef1] at c5
      simp only [ek2] at c6
      simp only [ef2] at c7
      have C4 := Lib.hid c4
      have C5 := Lib.hid c5
      have C6 := Lib.hid c6
      have C7 := Lib.hid c7
      have HTX := Lib.hid tx
      have HKX := Lib.hid kx
      clear c4 c5 c6 c7 hT hK hK0 hfull r1 r2 e1 e2 elow ef1 ef2 ek2 Hgood Hkr Hkc hz hf tx kx
      have hlt : ((K.size : Int) < (H.size : Int)) = False := eq_false (by omega)
      have hf1 := fieldK1
      go_upto_region 16 with (first
        | (go_at_call 15; ((with_reducible refine (C4.out _).mono ?_); rintro e w3 ⟨rfl, hb⟩; have kS3 := blk_then (blk_new z (.cells #[.string m, .string q, .string p, .slice (some ⟨gl, 0, none⟩) l.length capl] 26 (0, 0))) hb; obtain ⟨hc, hf⟩ := bcell hb; have hz := hb.size; (try simp only [World.size_alloc, World.size_setCell, World.size_drew] at hz); obtain ⟨hlt, hle, hn1, hn2, hn3, hn4⟩ := bsize hb; (try simp only [World.size_alloc, World.size_setCell, World.size_drew] at hlt hle hn1 hn2 hn3 hn4); (try have hr0 : w.heap.size < w3.heap.size := by omega); (try have hr1 : w.heap.size + 1 < w3.heap.size := by omega); (try have hs0 : wS.heap.size < w3.heap.size := by omega); (try have hs1 : wG.heap.size < w3.heap.size := by omega)))
        | (go_at_call 13; ((with_reducible refine (C2.out _ (rdl.below (by exact (by first | (with_reducible exact Below.refl _ _) | ((repeat' (first | (with_reducible exact Below.refl _ _) | (with_reducible assumption) | (with_reducible refine below_alloc ?_ _) | (with_reducible refine Below.drew ?_) | (with_reducible refine below_drewN ?_ _) | (with_reducible refine Below.setCell ?_ ?_ _) | refine below_then ?_ (by with_reducible assumption))) <;> (first | omega | (simp; done) | (simp; omega)))))) (hMz.then (by exact (by first | (with_reducible exact Below.refl _ _) | ((repeat' (first | (with_reducible exact Below.refl _ _) | (with_reducible assumption) | (with_reducible refine below_alloc ?_ _) | (with_reducible refine Below.drew ?_) | (with_reducible refine below_drewN ?_ _) | (with_reducible refine Below.setCell ?_ ?_ _) | refine below_then ?_ (by with_reducible assumption))) <;> (first | omega | (simp; done) | (simp; omega))))))).mono ?_); rintro e w4 ⟨rfl, hb⟩; have kS4 : w4.heap[z.heap.size]? = some (.cells #[.string m, .string H, .string p, .slice (some ⟨gl, 0, none⟩) l.length capl] 26 (0, 0)) := blk_cast (blk_then (blk_set kS3 1 (.string H)) hb) rfl; obtain ⟨s0, s1, s2, s3⟩ := cells4 kS4; have lS4 := (Array.getElem?_eq_some_iff.1 kS4).1; have n1 : (z.heap.size = w4.heap.size) = False := eq_false (by omega); have n2 : (w4.heap.size = z.heap.size) = False := eq_false (by omega); obtain ⟨hc, hf⟩ := bcell hb; have hz := hb.size; (try simp only [World.size_alloc, World.size_setCell, World.size_drew] at hz); obtain ⟨hlt, hle, hn1, hn2, hn3, hn4⟩ := bsize hb; (try simp only [World.size_alloc, World.size_setCell, World.size_drew] at hlt hle hn1 hn2 hn3 hn4); (try have hr0 : w.heap.size < w4.heap.size := by omega); (try have hr1 : w.heap.size + 1 < w4.heap.size := by omega); (try have hs0 : wS.heap.size < w4.heap.size := by omega); (try have hs1 : wG.heap.size < w4.heap.size := by omega))))
      have kA : (w4.alloc (.cells #[.string m, .string H, .string (K.extract H.size K.size), .slice (some ⟨gl, 0, none⟩) l.length capl] 26)).heap[w4.heap.size]? = some (.cells #[.string m, .string H, .string P', .slice (some ⟨gl, 0, none⟩) l.length capl] 26 (0, 0)) := by rw [← HKX.out]; exact blk_new _ _
      have kS : (w4.alloc (.cells #[.string m, .string H, .string (K.extract H.size K.size), .slice (some ⟨gl, 0, none⟩) l.length capl] 26)).heap[z.heap.size]? = some (.cells #[.string m, .string H, .string p, .slice (some ⟨gl, 0, none⟩) l.length capl] 26 (0, 0)) := blk_alloc kS4 _
      have kT2 : (w4.alloc (.cells #[.string m, .string H, .string (K.extract H.size K.size), .slice (some ⟨gl, 0, none⟩) l.length capl] 26)).heap[bT]? = some (.cells #[.int .i64 0, .string T] 31 (0, 0)) := by exact (by repeat' (first | (with_reducible assumption) | (with_reducible exact blk_new _ _) | (with_reducible apply blk_set) | (with_reducible refine blk_new' _ _ _ (by first | omega | (simp only [World.size_alloc]; first | done | omega))) | (with_reducible refine blk_other ?_ _ _ _ (by omega)) | (with_reducible refine blk_drew ?_) | (with_reducible refine blk_alloc ?_ _) | refine blk_then ?_ (by with_reducible assumption)))
      have belB : Below z.heap.size z (w4.alloc (.cells #[.string m, .string H, .string (K.extract H.size K.size), .slice (some ⟨gl, 0, none⟩) l.length capl] 26)) := by exact (by first | (with_reducible exact Below.refl _ _) | ((repeat' (first | (with_reducible exact Below.refl _ _) | (with_reducible assumption) | (with_reducible refine below_alloc ?_ _) | (with_reducible refine Below.drew ?_) | (with_reducible refine below_drewN ?_ _) | (with_reducible refine Below.setCell ?_ ?_ _) | refine below_then ?_ (by with_reducible assumption))) <;> (first | omega | (simp; done) | (simp; omega))))
      have rdl2 := rdl.below belB
      have rdn2 := rdn.below belB
      have hM2 := hMz.then belB
      have bel2 := below_then belz belB
      generalize (w4.alloc (.cells #[.string m, .string H, .string (K.extract H.size K.size), .slice (some ⟨gl, 0, none⟩) l.length capl] 26)) = V2 at *
      generalize w4.heap.size = bA at *
      generalize z.heap.size = bS at *
      have KA := Lib.hid kA
      have KS := Lib.hid kS
      have KT := Lib.hid kT2
      have RDL := Lib.hid rdl2
      have RDN := Lib.hid rdn2
      have HMV := Lib.hid hM2
      have HBV := Lib.hid bel2
      have htx := HTX.out
      clear kA kS kT2 belB rdl2 rdn2 hM2 bel2 kR kT kS3 kS4 rdl rdn hMz belz x0 x1 x2 x3 t0 t1 s0 s1 s2 s3 HTX HKX C2 C4
      have u1 := fun p : Gb V2 => (cells2 (blk_then KT.out p.h)).2
      have s0 := fun p : Gb V2 => (cells4 (blk_then KS.out p.h)).1
      have s1 := fun p : Gb V2 => (cells4 (blk_then KS.out p.h)).2.1
      have s2 := fun p : Gb V2 => (cells4 (blk_then KS.out p.h)).2.2.1
      have s3 := fun p : Gb V2 => (cells4 (blk_then KS.out p.h)).2.2.2
      have a0 := fun p : Gb V2 => (cells4 (blk_then KA.out p.h)).1
      have a1 := fun p : Gb V2 => (cells4 (blk_then KA.out p.h)).2.1
      have a2 := fun p : Gb V2 => (cells4 (blk_then KA.out p.h)).2.2.1
      have a3 := fun p : Gb V2 => (cells4 (blk_then KA.out p.h)).2.2.2
      have hge : (K.size : Int) ≤ (T.size : Int) := by omega
      have hst : (T.toList == T.toList) = true := by simp
      have hsk : (K.toList == K.toList) = true := by simp
      refine wp_region_below (by kernel_rfl) (by kernel_rfl) ?_
      repeat (quiet_step (first | (go_at_call 11; exact gb_call (C5.out _ (RDL.out.below (Gb.h _)) (RDN.out.below (Gb.h _)) (HMV.out.then (Gb.h _)))) | (go_at_call 13; exact gb_call (C6.out _ (RDL.out.below (Gb.h _)) (HMV.out.then (Gb.h _)))) | (go_at_call 12; exact gb_call (C7.out _ (RDL.out.below (Gb.h _)) (RDN.out.below (Gb.h _))))))
      refine wpQuiet_nil ?_
      intro _ hw'
      obtain ⟨py, rfl⟩ := hw'
      have hby : Below V2.heap.size V2 py.w := py.h
      clear u1 s0 s1 s2 s3 a0 a1 a2 a3
      go_wp2_with fail
      exact bodyPost_ret (results_tmp Tryz.results3 _ _ _) rfl ⟨rfl, below_then HBV.out hby⟩
    · have hcb : (c0 != 0) = true := by rw [bne_iff_ne]; exact hc0
      go_wp2
      exact bodyPost_ret (results_tmp Tryz.results3 _ _ _) rfl ⟨rfl, belz⟩
  · go_enter Tryz.func3, Tryz.ntmps3
    go_wp2_with (go_at_call 9; ((with_reducible refine (lwBig _ _ _ _).mono ?_); rintro e w' ⟨rfl, rfl⟩))
    all_goals (go_ret; exact ⟨by first | rfl | (simp [*]; done) | (simp [*]; omega), by first | (with_reducible rfl) | exact (by first | (with_reducible exact Below.refl _ _) | ((repeat' (first | (with_reducible exact Below.refl _ _) | (with_reducible assumption) | (with_reducible refine below_alloc ?_ _) | (with_reducible refine Below.drew ?_) | (with_reducible refine below_drewN ?_ _) | (with_reducible refine Below.setCell ?_ ?_ _) | refine below_then ?_ (by with_reducible assumption))) <;> (first | omega | (simp; done) | (simp; omega))))⟩)
end Go.Proofs.YthiogijicknoiaaGreatDoor
