/- Joined: KeyF. -/
import Derived.Test.YthiogijicknoiaaGreatDoorJB27
import Derived.Test.YthiogijicknoiaaGreatDoorJB13
/- The key with the values of some names: both texts. -/
namespace Go.Proofs.YthiogijicknoiaaGreatDoor
open Go.RowKit
set_option linter.unusedSimpArgs false
set_option linter.unusedVariables false

theorem namesF_many {ns : List ByteArray} (h : 4 < ns.length) : namesF ns = 2 := if_pos h
theorem namesF_few {ns : List ByteArray} (h : ¬ 4 < ns.length) : namesF ns = if ns.all wordS = true then 0 else 5 := if_neg h
theorem namesF_0 {ns : List ByteArray} (h : namesF ns = 0) : ns.length ≤ 4 ∧ ∀ x ∈ ns, wordS x = true ∧ x.size ≤ 64 := by
  by_cases h4 : 4 < ns.length
  · rw [namesF_many h4] at h; cases h
  · rw [namesF_few h4] at h
    by_cases ha : ns.all wordS = true
    · refine ⟨by omega, fun x hx => ?_⟩
      have hw := List.all_eq_true.1 ha x hx
      exact ⟨hw, by have := (word_bytes hw).2.1; omega⟩
    · rw [if_neg ha] at h; cases h
set_option maxHeartbeats 1600000 in
theorem impl_areNames (a : Option Addr) (n c : Nat) (ns : List ByteArray) (hl : ns.length = n) (w : World) (hr : Rd w a (strV ns)) (hn : n ≤ 9223372036854775807) (hs : ∀ x ∈ ns, x.size ≤ 9223372036854775807) : Calls Tryz.prog 58 #[.slice a n c] w fun e w' => e = .returned (.int .i64 (namesF ns)) ∧ Below w.heap.size w w' := by
  by_cases h4 : 4 < n
  · rw [namesF_many (by omega)]
    clear hr hs hl
    go_enter Tryz.func58, Tryz.ntmps58
    go_wp2
    all_goals (go_ret; exact ⟨by first | rfl | (simp [*]; done) | (simp [*]; omega), by first | (with_reducible rfl) | exact (by first | (with_reducible exact Below.refl _ _) | ((repeat' (first | (with_reducible exact Below.refl _ _) | (with_reducible assumption) | (with_reducible refine below_alloc ?_ _) | (with_reducible refine Below.drew ?_) | (with_reducible refine below_drewN ?_ _) | (with_reducible refine Below.setCell ?_ ?_ _) | refine below_then ?_ (by with_reducible assumption))) <;> (first | omega | (simp; done) | (simp; omega))))⟩)
  · have hc := fun W hr => slices_ConS a n c ns hl W hr (by omega) hs
    rw [namesF_few (by omega)]
    have Hc := Lib.hid hc
    have Hr := Lib.hid hr
    clear hc hs hl hr
    cases hb : ns.all wordS with
    | true =>
      rw [hb] at Hc
      go_enter Tryz.func58, Tryz.ntmps58
      go_wp2_with (go_at_call 114; ((with_reducible refine (Hc.out _ Hr.out).mono ?_); rintro e w' ⟨rfl, hb⟩))
      all_goals (go_ret; exact ⟨by first | rfl | (simp [*]; done) | (simp [*]; omega), by first | (with_reducible rfl) | exact (by first | (with_reducible exact Below.refl _ _) | ((repeat' (first | (with_reducible exact Below.refl _ _) | (with_reducible assumption) | (with_reducible refine below_alloc ?_ _) | (with_reducible refine Below.drew ?_) | (with_reducible refine below_drewN ?_ _) | (with_reducible refine Below.setCell ?_ ?_ _) | refine below_then ?_ (by with_reducible assumption))) <;> (first | omega | (simp; done) | (simp; omega))))⟩)
    | false =>
      rw [hb] at Hc
      go_enter Tryz.func58, Tryz.ntmps58
      go_wp2_with (go_at_call 114; ((with_reducible refine (Hc.out _ Hr.out).mono ?_); rintro e w' ⟨rfl, hb⟩))
      all_goals (go_ret; exact ⟨by first | rfl | (simp [*]; done) | (simp [*]; omega), by first | (with_reducible rfl) | exact (by first | (with_reducible exact Below.refl _ _) | ((repeat' (first | (with_reducible exact Below.refl _ _) | (with_reducible assumption) | (with_reducible refine below_alloc ?_ _) | (with_reducible refine Below.drew ?_) | (with_reducible refine below_drewN ?_ _) | (with_reducible refine Below.setCell ?_ ?_ _) | refine below_then ?_ (by with_reducible assumption))) <;> (first | omega | (simp; done) | (simp; omega))))⟩)
set_option maxHeartbeats 1600000 in
theorem spec_l5Names (a : Option Addr) (n c : Nat) (ns : List ByteArray) (hl : ns.length = n) (w : World) (hr : Rd w a (strV ns)) (hn : n ≤ 9223372036854775807) (hs : ∀ x ∈ ns, x.size ≤ 9223372036854775807) : Calls Tryz.prog 60 #[.slice a n c] w fun e w' => e = .returned (.int .i64 (namesF ns)) ∧ w = w' := by
  by_cases h4 : 4 < n
  · rw [namesF_many (by omega)]
    clear hr hs hl
    go_enter Tryz.func60, Tryz.ntmps60
    go_wp2
    go_ret
    exact ⟨rfl, rfl⟩
  · have hyes : (∀ k (hk : k < ns.length), wordS ns[k] = true) → namesF ns = 0 := fun h => by
      rw [namesF_few (by omega), if_pos (List.all_eq_true.2 fun x hx => by obtain ⟨k, hk, rfl⟩ := List.getElem_of_mem hx; exact h k hk)]
    have hno : ∀ k (hk : k < ns.length), wordS ns[k] = false → namesF ns = 5 := fun k hk h => by
      rw [namesF_few (by omega), if_neg (fun q => by have := List.all_eq_true.1 q ns[k] (List.getElem_mem hk); rw [h] at this; cases this)]
    have Hyes := Lib.hid hyes
    have Hno := Lib.hid hno
    have Hs := Lib.hid hs
    have Hr := Lib.hid hr
    clear hyes hno hs hr
    go_enter Tryz.func60, Tryz.ntmps60
    go_wp2
    go_loop [3] (fun v => ∃ k : Nat, v = .int .i64 (k : Int) ∧ k ≤ n ∧ ∀ j (hj : j < ns.length), j < k → wordS ns[j] = true) (fun v => n - (intOf v).toNat)
    case atStart => exact ⟨0, rfl, Nat.zero_le _, fun j hj h => absurd h (Nat.not_lt_zero _)⟩
    case round =>
      obtain ⟨k, rfl, hk, hall⟩ := hrel
      have Hall := Lib.hid hall
      clear hall
      by_cases hlt : k < n
      · have hkl : k < ns.length := by omega
        obtain ⟨b, off, rfl, _, hcx⟩ := Hr.out k _ (strV_at ns k hkl)
        have hw := fun W => spec_IsWord (ns[k]'hkl) W (Hs.out _ (List.getElem_mem hkl))
        have hn5 := Hno.out k hkl
        have hal : wordS (ns[k]'hkl) = true → ∀ j (hj : j < ns.length), j < k + 1 → wordS ns[j] = true := fun h j hj hjk => by
          by_cases e : j = k
          · subst e; exact h
          · exact Hall.out j hj (by omega)
        generalize (ns[k]'hkl) = x at *
        cases hb : wordS x with
        | true =>
          rw [hb] at hw
          have Hw := Lib.hid hw
          have Hal := Lib.hid (hal hb)
          clear hw hal hn5 hb
          go_wp2_with (go_at_call 117; ((with_reducible refine (Hw.out _).mono ?_); rintro e w' ⟨rfl, rfl⟩))
          go_round
          case rel => exact ⟨k + 1, by go_num, by omega, Hal.out⟩
          case measure => simp [intOf]; omega
        | false =>
          rw [hb] at hw
          have Hw := Lib.hid hw
          have E5 := Lib.hid (hn5 hb)
          clear hw hal hn5 hb
          go_wp2_with (go_at_call 117; ((with_reducible refine (Hw.out _).mono ?_); rintro e w' ⟨rfl, rfl⟩))
          go_ret
          exact ⟨ret_int E5.out.symm, rfl⟩
      · have E0 := Lib.hid (Hyes.out (fun j hj => Hall.out j hj (by omega)))
        go_wp2
        go_ret
        exact ⟨ret_int E0.out.symm, rfl⟩
theorem fullTo_nil (h p : ByteArray) (l : List Hd) : fullTo h p l [] = keyT h p := by
  unfold fullTo
  apply ByteArray.ext
  simp
theorem fullTo_snoc (h p : ByteArray) (l : List Hd) (ns : List ByteArray) (k : Nat) (hk : k < ns.length) : fullTo h p l (ns.take (k + 1)) = fullTo h p l (ns.take k) ++ namedT l ns[k] := by
  rw [List.take_add_one, List.getElem?_eq_getElem hk, Option.toList_some]
  unfold fullTo
  dsimp only
  rw [List.flatMap_append]
  apply ByteArray.ext
  apply Array.toList_inj.1
  rw [ByteArray.data_append, Array.toList_append]
  simp
theorem keyT_size (h p : ByteArray) : (keyT h p).size ≤ h.size + 2 * p.size + 1 := by
  have e : (keyT h p).size = (keyT h p).data.toList.length := by rw [Array.length_toList]; rfl
  have hl : p.data.toList.length = p.size := Array.length_toList
  have h1 : (lowS h).data.toList.length = h.size := by rw [Array.length_toList]; exact lowS_size h
  obtain ⟨c1, c2⟩ := cut_len p.data.toList [63]
  have c3 := qL_len (Lib.cut p.data.toList [63]).2.1
  rw [e, keyT_list, List.length_append, h1]
  unfold normL
  rw [List.length_append]
  omega
theorem namedT_size (l : List Hd) (x : ByteArray) (hx : x.size ≤ 64) (hl : l.length ≤ 20) (hs : ∀ h ∈ l, h.2.size ≤ 200) : (joinB commaS (vals x l)).size ≤ 5000 ∧ (namedT l x).size ≤ 5066 := by
  have h1 := vals_size (nm := x) l.length (by omega) hs
  rw [List.take_length] at h1
  refine ⟨h1, ?_⟩
  unfold namedT
  simp only [ByteArray.size_append, lowS_size]
  show 1 + x.size + 1 + _ ≤ _
  omega
theorem fullTo_size (h p : ByteArray) (hh : h.size ≤ 100) (hp : p.size ≤ 100) (l : List Hd) (hl : l.length ≤ 20) (hs : ∀ h ∈ l, h.2.size ≤ 200) (ns : List ByteArray) (hns : ∀ x ∈ ns, x.size ≤ 64) : ∀ k, k ≤ ns.length → (fullTo h p l (ns.take k)).size ≤ 400 + k * 5066
  | 0, _ => by rw [List.take_zero, fullTo_nil]; have := keyT_size h p; omega
  | k + 1, hk => by
    rw [fullTo_snoc h p l ns k (by omega), ByteArray.size_append]
    have h1 := fullTo_size h p hh hp l hl hs ns hns k (by omega)
    have h2 := (namedT_size l ns[k] (hns _ (List.getElem_mem _)) hl hs).2
    omega
set_option maxHeartbeats 3200000 in
theorem impl_fullKey (m h p : ByteArray) (hh : h.size ≤ 100) (hp : p.size ≤ 100) (a : Option Addr) (n c : Nat) (l : List Hd) (hl : l.length = n) (w : World) (hr : Rd w a (hV l)) (hn : n ≤ 20) (hs : ∀ h ∈ l, h.1.size ≤ 64 ∧ h.2.size ≤ 200)
    (an : Option Addr) (nn cn : Nat) (ns : List ByteArray) (hnl : ns.length = nn) (rn : Rd w an (strV ns)) (hn4 : nn ≤ 4) (hns : ∀ x ∈ ns, x.size ≤ 64) (hM : MaxL w) : Calls Tryz.prog 59 #[.agg #[.string m, .string h, .string p, .slice a n c], .slice an nn cn] w fun e w' => e = .returned (.string (fullTo h p l ns)) ∧ Below w.heap.size w w' := by
  have hlen := hl
  have hs2 : ∀ h ∈ l, h.1.size ≤ 9223372036854775807 ∧ h.2.size ≤ 200 := fun h hh => by have := hs h hh; omega
  have hfz := fullTo_size h p hh hp l (by omega) (fun h hh => (hs h hh).2) ns hns
  have hsn := fullTo_snoc h p l ns
  have hn0 : keyT h p = fullTo h p l (ns.take 0) := by rw [List.take_zero, fullTo_nil]
  have hnn : fullTo h p l (ns.take nn) = fullTo h p l ns := by rw [← hnl, List.take_length]
  have hnz := fun x (hx : x ∈ ns) => namedT_size l x (hns x hx) (by omega) (fun h hh => (hs h hh).2)
  have hk := fun W hM => impl_keyOf m h p hh hp (.slice a n c) W hM
  have hj := fun x (hx : x.size ≤ 64) W hr => impl_joinHeader x (by omega) a n c l hl W hr hn hs2
  have hlw := fun x (hx : x.size ≤ 64) W => impl_lower x W (by omega)
  rw [hn0] at hk
  have HK := Lib.hid hk
  have HJ := Lib.hid hj
  have HLW := Lib.hid hlw
  have Hfz := Lib.hid hfz
  have Hsn := Lib.hid hsn
  have Hns := Lib.hid hns
  have Hnz := Lib.hid hnz
  have Hnn := Lib.hid hnn
  have Rn := Lib.hid rn
  have Hr := Lib.hid hr
  clear hk hj hlw hfz hsn hns hnz hnn hn0 hs2 hs rn hr hl hlen
  go_enter Tryz.func59, Tryz.ntmps59
  go_upto_region 2 with (go_at_call 62; ((with_reducible refine (HK.out _ (MaxL.then hM (by exact (by first | (with_reducible exact Below.refl _ _) | ((repeat' (first | (with_reducible exact Below.refl _ _) | (with_reducible assumption) | (with_reducible refine below_alloc ?_ _) | (with_reducible refine Below.drew ?_) | (with_reducible refine below_drewN ?_ _) | (with_reducible refine Below.setCell ?_ ?_ _) | refine below_then ?_ (by with_reducible assumption))) <;> (first | omega | (simp; done) | (simp; omega))))))).mono ?_); rintro e w2 ⟨rfl, hb⟩))
  have bk := blk_then (blk_new w (.cells #[.string m, .string h, .string p, .slice a n c] 26)) hb
  have bel : Below w.heap.size w w2 := by exact (by first | (with_reducible exact Below.refl _ _) | ((repeat' (first | (with_reducible exact Below.refl _ _) | (with_reducible assumption) | (with_reducible refine below_alloc ?_ _) | (with_reducible refine Below.drew ?_) | (with_reducible refine below_drewN ?_ _) | (with_reducible refine Below.setCell ?_ ?_ _) | refine below_then ?_ (by with_reducible assumption))) <;> (first | omega | (simp; done) | (simp; omega))))
  have l0 : w.heap.size < w2.heap.size := (Array.getElem?_eq_some_iff.1 bk).1
  clear hb
  go_wp2
  go_loopw [5, 14] (fun s i wr => ∃ k : Nat, k ≤ nn ∧ i = .int .i64 (k : Int) ∧ s = .string (fullTo h p l (ns.take k)) ∧ Below w2.heap.size w2 wr) (fun _ i _ => nn - (intOf i).toNat)
  case atStart => exact ⟨0, Nat.zero_le _, rfl, rfl, Below.refl _ _⟩
  case round =>
    obtain ⟨k, hk, rfl, rfl, hbr⟩ := hrel
    have belr := below_then bel hbr
    by_cases hlt : k < nn
    · skip
      obtain ⟨b, off, rfl, hbw, hcx⟩ : ∃ b off, an = some ⟨b, off, none⟩ ∧ b < w.heap.size ∧ w.cell? ⟨b, off + k, none⟩ = some (.string (ns[k]'(by omega))) := Rn.out k _ (strV_at ns k (by omega))
      have hsk := Hsn.out k (by omega)
      have hxz := Hns.out _ (List.getElem_mem (show k < ns.length by omega))
      obtain ⟨hjz, hnz2⟩ := Hnz.out _ (List.getElem_mem (show k < ns.length by omega))
      have hoz := Hfz.out k (by omega)
      unfold namedT at hsk
      generalize (ns[k]'(by omega)) = x at *
      have hlz := lowS_size x
      generalize fullTo h p l (ns.take k) = O at *
      have hoz2 : O.size ≤ 30000 := by have : k * 5066 ≤ 4 * 5066 := Nat.mul_le_mul_right _ (by omega); omega
      obtain ⟨z0, z1, z2, z3⟩ := cells4 (blk_then bk hbr)
      have cx := (belr.cell (p := ⟨b, off + k, none⟩) hbw).trans hcx
      have hj := fun W hr => HJ.out x hxz W hr
      have hlw := fun W => HLW.out x hxz W
      generalize lowS x = lx at *
      generalize joinB commaS (vals x l) = J at *
      have e1 : O ++ (⟨#[32]⟩ ++ lx ++ ⟨#[61]⟩ ++ J) = fullTo h p l (ns.take (k + 1)) := hsk.symm
      have f1 : (9223372036854775807 < 1 + lx.size) = False := eq_false (by omega)
      have f2 : (9223372036854775807 < 1 + lx.size + 1) = False := eq_false (by omega)
      have f3 : (9223372036854775807 < 1 + lx.size + 1 + J.size) = False := eq_false (by omega)
      have f4 : (9223372036854775807 < O.size + (1 + lx.size + 1 + J.size)) = False := eq_false (by omega)
      have E1 := Lib.hid e1
      have Hj := Lib.hid hj
      have Hlw := Lib.hid hlw
      have hz0 := belr.size
      clear hj hlw e1 hsk
      go_wp2_with (first
        | (go_at_call 107; ((with_reducible refine (Hj.out _ (Hr.out.below belr)).mono ?_); rintro e w3 ⟨rfl, hb⟩; obtain ⟨hc, hf⟩ := bcell hb; have hz := hb.size; (try simp only [World.size_alloc, World.size_setCell, World.size_drew] at hz); obtain ⟨hlt, hle, hn1, hn2, hn3, hn4⟩ := bsize hb; (try simp only [World.size_alloc, World.size_setCell, World.size_drew] at hlt hle hn1 hn2 hn3 hn4); (try have hr0 : w.heap.size < w3.heap.size := by omega); (try have hr1 : w.heap.size + 1 < w3.heap.size := by omega); (try have hs0 : wS.heap.size < w3.heap.size := by omega); (try have hs1 : wG.heap.size < w3.heap.size := by omega)))
        | (go_at_call 66; ((with_reducible refine (Hlw.out _).mono ?_); rintro e w4 ⟨rfl, hb⟩)))
      go_roundw
      case rel => exact ⟨k + 1, by omega, by go_num, by rw [← E1.out], by exact (by first | (with_reducible exact Below.refl _ _) | ((repeat' (first | (with_reducible exact Below.refl _ _) | (with_reducible assumption) | (with_reducible refine below_alloc ?_ _) | (with_reducible refine Below.drew ?_) | (with_reducible refine below_drewN ?_ _) | (with_reducible refine Below.setCell ?_ ?_ _) | refine below_then ?_ (by with_reducible assumption))) <;> (first | omega | (simp; done) | (simp; omega))))⟩
      case measure => simp [intOf]; omega
    · obtain rfl : k = nn := by omega
      go_wp2
      go_ret
      exact ⟨by rw [← Hnn.out]; rfl, belr⟩
set_option maxHeartbeats 3200000 in
theorem spec_l5Full (G : Nat) (m h p : ByteArray) (hh : h.size ≤ 100) (hp : p.size ≤ 100) (a : Option Addr) (n c : Nat) (l : List Hd) (hl : l.length = n) (w : World) (hG : w.heap[G]? = some (.cells #[.string m, .string h, .string p, .slice a n c] 26 (0, 0))) (hr : Rd w a (hV l)) (hn : n ≤ 20) (hs : ∀ h ∈ l, h.1.size ≤ 64 ∧ h.2.size ≤ 200)
    (an : Option Addr) (nn cn : Nat) (ns : List ByteArray) (hnl : ns.length = nn) (rn : Rd w an (strV ns)) (hn4 : nn ≤ 4) (hns : ∀ x ∈ ns, x.size ≤ 64) : Calls Tryz.prog 61 #[.pointer (some ⟨G, 0, none⟩), .slice an nn cn] w fun e w' => e = .returned (.string (fullTo h p l ns)) ∧ Below w.heap.size w w' := by
  have hlen := hl
  have hs2 : ∀ h ∈ l, h.1.size ≤ 9223372036854775807 ∧ h.2.size ≤ 200 := fun h hh => by have := hs h hh; omega
  have hfz := fullTo_size h p hh hp l (by omega) (fun h hh => (hs h hh).2) ns hns
  have hsn := fullTo_snoc h p l ns
  have hn0 : keyT h p = fullTo h p l (ns.take 0) := by rw [List.take_zero, fullTo_nil]
  have hnn : fullTo h p l (ns.take nn) = fullTo h p l ns := by rw [← hnl, List.take_length]
  have hnz := fun x (hx : x ∈ ns) => namedT_size l x (hns x hx) (by omega) (fun h hh => (hs h hh).2)
  have hk := fun W hG => spec_l5Key G m h p (.slice a n c) hh hp W hG
  have hj := fun x (hx : x.size ≤ 64) W hr => spec_l4Join x (by omega) a n c l hl W hr hn hs2
  have hlw := fun x (hx : x.size ≤ 64) W => spec_l1Lower x W (by omega)
  rw [hn0] at hk
  have HK := Lib.hid hk
  have HJ := Lib.hid hj
  have HLW := Lib.hid hlw
  have Hfz := Lib.hid hfz
  have Hsn := Lib.hid hsn
  have Hns := Lib.hid hns
  have Hnz := Lib.hid hnz
  have Hnn := Lib.hid hnn
  have Rn := Lib.hid rn
  have Hr := Lib.hid hr
  have BK := Lib.hid hG
  clear hk hj hlw hfz hsn hns hnz hnn hn0 hs2 hs rn hr hl hlen hG
  go_enter Tryz.func61, Tryz.ntmps61
  go_upto_region 2 with (go_at_call 112; ((with_reducible refine (HK.out _ BK.out).mono ?_); rintro e w2 ⟨rfl, hb⟩))
  have bk := blk_then BK.out hb
  have bel : Below w.heap.size w w2 := hb
  clear hb
  go_wp2
  go_loopw [5, 6] (fun s i wr => ∃ k : Nat, k ≤ nn ∧ i = .int .i64 (k : Int) ∧ s = .string (fullTo h p l (ns.take k)) ∧ Below w2.heap.size w2 wr) (fun _ i _ => nn - (intOf i).toNat)
  case atStart => exact ⟨0, Nat.zero_le _, rfl, rfl, Below.refl _ _⟩
  case round =>
    obtain ⟨k, hk, rfl, rfl, hbr⟩ := hrel
    have belr := below_then bel hbr
    by_cases hlt : k < nn
    · skip
      obtain ⟨b, off, rfl, hbw, hcx⟩ : ∃ b off, an = some ⟨b, off, none⟩ ∧ b < w.heap.size ∧ w.cell? ⟨b, off + k, none⟩ = some (.string (ns[k]'(by omega))) := Rn.out k _ (strV_at ns k (by omega))
      have hsk := Hsn.out k (by omega)
      have hxz := Hns.out _ (List.getElem_mem (show k < ns.length by omega))
      obtain ⟨hjz, hnz2⟩ := Hnz.out _ (List.getElem_mem (show k < ns.length by omega))
      have hoz := Hfz.out k (by omega)
      unfold namedT at hsk
      generalize (ns[k]'(by omega)) = x at *
      have hlz := lowS_size x
      generalize fullTo h p l (ns.take k) = O at *
      have hoz2 : O.size ≤ 30000 := by have : k * 5066 ≤ 4 * 5066 := Nat.mul_le_mul_right _ (by omega); omega
      have cx := (belr.cell (p := ⟨b, off + k, none⟩) hbw).trans hcx
      have hwz := belr.size
      have hj := fun W hr => HJ.out x hxz W hr
      have hlw := fun W => HLW.out x hxz W
      have hbr0 : b < wr.heap.size := by omega
      have y3 := fun z : Gb wr => (cells4 (blk_then (blk_then bk hbr) z.h)).2.2.2
      have yx := fun z : Gb wr => (z.h.cell (p := ⟨b, off + k, none⟩) hbr0).trans cx
      have rdr := Hr.out.below belr
      generalize lowS x = lx at *
      generalize joinB commaS (vals x l) = J at *
      have e1 : O ++ (⟨#[32]⟩ ++ lx ++ ⟨#[61]⟩ ++ J) = fullTo h p l (ns.take (k + 1)) := hsk.symm
      have e2 : O ++ ⟨#[32]⟩ ++ lx ++ ⟨#[61]⟩ ++ J = fullTo h p l (ns.take (k + 1)) := by rw [← e1]; simp only [ByteArray.append_assoc]
      have f1 : (9223372036854775807 < O.size + 1) = False := eq_false (by omega)
      have f2 : (9223372036854775807 < O.size + 1 + lx.size) = False := eq_false (by omega)
      have f3 : (9223372036854775807 < O.size + 1 + lx.size + 1) = False := eq_false (by omega)
      have f4 : (9223372036854775807 < O.size + 1 + lx.size + 1 + J.size) = False := eq_false (by omega)
      have E1 := Lib.hid e2
      have Hj := Lib.hid hj
      have Hlw := Lib.hid hlw
      have Rdr := Lib.hid rdr
      have Cx := Lib.hid cx
      clear hj hlw e1 e2 hsk rdr cx
      go_wp2
      refine wp_region_below (by kernel_rfl) (by kernel_rfl) ?_
      repeat (quiet_step ((go_at_call 65; exact gb_call (Hj.out _ (Rdr.out.below (Gb.h _))))))
      refine wpQuiet_nil ?_
      intro _ hw'
      obtain ⟨pz, rfl⟩ := hw'
      have hz2 : Below wr.heap.size wr pz.w := pz.h
      have cx := yx pz
      clear y3 yx
      generalize pz.w = z at *
      have hzz := hz2.size
      go_wp2_with (go_at_call 118; ((with_reducible refine (Hlw.out _).mono ?_); rintro e w4 ⟨rfl, hb⟩))
      go_roundw
      case rel => exact ⟨k + 1, by omega, by go_num, by rw [← E1.out], by exact (by first | (with_reducible exact Below.refl _ _) | ((repeat' (first | (with_reducible exact Below.refl _ _) | (with_reducible assumption) | (with_reducible refine below_alloc ?_ _) | (with_reducible refine Below.drew ?_) | (with_reducible refine below_drewN ?_ _) | (with_reducible refine Below.setCell ?_ ?_ _) | refine below_then ?_ (by with_reducible assumption))) <;> (first | omega | (simp; done) | (simp; omega))))⟩
      case measure => simp [intOf]; omega
    · obtain rfl : k = nn := by omega
      go_wp2
      go_ret
      exact ⟨by rw [← Hnn.out]; rfl, belr⟩
theorem fullR_rq {m h p : ByteArray} {l : List Hd} {ns : List ByteArray} (hz : ¬ rqFault m h p l = 0) : fullR m h p l ns = (rqFault m h p l, ⟨#[]⟩) := if_neg hz
theorem fullR_ns {m h p : ByteArray} {l : List Hd} {ns : List ByteArray} (hz : rqFault m h p l = 0) (hf : ¬ namesF ns = 0) : fullR m h p l ns = (namesF ns, ⟨#[]⟩) := by rw [fullR, if_pos hz, if_neg hf]
theorem fullR_ok {m h p : ByteArray} {l : List Hd} {ns : List ByteArray} (hz : rqFault m h p l = 0) (hf : namesF ns = 0) : fullR m h p l ns = (0, fullTo h p l ns) := by rw [fullR, if_pos hz, if_pos hf]
set_option maxHeartbeats 3200000 in
theorem impl_FullKey (m h p : ByteArray) (hm : m.size ≤ 9223372036854775807) (hh : h.size ≤ 9223372036854775807) (hp : p.size ≤ 9223372036854775807) (a : Option Addr) (n c : Nat) (l : List Hd) (hl : l.length = n) (an : Option Addr) (nn cn : Nat) (ns : List ByteArray) (hnl : ns.length = nn) (w : World) (hr : Rd w a (hV l)) (hn : n ≤ 9223372036854775807) (hs : ∀ h ∈ l, h.1.size ≤ 9223372036854775807 ∧ h.2.size ≤ 9223372036854775807) (rn : Rd w an (strV ns)) (hnn : nn ≤ 9223372036854775807) (hns : ∀ x ∈ ns, x.size ≤ 9223372036854775807) (hM : MaxL w) : Calls Tryz.prog 11 #[.agg #[.string m, .string h, .string p, .slice a n c], .slice an nn cn] w fun e w' => e = .returned (.agg #[.int .i64 (fullR m h p l ns).1, .string (fullR m h p l ns).2]) ∧ Below w.heap.size w w' := by
  have hc := fun W hr => impl_RequestFault m h p hm hh hp a n c l hl W hr hn hs
  have hd := fun W rn => impl_areNames an nn cn ns hnl W rn hnn hns
  by_cases hz : rqFault m h p l = 0
  · obtain ⟨h20, hs2, hm1, hh1, hp1⟩ := rq_small hz
    rw [hz] at hc
    by_cases hf : namesF ns = 0
    · obtain ⟨hn4, hnw⟩ := namesF_0 hf
      have hk := fun W hr rn hM => impl_fullKey m h p hh1 hp1 a n c l hl W hr (by omega) hs2 an nn cn ns hnl rn (by omega) (fun x hx => (hnw x hx).2) hM
      rw [fullR_ok hz hf]
      rw [hf] at hd
      generalize fullTo h p l ns = K at *
      have Hc := Lib.hid hc
      have Hd := Lib.hid hd
      have Hk := Lib.hid hk
      clear hz hc hl hs hd hs2 hm hh hp hk hns hnw hf
      go_enter Tryz.func11, Tryz.ntmps11
      go_wp2_with (first
        | (go_at_call 50; ((with_reducible refine (Hc.out _ (by first | (with_reducible assumption) | exact RowAt.rd (by repeat' (first | (with_reducible assumption) | (with_reducible refine RowAt.alloc ?_ _) | (with_reducible refine RowAt.drew ?_) | (with_reducible refine RowAt.other ?_ _ _ (by first | omega | (simp; done) | (simp; omega))) | refine RowAt.then ?_ (by with_reducible assumption))) | exact Rd.below (by with_reducible assumption) (by first | (with_reducible exact Below.refl _ _) | ((repeat' (first | (with_reducible exact Below.refl _ _) | (with_reducible assumption) | (with_reducible refine below_alloc ?_ _) | (with_reducible refine Below.drew ?_) | (with_reducible refine below_drewN ?_ _) | (with_reducible refine Below.setCell ?_ ?_ _) | refine below_then ?_ (by with_reducible assumption))) <;> (first | omega | (simp; done) | (simp; omega)))))).mono ?_); rintro e w' ⟨rfl, hb⟩; obtain ⟨hc, hf⟩ := bcell hb; have hz := hb.size; (try simp only [World.size_alloc, World.size_setCell, World.size_drew] at hz); obtain ⟨hlt, hle, hn1, hn2, hn3, hn4⟩ := bsize hb; (try simp only [World.size_alloc, World.size_setCell, World.size_drew] at hlt hle hn1 hn2 hn3 hn4); (try have hr0 : w.heap.size < w'.heap.size := by omega); (try have hr1 : w.heap.size + 1 < w'.heap.size := by omega); (try have hs0 : wS.heap.size < w'.heap.size := by omega); (try have hs1 : wG.heap.size < w'.heap.size := by omega)))
        | (go_at_call 58; ((with_reducible refine (Hd.out _ (by first | (with_reducible assumption) | exact RowAt.rd (by repeat' (first | (with_reducible assumption) | (with_reducible refine RowAt.alloc ?_ _) | (with_reducible refine RowAt.drew ?_) | (with_reducible refine RowAt.other ?_ _ _ (by first | omega | (simp; done) | (simp; omega))) | refine RowAt.then ?_ (by with_reducible assumption))) | exact Rd.below (by with_reducible assumption) (by first | (with_reducible exact Below.refl _ _) | ((repeat' (first | (with_reducible exact Below.refl _ _) | (with_reducible assumption) | (with_reducible refine below_alloc ?_ _) | (with_reducible refine Below.drew ?_) | (with_reducible refine below_drewN ?_ _) | (with_reducible refine Below.setCell ?_ ?_ _) | refine below_then ?_ (by with_reducible assumption))) <;> (first | omega | (simp; done) | (simp; omega)))))).mono ?_); rintro e w' ⟨rfl, hb⟩; obtain ⟨hc, hf⟩ := bcell hb; have hz := hb.size; (try simp only [World.size_alloc, World.size_setCell, World.size_drew] at hz); obtain ⟨hlt, hle, hn1, hn2, hn3, hn4⟩ := bsize hb; (try simp only [World.size_alloc, World.size_setCell, World.size_drew] at hlt hle hn1 hn2 hn3 hn4); (try have hr0 : w.heap.size < w'.heap.size := by omega); (try have hr1 : w.heap.size + 1 < w'.heap.size := by omega); (try have hs0 : wS.heap.size < w'.heap.size := by omega); (try have hs1 : wG.heap.size < w'.heap.size := by omega)))
        | (go_at_call 59; ((with_reducible refine (Hk.out _ (by first | (with_reducible assumption) | exact RowAt.rd (by repeat' (first | (with_reducible assumption) | (with_reducible refine RowAt.alloc ?_ _) | (with_reducible refine RowAt.drew ?_) | (with_reducible refine RowAt.other ?_ _ _ (by first | omega | (simp; done) | (simp; omega))) | refine RowAt.then ?_ (by with_reducible assumption))) | exact Rd.below (by with_reducible assumption) (by first | (with_reducible exact Below.refl _ _) | ((repeat' (first | (with_reducible exact Below.refl _ _) | (with_reducible assumption) | (with_reducible refine below_alloc ?_ _) | (with_reducible refine Below.drew ?_) | (with_reducible refine below_drewN ?_ _) | (with_reducible refine Below.setCell ?_ ?_ _) | refine below_then ?_ (by with_reducible assumption))) <;> (first | omega | (simp; done) | (simp; omega))))) (by first | (with_reducible assumption) | exact RowAt.rd (by repeat' (first | (with_reducible assumption) | (with_reducible refine RowAt.alloc ?_ _) | (with_reducible refine RowAt.drew ?_) | (with_reducible refine RowAt.other ?_ _ _ (by first | omega | (simp; done) | (simp; omega))) | refine RowAt.then ?_ (by with_reducible assumption))) | exact Rd.below (by with_reducible assumption) (by first | (with_reducible exact Below.refl _ _) | ((repeat' (first | (with_reducible exact Below.refl _ _) | (with_reducible assumption) | (with_reducible refine below_alloc ?_ _) | (with_reducible refine Below.drew ?_) | (with_reducible refine below_drewN ?_ _) | (with_reducible refine Below.setCell ?_ ?_ _) | refine below_then ?_ (by with_reducible assumption))) <;> (first | omega | (simp; done) | (simp; omega))))) (MaxL.then hM (by exact (by first | (with_reducible exact Below.refl _ _) | ((repeat' (first | (with_reducible exact Below.refl _ _) | (with_reducible assumption) | (with_reducible refine below_alloc ?_ _) | (with_reducible refine Below.drew ?_) | (with_reducible refine below_drewN ?_ _) | (with_reducible refine Below.setCell ?_ ?_ _) | refine below_then ?_ (by with_reducible assumption))) <;> (first | omega | (simp; done) | (simp; omega))))))).mono ?_); rintro e w' ⟨rfl, hb⟩; obtain ⟨hc, hf⟩ := bcell hb; have hz := hb.size; (try simp only [World.size_alloc, World.size_setCell, World.size_drew] at hz); obtain ⟨hlt, hle, hn1, hn2, hn3, hn4⟩ := bsize hb; (try simp only [World.size_alloc, World.size_setCell, World.size_drew] at hlt hle hn1 hn2 hn3 hn4); (try have hr0 : w.heap.size < w'.heap.size := by omega); (try have hr1 : w.heap.size + 1 < w'.heap.size := by omega); (try have hs0 : wS.heap.size < w'.heap.size := by omega); (try have hs1 : wG.heap.size < w'.heap.size := by omega))))
      exact bodyPost_ret (res_row Tryz.results11 _ _ rfl (blk_cast (by repeat' (first | (with_reducible assumption) | (with_reducible exact blk_new _ _) | (with_reducible apply blk_set) | (with_reducible refine blk_new' _ _ _ (by first | omega | (simp only [World.size_alloc]; first | done | omega))) | (with_reducible refine blk_other ?_ _ _ _ (by omega)) | (with_reducible refine blk_drew ?_) | (with_reducible refine blk_alloc ?_ _) | refine blk_then ?_ (by with_reducible assumption))) (by first | (simp; done) | rfl)) Tryz.underlying31 rfl _ (by kernel_rfl) rfl) rfl ⟨rfl, by exact (by first | (with_reducible exact Below.refl _ _) | ((repeat' (first | (with_reducible exact Below.refl _ _) | (with_reducible assumption) | (with_reducible refine below_alloc ?_ _) | (with_reducible refine Below.drew ?_) | (with_reducible refine below_drewN ?_ _) | (with_reducible refine Below.setCell ?_ ?_ _) | refine below_then ?_ (by with_reducible assumption))) <;> (first | omega | (simp; done) | (simp; omega))))⟩
    · have hne : (namesF ns != 0) = true := by simpa using hf
      rw [fullR_ns hz hf]
      generalize namesF ns = cf at *
      have Hc := Lib.hid hc
      have Hd := Lib.hid hd
      clear hz hc hl hs hd hs2 hm hh hp hns hf
      go_enter Tryz.func11, Tryz.ntmps11
      go_wp2_with (first
        | (go_at_call 50; ((with_reducible refine (Hc.out _ (by first | (with_reducible assumption) | exact RowAt.rd (by repeat' (first | (with_reducible assumption) | (with_reducible refine RowAt.alloc ?_ _) | (with_reducible refine RowAt.drew ?_) | (with_reducible refine RowAt.other ?_ _ _ (by first | omega | (simp; done) | (simp; omega))) | refine RowAt.then ?_ (by with_reducible assumption))) | exact Rd.below (by with_reducible assumption) (by first | (with_reducible exact Below.refl _ _) | ((repeat' (first | (with_reducible exact Below.refl _ _) | (with_reducible assumption) | (with_reducible refine below_alloc ?_ _) | (with_reducible refine Below.drew ?_) | (with_reducible refine below_drewN ?_ _) | (with_reducible refine Below.setCell ?_ ?_ _) | refine below_then ?_ (by with_reducible assumption))) <;> (first | omega | (simp; done) | (simp; omega)))))).mono ?_); rintro e w' ⟨rfl, hb⟩; obtain ⟨hc, hf⟩ := bcell hb; have hz := hb.size; (try simp only [World.size_alloc, World.size_setCell, World.size_drew] at hz); obtain ⟨hlt, hle, hn1, hn2, hn3, hn4⟩ := bsize hb; (try simp only [World.size_alloc, World.size_setCell, World.size_drew] at hlt hle hn1 hn2 hn3 hn4); (try have hr0 : w.heap.size < w'.heap.size := by omega); (try have hr1 : w.heap.size + 1 < w'.heap.size := by omega); (try have hs0 : wS.heap.size < w'.heap.size := by omega); (try have hs1 : wG.heap.size < w'.heap.size := by omega)))
        | (go_at_call 58; ((with_reducible refine (Hd.out _ (by first | (with_reducible assumption) | exact RowAt.rd (by repeat' (first | (with_reducible assumption) | (with_reducible refine RowAt.alloc ?_ _) | (with_reducible refine RowAt.drew ?_) | (with_reducible refine RowAt.other ?_ _ _ (by first | omega | (simp; done) | (simp; omega))) | refine RowAt.then ?_ (by with_reducible assumption))) | exact Rd.below (by with_reducible assumption) (by first | (with_reducible exact Below.refl _ _) | ((repeat' (first | (with_reducible exact Below.refl _ _) | (with_reducible assumption) | (with_reducible refine below_alloc ?_ _) | (with_reducible refine Below.drew ?_) | (with_reducible refine below_drewN ?_ _) | (with_reducible refine Below.setCell ?_ ?_ _) | refine below_then ?_ (by with_reducible assumption))) <;> (first | omega | (simp; done) | (simp; omega)))))).mono ?_); rintro e w' ⟨rfl, hb⟩; obtain ⟨hc, hf⟩ := bcell hb; have hz := hb.size; (try simp only [World.size_alloc, World.size_setCell, World.size_drew] at hz); obtain ⟨hlt, hle, hn1, hn2, hn3, hn4⟩ := bsize hb; (try simp only [World.size_alloc, World.size_setCell, World.size_drew] at hlt hle hn1 hn2 hn3 hn4); (try have hr0 : w.heap.size < w'.heap.size := by omega); (try have hr1 : w.heap.size + 1 < w'.heap.size := by omega); (try have hs0 : wS.heap.size < w'.heap.size := by omega); (try have hs1 : wG.heap.size < w'.heap.size := by omega))))
      exact bodyPost_ret (res_row Tryz.results11 _ _ rfl (blk_cast (by repeat' (first | (with_reducible assumption) | (with_reducible exact blk_new _ _) | (with_reducible apply blk_set) | (with_reducible refine blk_new' _ _ _ (by first | omega | (simp only [World.size_alloc]; first | done | omega))) | (with_reducible refine blk_other ?_ _ _ _ (by omega)) | (with_reducible refine blk_drew ?_) | (with_reducible refine blk_alloc ?_ _) | refine blk_then ?_ (by with_reducible assumption))) (by first | (simp; done) | rfl)) Tryz.underlying31 rfl _ (by kernel_rfl) rfl) rfl ⟨rfl, by exact (by first | (with_reducible exact Below.refl _ _) | ((repeat' (first | (with_reducible exact Below.refl _ _) | (with_reducible assumption) | (with_reducible refine below_alloc ?_ _) | (with_reducible refine Below.drew ?_) | (with_reducible refine below_drewN ?_ _) | (with_reducible refine Below.setCell ?_ ?_ _) | refine below_then ?_ (by with_reducible assumption))) <;> (first | omega | (simp; done) | (simp; omega))))⟩
  · have hne : (rqFault m h p l != 0) = true := by simpa using hz
    have hne2 : (rqFault m h p l == 0) = false := by rw [beq_eq_false_iff_ne]; exact hz
    rw [fullR_rq hz]
    generalize rqFault m h p l = cf at *
    have Hc := Lib.hid hc
    clear hz hc hl hs hd
    go_enter Tryz.func11, Tryz.ntmps11
    go_wp2_with (go_at_call 50; ((with_reducible refine (Hc.out _ (by first | (with_reducible assumption) | exact RowAt.rd (by repeat' (first | (with_reducible assumption) | (with_reducible refine RowAt.alloc ?_ _) | (with_reducible refine RowAt.drew ?_) | (with_reducible refine RowAt.other ?_ _ _ (by first | omega | (simp; done) | (simp; omega))) | refine RowAt.then ?_ (by with_reducible assumption))) | exact Rd.below (by with_reducible assumption) (by first | (with_reducible exact Below.refl _ _) | ((repeat' (first | (with_reducible exact Below.refl _ _) | (with_reducible assumption) | (with_reducible refine below_alloc ?_ _) | (with_reducible refine Below.drew ?_) | (with_reducible refine below_drewN ?_ _) | (with_reducible refine Below.setCell ?_ ?_ _) | refine below_then ?_ (by with_reducible assumption))) <;> (first | omega | (simp; done) | (simp; omega)))))).mono ?_); rintro e w' ⟨rfl, hb⟩; obtain ⟨hc, hf⟩ := bcell hb; have hz := hb.size; (try simp only [World.size_alloc, World.size_setCell, World.size_drew] at hz); obtain ⟨hlt, hle, hn1, hn2, hn3, hn4⟩ := bsize hb; (try simp only [World.size_alloc, World.size_setCell, World.size_drew] at hlt hle hn1 hn2 hn3 hn4); (try have hr0 : w.heap.size < w'.heap.size := by omega); (try have hr1 : w.heap.size + 1 < w'.heap.size := by omega); (try have hs0 : wS.heap.size < w'.heap.size := by omega); (try have hs1 : wG.heap.size < w'.heap.size := by omega)))
    exact bodyPost_ret (res_row Tryz.results11 _ _ rfl (blk_cast (by repeat' (first | (with_reducible assumption) | (with_reducible exact blk_new _ _) | (with_reducible apply blk_set) | (with_reducible refine blk_new' _ _ _ (by first | omega | (simp only [World.size_alloc]; first | done | omega))) | (with_reducible refine blk_other ?_ _ _ _ (by omega)) | (with_reducible refine blk_drew ?_) | (with_reducible refine blk_alloc ?_ _) | refine blk_then ?_ (by with_reducible assumption))) (by first | (simp; done) | rfl)) Tryz.underlying31 rfl _ (by kernel_rfl) rfl) rfl ⟨rfl, by exact (by first | (with_reducible exact Below.refl _ _) | ((repeat' (first | (with_reducible exact Below.refl _ _) | (with_reducible assumption) | (with_reducible refine below_alloc ?_ _) | (with_reducible refine Below.drew ?_) | (with_reducible refine below_drewN ?_ _) | (with_reducible refine Below.setCell ?_ ?_ _) | refine below_then ?_ (by with_reducible assumption))) <;> (first | omega | (simp; done) | (simp; omega))))⟩
set_option maxHeartbeats 3200000 in
theorem spec_FullKey (m h p : ByteArray) (hm : m.size ≤ 9223372036854775807) (hh : h.size ≤ 9223372036854775807) (hp : p.size ≤ 9223372036854775807) (a : Option Addr) (n c : Nat) (l : List Hd) (hl : l.length = n) (an : Option Addr) (nn cn : Nat) (ns : List ByteArray) (hnl : ns.length = nn) (w : World) (hr : Rd w a (hV l)) (hn : n ≤ 9223372036854775807) (hs : ∀ h ∈ l, h.1.size ≤ 9223372036854775807 ∧ h.2.size ≤ 9223372036854775807) (rn : Rd w an (strV ns)) (hnn : nn ≤ 9223372036854775807) (hns : ∀ x ∈ ns, x.size ≤ 9223372036854775807) : Calls Tryz.prog 12 #[.agg #[.string m, .string h, .string p, .slice a n c], .slice an nn cn] w fun e w' => e = .returned (.agg #[.int .i64 (fullR m h p l ns).1, .string (fullR m h p l ns).2]) ∧ Below w.heap.size w w' := by
  have hc := fun W hr => spec_RequestFault m h p hm hh hp a n c l hl W hr hn hs
  have hd := fun W rn => spec_l5Names an nn cn ns hnl W rn hnn hns
  by_cases hz : rqFault m h p l = 0
  · obtain ⟨h20, hs2, hm1, hh1, hp1⟩ := rq_small hz
    rw [hz] at hc
    by_cases hf : namesF ns = 0
    · obtain ⟨hn4, hnw⟩ := namesF_0 hf
      have hk := fun G W hG hr rn => spec_l5Full G m h p hh1 hp1 a n c l hl W hG hr (by omega) hs2 an nn cn ns hnl rn (by omega) (fun x hx => (hnw x hx).2)
      rw [fullR_ok hz hf]
      rw [hf] at hd
      generalize fullTo h p l ns = K at *
      have Hc := Lib.hid hc
      have Hd := Lib.hid hd
      have Hk := Lib.hid hk
      clear hz hc hl hs hd hs2 hm hh hp hk hns hnw hf
      go_enter Tryz.func12, Tryz.ntmps12
      go_wp2_with (first
        | (go_at_call 14; ((with_reducible refine (Hc.out _ (by first | (with_reducible assumption) | exact RowAt.rd (by repeat' (first | (with_reducible assumption) | (with_reducible refine RowAt.alloc ?_ _) | (with_reducible refine RowAt.drew ?_) | (with_reducible refine RowAt.other ?_ _ _ (by first | omega | (simp; done) | (simp; omega))) | refine RowAt.then ?_ (by with_reducible assumption))) | exact Rd.below (by with_reducible assumption) (by first | (with_reducible exact Below.refl _ _) | ((repeat' (first | (with_reducible exact Below.refl _ _) | (with_reducible assumption) | (with_reducible refine below_alloc ?_ _) | (with_reducible refine Below.drew ?_) | (with_reducible refine below_drewN ?_ _) | (with_reducible refine Below.setCell ?_ ?_ _) | refine below_then ?_ (by with_reducible assumption))) <;> (first | omega | (simp; done) | (simp; omega)))))).mono ?_); rintro e w' ⟨rfl, hb⟩; obtain ⟨hc, hf⟩ := bcell hb; have hz := hb.size; (try simp only [World.size_alloc, World.size_setCell, World.size_drew] at hz); obtain ⟨hlt, hle, hn1, hn2, hn3, hn4⟩ := bsize hb; (try simp only [World.size_alloc, World.size_setCell, World.size_drew] at hlt hle hn1 hn2 hn3 hn4); (try have hr0 : w.heap.size < w'.heap.size := by omega); (try have hr1 : w.heap.size + 1 < w'.heap.size := by omega); (try have hs0 : wS.heap.size < w'.heap.size := by omega); (try have hs1 : wG.heap.size < w'.heap.size := by omega)))
        | (go_at_call 60; ((with_reducible refine (Hd.out _ (by first | (with_reducible assumption) | exact RowAt.rd (by repeat' (first | (with_reducible assumption) | (with_reducible refine RowAt.alloc ?_ _) | (with_reducible refine RowAt.drew ?_) | (with_reducible refine RowAt.other ?_ _ _ (by first | omega | (simp; done) | (simp; omega))) | refine RowAt.then ?_ (by with_reducible assumption))) | exact Rd.below (by with_reducible assumption) (by first | (with_reducible exact Below.refl _ _) | ((repeat' (first | (with_reducible exact Below.refl _ _) | (with_reducible assumption) | (with_reducible refine below_alloc ?_ _) | (with_reducible refine Below.drew ?_) | (with_reducible refine below_drewN ?_ _) | (with_reducible refine Below.setCell ?_ ?_ _) | refine below_then ?_ (by with_reducible assumption))) <;> (first | omega | (simp; done) | (simp; omega)))))).mono ?_); rintro e w' ⟨rfl, rfl⟩))
        | (go_at_call 61; ((with_reducible refine (Hk.out _ _ (by exact (by repeat' (first | (with_reducible assumption) | (with_reducible exact blk_new _ _) | (with_reducible apply blk_set) | (with_reducible refine blk_new' _ _ _ (by first | omega | (simp only [World.size_alloc]; first | done | omega))) | (with_reducible refine blk_other ?_ _ _ _ (by omega)) | (with_reducible refine blk_drew ?_) | (with_reducible refine blk_alloc ?_ _) | refine blk_then ?_ (by with_reducible assumption)))) (by first | (with_reducible assumption) | exact RowAt.rd (by repeat' (first | (with_reducible assumption) | (with_reducible refine RowAt.alloc ?_ _) | (with_reducible refine RowAt.drew ?_) | (with_reducible refine RowAt.other ?_ _ _ (by first | omega | (simp; done) | (simp; omega))) | refine RowAt.then ?_ (by with_reducible assumption))) | exact Rd.below (by with_reducible assumption) (by first | (with_reducible exact Below.refl _ _) | ((repeat' (first | (with_reducible exact Below.refl _ _) | (with_reducible assumption) | (with_reducible refine below_alloc ?_ _) | (with_reducible refine Below.drew ?_) | (with_reducible refine below_drewN ?_ _) | (with_reducible refine Below.setCell ?_ ?_ _) | refine below_then ?_ (by with_reducible assumption))) <;> (first | omega | (simp; done) | (simp; omega))))) (by first | (with_reducible assumption) | exact RowAt.rd (by repeat' (first | (with_reducible assumption) | (with_reducible refine RowAt.alloc ?_ _) | (with_reducible refine RowAt.drew ?_) | (with_reducible refine RowAt.other ?_ _ _ (by first | omega | (simp; done) | (simp; omega))) | refine RowAt.then ?_ (by with_reducible assumption))) | exact Rd.below (by with_reducible assumption) (by first | (with_reducible exact Below.refl _ _) | ((repeat' (first | (with_reducible exact Below.refl _ _) | (with_reducible assumption) | (with_reducible refine below_alloc ?_ _) | (with_reducible refine Below.drew ?_) | (with_reducible refine below_drewN ?_ _) | (with_reducible refine Below.setCell ?_ ?_ _) | refine below_then ?_ (by with_reducible assumption))) <;> (first | omega | (simp; done) | (simp; omega)))))).mono ?_); rintro e w' ⟨rfl, hb⟩; obtain ⟨hc, hf⟩ := bcell hb; have hz := hb.size; (try simp only [World.size_alloc, World.size_setCell, World.size_drew] at hz); obtain ⟨hlt, hle, hn1, hn2, hn3, hn4⟩ := bsize hb; (try simp only [World.size_alloc, World.size_setCell, World.size_drew] at hlt hle hn1 hn2 hn3 hn4); (try have hr0 : w.heap.size < w'.heap.size := by omega); (try have hr1 : w.heap.size + 1 < w'.heap.size := by omega); (try have hs0 : wS.heap.size < w'.heap.size := by omega); (try have hs1 : wG.heap.size < w'.heap.size := by omega))))
      exact bodyPost_ret (res_row Tryz.results12 _ _ rfl (blk_cast (by repeat' (first | (with_reducible assumption) | (with_reducible exact blk_new _ _) | (with_reducible apply blk_set) | (with_reducible refine blk_new' _ _ _ (by first | omega | (simp only [World.size_alloc]; first | done | omega))) | (with_reducible refine blk_other ?_ _ _ _ (by omega)) | (with_reducible refine blk_drew ?_) | (with_reducible refine blk_alloc ?_ _) | refine blk_then ?_ (by with_reducible assumption))) (by first | (simp; done) | rfl)) Tryz.underlying31 rfl _ (by kernel_rfl) rfl) rfl ⟨rfl, by exact (by first | (with_reducible exact Below.refl _ _) | ((repeat' (first | (with_reducible exact Below.refl _ _) | (with_reducible assumption) | (with_reducible refine below_alloc ?_ _) | (with_reducible refine Below.drew ?_) | (with_reducible refine below_drewN ?_ _) | (with_reducible refine Below.setCell ?_ ?_ _) | refine below_then ?_ (by with_reducible assumption))) <;> (first | omega | (simp; done) | (simp; omega))))⟩
    · have hne : (namesF ns != 0) = true := by simpa using hf
      rw [fullR_ns hz hf]
      generalize namesF ns = cf at *
      have Hc := Lib.hid hc
      have Hd := Lib.hid hd
      clear hz hc hl hs hd hs2 hm hh hp hns hf
      go_enter Tryz.func12, Tryz.ntmps12
      go_wp2_with (first
        | (go_at_call 14; ((with_reducible refine (Hc.out _ (by first | (with_reducible assumption) | exact RowAt.rd (by repeat' (first | (with_reducible assumption) | (with_reducible refine RowAt.alloc ?_ _) | (with_reducible refine RowAt.drew ?_) | (with_reducible refine RowAt.other ?_ _ _ (by first | omega | (simp; done) | (simp; omega))) | refine RowAt.then ?_ (by with_reducible assumption))) | exact Rd.below (by with_reducible assumption) (by first | (with_reducible exact Below.refl _ _) | ((repeat' (first | (with_reducible exact Below.refl _ _) | (with_reducible assumption) | (with_reducible refine below_alloc ?_ _) | (with_reducible refine Below.drew ?_) | (with_reducible refine below_drewN ?_ _) | (with_reducible refine Below.setCell ?_ ?_ _) | refine below_then ?_ (by with_reducible assumption))) <;> (first | omega | (simp; done) | (simp; omega)))))).mono ?_); rintro e w' ⟨rfl, hb⟩; obtain ⟨hc, hf⟩ := bcell hb; have hz := hb.size; (try simp only [World.size_alloc, World.size_setCell, World.size_drew] at hz); obtain ⟨hlt, hle, hn1, hn2, hn3, hn4⟩ := bsize hb; (try simp only [World.size_alloc, World.size_setCell, World.size_drew] at hlt hle hn1 hn2 hn3 hn4); (try have hr0 : w.heap.size < w'.heap.size := by omega); (try have hr1 : w.heap.size + 1 < w'.heap.size := by omega); (try have hs0 : wS.heap.size < w'.heap.size := by omega); (try have hs1 : wG.heap.size < w'.heap.size := by omega)))
        | (go_at_call 60; ((with_reducible refine (Hd.out _ (by first | (with_reducible assumption) | exact RowAt.rd (by repeat' (first | (with_reducible assumption) | (with_reducible refine RowAt.alloc ?_ _) | (with_reducible refine RowAt.drew ?_) | (with_reducible refine RowAt.other ?_ _ _ (by first | omega | (simp; done) | (simp; omega))) | refine RowAt.then ?_ (by with_reducible assumption))) | exact Rd.below (by with_reducible assumption) (by first | (with_reducible exact Below.refl _ _) | ((repeat' (first | (with_reducible exact Below.refl _ _) | (with_reducible assumption) | (with_reducible refine below_alloc ?_ _) | (with_reducible refine Below.drew ?_) | (with_reducible refine below_drewN ?_ _) | (with_reducible refine Below.setCell ?_ ?_ _) | refine below_then ?_ (by with_reducible assumption))) <;> (first | omega | (simp; done) | (simp; omega)))))).mono ?_); rintro e w' ⟨rfl, rfl⟩)))
      exact bodyPost_ret (res_row Tryz.results12 _ _ rfl (blk_cast (by repeat' (first | (with_reducible assumption) | (with_reducible exact blk_new _ _) | (with_reducible apply blk_set) | (with_reducible refine blk_new' _ _ _ (by first | omega | (simp only [World.size_alloc]; first | done | omega))) | (with_reducible refine blk_other ?_ _ _ _ (by omega)) | (with_reducible refine blk_drew ?_) | (with_reducible refine blk_alloc ?_ _) | refine blk_then ?_ (by with_reducible assumption))) (by first | (simp; done) | rfl)) Tryz.underlying31 rfl _ (by kernel_rfl) rfl) rfl ⟨rfl, by exact (by first | (with_reducible exact Below.refl _ _) | ((repeat' (first | (with_reducible exact Below.refl _ _) | (with_reducible assumption) | (with_reducible refine below_alloc ?_ _) | (with_reducible refine Below.drew ?_) | (with_reducible refine below_drewN ?_ _) | (with_reducible refine Below.setCell ?_ ?_ _) | refine below_then ?_ (by with_reducible assumption))) <;> (first | omega | (simp; done) | (simp; omega))))⟩
  · have hne : (rqFault m h p l != 0) = true := by simpa using hz
    rw [fullR_rq hz]
    generalize rqFault m h p l = cf at *
    have Hc := Lib.hid hc
    clear hz hc hl hs hd
    go_enter Tryz.func12, Tryz.ntmps12
    go_wp2_with (go_at_call 14; ((with_reducible refine (Hc.out _ (by first | (with_reducible assumption) | exact RowAt.rd (by repeat' (first | (with_reducible assumption) | (with_reducible refine RowAt.alloc ?_ _) | (with_reducible refine RowAt.drew ?_) | (with_reducible refine RowAt.other ?_ _ _ (by first | omega | (simp; done) | (simp; omega))) | refine RowAt.then ?_ (by with_reducible assumption))) | exact Rd.below (by with_reducible assumption) (by first | (with_reducible exact Below.refl _ _) | ((repeat' (first | (with_reducible exact Below.refl _ _) | (with_reducible assumption) | (with_reducible refine below_alloc ?_ _) | (with_reducible refine Below.drew ?_) | (with_reducible refine below_drewN ?_ _) | (with_reducible refine Below.setCell ?_ ?_ _) | refine below_then ?_ (by with_reducible assumption))) <;> (first | omega | (simp; done) | (simp; omega)))))).mono ?_); rintro e w' ⟨rfl, hb⟩; obtain ⟨hc, hf⟩ := bcell hb; have hz := hb.size; (try simp only [World.size_alloc, World.size_setCell, World.size_drew] at hz); obtain ⟨hlt, hle, hn1, hn2, hn3, hn4⟩ := bsize hb; (try simp only [World.size_alloc, World.size_setCell, World.size_drew] at hlt hle hn1 hn2 hn3 hn4); (try have hr0 : w.heap.size < w'.heap.size := by omega); (try have hr1 : w.heap.size + 1 < w'.heap.size := by omega); (try have hs0 : wS.heap.size < w'.heap.size := by omega); (try have hs1 : wG.heap.size < w'.heap.size := by omega)))
    exact bodyPost_ret (res_row Tryz.results12 _ _ rfl (blk_cast (by repeat' (first | (with_reducible assumption) | (with_reducible exact blk_new _ _) | (with_reducible apply blk_set) | (with_reducible refine blk_new' _ _ _ (by first | omega | (simp only [World.size_alloc]; first | done | omega))) | (with_reducible refine blk_other ?_ _ _ _ (by omega)) | (with_reducible refine blk_drew ?_) | (with_reducible refine blk_alloc ?_ _) | refine blk_then ?_ (by with_reducible assumption))) (by first | (simp; done) | rfl)) Tryz.underlying31 rfl _ (by kernel_rfl) rfl) rfl ⟨rfl, by exact (by first | (with_reducible exact Below.refl _ _) | ((repeat' (first | (with_reducible exact Below.refl _ _) | (with_reducible assumption) | (with_reducible refine below_alloc ?_ _) | (with_reducible refine Below.drew ?_) | (with_reducible refine below_drewN ?_ _) | (with_reducible refine Below.setCell ?_ ?_ _) | refine below_then ?_ (by with_reducible assumption))) <;> (first | omega | (simp; done) | (simp; omega))))⟩
end Go.Proofs.YthiogijicknoiaaGreatDoor
