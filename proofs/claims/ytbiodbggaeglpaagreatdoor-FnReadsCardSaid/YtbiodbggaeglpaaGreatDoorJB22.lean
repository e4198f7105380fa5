/- Joined: ReqI. -/
import Derived.Test.YtbiodbggaeglpaaGreatDoorJB21
import Derived.Test.YtbiodbggaeglpaaGreatDoorJB16
import Derived.Test.YtbiodbggaeglpaaGreatDoorJB0
/- The request that bytes tell: the program's own text. -/
namespace Go.Proofs.YtbiodbggaeglpaaGreatDoor
open Go.RowKit
set_option linter.unusedSimpArgs false
set_option linter.unusedVariables false

theorem fz_of {w : World} {g : Nat} {cs : Array Value} {t : TypeId} (h : w.heap[g]? = some (.cells cs t (0, 0))) : ∀ k, w.frozen? ⟨g, k, none⟩ = false := fun k => by simp [World.frozen?, h]
theorem alloc_then {w w' : World} {t : TypeId} {a b c d : Value} (hb : Below (w.alloc (.cells #[a, b, c, d] t (0, 0))).heap.size (w.alloc (.cells #[a, b, c, d] t (0, 0))) w') :
    w'.cell? ⟨w.heap.size, 0, none⟩ = some a ∧ w'.cell? ⟨w.heap.size, 1, none⟩ = some b ∧ w'.cell? ⟨w.heap.size, 2, none⟩ = some c ∧ w'.cell? ⟨w.heap.size, 3, none⟩ = some d ∧ ∀ k, w'.frozen? ⟨w.heap.size, k, none⟩ = false := by
  have h := blk_then (blk_new w (.cells #[a, b, c, d] t (0, 0))) hb
  obtain ⟨h0, h1, h2, h3⟩ := cells4 h
  exact ⟨h0, h1, h2, h3, fz_of h⟩
theorem cut_two (t : List UInt8) : ((Lib.cut t crlf).2.2 = true ∧ ((Lib.cut t crlf).2.1 = crlf ∨ (crlf ++ crlf) <:+ (Lib.cut t crlf).2.1) ∧ ∃ line rest, Lib.cut t crlf = (line, rest, true) ∧ firstR t = some (line, rest.take (rest.length - 2)) ∧ 2 ≤ rest.length) ∨
    (firstR t = none ∧ ((Lib.cut t crlf).2.2 = false ∨ ((Lib.cut t crlf).2.2 = true ∧ (Lib.cut t crlf).2.1 ≠ crlf ∧ ¬ (crlf ++ crlf) <:+ (Lib.cut t crlf).2.1))) := by
  obtain ⟨line, rest, b, hc⟩ : ∃ line rest b, Lib.cut t crlf = (line, rest, b) := ⟨_, _, _, rfl⟩
  by_cases h : (Lib.cut t crlf).2.2 = true ∧ ((Lib.cut t crlf).2.1 = crlf ∨ (crlf ++ crlf) <:+ (Lib.cut t crlf).2.1)
  · refine .inl ⟨h.1, h.2, line, rest, ?_, ?_, ?_⟩
    · rw [hc] at h ⊢; rw [show b = true from h.1]
    · unfold firstR; rw [if_pos h, hc]
    · rw [hc] at h
      rcases h.2 with q | q
      · rw [show rest = crlf from q]; exact Nat.le_refl _
      · have := q.length_le
        simp only [List.length_append, List.length_cons, List.length_nil] at this; omega
  · refine .inr ⟨by unfold firstR; rw [if_neg h], ?_⟩
    cases hb : (Lib.cut t crlf).2.2 with
    | false => exact .inl rfl
    | true => exact .inr ⟨rfl, fun q => h ⟨hb, .inl q⟩, fun q => h ⟨hb, .inr q⟩⟩
/-- What the operations of the drawn region behind the head lines yield. -/
def riF (line : ByteArray) (L : List Hd) (aH : Option Addr) (nH cH bH lo : Nat) (k : Nat) (v : Value) (w : World) : Prop :=
  if k = 0 then v = .string line else if k = 1 ∨ k = 5 then ∃ g cap, v = .slice (some ⟨g, 0, none⟩) (cutB 32 line).length cap ∧ lo ≤ g ∧ RowAt w g (strV (cutB 32 line))
  else if k = 2 then v = .pointer (some ⟨bH, 1, none⟩) else if k = 3 then v = .slice aH nH cH
  else ∃ g cap, v = .slice (some ⟨g, 0, none⟩) (vals hostName L).length cap ∧ lo ≤ g ∧ RowAt w g (strV (vals hostName L))
theorem riF_keep {line : ByteArray} {L : List Hd} {aH : Option Addr} {nH cH bH lo : Nat} (k : Nat) (v : Value) (w w' : World) (h : riF line L aH nH cH bH lo k v w) (hb : Below w.heap.size w w') : riF line L aH nH cH bH lo k v w' := by
  unfold riF at h ⊢
  split at h
  · rename_i q; rw [if_pos q]; exact h
  · rename_i q; rw [if_neg q]
    split at h
    · rename_i q; rw [if_pos q]
      obtain ⟨g, cap, e, h1, h2⟩ := h
      exact ⟨g, cap, e, h1, h2.then hb⟩
    · rename_i q; rw [if_neg q]
      split at h
      · rename_i q; rw [if_pos q]; exact h
      · rename_i q; rw [if_neg q]
        split at h
        · rename_i q; rw [if_pos q]; exact h
        · rename_i q; rw [if_neg q]
          obtain ⟨g, cap, e, h1, h2⟩ := h
          exact ⟨g, cap, e, h1, h2.then hb⟩
set_option maxRecDepth 100000 in
set_option maxHeartbeats 6400000 in
theorem impl_ReadRequest (a : Option Addr) (n c : Nat) (lb : List UInt8) (hlb : lb.length = n) (w : World) (hr : Rd w a (bV lb)) (hn : n ≤ 9223372036854775807) (hm : MaxL w) :
    Calls Tryz.prog 7 #[.slice a n c] w fun e w' => ∃ (a' : Option Addr) (n' c' : Nat), e = .returned (.agg #[.int .i64 (reqR lb).1, .string (reqR lb).2.1, .string (reqR lb).2.2.1, .string (reqR lb).2.2.2.1, .slice a' n' c']) ∧ ((reqR lb).2.2.2.2.length = n' ∧ SlAt w' w.heap.size w'.heap.size a' n' (hV (reqR lb).2.2.2.2)) ∧ Below w.heap.size w w' := by
  by_cases h8 : 8000 < n
  · rw [reqR_many (by omega)]
    clear hr hlb
    --LEAF many
    go_enter Tryz.func7, Tryz.ntmps7
    go_wp2
    exact bodyPost_ret (res_row Tryz.results7 _ _ rfl (blk_cast (by repeat' (first | (with_reducible assumption) | (with_reducible exact blk_new _ _) | (with_reducible apply blk_set) | (with_reducible refine blk_alloc ?_ _) | (with_reducible refine blk_drew ?_) | refine blk_then ?_ (by with_reducible assumption))) (by first | (simp; done) | rfl)) Tryz.underlying29 rfl _ (by kernel_rfl) rfl) rfl ⟨none, 0, 0, rfl, hdR_none _ _ _, by exact (by first | (with_reducible exact Below.refl _ _) | ((repeat' (first | (with_reducible exact Below.refl _ _) | (with_reducible assumption) | (with_reducible refine below_alloc ?_ _) | (with_reducible refine Below.drew ?_) | (with_reducible refine below_drewN ?_ _) | (with_reducible refine Below.setCell ?_ ?_ _) | refine below_then ?_ (by with_reducible assumption))) <;> (first | omega | (simp; done) | (simp; omega))))⟩
    --END
  · rw [reqR_mid (by omega)]
    have hC := fun W hm => strings_Cut (ba lb) ⟨#[13, 10]⟩ (by rw [ba_size]; omega) W hm
    rw [ba_list] at hC
    have hcv := fun W hr => conv_rd W a n c lb hlb hr
    have Hcv : ∀ W, Rd W a (bV lb) → (convert 22 9 (.slice a n c)).run Tryz.prog W = .ok (.string (ba lb)) W := hcv
    have hcv0 := Hcv _ (hr.alloc (.cells #[.int .i64 0, .string ⟨#[]⟩, .string ⟨#[]⟩, .string ⟨#[]⟩, .slice none 0 0] 29))
    have hcsz : (Lib.cut lb crlf).2.1.length ≤ lb.length := by
      unfold Lib.cut
      split
      · rw [List.length_drop]; exact Nat.sub_le _ _
      · exact Nat.zero_le _
    clear hcv Hcv
    rcases cut_two lb with ⟨b1, b2, line, rest, hc, hf, hr2⟩ | ⟨hf, hno⟩
    · rw [hf]
      rw [hc] at b2 hcsz
      simp only at b2 hcsz
      have hC2 : ∀ W, MaxL W → Calls Tryz.prog 29 #[.string (ba lb), .string ⟨#[13, 10]⟩] W fun e w' => e = .returned (.tuple #[.string (ba line), .string (ba rest), .bool true]) ∧ Below (W).heap.size W w' := fun W hm => by
        have := hC W hm
        rw [show (⟨#[13, 10]⟩ : ByteArray).data.toList = crlf from rfl, hc] at this
        exact this
      have HC := Lib.hid hC2
      have hline := (firstR_small hf).1
      have hrs : (ba rest).size = rest.length := ba_size _
      have hex : (ba rest).extract 0 ((ba rest).size - 2) = ba (rest.take (rest.length - 2)) := by rw [ext_to, ba_list, ba_size]
      have hsl : (0 : Int) ≤ ((ba rest).size : Int) - 2 := by omega
      have hsw : IntKind.i64.wrap (((ba rest).size : Int) - 2) = ((ba rest).size : Int) - 2 := wrapi _ (by omega) (by omega)
      have hsn : (((ba rest).size : Int) - 2).toNat = (ba rest).size - 2 := by omega
      have hsle : ((ba rest).size : Int) - 2 ≤ ((ba rest).size : Int) := by omega
      have hsz0 : (ba rest).size ≤ 8000 := by omega
      have hR := fun W hm => impl_ReadHeaders (ba (rest.take (rest.length - 2))) (by rw [ba_size, List.length_take]; omega) W hm
      have htest : ((ba rest).toList == [13, 10]) = true ∨ (((ba rest).toList == [13, 10]) = false ∧ Lib.hasSuffix (ba rest).data.toList [13, 10, 13, 10] = true) := by
        rw [eq_str, ba_list]
        by_cases q : rest = [13, 10]
        · exact .inl (decide_eq_true q)
        · refine .inr ⟨decide_eq_false q, (hasSuffix_iff _ _).2 ?_⟩
          rcases b2 with h | h
          · exact absurd h q
          · exact h
      generalize hhd : ba (rest.take (rest.length - 2)) = hd at *
      generalize ba rest = r at *
      clear hC hC2 b1 b2 hc hf hrs hcsz hr2
      by_cases hz : (readR hd).1 = 0
      · have hL := readR_ok hz
        rw [rqMid_some (by rw [hhd]; exact hz)]
        simp only [hhd]
        have hR2 := hR
        rw [hz] at hR2
        generalize (readR hd).2 = L at *
        obtain ⟨s1, s2⟩ := hds_small hL
        have HR := Lib.hid hR2
        clear hR hR2 hhd hz
        have hdv := drop_vals_len hostName L
        have hsp := fun W hm => strings_Split (ba line) ⟨#[32]⟩ (by rw [ba_size]; omega) (by decide) W hm (cutB 32 (ba line)) (cutB_split 32 (ba line))
        have hva := fun a n c hl W hr hn => impl_valuesOf HostName size_Host a n c L hl W hr hn (fun h hh => by have := s2 h hh; omega)
        have hdr := fun a n c hl W hr hn => impl_dropHeader HostName size_Host a n c L hl W hr hn (fun h hh => by have := s2 h hh; omega)
        rw [vals_Host] at hva
        rw [drop_host] at hdr
        have Hsp := Lib.hid hsp
        have Hva := Lib.hid hva
        have Hdr := Lib.hid hdr
        clear hsp hva hdr
        have hwm := cutB_mem 32 (ba line)
        rw [ba_size] at hwm
        have Hwm := Lib.hid hwm
        have Hsw := Lib.hid (split_words line)
        clear hwm
        have HL := Lib.hid hL
        clear hL
        have key : ∀ (V : World) (bH : Nat) (aH : Option Addr) (nH cH : Nat), L.length = nH → V.heap[bH]? = some (.cells #[.int .i64 0, .slice aH nH cH] 56 (0, 0)) → Rd V aH (hV L) → MaxL V → Below w.heap.size w V → w.heap.size < bH →
            V.heap[w.heap.size]? = some (.cells #[.int .i64 0, .string ⟨#[]⟩, .string ⟨#[]⟩, .string ⟨#[]⟩, .slice none 0 0] 29 (0, 0)) → True := fun _ _ _ _ _ _ _ _ _ _ _ _ => trivial
        clear key
        --LEAF go
        go_enter Tryz.func7, Tryz.ntmps7
        go_upto_region 4 with (go_at_call 29; ((with_reducible refine (HC.out _ (MaxL.then hm (by exact (by first | (with_reducible exact Below.refl _ _) | ((repeat' (first | (with_reducible exact Below.refl _ _) | (with_reducible assumption) | (with_reducible refine below_alloc ?_ _) | (with_reducible refine Below.drew ?_) | (with_reducible refine below_drewN ?_ _) | (with_reducible refine Below.setCell ?_ ?_ _) | refine below_then ?_ (by with_reducible assumption))) <;> (first | omega | (simp; done) | (simp; omega))))))).mono ?_); rintro e w' ⟨rfl, hb⟩; obtain ⟨hc, hf⟩ := bcell hb; have hz := hb.size; (try simp only [World.size_alloc, World.size_setCell, World.size_drew] at hz); obtain ⟨hlt, hle, hn1, hn2, hn3, hn4⟩ := bsize hb; (try simp only [World.size_alloc, World.size_setCell, World.size_drew] at hlt hle hn1 hn2 hn3 hn4); (try have hr0 : w.heap.size < w'.heap.size := by omega); (try have hr1 : w.heap.size + 1 < w'.heap.size := by omega); (try have hs0 : wS.heap.size < w'.heap.size := by omega); (try have hs1 : wG.heap.size < w'.heap.size := by omega)))
        go_cut [32] (fun s wx => s = .bool false ∧ wx = w')
        case first =>
          refine htest.elim (fun t1 => ?_) (fun t => ?_)
          · go_wp2
            go_meet
            exact ⟨rfl, rfl⟩
          · have t1 := t.1
            have t2 := t.2
            clear t
            go_wp2_with (go_at_call 30; ((with_reducible refine (Tryz.strings_HasSuffix r ⟨#[13, 10, 13, 10]⟩ _ (by omega)).mono ?_); rintro e w' ⟨rfl, rfl⟩))
            go_meet
            exact ⟨rfl, rfl⟩
        case rest =>
          obtain ⟨rfl, rfl⟩ := hcut
          go_upto_region 9 with (go_at_call 31; ((with_reducible refine (HR.out _ (MaxL.then hm (by exact (by first | (with_reducible exact Below.refl _ _) | ((repeat' (first | (with_reducible exact Below.refl _ _) | (with_reducible assumption) | (with_reducible refine below_alloc ?_ _) | (with_reducible refine Below.drew ?_) | (with_reducible refine below_drewN ?_ _) | (with_reducible refine Below.setCell ?_ ?_ _) | refine below_then ?_ (by with_reducible assumption))) <;> (first | omega | (simp; done) | (simp; omega))))))).mono ?_); rintro e wH ⟨aH, nH, cH, rfl, ⟨hlH, hsH⟩, hb⟩; have rdH := hsH.rd; obtain ⟨hc, hf⟩ := bcell hb; have hz := hb.size; (try simp only [World.size_alloc, World.size_setCell, World.size_drew] at hz); obtain ⟨hlt, hle, hn1, hn2, hn3, hn4⟩ := bsize hb; (try simp only [World.size_alloc, World.size_setCell, World.size_drew] at hlt hle hn1 hn2 hn3 hn4); (try have hr0 : w.heap.size < wH.heap.size := by omega); (try have hr1 : w.heap.size + 1 < wH.heap.size := by omega); (try have hs0 : wS.heap.size < wH.heap.size := by omega); (try have hs1 : wG.heap.size < wH.heap.size := by omega)))
          have bkH : (wH.alloc (.cells #[.int .i64 0, .slice aH nH cH] 56)).heap[wH.heap.size]? = some (.cells #[.int .i64 0, .slice aH nH cH] 56 (0, 0)) := blk_new _ _
          have bkR : (wH.alloc (.cells #[.int .i64 0, .slice aH nH cH] 56)).heap[w.heap.size]? = some (.cells #[.int .i64 0, .string ⟨#[]⟩, .string ⟨#[]⟩, .string ⟨#[]⟩, .slice none 0 0] 29 (0, 0)) := (by repeat' (first | (with_reducible assumption) | (with_reducible exact blk_new _ _) | (with_reducible apply blk_set) | (with_reducible refine blk_alloc ?_ _) | (with_reducible refine blk_drew ?_) | refine blk_then ?_ (by with_reducible assumption)))
          have rdV : Rd (wH.alloc (.cells #[.int .i64 0, .slice aH nH cH] 56)) aH (hV L) := rdH.alloc _
          have hmV : MaxL (wH.alloc (.cells #[.int .i64 0, .slice aH nH cH] 56)) := (MaxL.then hm (by exact (by first | (with_reducible exact Below.refl _ _) | ((repeat' (first | (with_reducible exact Below.refl _ _) | (with_reducible assumption) | (with_reducible refine below_alloc ?_ _) | (with_reducible refine Below.drew ?_) | (with_reducible refine below_drewN ?_ _) | (with_reducible refine Below.setCell ?_ ?_ _) | refine below_then ?_ (by with_reducible assumption))) <;> (first | omega | (simp; done) | (simp; omega))))))
          have belV : Below w.heap.size w (wH.alloc (.cells #[.int .i64 0, .slice aH nH cH] 56)) := by exact (by first | (with_reducible exact Below.refl _ _) | ((repeat' (first | (with_reducible exact Below.refl _ _) | (with_reducible assumption) | (with_reducible refine below_alloc ?_ _) | (with_reducible refine Below.drew ?_) | (with_reducible refine below_drewN ?_ _) | (with_reducible refine Below.setCell ?_ ?_ _) | refine below_then ?_ (by with_reducible assumption))) <;> (first | omega | (simp; done) | (simp; omega))))
          have hbH : w.heap.size < wH.heap.size := by omega
          have hvz : wH.heap.size < (wH.alloc (.cells #[.int .i64 0, .slice aH nH cH] 56)).heap.size := by simp
          generalize (wH.alloc (.cells #[.int .i64 0, .slice aH nH cH] 56)) = V at *
          generalize wH.heap.size = bH at *
          have H20 : nH ≤ 20 := by omega
          have hk : ∀ W, Below V.heap.size V W → W.cell? ⟨bH, 0, none⟩ = some (.int .i64 0) ∧ W.cell? ⟨bH, 1, none⟩ = some (.slice aH nH cH) := fun W hB => cells2 (blk_then bkH hB)
          refine wp_region_rel (fun W => Below V.heap.size V W) (fun _ w w' => Below w.heap.size w w') (riF (ba line) L aH nH cH bH V.heap.size) (by kernel_rfl) (by kernel_rfl) (Below.refl _ _).drew (fun _ _ _ h1 h2 => below_then h1 h2) (fun _ _ _ _ _ _ _ h1 h2 => riF_keep _ _ _ _ h2 h1) ?_ ?_ ?_
          · intro i o v w hi hd hF
            exact absurd hd (by have := unB_spec (k := 99) (by kernel_rfl) hi hd; have := (Array.getElem?_eq_some_iff.1 hi).1; simp at this; omega)
          · repeat' (refine And.intro ?_ ?_)
            · intro ρ W hI hbase hdep
              have b3 : ρ (.tmp 3) = .string (ba line) := hbase (.tmp 3) (base_tmp (by kernel_rfl))
              simp only [execOp, b3]
              go_simp
              exact ⟨Below.refl _ _, rfl⟩
            · intro ρ W hI hbase hdep
              have hc : ∀ v, ρ (.const v) = v := fun v => hbase _ (fun _ _ _ _ _ e => by cases e)
              have hfn : ∀ f, ρ (.func f) = .func (.func f) #[] #[] := fun v => hbase _ (fun _ _ _ _ _ e => by cases e)
              have p0 : ρ (.tmp 46) = .string (ba line) := hdep ⟨0, .data⟩ (by simp) rfl _ 46 rfl rfl
              simp only [execOp, hc, hfn, p0]
              go_simp
              exact ⟨rfl, (Hsp.out W (hmV.then hI)).mono fun e w' h => ⟨_, h.1, h.2.2.1, ⟨_, _, rfl, hI.size, row_of_blk h.2.1⟩⟩⟩
            · intro ρ W hI hbase hdep
              have b6 : ρ (.tmp 6) = .pointer (some ⟨bH, 0, none⟩) := hbase (.tmp 6) (base_tmp (by kernel_rfl))
              simp only [execOp, b6]
              go_simp
              exact ⟨Below.refl _ _, rfl⟩
            · intro ρ W hI hbase hdep
              have p0 : ρ (.tmp 48) = .pointer (some ⟨bH, 1, none⟩) := hdep ⟨2, .data⟩ (by simp) rfl _ 48 rfl rfl
              obtain ⟨k0, k1⟩ := hk W hI
              simp only [execOp, p0]
              go_simp
              exact ⟨Below.refl _ _, rfl⟩
            · intro ρ W hI hbase hdep
              have hc : ∀ v, ρ (.const v) = v := fun v => hbase _ (fun _ _ _ _ _ e => by cases e)
              have hfn : ∀ f, ρ (.func f) = .func (.func f) #[] #[] := fun v => hbase _ (fun _ _ _ _ _ e => by cases e)
              have p0 : ρ (.tmp 49) = .slice aH nH cH := hdep ⟨3, .data⟩ (by simp) rfl _ 49 rfl rfl
              simp only [execOp, hc, hfn, p0]
              go_simp
              exact ⟨rfl, (Hva.out aH nH cH hlH W (rdV.below hI) (by omega)).mono fun e w' ⟨g, cap, h1, h2, h3⟩ => ⟨_, h1, h3, ⟨g, cap, rfl, Nat.le_trans hI.size (own_at h2).1, (own_at h2).2.2⟩⟩⟩
            · intro ρ W hI hbase hdep
              have p0 : ∃ g cap, ρ (.tmp 47) = .slice (some ⟨g, 0, none⟩) (cutB 32 (ba line)).length cap ∧ V.heap.size ≤ g ∧ RowAt W g (strV (cutB 32 (ba line))) := hdep ⟨1, .data⟩ (by simp) rfl _ 47 rfl rfl
              obtain ⟨g, cap, p0, p1, p2⟩ := p0
              simp only [execOp, p0]
              go_simp
              exact ⟨Below.refl _ _, ⟨g, cap, rfl, p1, p2⟩⟩
            · intro ρ W hI hbase hdep
              have p0 : ∃ g cap, ρ (.tmp 50) = .slice (some ⟨g, 0, none⟩) (vals hostName L).length cap ∧ V.heap.size ≤ g ∧ RowAt W g (strV (vals hostName L)) := hdep ⟨4, .data⟩ (by simp) rfl _ 50 rfl rfl
              obtain ⟨g, cap, p0, p1, p2⟩ := p0
              simp only [execOp, p0]
              go_simp
              exact ⟨Below.refl _ _, ⟨g, cap, rfl, p1, p2⟩⟩
            · trivial
          · intro a' W hI ha hdf hall _ hrest
            have e0 : a'.tmps.getD 46 undef = .string (ba line) := hall 0 _ 46 rfl rfl
            have e1 : ∃ g cap, a'.tmps.getD 47 undef = .slice (some ⟨g, 0, none⟩) (cutB 32 (ba line)).length cap ∧ V.heap.size ≤ g ∧ RowAt W g (strV (cutB 32 (ba line))) := hall 1 _ 47 rfl rfl
            have e2 : a'.tmps.getD 48 undef = .pointer (some ⟨bH, 1, none⟩) := hall 2 _ 48 rfl rfl
            have e3 : a'.tmps.getD 49 undef = .slice aH nH cH := hall 3 _ 49 rfl rfl
            have e4 : ∃ g cap, a'.tmps.getD 50 undef = .slice (some ⟨g, 0, none⟩) (vals hostName L).length cap ∧ V.heap.size ≤ g ∧ RowAt W g (strV (vals hostName L)) := hall 4 _ 50 rfl rfl
            have e7 : ∃ g cap, a'.tmps.getD 7 undef = .slice (some ⟨g, 0, none⟩) (cutB 32 (ba line)).length cap ∧ V.heap.size ≤ g ∧ RowAt W g (strV (cutB 32 (ba line))) := hall 5 _ 7 rfl rfl
            have e8 : ∃ g cap, a'.tmps.getD 8 undef = .slice (some ⟨g, 0, none⟩) (vals hostName L).length cap ∧ V.heap.size ≤ g ∧ RowAt W g (strV (vals hostName L)) := hall 6 _ 8 rfl rfl
            obtain ⟨g1, c1, e1, _, _⟩ := e1
            obtain ⟨g4, c4, e4, _, _⟩ := e4
            obtain ⟨gw, cw, e7, gw1, roww⟩ := e7
            obtain ⟨gh, ch, e8, gh1, rowh⟩ := e8
            have ea := after_region [(46, _), (47, _), (48, _), (49, _), (50, _), (7, _), (8, _)] ha hdf hrest (by kernel_rfl) (by simp only [List.forall_mem_cons]; exact ⟨e0, e1, e2, e3, e4, e7, e8, fun _ h => by cases h⟩)
            subst ea
            simp only [List.foldl_cons, List.foldl_nil, List.setIfInBounds_toArray, List.set_cons_zero, List.set_cons_succ]
            have belW := below_then belV hI
            have bkRW := blk_then bkR hI
            have rdW := rdV.below hI
            obtain ⟨kW0, kW1⟩ := hk W hI
            obtain ⟨x0, x1, x2, x3, x4⟩ := cells5 bkRW
            have hfz : ∀ k, W.frozen? ⟨w.heap.size, k, none⟩ = false := fun k => by simp [World.frozen?, bkRW]
            have hWz := hI.size
            have hwW : w.heap.size < W.heap.size := by omega
            have hroww := roww.lt
            have hrowh := rowh.lt
            have Roww := Lib.hid roww
            have Rowh := Lib.hid rowh
            have BelW := Lib.hid belW
            have RdW := Lib.hid rdW
            clear e0 e1 e2 e3 e4 e7 e8 hall hrest ha hdf roww rowh belW rdW hI hk bkR bkH rdV belV
            by_cases c1 : (cutB 32 (ba line)).length = 3
            · obtain ⟨w0, w1, w2, hw⟩ := three c1
              have m0 := Hwm.out w0 (by rw [hw]; simp)
              have m1 := Hwm.out w1 (by rw [hw]; simp)
              have m2 := Hwm.out w2 (by rw [hw]; simp)
              rw [hw]
              have Roww2 := Roww.out
              rw [hw] at Roww2
              have q0 : W.cell? ⟨gw, 0, none⟩ = some (.string w0) := Roww2.cell 0 _ rfl
              have q1 : W.cell? ⟨gw, 1, none⟩ = some (.string w1) := Roww2.cell 1 _ rfl
              have q2 : W.cell? ⟨gw, 2, none⟩ = some (.string w2) := Roww2.cell 2 _ rfl
              clear Roww2 c1
              by_cases c2 : w2.data.toList = http11
              · have e2 : (w2.toList == [72, 84, 84, 80, 47, 49, 46, 49]) = true := by rw [eq_str]; exact decide_eq_true c2
                by_cases c3 : (vals hostName L).length = 1
                · obtain ⟨v0, hv0⟩ : ∃ v0, vals hostName L = [v0] := by
                    match hq : vals hostName L, c3 with
                    | [x], _ => exact ⟨x, rfl⟩
                  have hvs : v0.size ≤ 200 := by
                    obtain ⟨y, hy, rfl⟩ := vals_mem (show v0 ∈ vals hostName L by rw [hv0]; simp)
                    exact (s2 y hy).2
                  have e : rqOf line L = some (w0, v0, w1, dropL hostName L) := rqOf_good hw c2 hv0
                  rw [hv0]
                  have Rowh2 := Rowh.out
                  rw [hv0] at Rowh2
                  have q3 : W.cell? ⟨gh, 0, none⟩ = some (.string v0) := Rowh2.cell 0 _ rfl
                  have hds : ∀ h ∈ dropL hostName L, h.1.size ≤ 9223372036854775807 ∧ h.2.size ≤ 9223372036854775807 := fun h hh => by
                    have := s2 h (List.mem_filter.1 hh).1
                    omega
                  have hF := fun a n c hl W hr hn => impl_RequestFault w0 v0 w1 (by omega) (by omega) (by omega) a n c (dropL hostName L) hl W hr hn hds
                  have hd20 : (dropL hostName L).length ≤ 20 := by omega
                  have hS : ∀ U, Below W.heap.size W U → U.cell? ⟨gw, 0, none⟩ = some (.string w0) ∧ U.cell? ⟨gw, 1, none⟩ = some (.string w1) ∧ U.cell? ⟨gh, 0, none⟩ = some (.string v0) ∧ U.cell? ⟨bH, 1, none⟩ = some (.slice aH nH cH) := fun U hB =>
                    ⟨(hB.cell (p := ⟨gw, 0, none⟩) hroww).trans q0, (hB.cell (p := ⟨gw, 1, none⟩) hroww).trans q1, (hB.cell (p := ⟨gh, 0, none⟩) hrowh).trans q3, (hB.cell (p := ⟨bH, 1, none⟩) (show bH < W.heap.size by omega)).trans kW1⟩
                  have HS := Lib.hid hS
                  have EQ := Lib.hid e
                  clear Rowh2 hw c2 c3 hv0 hS e hds hdv
                  by_cases hq : rqFault w0 v0 w1 (dropL hostName L) = 0
                  · have E := Lib.hid (show rqEnd (some (w0, v0, w1, dropL hostName L)) = (0, w0, v0, w1, dropL hostName L) from if_pos hq)
                    rw [hq] at hF
                    have HFt := Lib.hid hF
                    clear hq hF
                    --LEAF good
                    go_wp2
                    go_region_held3 (fun U => U.cell? ⟨gw, 0, none⟩ = some (.string w0) ∧ U.cell? ⟨gw, 1, none⟩ = some (.string w1) ∧ U.cell? ⟨gh, 0, none⟩ = some (.string v0) ∧ U.cell? ⟨bH, 1, none⟩ = some (.slice aH nH cH)) (first | (exact HS.out _ (by first | (with_reducible exact Below.refl _ _) | ((repeat' (first | (with_reducible exact Below.refl _ _) | (with_reducible assumption) | (with_reducible refine below_alloc ?_ _) | (with_reducible refine Below.drew ?_) | (with_reducible refine below_drewN ?_ _) | (with_reducible refine Below.setCell ?_ ?_ _) | refine below_then ?_ (by with_reducible assumption))) <;> (first | omega | (simp; done) | (simp; omega))))) | go_keep) (first | (go_at_call 34; ((with_reducible refine (Hdr.out _ _ _ hlH _ (RdW.out.below (by exact (by first | (with_reducible exact Below.refl _ _) | ((repeat' (first | (with_reducible exact Below.refl _ _) | (with_reducible assumption) | (with_reducible refine below_alloc ?_ _) | (with_reducible refine Below.drew ?_) | (with_reducible refine below_drewN ?_ _) | (with_reducible refine Below.setCell ?_ ?_ _) | refine below_then ?_ (by with_reducible assumption))) <;> (first | omega | (simp; done) | (simp; omega)))))) (by omega)).mono ?_); rintro e w' ⟨gd, capd, rfl, hownD, hb⟩; obtain ⟨gd1, gd2, rowD⟩ := own_at hownD; (try simp only [World.size_alloc, World.size_drew] at gd1); clear hownD; obtain ⟨hc, hf⟩ := bcell hb; have hz := hb.size; (try simp only [World.size_alloc, World.size_setCell, World.size_drew] at hz); obtain ⟨hlt, hle, hn1, hn2, hn3, hn4⟩ := bsize hb; (try simp only [World.size_alloc, World.size_setCell, World.size_drew] at hlt hle hn1 hn2 hn3 hn4); (try have hr0 : w.heap.size < w'.heap.size := by omega); (try have hr1 : w.heap.size + 1 < w'.heap.size := by omega); (try have hs0 : wS.heap.size < w'.heap.size := by omega); (try have hs1 : wG.heap.size < w'.heap.size := by omega))))
                    all_goals (go_wp2_with (go_at_call 20; ((with_reducible refine (HFt.out _ _ _ rfl _ (by first | (with_reducible assumption) | exact RowAt.rd (by repeat' (first | (with_reducible assumption) | (with_reducible refine RowAt.alloc ?_ _) | (with_reducible refine RowAt.drew ?_) | (with_reducible refine RowAt.other ?_ _ _ (by first | omega | (simp; done) | (simp; omega))) | refine RowAt.then ?_ (by with_reducible assumption))) | exact Rd.below (by with_reducible assumption) (by first | (with_reducible exact Below.refl _ _) | ((repeat' (first | (with_reducible exact Below.refl _ _) | (with_reducible assumption) | (with_reducible refine below_alloc ?_ _) | (with_reducible refine Below.drew ?_) | (with_reducible refine below_drewN ?_ _) | (with_reducible refine Below.setCell ?_ ?_ _) | refine below_then ?_ (by with_reducible assumption))) <;> (first | omega | (simp; done) | (simp; omega))))) (by omega)).mono ?_); rintro e w' ⟨rfl, hb⟩; have hbF := hb; have bkF : w'.heap[w.heap.size]? = some (.cells #[.int .i64 0, .string ⟨#[]⟩, .string ⟨#[]⟩, .string ⟨#[]⟩, .slice none 0 0] 29 (0, 0)) := (by repeat' (first | (with_reducible assumption) | (with_reducible exact blk_new _ _) | (with_reducible apply blk_set) | (with_reducible refine blk_new' _ _ _ (by first | omega | (simp only [World.size_alloc]; first | done | omega))) | (with_reducible refine blk_other ?_ _ _ _ (by omega)) | (with_reducible refine blk_drew ?_) | (with_reducible refine blk_alloc ?_ _) | refine blk_then ?_ (by with_reducible assumption))); obtain ⟨v0', v1', v2', v3', v4'⟩ := cells5 bkF; have fzF := fz_of bkF; obtain ⟨hc, hf⟩ := bcell hb; have hz := hb.size; (try simp only [World.size_alloc, World.size_setCell, World.size_drew] at hz); obtain ⟨hlt, hle, hn1, hn2, hn3, hn4⟩ := bsize hb; (try simp only [World.size_alloc, World.size_setCell, World.size_drew] at hlt hle hn1 hn2 hn3 hn4); (try have hr0 : w.heap.size < w'.heap.size := by omega); (try have hr1 : w.heap.size + 1 < w'.heap.size := by omega); (try have hs0 : wS.heap.size < w'.heap.size := by omega); (try have hs1 : wG.heap.size < w'.heap.size := by omega))))
                    all_goals (have hwz := hbF.size; (try simp only [World.size_setCell, World.size_alloc, World.size_drew] at hwz); exact bodyPost_ret (res_row Tryz.results7 _ _ rfl (blk_cast (by repeat' (first | (with_reducible assumption) | (with_reducible exact blk_new _ _) | (with_reducible apply blk_set) | (with_reducible refine blk_alloc ?_ _) | (with_reducible refine blk_drew ?_) | refine blk_then ?_ (by with_reducible assumption))) (by first | (simp; done) | rfl)) Tryz.underlying29 rfl _ (by kernel_rfl) rfl) rfl (by rw [EQ.out, E.out]; exact ⟨_, _, _, rfl, hdR_some (by exact (by repeat' (first | (with_reducible assumption) | (with_reducible refine RowAt.alloc ?_ _) | (with_reducible refine RowAt.drew ?_) | (with_reducible refine RowAt.other ?_ _ _ (by first | omega | (simp; done) | (simp; omega))) | refine RowAt.then ?_ (by with_reducible assumption)))) (by omega) (by first | omega | (simp; omega)) rfl, by have bW := BelW.out; exact (by first | (with_reducible exact Below.refl _ _) | ((repeat' (first | (with_reducible exact Below.refl _ _) | (with_reducible assumption) | (with_reducible refine below_alloc ?_ _) | (with_reducible refine Below.drew ?_) | (with_reducible refine below_drewN ?_ _) | (with_reducible refine Below.setCell ?_ ?_ _) | refine below_then ?_ (by with_reducible assumption))) <;> (first | omega | (simp; done) | (simp; omega))))⟩))
                    --END
                  · have E := Lib.hid (show rqEnd (some (w0, v0, w1, dropL hostName L)) = (rqFault w0 v0 w1 (dropL hostName L), noRq) from if_neg hq)
                    have hne : (rqFault w0 v0 w1 (dropL hostName L) != 0) = true := by simpa using hq
                    have HFt := Lib.hid hF
                    clear hq hF
                    --LEAF fault
                    go_wp2
                    go_region_held3 (fun U => U.cell? ⟨gw, 0, none⟩ = some (.string w0) ∧ U.cell? ⟨gw, 1, none⟩ = some (.string w1) ∧ U.cell? ⟨gh, 0, none⟩ = some (.string v0) ∧ U.cell? ⟨bH, 1, none⟩ = some (.slice aH nH cH)) (first | (exact HS.out _ (by first | (with_reducible exact Below.refl _ _) | ((repeat' (first | (with_reducible exact Below.refl _ _) | (with_reducible assumption) | (with_reducible refine below_alloc ?_ _) | (with_reducible refine Below.drew ?_) | (with_reducible refine below_drewN ?_ _) | (with_reducible refine Below.setCell ?_ ?_ _) | refine below_then ?_ (by with_reducible assumption))) <;> (first | omega | (simp; done) | (simp; omega))))) | go_keep) (first | (go_at_call 34; ((with_reducible refine (Hdr.out _ _ _ hlH _ (RdW.out.below (by exact (by first | (with_reducible exact Below.refl _ _) | ((repeat' (first | (with_reducible exact Below.refl _ _) | (with_reducible assumption) | (with_reducible refine below_alloc ?_ _) | (with_reducible refine Below.drew ?_) | (with_reducible refine below_drewN ?_ _) | (with_reducible refine Below.setCell ?_ ?_ _) | refine below_then ?_ (by with_reducible assumption))) <;> (first | omega | (simp; done) | (simp; omega)))))) (by omega)).mono ?_); rintro e w' ⟨gd, capd, rfl, hownD, hb⟩; obtain ⟨gd1, gd2, rowD⟩ := own_at hownD; (try simp only [World.size_alloc, World.size_drew] at gd1); clear hownD; obtain ⟨hc, hf⟩ := bcell hb; have hz := hb.size; (try simp only [World.size_alloc, World.size_setCell, World.size_drew] at hz); obtain ⟨hlt, hle, hn1, hn2, hn3, hn4⟩ := bsize hb; (try simp only [World.size_alloc, World.size_setCell, World.size_drew] at hlt hle hn1 hn2 hn3 hn4); (try have hr0 : w.heap.size < w'.heap.size := by omega); (try have hr1 : w.heap.size + 1 < w'.heap.size := by omega); (try have hs0 : wS.heap.size < w'.heap.size := by omega); (try have hs1 : wG.heap.size < w'.heap.size := by omega))))
                    all_goals (go_wp2_with (go_at_call 20; ((with_reducible refine (HFt.out _ _ _ rfl _ (by first | (with_reducible assumption) | exact RowAt.rd (by repeat' (first | (with_reducible assumption) | (with_reducible refine RowAt.alloc ?_ _) | (with_reducible refine RowAt.drew ?_) | (with_reducible refine RowAt.other ?_ _ _ (by first | omega | (simp; done) | (simp; omega))) | refine RowAt.then ?_ (by with_reducible assumption))) | exact Rd.below (by with_reducible assumption) (by first | (with_reducible exact Below.refl _ _) | ((repeat' (first | (with_reducible exact Below.refl _ _) | (with_reducible assumption) | (with_reducible refine below_alloc ?_ _) | (with_reducible refine Below.drew ?_) | (with_reducible refine below_drewN ?_ _) | (with_reducible refine Below.setCell ?_ ?_ _) | refine below_then ?_ (by with_reducible assumption))) <;> (first | omega | (simp; done) | (simp; omega))))) (by omega)).mono ?_); rintro e w' ⟨rfl, hb⟩; have hbF := hb; have bkF : w'.heap[w.heap.size]? = some (.cells #[.int .i64 0, .string ⟨#[]⟩, .string ⟨#[]⟩, .string ⟨#[]⟩, .slice none 0 0] 29 (0, 0)) := (by repeat' (first | (with_reducible assumption) | (with_reducible exact blk_new _ _) | (with_reducible apply blk_set) | (with_reducible refine blk_new' _ _ _ (by first | omega | (simp only [World.size_alloc]; first | done | omega))) | (with_reducible refine blk_other ?_ _ _ _ (by omega)) | (with_reducible refine blk_drew ?_) | (with_reducible refine blk_alloc ?_ _) | refine blk_then ?_ (by with_reducible assumption))); obtain ⟨v0', v1', v2', v3', v4'⟩ := cells5 bkF; have fzF := fz_of bkF; obtain ⟨hc, hf⟩ := bcell hb; have hz := hb.size; (try simp only [World.size_alloc, World.size_setCell, World.size_drew] at hz); obtain ⟨hlt, hle, hn1, hn2, hn3, hn4⟩ := bsize hb; (try simp only [World.size_alloc, World.size_setCell, World.size_drew] at hlt hle hn1 hn2 hn3 hn4); (try have hr0 : w.heap.size < w'.heap.size := by omega); (try have hr1 : w.heap.size + 1 < w'.heap.size := by omega); (try have hs0 : wS.heap.size < w'.heap.size := by omega); (try have hs1 : wG.heap.size < w'.heap.size := by omega))))
                    all_goals exact bodyPost_ret (res_row Tryz.results7 _ _ rfl (blk_cast (by repeat' (first | (with_reducible assumption) | (with_reducible exact blk_new _ _) | (with_reducible apply blk_set) | (with_reducible refine blk_alloc ?_ _) | (with_reducible refine blk_drew ?_) | refine blk_then ?_ (by with_reducible assumption))) (by first | (simp; done) | rfl)) Tryz.underlying29 rfl _ (by kernel_rfl) rfl) rfl (by rw [EQ.out, E.out]; exact ⟨none, 0, 0, rfl, hdR_none _ _ _, by have bW := BelW.out; exact (by first | (with_reducible exact Below.refl _ _) | ((repeat' (first | (with_reducible exact Below.refl _ _) | (with_reducible assumption) | (with_reducible refine below_alloc ?_ _) | (with_reducible refine Below.drew ?_) | (with_reducible refine below_drewN ?_ _) | (with_reducible refine Below.setCell ?_ ?_ _) | refine below_then ?_ (by with_reducible assumption))) <;> (first | omega | (simp; done) | (simp; omega))))⟩)
                    --END
                · have e : rqEnd (rqOf line L) = (5, noRq) := rqOf_bad (fun q => c3 q.2.2)
                  have e3 : (((vals hostName L).length : Int) != 1) = true := by rw [bne_iff_ne]; omega
                  have E := Lib.hid e
                  clear e hw c3 hdv
                  --LEAF hosts
                  go_wp2
                  exact bodyPost_ret (res_row Tryz.results7 _ _ rfl (blk_cast (by repeat' (first | (with_reducible assumption) | (with_reducible exact blk_new _ _) | (with_reducible apply blk_set) | (with_reducible refine blk_alloc ?_ _) | (with_reducible refine blk_drew ?_) | refine blk_then ?_ (by with_reducible assumption))) (by first | (simp; done) | rfl)) Tryz.underlying29 rfl _ (by kernel_rfl) rfl) rfl (by rw [E.out]; exact ⟨none, 0, 0, rfl, hdR_none _ _ _, by have bW := BelW.out; exact (by first | (with_reducible exact Below.refl _ _) | ((repeat' (first | (with_reducible exact Below.refl _ _) | (with_reducible assumption) | (with_reducible refine below_alloc ?_ _) | (with_reducible refine Below.drew ?_) | (with_reducible refine below_drewN ?_ _) | (with_reducible refine Below.setCell ?_ ?_ _) | refine below_then ?_ (by with_reducible assumption))) <;> (first | omega | (simp; done) | (simp; omega))))⟩)
                  --END
              · have e : rqEnd (rqOf line L) = (5, noRq) := rqOf_bad (fun q => c2 (by
                  have h2 := q.2.1
                  rw [(Hsw.out).2, hw] at h2
                  simpa using h2))
                have e2 : (w2.toList == [72, 84, 84, 80, 47, 49, 46, 49]) = false := by rw [eq_str]; exact decide_eq_false c2
                have E := Lib.hid e
                clear e hw
                --LEAF nohttp
                go_wp2
                exact bodyPost_ret (res_row Tryz.results7 _ _ rfl (blk_cast (by repeat' (first | (with_reducible assumption) | (with_reducible exact blk_new _ _) | (with_reducible apply blk_set) | (with_reducible refine blk_alloc ?_ _) | (with_reducible refine blk_drew ?_) | refine blk_then ?_ (by with_reducible assumption))) (by first | (simp; done) | rfl)) Tryz.underlying29 rfl _ (by kernel_rfl) rfl) rfl (by rw [E.out]; exact ⟨none, 0, 0, rfl, hdR_none _ _ _, by have bW := BelW.out; exact (by first | (with_reducible exact Below.refl _ _) | ((repeat' (first | (with_reducible exact Below.refl _ _) | (with_reducible assumption) | (with_reducible refine below_alloc ?_ _) | (with_reducible refine Below.drew ?_) | (with_reducible refine below_drewN ?_ _) | (with_reducible refine Below.setCell ?_ ?_ _) | refine below_then ?_ (by with_reducible assumption))) <;> (first | omega | (simp; done) | (simp; omega))))⟩)
                --END
            · have e : rqEnd (rqOf line L) = (5, noRq) := rqOf_bad (fun q => c1 (by rw [← (Hsw.out).1]; exact q.1))
              have e1 : (((cutB 32 (ba line)).length : Int) != 3) = true := by rw [bne_iff_ne]; omega
              have E := Lib.hid e
              clear e c1
              --LEAF words
              go_wp2
              exact bodyPost_ret (res_row Tryz.results7 _ _ rfl (blk_cast (by repeat' (first | (with_reducible assumption) | (with_reducible exact blk_new _ _) | (with_reducible apply blk_set) | (with_reducible refine blk_alloc ?_ _) | (with_reducible refine blk_drew ?_) | refine blk_then ?_ (by with_reducible assumption))) (by first | (simp; done) | rfl)) Tryz.underlying29 rfl _ (by kernel_rfl) rfl) rfl (by rw [E.out]; exact ⟨none, 0, 0, rfl, hdR_none _ _ _, by have bW := BelW.out; exact (by first | (with_reducible exact Below.refl _ _) | ((repeat' (first | (with_reducible exact Below.refl _ _) | (with_reducible assumption) | (with_reducible refine below_alloc ?_ _) | (with_reducible refine Below.drew ?_) | (with_reducible refine below_drewN ?_ _) | (with_reducible refine Below.setCell ?_ ?_ _) | refine below_then ?_ (by with_reducible assumption))) <;> (first | omega | (simp; done) | (simp; omega))))⟩)
              --END
        --END
      · rw [rqMid_code (by rw [hhd]; exact hz)]
        simp only [hhd]
        have hne : ((readR hd).1 != 0) = true := by simpa using hz
        clear hz
        generalize (readR hd).1 = cd at *
        generalize (readR hd).2 = Ld at *
        have HR := Lib.hid hR
        clear hR hhd
        --LEAF code
        go_enter Tryz.func7, Tryz.ntmps7
        go_upto_region 4 with (go_at_call 29; ((with_reducible refine (HC.out _ (MaxL.then hm (by exact (by first | (with_reducible exact Below.refl _ _) | ((repeat' (first | (with_reducible exact Below.refl _ _) | (with_reducible assumption) | (with_reducible refine below_alloc ?_ _) | (with_reducible refine Below.drew ?_) | (with_reducible refine below_drewN ?_ _) | (with_reducible refine Below.setCell ?_ ?_ _) | refine below_then ?_ (by with_reducible assumption))) <;> (first | omega | (simp; done) | (simp; omega))))))).mono ?_); rintro e w' ⟨rfl, hb⟩; obtain ⟨hc, hf⟩ := bcell hb; have hz := hb.size; (try simp only [World.size_alloc, World.size_setCell, World.size_drew] at hz); obtain ⟨hlt, hle, hn1, hn2, hn3, hn4⟩ := bsize hb; (try simp only [World.size_alloc, World.size_setCell, World.size_drew] at hlt hle hn1 hn2 hn3 hn4); (try have hr0 : w.heap.size < w'.heap.size := by omega); (try have hr1 : w.heap.size + 1 < w'.heap.size := by omega); (try have hs0 : wS.heap.size < w'.heap.size := by omega); (try have hs1 : wG.heap.size < w'.heap.size := by omega)))
        go_cut [32] (fun s wx => s = .bool false ∧ wx = w')
        case first =>
          refine htest.elim (fun t1 => ?_) (fun t => ?_)
          · go_wp2
            go_meet
            exact ⟨rfl, rfl⟩
          · have t1 := t.1
            have t2 := t.2
            clear t
            go_wp2_with (go_at_call 30; ((with_reducible refine (Tryz.strings_HasSuffix r ⟨#[13, 10, 13, 10]⟩ _ (by omega)).mono ?_); rintro e w' ⟨rfl, rfl⟩))
            go_meet
            exact ⟨rfl, rfl⟩
        case rest =>
          obtain ⟨rfl, rfl⟩ := hcut
          go_wp2_with (go_at_call 31; ((with_reducible refine (HR.out _ (MaxL.then hm (by exact (by first | (with_reducible exact Below.refl _ _) | ((repeat' (first | (with_reducible exact Below.refl _ _) | (with_reducible assumption) | (with_reducible refine below_alloc ?_ _) | (with_reducible refine Below.drew ?_) | (with_reducible refine below_drewN ?_ _) | (with_reducible refine Below.setCell ?_ ?_ _) | refine below_then ?_ (by with_reducible assumption))) <;> (first | omega | (simp; done) | (simp; omega))))))).mono ?_); rintro e wH ⟨aH, nH, cH, rfl, ⟨hlH, hsH⟩, hb⟩; obtain ⟨hc, hf⟩ := bcell hb; have hz := hb.size; (try simp only [World.size_alloc, World.size_setCell, World.size_drew] at hz); obtain ⟨hlt, hle, hn1, hn2, hn3, hn4⟩ := bsize hb; (try simp only [World.size_alloc, World.size_setCell, World.size_drew] at hlt hle hn1 hn2 hn3 hn4); (try have hr0 : w.heap.size < wH.heap.size := by omega); (try have hr1 : w.heap.size + 1 < wH.heap.size := by omega); (try have hs0 : wS.heap.size < wH.heap.size := by omega); (try have hs1 : wG.heap.size < wH.heap.size := by omega)))
          exact bodyPost_ret (res_row Tryz.results7 _ _ rfl (blk_cast (by repeat' (first | (with_reducible assumption) | (with_reducible exact blk_new _ _) | (with_reducible apply blk_set) | (with_reducible refine blk_alloc ?_ _) | (with_reducible refine blk_drew ?_) | refine blk_then ?_ (by with_reducible assumption))) (by first | (simp; done) | rfl)) Tryz.underlying29 rfl _ (by kernel_rfl) rfl) rfl ⟨none, 0, 0, rfl, hdR_none _ _ _, by exact (by first | (with_reducible exact Below.refl _ _) | ((repeat' (first | (with_reducible exact Below.refl _ _) | (with_reducible assumption) | (with_reducible refine below_alloc ?_ _) | (with_reducible refine Below.drew ?_) | (with_reducible refine below_drewN ?_ _) | (with_reducible refine Below.setCell ?_ ?_ _) | refine below_then ?_ (by with_reducible assumption))) <;> (first | omega | (simp; done) | (simp; omega))))⟩
        --END
    · rw [hf]
      show Calls _ _ _ w fun e w' => ∃ (a' : Option Addr) (n' c' : Nat), e = .returned (.agg #[.int .i64 (((5 : Int), noRq)).1, .string (((5 : Int), noRq)).2.1, .string (((5 : Int), noRq)).2.2.1, .string (((5 : Int), noRq)).2.2.2.1, .slice a' n' c']) ∧ ((((5 : Int), noRq)).2.2.2.2.length = n' ∧ SlAt w' w.heap.size w'.heap.size a' n' (hV (((5 : Int), noRq)).2.2.2.2)) ∧ Below w.heap.size w w'
      obtain ⟨line, rest, b, hcc⟩ : ∃ line rest b, Lib.cut lb crlf = (line, rest, b) := ⟨_, _, _, rfl⟩
      rw [hcc] at hno hcsz
      simp only at hno hcsz
      have hC2 : ∀ W, MaxL W → Calls Tryz.prog 29 #[.string (ba lb), .string ⟨#[13, 10]⟩] W fun e w' => e = .returned (.tuple #[.string (ba line), .string (ba rest), .bool b]) ∧ Below (W).heap.size W w' := fun W hm => by
        have := hC W hm
        rw [show (⟨#[13, 10]⟩ : ByteArray).data.toList = crlf from rfl, hcc] at this
        exact this
      rcases hno with rfl | ⟨rfl, h1, h2⟩
      · have HC := Lib.hid hC2
        clear hC hC2 hcc hf
        --LEAF nocut
        go_enter Tryz.func7, Tryz.ntmps7
        go_wp2_with (go_at_call 29; ((with_reducible refine (HC.out _ (MaxL.then hm (by exact (by first | (with_reducible exact Below.refl _ _) | ((repeat' (first | (with_reducible exact Below.refl _ _) | (with_reducible assumption) | (with_reducible refine below_alloc ?_ _) | (with_reducible refine Below.drew ?_) | (with_reducible refine below_drewN ?_ _) | (with_reducible refine Below.setCell ?_ ?_ _) | refine below_then ?_ (by with_reducible assumption))) <;> (first | omega | (simp; done) | (simp; omega))))))).mono ?_); rintro e w' ⟨rfl, hb⟩; obtain ⟨hc, hf⟩ := bcell hb; have hz := hb.size; (try simp only [World.size_alloc, World.size_setCell, World.size_drew] at hz); obtain ⟨hlt, hle, hn1, hn2, hn3, hn4⟩ := bsize hb; (try simp only [World.size_alloc, World.size_setCell, World.size_drew] at hlt hle hn1 hn2 hn3 hn4); (try have hr0 : w.heap.size < w'.heap.size := by omega); (try have hr1 : w.heap.size + 1 < w'.heap.size := by omega); (try have hs0 : wS.heap.size < w'.heap.size := by omega); (try have hs1 : wG.heap.size < w'.heap.size := by omega)))
        exact bodyPost_ret (res_row Tryz.results7 _ _ rfl (blk_cast (by repeat' (first | (with_reducible assumption) | (with_reducible exact blk_new _ _) | (with_reducible apply blk_set) | (with_reducible refine blk_alloc ?_ _) | (with_reducible refine blk_drew ?_) | refine blk_then ?_ (by with_reducible assumption))) (by first | (simp; done) | rfl)) Tryz.underlying29 rfl _ (by kernel_rfl) rfl) rfl ⟨none, 0, 0, rfl, hdR_none _ _ _, by exact (by first | (with_reducible exact Below.refl _ _) | ((repeat' (first | (with_reducible exact Below.refl _ _) | (with_reducible assumption) | (with_reducible refine below_alloc ?_ _) | (with_reducible refine Below.drew ?_) | (with_reducible refine below_drewN ?_ _) | (with_reducible refine Below.setCell ?_ ?_ _) | refine below_then ?_ (by with_reducible assumption))) <;> (first | omega | (simp; done) | (simp; omega))))⟩
        --END
      · have t1 : ((ba rest).toList == [13, 10]) = false := by rw [eq_str, ba_list]; exact decide_eq_false h1
        have t2 : Lib.hasSuffix (ba rest).data.toList [13, 10, 13, 10] = false := by
          rw [Bool.eq_false_iff]
          intro q
          rw [ba_list] at q
          exact h2 ((hasSuffix_iff _ _).1 q)
        have HC := Lib.hid hC2
        clear hC hC2 hcc hf h1 h2
        --LEAF noend
        go_enter Tryz.func7, Tryz.ntmps7
        go_wp2_with (first
          | (go_at_call 29; ((with_reducible refine (HC.out _ (MaxL.then hm (by exact (by first | (with_reducible exact Below.refl _ _) | ((repeat' (first | (with_reducible exact Below.refl _ _) | (with_reducible assumption) | (with_reducible refine below_alloc ?_ _) | (with_reducible refine Below.drew ?_) | (with_reducible refine below_drewN ?_ _) | (with_reducible refine Below.setCell ?_ ?_ _) | refine below_then ?_ (by with_reducible assumption))) <;> (first | omega | (simp; done) | (simp; omega))))))).mono ?_); rintro e w' ⟨rfl, hb⟩; obtain ⟨hc, hf⟩ := bcell hb; have hz := hb.size; (try simp only [World.size_alloc, World.size_setCell, World.size_drew] at hz); obtain ⟨hlt, hle, hn1, hn2, hn3, hn4⟩ := bsize hb; (try simp only [World.size_alloc, World.size_setCell, World.size_drew] at hlt hle hn1 hn2 hn3 hn4); (try have hr0 : w.heap.size < w'.heap.size := by omega); (try have hr1 : w.heap.size + 1 < w'.heap.size := by omega); (try have hs0 : wS.heap.size < w'.heap.size := by omega); (try have hs1 : wG.heap.size < w'.heap.size := by omega)))
          | (go_at_call 30; ((with_reducible refine (Tryz.strings_HasSuffix (ba rest) ⟨#[13, 10, 13, 10]⟩ _ (by rw [ba_size]; omega)).mono ?_); rintro e w' ⟨rfl, rfl⟩)))
        exact bodyPost_ret (res_row Tryz.results7 _ _ rfl (blk_cast (by repeat' (first | (with_reducible assumption) | (with_reducible exact blk_new _ _) | (with_reducible apply blk_set) | (with_reducible refine blk_alloc ?_ _) | (with_reducible refine blk_drew ?_) | refine blk_then ?_ (by with_reducible assumption))) (by first | (simp; done) | rfl)) Tryz.underlying29 rfl _ (by kernel_rfl) rfl) rfl ⟨none, 0, 0, rfl, hdR_none _ _ _, by exact (by first | (with_reducible exact Below.refl _ _) | ((repeat' (first | (with_reducible exact Below.refl _ _) | (with_reducible assumption) | (with_reducible refine below_alloc ?_ _) | (with_reducible refine Below.drew ?_) | (with_reducible refine below_drewN ?_ _) | (with_reducible refine Below.setCell ?_ ?_ _) | refine below_then ?_ (by with_reducible assumption))) <;> (first | omega | (simp; done) | (simp; omega))))⟩
        --END
end Go.Proofs.YtbiodbggaeglpaaGreatDoor
