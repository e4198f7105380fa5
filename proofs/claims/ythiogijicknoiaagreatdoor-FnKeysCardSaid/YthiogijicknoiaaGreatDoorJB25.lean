/- Joined: KeyI. -/
import Derived.Test.YthiogijicknoiaaGreatDoorJB11
import Derived.Test.YthiogijicknoiaaGreatDoorJB24
import Derived.Test.YthiogijicknoiaaGreatDoorJB6
import Derived.Test.YthiogijicknoiaaGreatDoorJB1
/- The key of a request: the program's own text. -/
namespace Go.Proofs.YthiogijicknoiaaGreatDoor
open Go.RowKit
set_option linter.unusedSimpArgs false
set_option linter.unusedVariables false

theorem nem_pieces (q : List UInt8) : (nemB (cutB 38 (ba q))).map (·.data.toList) = piecesOf q := by
  unfold piecesOf
  rw [← ba_list q, ← cutB_split 38 (ba q), List.filter_map, ba_list]
  congr 1
  refine List.filter_congr fun x _ => ?_
  show (!x.toList.isEmpty) = !x.data.toList.isEmpty
  rw [ByteArray.toList_eq]
theorem sorted_nem (q : List UInt8) : sortB (nemB (cutB 38 (ba q))) = sortedOf q := by
  apply map_inj
  rw [sortB_list, nem_pieces, sortedOf, map_ba]
theorem insG_mem2 {x : ByteArray} {l : List ByteArray} (h : x ∈ sortB l) : x ∈ l := by
  unfold sortB sortG at h
  suffices H : ∀ (l acc : List ByteArray) (x : ByteArray), x ∈ l.foldl (fun acc x => insG leB x acc) acc → x ∈ l ∨ x ∈ acc by
    rcases H l [] x h with h | h
    · exact h
    · cases h
  intro l
  induction l with
  | nil => intro acc x h; exact .inr h
  | cons y l ih =>
    intro acc x h
    rcases ih _ x h with h | h
    · exact .inl (List.mem_cons_of_mem _ h)
    · rcases insG_mem h with rfl | h
      · exact .inl (List.mem_cons_self ..)
      · exact .inr h
theorem app_nilB (x : ByteArray) : x ++ (⟨#[]⟩ : ByteArray) = x := by
  apply ByteArray.ext
  rw [ByteArray.data_append]
  exact Array.append_empty
set_option maxRecDepth 100000 in
set_option maxHeartbeats 3200000 in
theorem impl_keyOf (m h p : ByteArray) (hh : h.size ≤ 100) (hp : p.size ≤ 100) (v : Value) (w : World) (hm : MaxL w) : Calls Tryz.prog 62 #[.agg #[.string m, .string h, .string p, v]] w fun e w' => e = .returned (.string (keyT h p)) ∧ Below w.heap.size w w' := by
  have hC := fun W hm => strings_Cut p ⟨#[63]⟩ (by omega) W hm
  have hcl := cut_len p.data.toList [63]
  have hkey : keyT h p = lowS h ++ ba (Lib.cut p.data.toList [63]).1 ++ queryT (sortB (nemB (cutB 38 (ba (Lib.cut p.data.toList [63]).2.1)))) := by rw [sorted_nem]; rfl
  obtain ⟨a, q, b, hcc⟩ : ∃ a q b, Lib.cut p.data.toList [63] = (a, q, b) := ⟨_, _, _, rfl⟩
  have hC2 : ∀ W, MaxL W → Calls Tryz.prog 72 #[.string p, .string ⟨#[63]⟩] W fun e w' => e = .returned (.tuple #[.string (ba a), .string (ba q), .bool b]) ∧ Below (W).heap.size W w' := fun W hm => by
    have := hC W hm
    rw [show (⟨#[63]⟩ : ByteArray).data.toList = [63] from rfl, hcc] at this
    exact this
  rw [hcc] at hcl hkey
  simp only [] at hcl hkey
  have hpl : p.data.toList.length = p.size := Array.length_toList
  rw [hpl] at hcl
  have hsp := fun W hm => strings_Split (ba q) ⟨#[38]⟩ (by rw [ba_size]; omega) (by decide) W hm (cutB 38 (ba q)) (cutB_split 38 (ba q))
  have hLn := cutB_len 38 (ba q)
  have hLm := cutB_mem 38 (ba q)
  rw [ba_size] at hLn hLm
  have hlow := fun W => impl_lower h W (by omega)
  have hlz := lowS_size h
  have haz : (ba a).size ≤ 100 := by rw [ba_size]; omega
  generalize cutB 38 (ba q) = L at *
  have hnl := nemB_le L
  have hdl := fun g n cap W hB hn => slices_DelS L g n cap W hB hn
  have hso := fun g n cap W hB hn => slices_SortS (nemB L) g n cap W hB hn
  have hSl := sortB_len (nemB L)
  have hSm : ∀ x ∈ sortB (nemB L), x.size ≤ 100 := fun x hx => Nat.le_trans (hLm x (List.mem_filter.1 (insG_mem2 hx)).1) (by omega)
  generalize (nemB L) = M at *
  generalize hSe : sortB M = S at *
  have hjz := joinB_size ampS 100 S hSm
  rw [show ampS.size = 1 from rfl] at hjz
  have hj0 : (Lib.join (S.map (·.data.toList)) (⟨#[38]⟩ : ByteArray).data.toList).length = (joinB ampS S).size := rfl
  have hjn := fun bk c W hce hbk hcap => Tryz.strings_Join bk 0 c S ⟨#[38]⟩ W hce hbk (by omega) hcap (by rw [hj0]; have : S.length * 101 ≤ 101 * 101 := Nat.mul_le_mul_right _ (by omega); omega)
  have hjz2 : (joinB ampS S).size ≤ 10201 := by have : S.length * 101 ≤ 101 * 101 := Nat.mul_le_mul_right _ (by omega); omega
  have hjt : (⟨(Lib.join (S.map (·.data.toList)) (⟨#[38]⟩ : ByteArray).data.toList).toArray⟩ : ByteArray) = joinB ampS S := rfl
  rw [hjt] at hjn
  generalize hJ : joinB ampS S = J at *
  have f1 : (9223372036854775807 < (lowS h).size + (ba a).size) = False := eq_false (by omega)
  have f2 : (9223372036854775807 < 1 + J.size) = False := eq_false (by omega)
  have f3 : (9223372036854775807 < (lowS h).size + (ba a).size + (1 + J.size)) = False := eq_false (by omega)
  have hqe : S = [] → lowS h ++ ba a = keyT h p := fun e => by rw [hkey, e, queryT, if_pos rfl, app_nilB]
  have hqn : S ≠ [] → lowS h ++ ba a ++ (⟨#[63]⟩ ++ J) = keyT h p := fun e => by rw [hkey, queryT, if_neg e, hJ]
  generalize lowS h = lh at *
  generalize keyT h p = K at *
  generalize ba a = A at *
  generalize ba q = Q at *
  have HC := Lib.hid hC2
  have HSP := Lib.hid hsp
  have HDL := Lib.hid hdl
  have HSO := Lib.hid hso
  have HLOW := Lib.hid hlow
  have HJN := Lib.hid hjn
  have Hkey := Lib.hid hkey
  have Hqe := Lib.hid hqe
  have Hqn := Lib.hid hqn
  have Bk := Lib.hid (blk_new w (.cells #[.string m, .string h, .string p, v] 26))
  have HSe := Lib.hid hSe
  clear hC hC2 hsp hdl hso hlow hjn hkey hqe hqn hcc hLm hSm hSe hjt hj0 hJ
  go_enter Tryz.func62, Tryz.ntmps62
  go_upto_region 4 with (first
    | (go_at_call 72; ((with_reducible refine (HC.out _ (MaxL.then hm (by exact (by first | (with_reducible exact Below.refl _ _) | ((repeat' (first | (with_reducible exact Below.refl _ _) | (with_reducible assumption) | (with_reducible refine below_alloc ?_ _) | (with_reducible refine Below.drew ?_) | (with_reducible refine below_drewN ?_ _) | (with_reducible refine Below.setCell ?_ ?_ _) | refine below_then ?_ (by with_reducible assumption))) <;> (first | omega | (simp; done) | (simp; omega))))))).mono ?_); rintro e w' ⟨rfl, hb⟩; obtain ⟨hc, hf⟩ := bcell hb; have hz := hb.size; (try simp only [World.size_alloc, World.size_setCell, World.size_drew] at hz); obtain ⟨hlt, hle, hn1, hn2, hn3, hn4⟩ := bsize hb; (try simp only [World.size_alloc, World.size_setCell, World.size_drew] at hlt hle hn1 hn2 hn3 hn4); (try have hr0 : w.heap.size < w'.heap.size := by omega); (try have hr1 : w.heap.size + 1 < w'.heap.size := by omega); (try have hs0 : wS.heap.size < w'.heap.size := by omega); (try have hs1 : wG.heap.size < w'.heap.size := by omega)))
    | (go_at_call 74; ((with_reducible refine (HSP.out _ (MaxL.then hm (by exact (by first | (with_reducible exact Below.refl _ _) | ((repeat' (first | (with_reducible exact Below.refl _ _) | (with_reducible assumption) | (with_reducible refine below_alloc ?_ _) | (with_reducible refine Below.drew ?_) | (with_reducible refine below_drewN ?_ _) | (with_reducible refine Below.setCell ?_ ?_ _) | refine below_then ?_ (by with_reducible assumption))) <;> (first | omega | (simp; done) | (simp; omega))))))).mono ?_); rintro e w3 ⟨rfl, hgs, hb, hlt3⟩; obtain ⟨hc, hf⟩ := bcell hb; have hz := hb.size; (try simp only [World.size_alloc, World.size_setCell, World.size_drew] at hz); obtain ⟨hlt, hle, hn1, hn2, hn3, hn4⟩ := bsize hb; (try simp only [World.size_alloc, World.size_setCell, World.size_drew] at hlt hle hn1 hn2 hn3 hn4); (try have hr0 : w.heap.size < w3.heap.size := by omega); (try have hr1 : w.heap.size + 1 < w3.heap.size := by omega); (try have hs0 : wS.heap.size < w3.heap.size := by omega); (try have hs1 : wG.heap.size < w3.heap.size := by omega); have hS3 : SRow w3 w'.heap.size L.length L.length L := ⟨rfl, [], rfl, by rw [List.append_nil]; exact row_of_blk hgs⟩; have bk3 : w3.heap[w.heap.size]? = some (.cells #[.string m, .string h, .string p, v] 26 (0, 0)) := (by have bb := Bk.out; exact (by repeat' (first | (with_reducible assumption) | (with_reducible exact blk_new _ _) | (with_reducible apply blk_set) | (with_reducible refine blk_alloc ?_ _) | (with_reducible refine blk_drew ?_) | refine blk_then ?_ (by with_reducible assumption))))))
    | (go_at_call 119; ((with_reducible refine (HDL.out _ _ _ _ hS3 (by omega)).mono ?_); rintro e w4 ⟨rfl, hS4, hch4⟩; have bk4 := hch4.blk bk3 (.inl (by omega)); have bel3 : Below w.heap.size w w3 := (by exact (by first | (with_reducible exact Below.refl _ _) | ((repeat' (first | (with_reducible exact Below.refl _ _) | (with_reducible assumption) | (with_reducible refine below_alloc ?_ _) | (with_reducible refine Below.drew ?_) | (with_reducible refine below_drewN ?_ _) | (with_reducible refine Below.setCell ?_ ?_ _) | refine below_then ?_ (by with_reducible assumption))) <;> (first | omega | (simp; done) | (simp; omega))))); have bel4 := hch4.below bel3 (by omega)))
    | (go_at_call 121; ((with_reducible refine (HSO.out _ _ _ _ hS4 (by omega)).mono ?_); rintro e w5 ⟨rfl, hS5, hch5⟩; have bk5 := hch5.blk bk4 (.inl (by omega)); have bel5 := hch5.below bel4 (by omega); obtain ⟨z0, z1, z2, z3⟩ := cells4 bk5)))
  have bel5' := bel5
  have hlt5 : w.heap.size < w5.heap.size := (Array.getElem?_eq_some_iff.1 bk5).1
  have hgl5 := hS5.lt
  have BK5 := Lib.hid bk5
  have hScap := hS5.cap
  have hSn : S.length = M.length := hSl
  have row5 := hS5.row
  clear bk5 bk4 bk3 hS3 hS4 hch4 hch5 hgs
  by_cases hs0 : S = []
  · have hn0 : ¬ (0 < (M.length : Int)) := by rw [← hSn, hs0]; decide
    have EK := Lib.hid (Hqe.out hs0)
    clear hs0 row5 hS5
    go_wp2_with (go_at_call 66; ((with_reducible refine (HLOW.out _).mono ?_); rintro e w' ⟨rfl, hb⟩; obtain ⟨hc, hf⟩ := bcell hb; have hz := hb.size; (try simp only [World.size_alloc, World.size_setCell, World.size_drew] at hz); obtain ⟨hlt, hle, hn1, hn2, hn3, hn4⟩ := bsize hb; (try simp only [World.size_alloc, World.size_setCell, World.size_drew] at hlt hle hn1 hn2 hn3 hn4); (try have hr0 : w.heap.size < w'.heap.size := by omega); (try have hr1 : w.heap.size + 1 < w'.heap.size := by omega); (try have hs0 : wS.heap.size < w'.heap.size := by omega); (try have hs1 : wG.heap.size < w'.heap.size := by omega)))
    go_ret
    exact ⟨by rw [EK.out]; rfl, by exact (by first | (with_reducible exact Below.refl _ _) | ((repeat' (first | (with_reducible exact Below.refl _ _) | (with_reducible assumption) | (with_reducible refine below_alloc ?_ _) | (with_reducible refine Below.drew ?_) | (with_reducible refine below_drewN ?_ _) | (with_reducible refine Below.setCell ?_ ?_ _) | refine below_then ?_ (by with_reducible assumption))) <;> (first | omega | (simp; done) | (simp; omega))))⟩
  · have hn0 : 0 < (M.length : Int) := by
      rw [← hSn]
      have := List.length_pos_iff.2 hs0
      omega
    have EK := Lib.hid (Hqn.out hs0)
    clear hs0
    have hcl5 : ∀ W, Below w5.heap.size w5 W → ∀ (j : Nat) x, S[j]? = some x → W.cell? ⟨w'.heap.size, 0 + j, none⟩ = some (.string x) := fun W hB j x hx => by
      rw [Nat.zero_add]
      exact (row5.then hB).cell j _ (by rw [strV, List.getElem?_map, hx]; rfl)
    have HCL := Lib.hid hcl5
    have hj := fun c W h1 h2 h3 => HJN.out w'.heap.size c W h1 h2 h3
    rw [hSn] at hj
    have HJ2 := Lib.hid hj
    clear hcl5 row5 hS5 hj
    go_wp2_with (first
      | (go_at_call 66; ((with_reducible refine (HLOW.out _).mono ?_); rintro e w6 ⟨rfl, hb⟩; have hb6 := hb; obtain ⟨hc, hf⟩ := bcell hb; have hz := hb.size; (try simp only [World.size_alloc, World.size_setCell, World.size_drew] at hz); obtain ⟨hlt, hle, hn1, hn2, hn3, hn4⟩ := bsize hb; (try simp only [World.size_alloc, World.size_setCell, World.size_drew] at hlt hle hn1 hn2 hn3 hn4); (try have hr0 : w.heap.size < w6.heap.size := by omega); (try have hr1 : w.heap.size + 1 < w6.heap.size := by omega); (try have hs0 : wS.heap.size < w6.heap.size := by omega); (try have hs1 : wG.heap.size < w6.heap.size := by omega)))
      | (go_at_call 122; ((with_reducible refine (HJ2.out _ _ (HCL.out _ hb6) (by omega) hScap).mono ?_); rintro e w' ⟨rfl, hb⟩; obtain ⟨hc, hf⟩ := bcell hb; have hz := hb.size; (try simp only [World.size_alloc, World.size_setCell, World.size_drew] at hz); obtain ⟨hlt, hle, hn1, hn2, hn3, hn4⟩ := bsize hb; (try simp only [World.size_alloc, World.size_setCell, World.size_drew] at hlt hle hn1 hn2 hn3 hn4); (try have hr0 : w.heap.size < w'.heap.size := by omega); (try have hr1 : w.heap.size + 1 < w'.heap.size := by omega); (try have hs0 : wS.heap.size < w'.heap.size := by omega); (try have hs1 : wG.heap.size < w'.heap.size := by omega))))
    go_ret
    exact ⟨by rw [EK.out]; rfl, by exact (by first | (with_reducible exact Below.refl _ _) | ((repeat' (first | (with_reducible exact Below.refl _ _) | (with_reducible assumption) | (with_reducible refine below_alloc ?_ _) | (with_reducible refine Below.drew ?_) | (with_reducible refine below_drewN ?_ _) | (with_reducible refine Below.setCell ?_ ?_ _) | refine below_then ?_ (by with_reducible assumption))) <;> (first | omega | (simp; done) | (simp; omega))))⟩
end Go.Proofs.YthiogijicknoiaaGreatDoor
