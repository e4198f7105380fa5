/- The library's texts cut and split: the contracts of the shelf, where the library's variable MaxLen holds a number. -/
import Derived.Test.YtaoegcfifdjbkaaDoorReadP
import Derived.Test.YtaoegcfifdjbkaaDoorBytes
import Derived.Test.YtaoegcfifdjbkaaDoorStrs
import Derived.Test.YtaoegcfifdjbkaaDoorShelf
namespace Go.Proofs.YtaoegcfifdjbkaaDoor
open Go.RowKit
set_option linter.unusedVariables false

def MaxL (w : World) : Prop := ∃ m : Int, w.cell? ⟨0, 0, none⟩ = some (.int .i64 m)
theorem MaxL.then {w w' : World} (h : MaxL w) (hb : Below w.heap.size w w') : MaxL w' := by
  obtain ⟨m, hm⟩ := h
  exact ⟨m, (hb.cell (p := ⟨0, 0, none⟩) (World.block_lt_of_cell? w _ hm)).trans hm⟩
theorem MaxL.of_shape {w : World} (h : w.ShapedOpen Tryd.prog) : MaxL w := Tryd.laysM145.s1_3 w h
theorem below_drewN' (w : World) (n : Nat) : Below w.heap.size w (w.drewN n) := below_drewN (Below.refl _ _) n
theorem strings_Cut (s sep : ByteArray) (hs : s.size ≤ 100000000) (w : World) (hm : MaxL w) :
    Calls Tryd.prog 101 #[.string s, .string sep] w fun e w' => e = .returned (.tuple #[.string (ba (Lib.cut s.data.toList sep.data.toList).1), .string (ba (Lib.cut s.data.toList sep.data.toList).2.1), .bool (Lib.cut s.data.toList sep.data.toList).2.2]) ∧ Below w.heap.size w w' := by
  obtain ⟨m, hm⟩ := hm
  refine (Tryd.strings_Cut s sep m w (by omega) hm).mono ?_
  rintro e w' ⟨rfl, n, rfl⟩
  exact ⟨rfl, below_drewN' w n⟩
theorem map_inj {l m : List ByteArray} (h : l.map (·.data.toList) = m.map (·.data.toList)) : l = m :=
  List.map_inj_right (f := fun s : ByteArray => s.data.toList) (fun x y e => by apply ByteArray.ext; exact Array.toList_inj.1 e) |>.1 h
theorem row_of_blk {w : World} {g : Nat} {xs : List Value} {e : TypeId} (h : w.heap[g]? = some (.cells xs.toArray e (0, 0))) : RowAt w g xs := ⟨xs.toArray, e, 0, 0, h, by simp, fun i _ => by omega⟩
theorem own_ne {w : World} {lo g gl n cap size : Nat} {e e' : TypeId} {xs : List Value} {C : Array Value} {f : Nat × Nat} (h : w.ownsRow lo e size (.slice (some ⟨g, 0, none⟩) n cap) n xs) (hb : w.heap[gl]? = some (.cells C e' f)) (hne : e ≠ e') : g ≠ gl := by
  intro q
  subst q
  rcases h.2 with ⟨hn, _⟩ | ⟨g', cap', cur, hv, _, hg, _⟩
  · cases hn
  · cases hv
    rw [hg] at hb
    have := Option.some.inj hb
    injection this with _ h2 _
    exact hne h2
theorem own_blk {w w' : World} {gl g n cap : Nat} {o : Obj} (hb : w.heap[gl]? = some o) (h : ∀ k, k < w.heap.size → some k ≠ (Value.slice (some ⟨g, 0, none⟩) n cap).ownBlock → w'.heap[k]? = w.heap[k]?) (hne : g ≠ gl) : w'.heap[gl]? = some o :=
  (h gl (Array.getElem?_eq_some_iff.1 hb).1 (fun e => hne (by have := Option.some.inj (e : some gl = some g); exact this.symm))).trans hb
/-- strings.Split: in the words of the pieces. -/
theorem strings_Split (s sep : ByteArray) (hs : s.size ≤ 100000000) (h1 : 1 ≤ sep.size) (w : World) (hm : MaxL w) (L : List ByteArray) (hL : L.map (·.data.toList) = Lib.split s.data.toList sep.data.toList) :
    Calls Tryd.prog 100 #[.string s, .string sep] w fun e w' => e = .returned (.slice (some ⟨w.heap.size, 0, none⟩) L.length L.length) ∧ w'.heap[w.heap.size]? = some (.cells (strV L).toArray 9 (0, 0)) ∧ Below w.heap.size w w' ∧ w.heap.size < w'.heap.size := by
  obtain ⟨m, hm⟩ := hm
  have hsep : sep.data.toList ≠ [] := by
    intro q
    have : sep.data.toList.length = 0 := by rw [q]; rfl
    rw [Array.length_toList] at this
    have e : sep.data.size = sep.size := rfl
    omega
  have hlen := split_len hsep _ s.data.toList (Nat.le_refl _)
  have hcount : Lib.countB s sep + 1 = L.length := by
    have := congrArg List.length hL
    rw [List.length_map, hlen] at this
    rw [this]
  have hlist : Lib.splitB sep 0 (Lib.countB s sep) s = L := by
    apply map_inj
    rw [hL, Lib.splitB_data]; rfl
  refine (Tryd.strings_Split s sep m w (by omega) hm h1).mono ?_
  rintro e w' ⟨rfl, rfl⟩
  rw [hcount, hlist]
  refine ⟨rfl, ?_, below_alloc (Below.refl _ _) _, by simp⟩
  rw [blk_new]; rfl
end Go.Proofs.YtaoegcfifdjbkaaDoor
