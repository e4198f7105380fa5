/- Plain words: texts joined. No program in sight. -/
import Derived.Test.YtklnccoknldkcaaDoorPlain
import Derived.Lib.Join
namespace Go.Proofs.YtklnccoknldkcaaDoor
open Go.RowKit
def commaS : ByteArray := ⟨#[44, 32]⟩
def joinB (sep : ByteArray) (l : List ByteArray) : ByteArray := ⟨(Lib.join (l.map (·.data.toList)) sep.data.toList).toArray⟩
theorem joinB_nil (sep : ByteArray) : joinB sep [] = ⟨#[]⟩ := rfl
theorem joinTail_append (sep : List UInt8) (r s : List (List UInt8)) : Lib.joinTail sep (r ++ s) = Lib.joinTail sep r ++ Lib.joinTail sep s := by simp [Lib.joinTail]
theorem joinB_one (sep x : ByteArray) : joinB sep [x] = x := by
  apply ByteArray.ext
  simp [joinB, Lib.join_one]
theorem joinB_snoc (sep : ByteArray) (l : List ByteArray) (x : ByteArray) (h : l ≠ []) : joinB sep (l ++ [x]) = joinB sep l ++ sep ++ x := by
  cases l with
  | nil => exact absurd rfl h
  | cons y r =>
    apply ByteArray.ext
    apply Array.toList_inj.1
    simp [joinB, Lib.join_cons, joinTail_append]
    simp [Lib.joinTail]
theorem lens_le (m : Nat) : ∀ (l : List ByteArray), (∀ x ∈ l, x.size ≤ m) → Lib.lens (l.map (·.data.toList)) ≤ l.length * m
  | [], _ => by simp [Lib.lens]
  | x :: l, h => by
    have h1 := lens_le m l fun y hy => h y (by simp [hy])
    have h2 : x.data.toList.length ≤ m := by rw [Array.length_toList]; exact h x (by simp)
    have e : Lib.lens ((x :: l).map (·.data.toList)) = x.data.toList.length + Lib.lens (l.map (·.data.toList)) := by simp [Lib.lens]
    rw [e, List.length_cons, Nat.succ_mul]; omega
theorem joinB_size (sep : ByteArray) (m : Nat) (l : List ByteArray) (h : ∀ x ∈ l, x.size ≤ m) : (joinB sep l).size ≤ l.length * (m + sep.size) := by
  have e : (joinB sep l).size = (Lib.join (l.map (·.data.toList)) sep.data.toList).length := rfl
  rw [e]
  cases l with
  | nil => simp [Lib.join_nil]
  | cons x r =>
    have h1 := lens_le m _ h
    have hs : sep.data.toList.length = sep.size := Array.length_toList
    rw [List.map_cons, Lib.join_length, List.length_map, hs, List.length_cons, Nat.mul_add, Nat.succ_mul, Nat.succ_mul]
    rw [List.map_cons, List.length_cons, Nat.succ_mul] at h1
    have := Nat.mul_comm sep.size r.length
    omega
end Go.Proofs.YtklnccoknldkcaaDoor
