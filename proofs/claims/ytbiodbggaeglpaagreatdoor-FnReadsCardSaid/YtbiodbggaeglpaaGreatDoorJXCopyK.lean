/- Joined: CopyK. -/
import Derived.Test.YtbiodbggaeglpaaGreatDoorJB0
import Derived.Laws.IdiomCopy
/- 'copy' and 'append' of elements of several cells: what rows hold behind them. -/
namespace Go.Proofs.YtbiodbggaeglpaaGreatDoor
open Go.RowKit
set_option linter.unusedSimpArgs false
set_option linter.unusedVariables false

theorem Rd.cells {w : World} {a : Addr} {cs : List Value} (h : Rd w (some a) cs) : ∀ j v, cs[j]? = some v → w.cell? (a.add j) = some v := by
  intro j v hv
  obtain ⟨b, off, e, _, hc⟩ := h j v hv
  cases e
  rw [Addr.add_lit]
  exact hc
theorem Rd.pre {w : World} {a : Option Addr} {A B : List Value} (h : Rd w a (A ++ B)) : Rd w a A := by
  have := h.take A.length
  rwa [List.take_left] at this
theorem Rd.from {w : World} {b off : Nat} {A B : List Value} (h : Rd w (some ⟨b, off, none⟩) (A ++ B)) (k : Nat) (hk : A.length = k) : Rd w (some ⟨b, off + k, none⟩) B := by
  intro j v hv
  obtain ⟨b', off', e, hl, hc⟩ := h (k + j) v (by rw [List.getElem?_append_right (by omega), show k + j - A.length = j from by omega]; exact hv)
  cases e
  exact ⟨b, off + k, rfl, hl, by rw [Nat.add_assoc]; exact hc⟩
/-- 'copy(d, s)' of n elements of size cells each: over the cells behind A. -/
theorem copyK {P : Program} (w : World) (dT sT elem : TypeId) (size : Nat) (hu : P.underlying dT = some (.slice elem)) (hsz : (P.info? elem).map (·.size) = some size)
    (g o dLen : Nat) (ad : Addr) (sLen n : Nat) (hn : Nat.min sLen dLen = n) (A B cs : List Value) (hcs : cs.length = n * size) (hrow : RowAt w g (A ++ B)) (hA : A.length = o) (hB : cs.length ≤ B.length)
    (hsrc : ∀ j v, cs[j]? = some v → w.cell? (ad.add j) = some v) (h1 : ∀ v ∈ cs, v.oneCell' = true) (ty : TypeId) (dCap sCap : Nat) :
    (Builtin.copy_ #[dT, sT] ty #[.slice (some ⟨g, o, none⟩) dLen dCap, .slice (some ad) sLen sCap]).run P w = .ok (goInt n) (w.setCells g o cs) := by
  cases hq : P.info? elem with
  | none => simp [hq] at hsz
  | some i =>
    have hi : i.size = size := by simpa [hq] using hsz
    have hl := run_loadCells_list (P := P) w ad cs hsrc
    have hst := run_storeCells_cells (P := P) g o cs 0 w
      (fun j hj => by
        have hlt : o + j < (A ++ B).length := by rw [List.length_append]; omega
        rw [Nat.add_zero, hrow.cell (o + j) _ (List.getElem?_eq_getElem hlt)]; rfl)
      (fun j hj => by
        rw [Nat.add_zero]
        exact hrow.free (o + j) (by rw [List.length_append]; omega)) h1
    rw [Nat.add_zero] at hst
    rw [hcs] at hl
    simp [Builtin.copy_, run_underlying hu, Builtin.lenOf, Builtin.firstCells, sizeOf, typeInfo, hq, hi, hn, hl, hst]
theorem copyK_row {w : World} {g o : Nat} {A B cs : List Value} (hrow : RowAt w g (A ++ B)) (hA : A.length = o) (hB : cs.length ≤ B.length) : RowAt (w.setCells g o cs) g (A ++ cs ++ B.drop cs.length) := RowAt.puts cs w A B o hrow hA hB
theorem copyK_chg (w : World) (g o : Nat) (cs : List Value) : Chg w (w.setCells g o cs) g (g + 1) := Chg.sets (Nat.le_refl _) (Nat.lt_succ_self _) _ _ _ _ (Chg.refl _ _ _)
theorem wpList_copyK {P : Program} {ops : Array Oper} {rest : List Oper} {o : Oper} {a : Act} {Q : Exit → Act → World → Prop} (hgd : o.guard = none) (s x : Operand) {t1 t2 : TypeId}
    (ho : o.op = .call { callee := .builtin .copy, args := #[s, x], argTypes := #[t1, t2] }) {v xv r : Value} {w w' : World} (hs : a.eval s = v) (hx : a.eval x = xv)
    (hrun : (Builtin.copy_ #[t1, t2] o.type #[v, xv]).run P w = .ok r w') (h : wpList P ops Q rest (a.put o.dst r) w') : wpList P ops Q (o :: rest) a w :=
  wpList_plain hgd fun K hK => by
    unfold Oper.wp execOp
    simp only [ho, resolve, invoke, builtin, Sem.run_bind, Sem.run_pure, Result.andThen_ok, List.map_toArray, List.map_cons, List.map_nil, hs, hx, hrun]
    exact hK _ _ h
/-- 'append(s, x...)' where there is no room: a new row. -/
theorem growK (w : World) (t e : TypeId) {z : Value} {size bytes : Nat} (ht : Tryz.prog.underlying t = some (.slice e)) (hinfo : (Tryz.prog.info? e).map (fun i => (i.zero, i.size, i.bytes)) = some (some z, size, bytes)) (hb0 : 0 < bytes)
    (ty : TypeId) (base : Option Addr) (sLen sCap : Nat) (olds : List Value) (ho : olds.length = sLen * size) (hold : Rd w base olds) (ab : Option Addr) (m c : Nat) (news : List Value) (hl : news.length = m * size) (hr : Rd w ab news) (h1 : ∀ u ∈ news, u.oneCell' = true)
    (hpos : 0 < m → ∃ ad, ab = some ad) (hposo : 0 < sLen → ∃ ad, base = some ad) (hg : sCap < sLen + m) (hm : (sLen + m) * bytes ≤ 70368744177664) (h63 : sLen + m ≤ 70368744177664) :
    ∃ cap W, (Builtin.append_ #[t, t] ty #[.slice base sLen sCap, .slice ab m c]).run Tryz.prog w = .ok (.slice (some ⟨w.heap.size, 0, none⟩) (sLen + m) cap) W ∧ RowAt W w.heap.size (olds ++ news) ∧ Below w.heap.size w W ∧ w.heap.size < W.heap.size := by
  obtain ⟨i, hi, hz, hs1, hb1⟩ := info_parts hinfo
  have hsrc : Go.Src Tryz.prog i.size t (.slice ab m c) m news w := by
    rw [hs1]
    cases ab with
    | none =>
      have hm0 : m = 0 := by
        by_cases h : 0 < m
        · obtain ⟨_, h⟩ := hpos h; cases h
        · omega
      subst hm0
      obtain rfl : news = [] := List.eq_nil_of_length_eq_zero (by rw [hl, Nat.zero_mul])
      exact Src.ofNil w ht c
    | some a => exact Src.ofSlice w ht a m c news hl hr.cells h1
  have hfirst : (Builtin.firstCells i.size sLen (.slice base sLen sCap)).run Tryz.prog w.drew = .ok olds.toArray w.drew := by
    cases base with
    | none =>
      have hm0 : sLen = 0 := by
        by_cases h : 0 < sLen
        · obtain ⟨_, h⟩ := hposo h; cases h
        · omega
      subst hm0
      obtain rfl : olds = [] := List.eq_nil_of_length_eq_zero (by rw [ho, Nat.zero_mul])
      exact run_firstCells_none w.drew i.size 0 0 sCap
    | some a => exact run_firstCells_some w.drew i.size sLen a sLen sCap olds (by rw [hs1]; exact ho) (Rd.cells (show Rd w.drew (some a) olds from hold))
  have hcapb : Builtin.nextslicecap (sLen + m) sCap * i.bytes ≤ 281474976710656 := by
    have hle := nextslicecap_le (need := sLen + m) (old := sCap) (by omega)
    rw [hb1]
    have h2 : Builtin.nextslicecap (sLen + m) sCap * bytes ≤ (2 * (sLen + m)) * bytes := Nat.mul_le_mul_right _ (by omega)
    rw [Nat.mul_assoc] at h2
    omega
  have hst := run_append_grow_src (P := Tryz.prog) w t t ty e i z ht hi hz base sLen sCap olds hfirst _ m news hsrc hg (by omega) hcapb
  refine ⟨_, _, hst, ?_, (Below.refl _ _ : Below w.heap.size w w).drew.alloc (Nat.le_refl _) _, by simp⟩
  refine RowAt.pre (D := (Builtin.zeroCells z.cells (grownCap w (sLen + m) sCap e - (sLen + m))).toList) ?_
  exact RowAt.of_alloc w.drew _ _ _ (by rw [Array.toList_append])
end Go.Proofs.YtbiodbggaeglpaaGreatDoor
