/- Joined: MsgP. -/
import Derived.Test.YtbiodbggaeglpaaGreatDoorJB9
import Derived.Test.YtbiodbggaeglpaaGreatDoorJB13
import Derived.Test.YtbiodbggaeglpaaGreatDoorJB15
import Derived.Test.YtbiodbggaeglpaaGreatDoorJB17
import Derived.Test.YtbiodbggaeglpaaGreatDoorJB1
/- Plain laws: requests and responses are read back from their bytes. No program in sight. -/
namespace Go.Proofs.YtbiodbggaeglpaaGreatDoor
open Go.RowKit
set_option linter.unusedVariables false

theorem cut_crlf {s r : List UInt8} (h : ∀ b ∈ s, b ≠ 13) : Lib.cut (s ++ (13 :: 10 :: r)) crlf = (s, r, true) := by
  have e := cut_first (s := s ++ (13 :: 10 :: r)) (sep := crlf) (i := s.length) (by simp) (by rw [List.drop_left]; rfl) (fun j hj q => by
    obtain ⟨hh, h1, _⟩ := take2.1 q
    rw [List.getElem_append_left hj] at h1
    exact h _ (List.getElem_mem hj) h1)
  rw [e, List.take_left, ← List.drop_drop, List.drop_left]
  rfl
theorem cutGo_run : ∀ (s cur r : List UInt8), (∀ b ∈ s, b ≠ 32) → cutGo 32 cur (s ++ 32 :: r) = (cur ++ s) :: cutGo 32 [] r
  | [], cur, r, _ => by simp [cutGo]
  | b :: s, cur, r, h => by
    have hb := h b (by simp)
    rw [List.cons_append, cutGo, if_neg hb, cutGo_run s _ r (fun x hx => h x (List.mem_cons_of_mem _ hx))]
    simp
theorem cutGo_end : ∀ (s cur : List UInt8), (∀ b ∈ s, b ≠ 32) → cutGo 32 cur s = [cur ++ s]
  | [], cur, _ => by simp [cutGo]
  | b :: s, cur, h => by
    have hb := h b (by simp)
    rw [cutGo, if_neg hb, cutGo_end s _ (fun x hx => h x (List.mem_cons_of_mem _ hx))]
    simp
theorem byte_not {b : UInt8} {p : Int → Bool} (h : p (b.toNat : Int) = true) {n : Nat} (hn : n < 256) (hw : p (n : Int) = false) : b ≠ UInt8.ofNat n := by
  intro e
  rw [e, UInt8.toNat_ofNat', Nat.mod_eq_of_lt hn, hw] at h
  cases h
theorem rq_parts {m h p : ByteArray} {l : List Hd} (e : rqFault m h p l = 0) : (m.data.toList = [71, 69, 84] ∨ m.data.toList = [72, 69, 65, 68]) ∧ (inB h.size 1 60 = true ∧ ∀ b ∈ h.data.toList, hostB (b.toNat : Int) = true) ∧ (inB p.size 1 100 = true ∧ ∀ b ∈ p.data.toList, pathB (b.toNat : Int) = true) ∧ hdsFault l = 0 ∧ vals hostName l = [] ∧ l.length < 20 := by
  unfold rqFault at e
  by_cases h1 : (methodB m && hostS h && pathS p) = false
  · rw [if_pos h1] at e; omega
  rw [if_neg h1] at e
  by_cases h2 : hdsFault l ≠ 0
  · rw [if_pos h2] at e; exact absurd e h2
  rw [if_neg h2] at e
  by_cases h3 : 0 < (vals hostName l).length
  · rw [if_pos h3] at e; omega
  rw [if_neg h3] at e
  by_cases h4 : 20 ≤ l.length
  · rw [if_pos h4] at e; omega
  simp only [Bool.not_eq_false, Bool.and_eq_true] at h1
  obtain ⟨⟨hm, hh⟩, hp⟩ := h1
  refine ⟨?_, ?_, ?_, Decidable.not_not.1 h2, List.eq_nil_of_length_eq_zero (by omega), by omega⟩
  · unfold methodB at hm
    rw [ByteArray.toList_eq, Bool.or_eq_true, beq_iff_eq, beq_iff_eq] at hm
    exact hm
  · unfold hostS at hh
    rw [Bool.and_eq_true] at hh
    exact ⟨hh.1, List.all_eq_true.1 hh.2⟩
  · unfold pathS at hp
    simp only [Bool.and_eq_true] at hp
    exact ⟨hp.1.1, List.all_eq_true.1 hp.1.2⟩
theorem host_plain {b : UInt8} (h : hostB (b.toNat : Int) = true) : plainB (b.toNat : Int) = true := by
  have hb := b.toNat_lt
  simp only [hostB, letterB, digitB, Bool.or_eq_true, Bool.and_eq_true, decide_eq_true_eq] at h
  simp only [plainB, Bool.or_eq_true, Bool.and_eq_true, decide_eq_true_eq]
  omega
theorem host_blank {b : UInt8} (h : hostB (b.toNat : Int) = true) : ([32, 9] : List UInt8).contains b = false := by
  rw [blank_has]
  cases hb : blankB (b.toNat : Int) with
  | false => rfl
  | true =>
    simp only [blankB, Bool.or_eq_true, decide_eq_true_eq] at hb
    simp only [hostB, letterB, digitB, Bool.or_eq_true, Bool.and_eq_true, decide_eq_true_eq] at h
    omega
theorem host_line {h : ByteArray} (h1 : inB h.size 1 60 = true) (h2 : ∀ b ∈ h.data.toList, hostB (b.toNat : Int) = true) : hdFault (HostName, h) = 0 := by
  obtain ⟨a1, a2⟩ := inB_iff.1 h1
  have ht : trimT h = h := by
    have e : trimL h.data.toList = h.data.toList := by
      unfold trimL Lib.trimS Lib.trimLeftS Lib.trimRightS
      rw [dw_all _ _ (fun b hb => host_blank (h2 b (List.mem_reverse.1 hb))), List.reverse_reverse, dw_all _ _ (fun b hb => host_blank (h2 b hb))]
    unfold trimT
    rw [e]
  have hp : allB plainB h = true := List.all_eq_true.2 fun b hb => host_plain (h2 b hb)
  have hw : wordS HostName = true := by decide
  unfold hdFault
  rw [if_neg (by rw [hw]; decide), if_neg (by simp only; omega), if_neg (by rw [hp]; decide), if_neg]
  unfold trimmed
  simp only
  rw [ht]; simp
/-- A right request is read back from its bytes. -/
theorem request_back {m h p : ByteArray} {l : List Hd} (e : rqFault m h p l = 0) : reqR (reqS m h p l).data.toList = (0, m, h, p, l) := by
  obtain ⟨hm, ⟨hh1, hh2⟩, ⟨hp1, hp2⟩, hf, hv, hn⟩ := rq_parts e
  have hline := host_line hh1 hh2
  have hm13 : ∀ b ∈ m.data.toList, b ≠ 13 ∧ b ≠ 32 := by
    rcases hm with q | q <;> rw [q] <;> decide
  have hp13 : ∀ b ∈ p.data.toList, b ≠ 13 ∧ b ≠ 32 := fun b hb => ⟨byte_not (n := 13) (hp2 b hb) (by omega) (by decide), byte_not (n := 32) (hp2 b hb) (by omega) (by decide)⟩
  have hF : hdsFault ((HostName, h) :: l) = 0 := by
    rw [hdsFault_iff] at hf ⊢
    refine ⟨by rw [List.length_cons]; omega, fun x hx => ?_⟩
    rcases List.mem_cons.1 hx with rfl | hx
    · exact hline
    · exact hf.2 x hx
  have hlen : (reqS m h p l).data.toList.length ≤ 8000 := by
    have := packQ_len m h p l
    rw [packQ_ok e] at this
    exact Nat.le_trans this (by omega)
  have hL : (reqS m h p l).data.toList = (m.data.toList ++ (32 :: (p.data.toList ++ (32 :: http11)))) ++ (13 :: 10 :: (packL ((HostName, h) :: l) ++ crlf)) := by
    rw [← reqS_impl]
    have : packL ((HostName, h) :: l) = (lineS (HostName, h)).data.toList ++ packL l := rfl
    rw [this]
    simp [packB]
  have hc := cut_crlf (s := m.data.toList ++ (32 :: (p.data.toList ++ (32 :: http11)))) (r := packL ((HostName, h) :: l) ++ crlf) (fun b hb => by
    rcases List.mem_append.1 hb with hb | hb
    · exact (hm13 b hb).1
    · rcases List.mem_cons.1 hb with rfl | hb
      · decide
      · rcases List.mem_append.1 hb with hb | hb
        · exact (hp13 b hb).1
        · exact (show ∀ b ∈ (32 :: http11), b ≠ 13 by decide) b hb)
  have hsuf : (crlf ++ crlf) <:+ packL ((HostName, h) :: l) ++ crlf := by
    have key : ∀ (l : List Hd) (x : Hd), crlf <:+ packL (x :: l) := by
      intro l
      induction l with
      | nil => intro x; refine ⟨bareL x, ?_⟩; show _ = (lineS x).data.toList ++ []; rw [lineS_list, List.append_nil]
      | cons y l ih => intro x; exact (ih y).trans ⟨(lineS x).data.toList, rfl⟩
    obtain ⟨a, ha⟩ := key l (HostName, h)
    exact ⟨a, by rw [← ha, List.append_assoc]⟩
  have hfr : firstR (reqS m h p l).data.toList = some (m.data.toList ++ (32 :: (p.data.toList ++ (32 :: http11))), packL ((HostName, h) :: l)) := by
    unfold firstR
    rw [hL, hc]
    simp only [true_and]
    rw [if_pos (.inr hsuf)]
    simp
  have hrd : readR (ba (packL ((HostName, h) :: l))) = (0, (HostName, h) :: l) := read_pack hF
  have hsp : Lib.split (m.data.toList ++ (32 :: (p.data.toList ++ (32 :: http11)))) [32] = [m.data.toList, p.data.toList, http11] := by
    rw [← cutGo_eq, cutGo_run _ _ _ (fun b hb => (hm13 b hb).2), cutGo_run _ _ _ (fun b hb => (hp13 b hb).2), cutGo_end _ _ (by decide)]
    simp
  have hal : alikeB HostName hostName = true := by kernel_rfl
  have hva : vals hostName ((HostName, h) :: l) = [h] := by
    have : vals hostName ((HostName, h) :: l) = h :: vals hostName l := by simp [vals, hal]
    rw [this, hv]
  have hdr : dropL hostName ((HostName, h) :: l) = l := by
    have e1 : dropL hostName ((HostName, h) :: l) = dropL hostName l := by simp [dropL, hal]
    rw [e1]
    have := drop_vals_len hostName l
    rw [hv] at this
    simp only [List.length_nil, Nat.zero_add] at this
    unfold dropL at this ⊢
    exact List.filter_eq_self.2 (List.length_filter_eq_length_iff.1 this)
  have hrq : rqOf (m.data.toList ++ (32 :: (p.data.toList ++ (32 :: http11)))) ((HostName, h) :: l) = some (m, h, p, l) := by
    unfold rqOf
    rw [hsp, hva, hdr, if_pos ⟨rfl, rfl, rfl⟩]
    simp only [List.getElem!_cons_zero, List.getElem!_cons_succ]
    rw [ba_of, ba_of]
  rw [reqR, if_neg (by omega), hfr]
  show (if (readR (ba (packL ((HostName, h) :: l)))).1 = 0 then _ else _) = _
  rw [hrd]
  simp only [if_pos]
  rw [hrq]
  exact if_pos e
abbrev crlf2 : List UInt8 := [13, 10, 13, 10]
theorem index_cons {b : UInt8} {l sub : List UInt8} (h : List.isPrefixOf sub (b :: l) = false) {n : Nat} (hn : Lib.index l sub = (n : Int)) : Lib.index (b :: l) sub = ((n + 1 : Nat) : Int) := by
  have hne : ¬ ((n : Int) == -1) = true := fun q => by have := beq_iff_eq.1 q; omega
  unfold Lib.index
  rw [if_neg (by rw [h]; decide), hn, if_neg hne]
  omega
theorem index_run : ∀ (w l : List UInt8) (n : Nat), (∀ b ∈ w, b ≠ 13) → Lib.index l crlf2 = (n : Int) → Lib.index (w ++ l) crlf2 = ((w.length + n : Nat) : Int)
  | [], l, n, _, h => by simpa using h
  | b :: w, l, n, hw, h => by
    have hb := hw b (by simp)
    have ih := index_run w l n (fun x hx => hw x (List.mem_cons_of_mem _ hx)) h
    rw [List.cons_append, index_cons (by simp [List.isPrefixOf]; intro q; exact absurd q.symm hb) ih, List.length_cons]
    congr 1; omega
theorem index_line {x : UInt8} {r : List UInt8} (hx : x ≠ 13) {n : Nat} (h : Lib.index (x :: r) crlf2 = (n : Int)) : Lib.index (13 :: 10 :: x :: r) crlf2 = ((n + 2 : Nat) : Int) := by
  have h1 := index_cons (b := 10) (l := x :: r) (sub := crlf2) (by simp [List.isPrefixOf]) h
  exact index_cons (b := 13) (l := 10 :: x :: r) (sub := crlf2) (by simp [List.isPrefixOf]; intro q; exact absurd q.symm hx) h1
theorem bareL_cons {h : Hd} (e : hdFault h = 0) : ∃ x r, bareL h = x :: r ∧ x ≠ 13 := by
  have h13 := bare_13 e
  cases hb : bareL h with
  | nil => unfold bareL at hb; simp at hb
  | cons x r => exact ⟨x, r, rfl, h13 x (by rw [hb]; simp)⟩
def flatH (l : List Hd) : List UInt8 := l.flatMap fun h => 13 :: 10 :: bareL h
theorem index_head : ∀ (l : List Hd) (lb : List UInt8), (∀ h ∈ l, hdFault h = 0) → Lib.index (flatH l ++ (crlf2 ++ lb)) crlf2 = ((flatH l).length : Int)
  | [], lb, _ => by
    show Lib.index (crlf2 ++ lb) crlf2 = 0
    exact index_front (by simp [List.isPrefixOf])
  | h :: l, lb, hf => by
    have ih := index_head l lb (fun x hx => hf x (List.mem_cons_of_mem _ hx))
    obtain ⟨x, r, hb, hx⟩ := bareL_cons (hf h (by simp))
    have hrun := index_run (bareL h) _ _ (bare_13 (hf h (by simp))) ih
    have e : flatH (h :: l) ++ (crlf2 ++ lb) = 13 :: 10 :: (bareL h ++ (flatH l ++ (crlf2 ++ lb))) := by simp [flatH]
    have el : (flatH (h :: l)).length = (bareL h).length + (flatH l).length + 2 := by simp [flatH]; try omega
    rw [e, el]
    rw [hb, List.cons_append] at hrun ⊢
    exact index_line hx hrun
theorem flat_pack : ∀ l : List Hd, flatH l ++ crlf = crlf ++ packL l
  | [] => rfl
  | h :: l => by
    have ih := flat_pack l
    have e1 : flatH (h :: l) ++ crlf = 13 :: 10 :: (bareL h ++ (flatH l ++ crlf)) := by simp [flatH]
    have e2 : packL (h :: l) = bareL h ++ (crlf ++ packL l) := by
      have : packL (h :: l) = (lineS h).data.toList ++ packL l := rfl
      rw [this, lineS_list, List.append_assoc]
    rw [e1, e2, ih]
    rfl
theorem dec3 (t : Nat) (h1 : 200 ≤ t) (h2 : t ≤ 599) : (decS (t : Int)).data.toList.length = 3 ∧ (∀ b ∈ (decS (t : Int)).data.toList, digitB (b.toNat : Int) = true) ∧ deltaOk (decS (t : Int)) = true ∧ deltaTo (decS (t : Int)) 3 = (t : Int) := by
  have hd : decS (t : Int) = ⟨(Lib.decDigits t).toArray⟩ := by
    rw [decS_big (k := t) (by omega), decS_big (k := t / 10) (by omega), decS_small (k := t / 10 / 10) (by omega)]
    have e1 : Lib.decDigits t = Lib.decDigits (t / 10) ++ [UInt8.ofNat (48 + t % 10)] := by conv => lhs; rw [Lib.decDigits, dif_neg (by omega)]
    have e2 : Lib.decDigits (t / 10) = Lib.decDigits (t / 10 / 10) ++ [UInt8.ofNat (48 + t / 10 % 10)] := by conv => lhs; rw [Lib.decDigits, dif_neg (by omega)]
    have e3 : Lib.decDigits (t / 10 / 10) = [UInt8.ofNat (48 + t / 10 / 10)] := by conv => lhs; rw [Lib.decDigits, dif_pos (by omega)]
    rw [e1, e2, e3]
    apply ByteArray.ext
    simp
  have hl : (Lib.decDigits t).length = 3 := by
    have e1 : Lib.decDigits t = Lib.decDigits (t / 10) ++ [UInt8.ofNat (48 + t % 10)] := by conv => lhs; rw [Lib.decDigits, dif_neg (by omega)]
    have e2 : Lib.decDigits (t / 10) = Lib.decDigits (t / 10 / 10) ++ [UInt8.ofNat (48 + t / 10 % 10)] := by conv => lhs; rw [Lib.decDigits, dif_neg (by omega)]
    have e3 : Lib.decDigits (t / 10 / 10) = [UInt8.ofNat (48 + t / 10 / 10)] := by conv => lhs; rw [Lib.decDigits, dif_pos (by omega)]
    rw [e1, e2, e3]; rfl
  have hr := delta_dec t (by omega) (by omega)
  rw [← hd] at hr
  have hsz : (decS (t : Int)).size = 3 := by rw [hd]; exact hl
  unfold deltaR at hr
  have hok : deltaOk (decS (t : Int)) = true := by
    by_cases h : deltaOk (decS (t : Int)) = true
    · exact h
    · rw [if_neg h] at hr
      have := congrArg Prod.fst hr
      simp at this
  rw [if_pos hok, hsz] at hr
  refine ⟨by rw [hd]; exact hl, fun b hb => ?_, hok, by have := congrArg Prod.snd hr; exact this⟩
  rw [hd] at hb
  exact dec_digit t b (by simpa using hb)
theorem rsp_parts {t : Int} {l : List Hd} {nb : Nat} (e : rspFault t l nb = 0) : (200 ≤ t ∧ t ≤ 599) ∧ hdsFault l = 0 ∧ nb ≤ 2000 := by
  unfold rspFault at e
  by_cases h1 : inB t 200 599 = false
  · rw [if_pos h1] at e; omega
  rw [if_neg h1] at e
  by_cases h2 : hdsFault l ≠ 0
  · rw [if_pos h2] at e; exact absurd e h2
  rw [if_neg h2] at e
  by_cases h3 : 2000 < nb
  · rw [if_pos h3] at e; omega
  simp only [Bool.not_eq_false] at h1
  exact ⟨inB_iff.1 h1, Decidable.not_not.1 h2, by omega⟩
/-- A right response is read back from its bytes. -/
theorem response_back {t : Int} {l : List Hd} {lb : List UInt8} (e : rspFault t l lb.length = 0) : rspR ((rspS t l).data.toList ++ lb) = (0, t, l, lb) := by
  obtain ⟨⟨ht1, ht2⟩, hf, hnb⟩ := rsp_parts e
  obtain ⟨k, rfl⟩ : ∃ k : Nat, t = (k : Int) := ⟨t.toNat, by omega⟩
  obtain ⟨d1, d2, d3, d4⟩ := dec3 k (by omega) (by omega)
  obtain ⟨_, hfs⟩ := hdsFault_0 hf
  have hlen : ((rspS (k : Int) l).data.toList ++ lb).length ≤ 10000 := by
    have := packP_len (k : Int) l lb
    rw [packP_ok e] at this
    exact Nat.le_trans this (by omega)
  have hw13 : ∀ b ∈ http11b ++ (decS (k : Int)).data.toList, b ≠ 13 := fun b hb => by
    rcases List.mem_append.1 hb with hb | hb
    · exact (show ∀ b ∈ http11b, b ≠ 13 by decide) b hb
    · exact byte_not (n := 13) (d2 b hb) (by omega) (by decide)
  have hS : (rspS (k : Int) l).data.toList ++ lb = ((http11b ++ (decS (k : Int)).data.toList) ++ flatH l) ++ (crlf2 ++ lb) := by
    have e1 : (rspS (k : Int) l).data.toList = http11b ++ (decS (k : Int)).data.toList ++ (crlf ++ packL l) ++ crlf := by
      simp [rspS, packB]
    rw [e1, ← flat_pack]
    simp
  have hidx : Lib.index (((http11b ++ (decS (k : Int)).data.toList) ++ flatH l) ++ (crlf2 ++ lb)) crlf2 = (((http11b ++ (decS (k : Int)).data.toList) ++ flatH l).length : Int) := by
    rw [List.append_assoc (http11b ++ (decS (k : Int)).data.toList), index_run _ _ _ hw13 (index_head l lb hfs), ← List.length_append]
  have hc : Lib.cut ((rspS (k : Int) l).data.toList ++ lb) (crlf ++ crlf) = ((http11b ++ (decS (k : Int)).data.toList) ++ flatH l, lb, true) := by
    rw [hS]
    show Lib.cut _ crlf2 = _
    unfold Lib.cut
    rw [hidx, if_pos (by omega), Int.toNat_natCast, List.take_left, ← List.drop_drop, List.drop_left]
    rfl
  have hc2 : Lib.cut (((http11b ++ (decS (k : Int)).data.toList) ++ flatH l) ++ crlf) crlf = (http11b ++ (decS (k : Int)).data.toList, packL l, true) := by
    rw [List.append_assoc, flat_pack]
    exact cut_crlf hw13
  have hrd : readR (ba (packL l)) = (0, l) := read_pack hf
  have hd9 : (http11b ++ (decS (k : Int)).data.toList).drop 9 = (decS (k : Int)).data.toList := rfl
  have hok : lineOK (http11b ++ (decS (k : Int)).data.toList) = true := by
    unfold lineOK
    rw [hd9, ba_of, d3]
    have : (http11b ++ (decS (k : Int)).data.toList).length = 12 := by rw [List.length_append, d1]; rfl
    rw [this]
    rfl
  rw [rspR, if_neg (by omega), hc]
  simp only [if_pos]
  rw [hc2]
  unfold rsMid
  simp only
  rw [hrd]
  simp only [if_pos]
  rw [if_pos hok, hd9, ba_of, d4]
  exact if_pos e
end Go.Proofs.YtbiodbggaeglpaaGreatDoor
