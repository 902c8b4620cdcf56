import Derived.Test.YtenadfoomejmkaaGreatDoorSndT1
/- The engine's soundness, twenty-second part: a drawn region's checks told. -/
namespace Go.Proofs.YtenadfoomejmkaaGreatDoor.Eng
open Go
set_option linter.unusedSimpArgs false
set_option linter.unusedVariables false
theorem mem_zipN {o : Oper} : ∀ {l : List Oper} {k i : Nat}, l[i]? = some o → (k + i, o) ∈ zipN k l
  | [], _, _, h => by cases h
  | x :: r, k, 0, h => by cases h; exact List.mem_cons_self
  | x :: r, k, i + 1, h => List.mem_cons_of_mem _ (by have := mem_zipN (l := r) (k := k + 1) (i := i) h; rwa [show k + 1 + i = k + (i + 1) by omega] at this)
theorem ancL_head : ∀ (l : List Oper) (acc : List Nat) (i : Nat), i < acc.length → (ancL l acc).getD i 0 = acc.getD i 0
  | [], _, _, _ => rfl
  | o :: r, acc, i, h => by
    show (ancL r (acc ++ [maskOf acc o.after.toList])).getD i 0 = _
    rw [ancL_head r _ i (by simp; omega)]
    simp only [List.getD_eq_getElem?_getD]
    rw [List.getElem?_append_left h]
theorem maskOf_bit (acc : List Nat) (j : Nat) : ∀ l : List Edge, (maskOf acc l).testBit j = true → ∃ e ∈ l, Region.binds .any e = true ∧ (j = e.on ∨ (acc.getD e.on 0).testBit j = true)
  | [], h => by simp [maskOf] at h
  | e :: r, h => by
    have h : (ite2 (Region.binds .any e) (Nat.lor (Nat.lor (Nat.shiftLeft 1 e.on) (acc.getD e.on 0)) (maskOf acc r)) (maskOf acc r)).testBit j = true := h
    rw [ite2_eq] at h
    have hrec : (maskOf acc r).testBit j = true → ∃ e' ∈ e :: r, Region.binds .any e' = true ∧ (j = e'.on ∨ (acc.getD e'.on 0).testBit j = true) := fun h => by
      obtain ⟨e', h1, h2⟩ := maskOf_bit acc j r h
      exact ⟨e', List.mem_cons_of_mem _ h1, h2⟩
    split at h
    · rename_i hb
      have h : (((1 <<< e.on) ||| (acc.getD e.on 0)) ||| (maskOf acc r)).testBit j = true := h
      rw [Nat.testBit_or, Nat.testBit_or, Bool.or_eq_true, Bool.or_eq_true] at h
      rcases h with (h | h) | h
      · refine ⟨e, List.mem_cons_self, hb, .inl ?_⟩
        rw [Nat.one_shiftLeft] at h
        rw [Nat.testBit_two_pow] at h
        simpa [eq_comm] using h
      · exact ⟨e, List.mem_cons_self, hb, .inr h⟩
      · exact hrec h
    · exact hrec h
/-- a mask of the whole list -/
theorem ancL_bit : ∀ (l : List Oper) (acc : List Nat) (i j : Nat) (o : Oper), l[i]? = some o → ((ancL l acc).getD (acc.length + i) 0).testBit j = true → ∃ e ∈ o.after.toList, Region.binds .any e = true ∧ (j = e.on ∨ (e.on < acc.length + i ∧ ((ancL l acc).getD e.on 0).testBit j = true))
  | [], _, _, _, _, h, _ => by cases h
  | x :: r, acc, 0, j, o, h, hb => by
    cases h
    have hb : ((ancL r (acc ++ [maskOf acc x.after.toList])).getD acc.length 0).testBit j = true := hb
    rw [ancL_head r _ acc.length (by simp)] at hb
    simp only [List.getD_eq_getElem?_getD, List.getElem?_append_right (Nat.le_refl _), Nat.sub_self, List.getElem?_cons_zero, Option.getD_some] at hb
    obtain ⟨e, h1, h2, h3⟩ := maskOf_bit acc j _ hb
    refine ⟨e, h1, h2, h3.imp id fun h4 => ?_⟩
    have hlt : e.on < acc.length := by
      refine Nat.lt_of_not_le fun hle => ?_
      rw [List.getD_eq_getElem?_getD, List.getElem?_eq_none hle] at h4
      simp at h4
    refine ⟨by omega, ?_⟩
    show ((ancL r (acc ++ [maskOf acc x.after.toList])).getD e.on 0).testBit j = true
    rw [ancL_head r _ e.on (by simp; omega)]
    simp only [List.getD_eq_getElem?_getD] at h4 ⊢
    rwa [List.getElem?_append_left hlt]
  | x :: r, acc, i + 1, j, o, h, hb => by
    have hb : ((ancL r (acc ++ [maskOf acc x.after.toList])).getD (acc.length + (i + 1)) 0).testBit j = true := hb
    have hle : (acc ++ [maskOf acc x.after.toList]).length + i = acc.length + (i + 1) := by simp; omega
    rw [← hle] at hb
    obtain ⟨e, h1, h2, h3⟩ := ancL_bit r _ i j o h hb
    rw [hle] at h3
    exact ⟨e, h1, h2, h3⟩
/-- what is listed holds what it waits for -/
def Down (ops : List Oper) (S : Nat → Prop) : Prop := ∀ i o, ops[i]? = some o → S i → ∀ e ∈ o.after.toList, Region.binds .any e = true → S e.on
theorem anc_in {ops : List Oper} {S : Nat → Prop} (hS : Down ops S) (hlt : ∀ i, S i → i < ops.length) : ∀ (n i : Nat) (o : Oper) (j : Nat), i < n → ops[i]? = some o → (∀ e ∈ o.after.toList, Region.binds .any e = true → S e.on) → bitA (ancL ops []) i j = true → S j
  | 0, _, _, _, h, _, _, _ => absurd h (Nat.not_lt_zero _)
  | n + 1, i, o, j, hn, ho, he, hb => by
    have hb : ((ancL ops []).getD i 0).testBit j = true := hb
    have := ancL_bit ops [] i j o ho (by simpa using hb)
    obtain ⟨e, h1, h2, h3⟩ := this
    have hSe := he e h1 h2
    rcases h3 with rfl | ⟨h3, h4⟩
    · exact hSe
    · simp only [List.length_nil, Nat.zero_add] at h3
      have hl := hlt _ hSe
      have ho' : ops[e.on]? = some ops[e.on] := List.getElem?_eq_getElem hl
      exact anc_in hS hlt n e.on _ j (by omega) ho' (hS _ _ ho' hSe) h4
theorem memN_iff {d : Nat} : ∀ {l : List Nat}, memN d l = true ↔ d ∈ l
  | [] => by simp [memN]
  | x :: r => by simp only [memN, Bool.or_eq_true, nbeqI, List.mem_cons, memN_iff]
/-- the checks -/
structure RegC (ops : List Oper) : Prop where
  back : ∀ i o, ops[i]? = some o → ∀ e ∈ o.after.toList, Region.binds .any e = true → e.on < i
  guard : ∀ i o, ops[i]? = some o → ∀ g b, o.guard = some (g, b) → g < i ∧ bitA (ancL ops []) i g = true
  dst : ∀ (i : Nat) (o : Oper) (j : Nat) (p : Oper) (d : Nat), ops[i]? = some o → ops[j]? = some p → o.dst = some d → p.dst = some d → i = j
  data : ∀ (i : Nat) (o : Oper) (j : Nat) (p : Oper) (d : Nat), ops[i]? = some o → ops[j]? = some p → j < i → p.dst = some d → d ∈ looksA ops o → bitA (ancL ops []) i j = true
  anti : ∀ (i : Nat) (o : Oper) (j : Nat) (p : Oper) (d : Nat), ops[i]? = some o → ops[j]? = some p → j < i → o.dst = some d → d ∈ looksA ops p → bitA (ancL ops []) i j = true
  loud : ∀ (i : Nat) (o : Oper) (j : Nat) (p : Oper), ops[i]? = some o → ops[j]? = some p → j < i → isLoud o = true → isLoud p = true → bitA (ancL ops []) i j = true
theorem chkReg_ok {ops : List Oper} (h : chkReg ops = true) : RegC ops := by
  unfold chkReg at h
  rw [List.all_eq_true] at h
  have h1 : ∀ i o, ops[i]? = some o → chkOne (ancL ops []) i o = true := fun i o ho => by
    have := h _ (mem_zipN (k := 0) ho)
    simp only [Bool.and_eq_true, Nat.zero_add] at this
    exact this.1
  have h2 : ∀ i o j p, ops[i]? = some o → ops[j]? = some p → chkPair ops (ancL ops []) i o j p = true := fun i o j p ho hp => by
    have := h _ (mem_zipN (k := 0) ho)
    simp only [Bool.and_eq_true, Nat.zero_add] at this
    have := List.all_eq_true.1 this.2 _ (mem_zipN (k := 0) hp)
    simpa only [Nat.zero_add] using this
  have h3 : ∀ i o j p, ops[i]? = some o → ops[j]? = some p → j < i →
      (∀ d, p.dst = some d → (d ∈ looksA ops o → bitA (ancL ops []) i j = true) ∧ o.dst ≠ some d) ∧ (∀ d, o.dst = some d → d ∈ looksA ops p → bitA (ancL ops []) i j = true) ∧ (isLoud o = true → isLoud p = true → bitA (ancL ops []) i j = true) := fun i o j p ho hp hlt => by
    have := h2 i o j p ho hp
    unfold chkPair at this
    have hb : Nat.blt j i = true := by rw [Nat.blt_eq]; exact hlt
    rw [hb, ite2_eq, if_pos rfl, Bool.and_eq_true, Bool.and_eq_true] at this
    obtain ⟨k1, k2, k3⟩ := this
    refine ⟨fun d hd => ?_, fun d hd hm => ?_, fun hl hm => ?_⟩
    · rw [hd] at k1
      simp only [Bool.and_eq_true] at k1
      refine ⟨fun hm => ?_, fun he => ?_⟩
      · have := k1.1
        rwa [memN_iff.2 hm, ite2_eq, if_pos rfl] at this
      · rw [he] at k1
        simp at k1
    · rw [hd] at k2
      simp only at k2
      rwa [memN_iff.2 hm, ite2_eq, if_pos rfl] at k2
    · rw [hl, hm, ite2_eq, Bool.and_self, if_pos rfl] at k3
      exact k3
  refine ⟨fun i o ho e he hb => ?_, fun i o ho g b hg => ?_, fun i o j p d ho hp hd hd' => ?_, fun i o j p d ho hp hlt hd hm => ((h3 i o j p ho hp hlt).1 d hd).1 hm, fun i o j p d ho hp hlt hd hm => (h3 i o j p ho hp hlt).2.1 d hd hm, fun i o j p ho hp hlt hl hm => (h3 i o j p ho hp hlt).2.2 hl hm⟩
  · have := h1 i o ho
    unfold chkOne at this
    rw [Bool.and_eq_true, List.all_eq_true] at this
    have := this.1 e he
    rw [hb] at this
    simp only [Bool.not_true, Bool.false_or] at this
    exact nblt this
  · have := h1 i o ho
    unfold chkOne at this
    rw [Bool.and_eq_true, Bool.and_eq_true] at this
    have := this.2.1
    rw [hg] at this
    simp only [Bool.and_eq_true] at this
    exact ⟨nblt this.1, this.2⟩
  · rcases Nat.lt_trichotomy i j with hlt | he | hlt
    · exact absurd hd' ((h3 j p i o hp ho hlt).1 d hd).2
    · exact he
    · exact absurd hd (((h3 i o j p ho hp hlt).1 d hd').2)
end Go.Proofs.YtenadfoomejmkaaGreatDoor.Eng
