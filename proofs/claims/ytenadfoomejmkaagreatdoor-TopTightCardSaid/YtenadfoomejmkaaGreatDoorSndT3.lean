import Derived.Test.YtenadfoomejmkaaGreatDoorSndT2
/- The engine's soundness, twenty-third part: a drawn region's walk, step by step. -/
namespace Go.Proofs.YtenadfoomejmkaaGreatDoor.Eng
open Go
set_option linter.unusedSimpArgs false
set_option linter.unusedVariables false
/-- one step of the walk -/
structure StepT (run : Run) (N : Nat) (all : List Oper) (anc : List Nat) (base i : Nat) (o : Oper) (b : Bool) (v : AV) (D D1 : Dr) : Prop where
  want : wantA all o.guard D.T = some b
  put : putD N o.dst v D.T = some D1.T
  yes : b = true → ∃ E, stepD run (anc.getD i 0) base i D (cls o.op) = some (v, E) ∧ D1.H = E.H ∧ D1.pend = E.pend ∧ D1.hist = E.hist ∧ D1.rds = E.rds
  no : b = false → v = .undef ∧ D1.H = (skipD (anc.getD i 0) o D).H ∧ D1.pend = (skipD (anc.getD i 0) o D).pend ∧ D1.hist = (skipD (anc.getD i 0) o D).hist ∧ D1.rds = (skipD (anc.getD i 0) o D).rds
theorem drawA_trace {run : Run} {N : Nat} {all : List Oper} {anc : List Nat} {base : Nat} : ∀ {r : List Oper} {i : Nat} {D0 Dm : Dr}, drawA run N all anc base r i D0 = some Dm →
    ∃ (D : Nat → Dr) (v : Nat → AV) (b : Nat → Bool), D 0 = D0 ∧ D r.length = Dm ∧ ∀ (j : Nat) (o : Oper), r[j]? = some o → StepT run N all anc base (i + j) o (b j) (v j) (D j) (D (j + 1))
  | [], i, D0, Dm, h => by
    cases (show some D0 = some Dm from h)
    exact ⟨fun _ => D0, fun _ => .undef, fun _ => false, rfl, rfl, fun j o h => by cases h⟩
  | o :: r, i, D0, Dm, h => by
    obtain ⟨w, hw, h⟩ := ob_some (show ob (wantA all o.guard D0.T) _ = some Dm from h)
    rw [ite2_eq] at h
    have key : ∀ (D1 : Dr) (v1 : AV), StepT run N all anc base i o w v1 D0 D1 → drawA run N all anc base r (i + 1) D1 = some Dm →
        ∃ (D : Nat → Dr) (v : Nat → AV) (b : Nat → Bool), D 0 = D0 ∧ D (o :: r).length = Dm ∧ ∀ (j : Nat) (p : Oper), (o :: r)[j]? = some p → StepT run N all anc base (i + j) p (b j) (v j) (D j) (D (j + 1)) := fun D1 v1 hst hd => by
      obtain ⟨D, v, b, h0, hm, hs⟩ := drawA_trace hd
      refine ⟨fun j => Nat.casesOn j D0 D, fun j => Nat.casesOn j v1 v, fun j => Nat.casesOn j w b, rfl, hm, fun j p hp => ?_⟩
      cases j with
      | zero =>
        cases hp
        show StepT run N all anc base (i + 0) o w v1 D0 (D 0)
        rw [h0]
        exact hst
      | succ j =>
        have := hs j p hp
        rwa [show i + 1 + j = i + (j + 1) by omega] at this
    split at h
    · rename_i hb
      obtain ⟨q, hq, h⟩ := ob_some h
      obtain ⟨T1, hT1, h⟩ := ob_some h
      exact key ⟨T1, q.2.H, q.2.pend, q.2.hist, q.2.rds⟩ q.1 ⟨hw, hT1, fun _ => ⟨q.2, hq, rfl, rfl, rfl, rfl⟩, fun h0 => by rw [hb] at h0; cases h0⟩ h
    · rename_i hb
      obtain ⟨T1, hT1, h⟩ := ob_some h
      exact key ⟨T1, (skipD (anc.getD i 0) o D0).H, (skipD (anc.getD i 0) o D0).pend, (skipD (anc.getD i 0) o D0).hist, (skipD (anc.getD i 0) o D0).rds⟩ .undef ⟨hw, hT1, fun h0 => absurd h0 hb, fun _ => ⟨rfl, rfl, rfl, rfl, rfl⟩⟩ h
theorem isLoud_iff {o : Oper} : isLoud o = true ↔ ∃ f, cls o.op = .loud f := by
  unfold isLoud
  split
  · exact ⟨fun _ => ⟨_, ‹_›⟩, fun _ => rfl⟩
  · rename_i h; exact ⟨fun h0 => (by cases h0), fun ⟨f, hf⟩ => absurd hf (h f)⟩
section
variable {run : Run} {N : Nat} {all : List Oper} {anc : List Nat} {base i : Nat} {o : Oper} {b : Bool} {v : AV} {D D1 : Dr}
/-- a loud step -/
theorem StepT.loud (h : StepT run N all anc base i o b v D D1) (hl : isLoud o = true) : D1.pend = (absorb (anc.getD i 0) D.pend D.H.t).1 ∧ D1.hist = D1.H.t :: D.hist ∧ D1.rds = D.rds ∧
    ((b = true ∧ ∃ f, cls o.op = .loud f ∧ f run D.T ⟨(absorb (anc.getD i 0) D.pend D.H.t).2, D.H.nx⟩ = some (v, D1.H)) ∨ (b = false ∧ v = .undef ∧ D1.H = ⟨(absorb (anc.getD i 0) D.pend D.H.t).2, D.H.nx⟩)) := by
  obtain ⟨f, hf⟩ := isLoud_iff.1 hl
  cases hb : b with
  | true =>
    obtain ⟨E, hE, e1, e2, e3, e4⟩ := h.yes hb
    rw [hf] at hE
    obtain ⟨q, hq, hE⟩ := ob_some (show ob (f run D.T _) _ = some (v, E) from hE)
    cases hE
    refine ⟨e2, e3.trans (by rw [e1]), e4, .inl ⟨rfl, f, hf, ?_⟩⟩
    rw [e1]
    exact hq
  | false =>
    obtain ⟨e0, e1, e2, e3, e4⟩ := h.no hb
    unfold skipD at e1 e2 e3 e4
    rw [hl, ite2_eq, if_pos rfl] at e1 e2 e3 e4
    exact ⟨e2, e3.trans (by rw [e1]), e4, .inr ⟨rfl, e0, e1⟩⟩
/-- a step that is not loud -/
theorem StepT.quiet (h : StepT run N all anc base i o b v D D1) (hl : isLoud o = false) : D1.H = D.H ∧ D1.hist = D.hist ∧ (∀ d ∈ D.rds, d ∈ D1.rds) ∧
    ((D1.pend = D.pend) ∨ ∃ f q, b = true ∧ cls o.op = .make f ∧ f D.T = some q ∧ D1.pend = (i, base + i, q.1) :: D.pend) ∧
    (b = false → v = .undef) ∧
    (b = true → (∃ f, cls o.op = .pure f ∧ f D.T = some v) ∨ (∃ f, cls o.op = .slice f ∧ f D.T (base + i) = some v) ∨ (∃ f, cls o.op = .read f ∧ f D.T D.H.t = some v ∧ ⟨i, f, D.T, v⟩ ∈ D1.rds) ∨ (∃ f q, cls o.op = .make f ∧ f D.T = some q ∧ v = q.2 (base + i))) := by
  have hnl : ∀ f, cls o.op ≠ .loud f := fun f hf => by rw [isLoud_iff.2 ⟨f, hf⟩] at hl; cases hl
  cases hb : b with
  | true =>
    obtain ⟨E, hE, e1, e2, e3, e4⟩ := h.yes hb
    cases hc : cls o.op with
    | pure f =>
      rw [hc] at hE
      obtain ⟨q, hq, hE⟩ := ob_some (show ob (f D.T) _ = some (v, E) from hE)
      cases hE
      exact ⟨e1, e3, fun d hd => by rw [e4]; exact hd, .inl e2, fun h0 => (by cases h0), fun _ => .inl ⟨f, rfl, hq⟩⟩
    | slice f =>
      rw [hc] at hE
      obtain ⟨q, hq, hE⟩ := ob_some (show ob (f D.T (base + i)) _ = some (v, E) from hE)
      cases hE
      exact ⟨e1, e3, fun d hd => by rw [e4]; exact hd, .inl e2, fun h0 => (by cases h0), fun _ => .inr (.inl ⟨f, rfl, hq⟩)⟩
    | read f =>
      rw [hc] at hE
      obtain ⟨q, hq, hE⟩ := ob_some (show ob (f D.T D.H.t) _ = some (v, E) from hE)
      cases hE
      exact ⟨e1, e3, fun d hd => by rw [e4]; exact List.mem_cons_of_mem _ hd, .inl e2, fun h0 => (by cases h0), fun _ => .inr (.inr (.inl ⟨f, rfl, hq, by rw [e4]; exact List.mem_cons_self⟩))⟩
    | make f =>
      rw [hc] at hE
      obtain ⟨q, hq, hE⟩ := ob_some (show ob (f D.T) _ = some (v, E) from hE)
      cases hE
      exact ⟨e1, e3, fun d hd => by rw [e4]; exact hd, .inr ⟨f, q, rfl, rfl, hq, e2⟩, fun h0 => (by cases h0), fun _ => .inr (.inr (.inr ⟨f, q, rfl, hq, rfl⟩))⟩
    | loud f => exact absurd hc (hnl f)
    | bad => rw [hc] at hE; cases hE
  | false =>
    obtain ⟨e0, e1, e2, e3, e4⟩ := h.no hb
    unfold skipD at e1 e2 e3 e4
    rw [hl, ite2_eq, if_neg (by simp)] at e1 e2 e3 e4
    exact ⟨e1, e3, fun d hd => by rw [e4]; exact hd, .inl e2, fun _ => e0, fun h0 => by cases h0⟩
end
/-- all of a walk -/
structure Trace (run : Run) (N : Nat) (ops : List Oper) (base : Nat) (D : Nat → Dr) (v : Nat → AV) (b : Nat → Bool) : Prop where
  chk : RegC ops
  lim : N ≤ lim
  step : ∀ (j : Nat) (o : Oper), ops[j]? = some o → StepT run N ops (ancL ops []) base j o (b j) (v j) (D j) (D (j + 1))
  pend0 : (D 0).pend = []
  hist0 : (D 0).hist = [(D 0).H.t]
section
variable {run : Run} {N : Nat} {ops : List Oper} {base : Nat} {D : Nat → Dr} {v : Nat → AV} {b : Nat → Bool}
theorem Trace.op (j : Nat) (h : j < ops.length) : ∃ o, ops[j]? = some o := ⟨_, List.getElem?_eq_getElem h⟩
theorem Trace.putT (t : Trace run N ops base D v b) {j : Nat} {o : Oper} (ho : ops[j]? = some o) (s : Nat) : slot s (D (j + 1)).T = if o.dst = some s then some (v j) else slot s (D j).T := by
  have h := (t.step j o ho).put
  cases hd : o.dst with
  | none =>
    rw [hd] at h
    have h := Option.some.inj (show some (D j).T = some (D (j + 1)).T from h)
    rw [← h]
    simp
  | some d =>
    rw [hd] at h
    obtain ⟨hlt, h⟩ := ch_some (show ch (Nat.blt d N) (some (slotP d (v j) (D j).T)) = some (D (j + 1)).T from h)
    rw [← Option.some.inj h, slotP_get (Nat.lt_of_lt_of_le (nblt hlt) t.lim)]
    by_cases hs : s = d
    · subst hs; simp
    · rw [if_neg hs, if_neg (by simpa using Ne.symm hs)]
theorem Trace.dst_lt (t : Trace run N ops base D v b) {j d : Nat} {o : Oper} (ho : ops[j]? = some o) (hd : o.dst = some d) : d < N := by
  have h := (t.step j o ho).put
  rw [hd] at h
  exact nblt (ch_some (show ch (Nat.blt d N) (some (slotP d (v j) (D j).T)) = some (D (j + 1)).T from h)).1
/-- a slot that has been written -/
theorem Trace.slotA (t : Trace run N ops base D v b) {j s : Nat} {o : Oper} (ho : ops[j]? = some o) (hd : o.dst = some s) : ∀ i, j < i → i ≤ ops.length → slot s (D i).T = some (v j)
  | 0, h, _ => absurd h (Nat.not_lt_zero _)
  | i + 1, h, hi => by
    obtain ⟨p, hp⟩ := Trace.op (ops := ops) i (by omega)
    rw [t.putT hp]
    by_cases hij : i = j
    · subst hij
      rw [ho] at hp
      cases hp
      rw [if_pos hd]
    · rw [if_neg fun hpd => hij (t.chk.dst i p j o s hp ho hpd hd), t.slotA ho hd i (by omega) (by omega)]
/-- a slot that has not -/
theorem Trace.slotB (t : Trace run N ops base D v b) {s : Nat} : ∀ i, i ≤ ops.length → (∀ (j : Nat) (o : Oper), ops[j]? = some o → j < i → o.dst ≠ some s) → slot s (D i).T = slot s (D 0).T
  | 0, _, _ => rfl
  | i + 1, hi, h => by
    obtain ⟨p, hp⟩ := Trace.op (ops := ops) i (by omega)
    rw [t.putT hp, if_neg (h i p hp (Nat.lt_succ_self _)), t.slotB i (by omega) fun j o ho hj => h j o ho (by omega)]
/-- the memory is the same where nothing loud lies between -/
theorem Trace.same (t : Trace run N ops base D v b) {q : Nat} : ∀ i, q ≤ i → i ≤ ops.length → (∀ (l : Nat) (o : Oper), ops[l]? = some o → isLoud o = true → q ≤ l → i ≤ l) → (D i).H = (D q).H
  | 0, hq, _, _ => by rw [Nat.le_zero.1 hq]
  | i + 1, hq, hi, h => by
    by_cases hqi : q = i + 1
    · rw [hqi]
    obtain ⟨p, hp⟩ := Trace.op (ops := ops) i (by omega)
    have hl : isLoud p = false := by
      cases hh : isLoud p with
      | false => rfl
      | true => exact absurd (h i p hp hh (by omega)) (by omega)
    exact ((t.step i p hp).quiet hl).1.trans (t.same i (by omega) (by omega) fun l o ho hl hq => by have := h l o ho hl hq; omega)
noncomputable def cnt (ops : List Oper) (q : Nat) : Nat := (ops.take q).countP isLoud
theorem cnt_succ {ops : List Oper} {q : Nat} {o : Oper} (h : ops[q]? = some o) : cnt ops (q + 1) = cnt ops q + if isLoud o = true then 1 else 0 := by
  unfold cnt
  rw [List.take_add_one, h, List.countP_append]
  simp [List.countP_cons]
theorem Trace.hist (t : Trace run N ops base D v b) : ∀ i, i ≤ ops.length → (D i).hist.length = cnt ops i + 1 ∧ ∀ q, q ≤ i → (D i).hist.reverse[cnt ops q]? = some (D q).H.t
  | 0, _ => by
    rw [t.hist0]
    refine ⟨by simp [cnt], fun q hq => ?_⟩
    rw [Nat.le_zero.1 hq]
    simp [cnt]
  | i + 1, hi => by
    obtain ⟨p, hp⟩ := Trace.op (ops := ops) i (by omega)
    obtain ⟨h1, h2⟩ := t.hist i (by omega)
    have hc := cnt_succ hp
    cases hl : isLoud p with
    | true =>
      obtain ⟨_, e2, _, _⟩ := (t.step i p hp).loud hl
      rw [hl, if_pos rfl] at hc
      refine ⟨by rw [e2, List.length_cons, h1, hc], fun q hq => ?_⟩
      rw [e2, List.reverse_cons]
      by_cases hqi : q = i + 1
      · subst hqi
        rw [hc, List.getElem?_append_right (by rw [List.length_reverse, h1]; exact Nat.le_refl _)]
        simp [h1]
      · have := h2 q (by omega)
        have hlt := (List.getElem?_eq_some_iff.1 this).1
        rw [List.getElem?_append_left hlt, this]
    | false =>
      obtain ⟨e1, e2, _⟩ := (t.step i p hp).quiet hl
      rw [hl, if_neg (by simp)] at hc
      refine ⟨by rw [e2, h1, hc], fun q hq => ?_⟩
      rw [e2]
      by_cases hqi : q = i + 1
      · subst hqi
        rw [hc, Nat.add_zero, e1]
        exact h2 i (Nat.le_refl _)
      · exact h2 q (by omega)
theorem Trace.rds (t : Trace run N ops base D v b) {j : Nat} {d : Rd} (h : d ∈ (D j).rds) : ∀ i, j ≤ i → i ≤ ops.length → d ∈ (D i).rds
  | 0, hj, _ => by rw [Nat.le_zero.1 hj] at h; exact h
  | i + 1, hj, hi => by
    by_cases hji : j = i + 1
    · rw [← hji]; exact h
    obtain ⟨p, hp⟩ := Trace.op (ops := ops) i (by omega)
    have := t.rds h i (by omega) (by omega)
    cases hl : isLoud p with
    | true => rw [((t.step i p hp).loud hl).2.2.1]; exact this
    | false => exact ((t.step i p hp).quiet hl).2.2.1 d this
theorem absorb_mem {m : Nat} {p : Nat × Nat × AObj} : ∀ {l : Pend} {H : Tr AObj}, p ∈ (absorb m l H).1 → p ∈ l ∧ m.testBit p.1 = false
  | [], H, h => by cases h
  | x :: r, H, h => by
    have h : p ∈ (ite2 (Nat.testBit m x.1) (absorb m r (Tr.put dep x.2.1 (some x.2.2) H)) (x :: (absorb m r H).1, (absorb m r H).2)).1 := h
    rw [ite2_eq] at h
    split at h
    · obtain ⟨h1, h2⟩ := absorb_mem h
      exact ⟨List.mem_cons_of_mem _ h1, h2⟩
    · rename_i hb
      rcases List.mem_cons.1 h with h | h
      · subst h; exact ⟨List.mem_cons_self, by simpa using hb⟩
      · obtain ⟨h1, h2⟩ := absorb_mem h
        exact ⟨List.mem_cons_of_mem _ h1, h2⟩
theorem RegC.anc_lt {ops : List Oper} (c : RegC ops) {i j : Nat} {o : Oper} (ho : ops[i]? = some o) (h : bitA (ancL ops []) i j = true) : j < i := by
  have hlt := (List.getElem?_eq_some_iff.1 ho).1
  refine (anc_in (S := fun x => x < i) (fun k p hp hk e he hb => ?_) (fun k hk => Nat.lt_trans hk hlt) (i + 1) i o j (Nat.lt_succ_self _) ho (fun e he hb => c.back i o ho e he hb) h)
  exact Nat.lt_trans (c.back k p hp e he hb) hk
/-- what has been made and not yet taken in -/
theorem Trace.pend (t : Trace run N ops base D v b) {p : Nat × Nat × AObj} : ∀ i, i ≤ ops.length → p ∈ (D i).pend → ∃ o f q, p.1 < i ∧ ops[p.1]? = some o ∧ cls o.op = .make f ∧ b p.1 = true ∧ f (D p.1).T = some q ∧ p = (p.1, base + p.1, q.1) ∧ ∀ (l : Nat) (x : Oper), ops[l]? = some x → isLoud x = true → l < i → bitA (ancL ops []) l p.1 = false
  | 0, _, h => by rw [t.pend0] at h; cases h
  | i + 1, hi, h => by
    obtain ⟨x, hx⟩ := Trace.op (ops := ops) i (by omega)
    have old : p ∈ (D i).pend → (isLoud x = true → bitA (ancL ops []) i p.1 = false) → ∃ o f q, p.1 < i + 1 ∧ ops[p.1]? = some o ∧ cls o.op = .make f ∧ b p.1 = true ∧ f (D p.1).T = some q ∧ p = (p.1, base + p.1, q.1) ∧ ∀ (l : Nat) (x : Oper), ops[l]? = some x → isLoud x = true → l < i + 1 → bitA (ancL ops []) l p.1 = false := fun h hb => by
      obtain ⟨o, f, q, h1, h2, h3, h4, h5, h6, h7⟩ := t.pend i (by omega) h
      refine ⟨o, f, q, by omega, h2, h3, h4, h5, h6, fun l y hy hl hlt => ?_⟩
      by_cases hli : l = i
      · subst hli
        rw [hx] at hy
        cases hy
        exact hb hl
      · exact h7 l y hy hl (by omega)
    cases hl : isLoud x with
    | true =>
      obtain ⟨e1, _⟩ := (t.step i x hx).loud hl
      rw [e1] at h
      obtain ⟨k1, k2⟩ := absorb_mem h
      exact old k1 fun _ => k2
    | false =>
      obtain ⟨_, _, _, e4, _⟩ := (t.step i x hx).quiet hl
      have hno : isLoud x = true → bitA (ancL ops []) i p.1 = false := fun h0 => by rw [hl] at h0; cases h0
      rcases e4 with e4 | ⟨f, q, hb, hc, hf, e4⟩
      · rw [e4] at h; exact old h hno
      · rw [e4] at h
        rcases List.mem_cons.1 h with h | h
        · subst h
          refine ⟨x, f, q, Nat.lt_succ_self _, hx, hc, hb, hf, rfl, fun l y hy hyl hlt => ?_⟩
          cases hbit : bitA (ancL ops []) l i with
          | false => rfl
          | true => exact absurd (t.chk.anc_lt hy hbit) (by omega)
        · exact old h hno
end
end Go.Proofs.YtenadfoomejmkaaGreatDoor.Eng
