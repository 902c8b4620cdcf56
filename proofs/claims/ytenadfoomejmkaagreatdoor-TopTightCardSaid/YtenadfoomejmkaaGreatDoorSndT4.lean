import Derived.Test.YtenadfoomejmkaaGreatDoorSndT3
/- The engine's soundness, twenty-fourth part: a drawn region's invariant. -/
namespace Go.Proofs.YtenadfoomejmkaaGreatDoor.Eng
open Go
set_option linter.unusedSimpArgs false
set_option linter.unusedVariables false
section
variable (ω : Bool → Int)
/-- a world that has grown -/
theorem Rel.grow {φ : Phi} {H : Hp} {w w' : World} (h : Rel ω φ H w) (hb : ∀ b, b < w.heap.size → w'.heap[b]? = w.heap[b]?) : Rel ω φ H w' :=
  ⟨h.fresh, h.g0, fun i o ho => let ⟨e, h1, h2, h3⟩ := h.obj i o ho; ⟨e, h1, h2, ObjOk.mono ω (fun _ _ h => h) (hb _ (ObjOk.lt ω h3)) h3⟩, h.inj⟩
/-- what was made is taken in -/
theorem absorb_ok {φ : Phi} {w : World} {m nx : Nat} : ∀ {l : Pend} {H : Tr AObj}, Rel ω φ ⟨H, nx⟩ w →
    (∀ p ∈ l, m.testBit p.1 = true → ∃ e, φ p.2.1 = some e ∧ p.2.1 < lim ∧ ObjOk ω φ w e p.2.2 ∧ ∀ j oj ej, j ≠ p.2.1 → H.get j = some oj → φ j = some ej → ej.blk ≠ e.blk) →
    (∀ p ∈ l, ∀ p' ∈ l, m.testBit p.1 = true → m.testBit p'.1 = true → p.2.1 ≠ p'.2.1 → ∀ e e', φ p.2.1 = some e → φ p'.2.1 = some e' → e.blk ≠ e'.blk) →
    Rel ω φ ⟨(absorb m l H).2, nx⟩ w ∧ (∀ j oj, (absorb m l H).2.get j = some oj → H.get j = some oj ∨ ∃ p ∈ l, m.testBit p.1 = true ∧ j = p.2.1) ∧ ∀ j, (∀ p ∈ l, m.testBit p.1 = true → j ≠ p.2.1) → (absorb m l H).2.get j = H.get j
  | [], H, hr, _, _ => ⟨hr, fun j oj h => .inl h, fun _ _ => rfl⟩
  | p :: r, H, hr, hp, hd => by
    have hunf : absorb m (p :: r) H = ite2 (Nat.testBit m p.1) (absorb m r (Tr.put dep p.2.1 (some p.2.2) H)) (p :: (absorb m r H).1, (absorb m r H).2) := rfl
    rw [hunf, ite2_eq]
    split
    · rename_i hb
      obtain ⟨e, h1, h2, h3, h4⟩ := hp p List.mem_cons_self hb
      have hr1 := hr.lay ω h1 h2 h3 h4
      obtain ⟨k1, k2, k3⟩ := absorb_ok (l := r) (H := Tr.put dep p.2.1 (some p.2.2) H) hr1 (fun p' hp' hb' => by
        obtain ⟨e', g1, g2, g3, g4⟩ := hp p' (List.mem_cons_of_mem _ hp') hb'
        refine ⟨e', g1, g2, g3, fun j oj ej hj hoj hej => ?_⟩
        rw [get_put _ _ _ _ h2] at hoj
        split at hoj
        · rename_i hjp
          subst hjp
          exact hd p List.mem_cons_self p' (List.mem_cons_of_mem _ hp') hb hb' hj ej e' hej g1
        · exact g4 j oj ej hj hoj hej) (fun a ha c hc => hd a (List.mem_cons_of_mem _ ha) c (List.mem_cons_of_mem _ hc))
      refine ⟨k1, fun j oj hj => ?_, fun j hj => (k3 j fun p' hp' => hj p' (List.mem_cons_of_mem _ hp')).trans (by rw [get_put _ _ _ _ h2, if_neg (hj p List.mem_cons_self hb)])⟩
      rcases k2 j oj hj with h | ⟨p', hp', hb', hj'⟩
      · rw [get_put _ _ _ _ h2] at h
        split at h
        · exact .inr ⟨p, List.mem_cons_self, hb, ‹_›⟩
        · exact .inl h
      · exact .inr ⟨p', List.mem_cons_of_mem _ hp', hb', hj'⟩
    · obtain ⟨k1, k2, k3⟩ := absorb_ok (l := r) (H := H) hr (fun p' hp' => hp p' (List.mem_cons_of_mem _ hp')) (fun a ha c hc => hd a (List.mem_cons_of_mem _ ha) c (List.mem_cons_of_mem _ hc))
      refine ⟨k1, fun j oj hj => ?_, fun j hj => k3 j fun p' hp' => hj p' (List.mem_cons_of_mem _ hp')⟩
      rcases k2 j oj hj with h | ⟨p', hp', hb', hj'⟩
      · exact .inl h
      · exact .inr ⟨p', List.mem_cons_of_mem _ hp', hb', hj'⟩
/-- made, listed, not yet taken in -/
def Pd (ops : List Oper) (D : Nat → Dr) (b : Nat → Bool) (S : Nat → Prop) (q j : Nat) (ob : AObj) : Prop :=
  ∃ o f r, ops[j]? = some o ∧ S j ∧ cls o.op = .make f ∧ b j = true ∧ f (D j).T = some r ∧ ob = r.1 ∧ ∀ (l : Nat) (x : Oper), ops[l]? = some x → isLoud x = true → l < q → bitA (ancL ops []) l j = false
structure Inv (N : Nat) (ops : List Oper) (base : Nat) (D : Nat → Dr) (v : Nat → AV) (b : Nat → Bool) (φ0 : Phi) (H0 : Hp) (w0 : World) (a0 : Act) (S : Nat → Prop) (q : Nat) (φ : Phi) (a : Act) (w : World) : Prop where
  down : Down ops S
  lt : ∀ i, S i → i < ops.length
  qle : q ≤ ops.length
  loud : ∀ (l : Nat) (o : Oper), ops[l]? = some o → isLoud o = true → (S l ↔ l < q)
  rel : Rel ω φ (D q).H w
  slot1 : ∀ (j : Nat) (o : Oper) (t : Nat), ops[j]? = some o → S j → o.dst = some t → conc ω φ (v j) = some (a.tmps.getD t undef)
  slot0 : ∀ (t : Nat) (x : AV), (∀ (j : Nat) (o : Oper), ops[j]? = some o → S j → o.dst ≠ some t) → slot t (D 0).T = some x → conc ω φ x = some (a.tmps.getD t undef)
  size : a.tmps.size = N
  defers : a.defers = a0.defers
  pend : ∀ j ob, Pd ops D b S q j ob → ∃ e, φ (base + j) = some e ∧ ObjOk ω φ w e ob ∧ ¬ Alive φ (D q).H e.blk ∧ w0.heap.size ≤ e.blk
  pinj : ∀ j ob j' ob' e e', Pd ops D b S q j ob → Pd ops D b S q j' ob' → φ (base + j) = some e → φ (base + j') = some e' → e.blk = e'.blk → j = j'
  unl : ∀ j, j < ops.length → ¬ S j → φ (base + j) = none
  nx : base + ops.length ≤ (D q).H.nx
  h0 : H0.nx = base
  post : Post φ0 H0 w0 φ (D q).H w
/-- one more is listed -/
def Add (S : Nat → Prop) (i : Nat) : Nat → Prop := fun j => S j ∨ j = i
section
variable {ω} {run : Run} {N : Nat} {ops : List Oper} {base : Nat} {D : Nat → Dr} {v : Nat → AV} {b : Nat → Bool} {φ0 : Phi} {H0 : Hp} {w0 : World} {a0 : Act} {S : Nat → Prop} {q : Nat} {φ : Phi} {a : Act} {w : World}
theorem Inv.anc (h : Inv ω N ops base D v b φ0 H0 w0 a0 S q φ a w) {i j : Nat} {o : Oper} (ho : ops[i]? = some o) (he : ∀ e ∈ o.after.toList, Region.binds .any e = true → S e.on) (hb : bitA (ancL ops []) i j = true) : S j :=
  anc_in h.down h.lt (i + 1) i o j (Nat.lt_succ_self _) ho he hb
theorem Inv.anc' (h : Inv ω N ops base D v b φ0 H0 w0 a0 S q φ a w) {i j : Nat} {o : Oper} (ho : ops[i]? = some o) (hi : S i) (hb : bitA (ancL ops []) i j = true) : S j :=
  h.anc ho (h.down i o ho hi) hb
theorem Inv.down' (h : Inv ω N ops base D v b φ0 H0 w0 a0 S q φ a w) {i : Nat} {o : Oper} (ho : ops[i]? = some o) (he : ∀ e ∈ o.after.toList, Region.binds .any e = true → S e.on) : Down ops (Add S i) := fun j p hp hj e hee hb => by
  rcases hj with hj | hj
  · exact .inl (h.down j p hp hj e hee hb)
  · subst hj
    rw [ho] at hp
    cases hp
    exact .inl (he e hee hb)
/-- a slot that is set -/
theorem put_get {a : Act} {d : Option Nat} {x : Value} {t : Nat} : (a.put d x).tmps.getD t undef = if d = some t ∧ t < a.tmps.size then x else a.tmps.getD t undef := by
  cases d with
  | none => simp [Act.put]
  | some d =>
    show (a.tmps.setIfInBounds d x).getD t undef = _
    simp only [Array.getD_eq_getD_getElem?]
    by_cases hdt : d = t
    · subst hdt
      by_cases hlt : d < a.tmps.size
      · simp [hlt]
      · rw [if_neg (by simp [hlt])]
        rw [Array.setIfInBounds_eq_of_size_le (by omega)]
    · rw [if_neg (by simp [hdt]), Array.getElem?_setIfInBounds_ne hdt]
theorem put_size {a : Act} {d : Option Nat} {x : Value} : (a.put d x).tmps.size = a.tmps.size := by
  cases d <;> simp [Act.put]
theorem put_defers {a : Act} {d : Option Nat} {x : Value} : (a.put d x).defers = a.defers := by
  cases d <;> rfl
/-- the slots behind a step -/
theorem Inv.slots (t : Trace run N ops base D v b) (h : Inv ω N ops base D v b φ0 H0 w0 a0 S q φ a w) {i : Nat} {o : Oper} (ho : ops[i]? = some o) (hi : ¬ S i) {φ' : Phi} (hext : Ext φ φ') {x : Value} (hx : conc ω φ' (v i) = some x) :
    (∀ (j : Nat) (p : Oper) (s : Nat), ops[j]? = some p → Add S i j → p.dst = some s → conc ω φ' (v j) = some ((a.put o.dst x).tmps.getD s undef)) ∧
    (∀ (s : Nat) (y : AV), (∀ (j : Nat) (p : Oper), ops[j]? = some p → Add S i j → p.dst ≠ some s) → slot s (D 0).T = some y → conc ω φ' y = some ((a.put o.dst x).tmps.getD s undef)) := by
  refine ⟨fun j p s hp hj hd => ?_, fun s y hno hy => ?_⟩
  · rw [put_get]
    rcases hj with hj | hj
    · rw [if_neg fun hh => hi (by have := t.chk.dst i o j p s ho hp hh.1 hd; rw [this]; exact hj)]
      exact conc_mono ω hext _ _ (h.slot1 j p s hp hj hd)
    · subst hj
      rw [ho] at hp
      cases hp
      rw [if_pos ⟨hd, by rw [h.size]; exact t.dst_lt ho hd⟩]
      exact hx
  · rw [put_get, if_neg fun hh => hno i o ho (.inr rfl) hh.1]
    exact conc_mono ω hext _ _ (h.slot0 s y (fun j p hp hj => hno j p hp (.inl hj)) hy)
/-- what is made stays behind a step that is not loud -/
theorem Inv.quiet (t : Trace run N ops base D v b) (h : Inv ω N ops base D v b φ0 H0 w0 a0 S q φ a w) {i : Nat} {o : Oper} (ho : ops[i]? = some o) (hi : ¬ S i) (he : ∀ e ∈ o.after.toList, Region.binds .any e = true → S e.on) (hl : isLoud o = false)
    {φ' : Phi} {w' : World} {x : Value} (hφ : ∀ id, id ≠ base + i → φ' id = φ id) (hb : ∀ c, c < w.heap.size → w'.heap[c]? = w.heap[c]?) (hs : w.heap.size ≤ w'.heap.size) (hos : w'.os = w.os ∧ w'.output = w.output) (hr : Rel ω φ' (D q).H w') (hx : conc ω φ' (v i) = some x)
    (hm : ∀ f r, cls o.op = .make f → b i = true → f (D i).T = some r → φ' (base + i) = some ⟨w.heap.size, 0, 0, 0⟩ ∧ ObjOk ω φ' w' ⟨w.heap.size, 0, 0, 0⟩ r.1) :
    Inv ω N ops base D v b φ0 H0 w0 a0 (Add S i) q φ' (a.put o.dst x) w' := by
  have hlt := (List.getElem?_eq_some_iff.1 ho).1
  have hnone := h.unl i hlt hi
  have hext : Ext φ φ' := fun id e hid => by
    rw [hφ id fun e0 => by rw [e0, hnone] at hid; cases hid]
    exact hid
  have hgi : (D q).H.t.get (base + i) = none := by
    cases hg : (D q).H.t.get (base + i) with
    | none => rfl
    | some oj =>
      obtain ⟨e, h1, _⟩ := h.rel.obj _ _ hg
      rw [hnone] at h1
      cases h1
  have halive : ∀ c, Alive φ' (D q).H c → Alive φ (D q).H c := fun c ⟨j, oj, ej, h1, h2, h3⟩ => by
    refine ⟨j, oj, ej, h1, ?_, h3⟩
    rwa [hφ j fun e0 => by rw [e0, hgi] at h1; cases h1] at h2
  have hal_lt : ∀ c, Alive φ (D q).H c → c < w.heap.size := fun c ⟨j, oj, ej, h1, h2, h3⟩ => by
    obtain ⟨e, k1, _, k3⟩ := h.rel.obj j oj h1
    rw [h2] at k1
    cases k1
    rw [← h3]
    exact ObjOk.lt ω k3
  have hPd : ∀ j ob, Pd ops D b (Add S i) q j ob → j ≠ i → Pd ops D b S q j ob := fun j ob ⟨p, f, r, h1, h2, h3⟩ hji => ⟨p, f, r, h1, h2.resolve_right hji, h3⟩
  have hPi : ∀ ob, Pd ops D b (Add S i) q i ob → φ' (base + i) = some ⟨w.heap.size, 0, 0, 0⟩ ∧ ObjOk ω φ' w' ⟨w.heap.size, 0, 0, 0⟩ ob := fun ob ⟨p, f, r, h1, h2, h3, h4, h5, h6, _⟩ => by
    rw [ho] at h1
    cases h1
    rw [h6]
    exact hm f r h3 h4 h5
  obtain ⟨hs1, hs0⟩ := h.slots t ho hi hext hx
  refine ⟨h.down' ho he, fun j hj => hj.elim (h.lt j) fun e => e ▸ hlt, h.qle, fun l p hp hpl => ?_, hr, hs1, hs0, put_size.trans h.size, put_defers.trans h.defers, fun j ob hj => ?_, fun j ob j' ob' e e' hj hj' hee hee' hbl => ?_, fun j hj hnS => ?_, h.nx, h.h0, ?_⟩
  · rw [← h.loud l p hp hpl]
    exact ⟨fun hh => hh.resolve_right fun e0 => (by subst e0; rw [ho] at hp; cases hp; rw [hl] at hpl; cases hpl), .inl⟩
  · by_cases hji : j = i
    · subst hji
      obtain ⟨k1, k2⟩ := hPi ob hj
      exact ⟨_, k1, k2, fun ha => absurd (hal_lt _ (halive _ ha)) (Nat.lt_irrefl _), h.post.size⟩
    · obtain ⟨e, k1, k2, k3, k4⟩ := h.pend j ob (hPd j ob hj hji)
      exact ⟨e, hext _ _ k1, ObjOk.mono ω hext (hb _ (ObjOk.lt ω k2)) k2, fun ha => k3 (halive _ ha), k4⟩
  · have key : ∀ k obk ek, k ≠ i → Pd ops D b (Add S i) q k obk → φ' (base + k) = some ek → φ (base + k) = some ek ∧ ek.blk < w.heap.size := fun k obk ek hki hk hek => by
      rw [hφ _ fun e0 => hki (by omega)] at hek
      obtain ⟨e2, k1, k2, _⟩ := h.pend k obk (hPd k obk hk hki)
      rw [hek] at k1
      cases k1
      exact ⟨hek, ObjOk.lt ω k2⟩
    by_cases hji : j = i
    · by_cases hji' : j' = i
      · rw [hji, hji']
      · obtain ⟨_, hlt'⟩ := key j' ob' e' hji' hj' hee'
        subst hji
        obtain ⟨k1, _⟩ := hPi ob hj
        rw [hee] at k1
        cases k1
        exact absurd hbl (Nat.ne_of_gt hlt')
    · by_cases hji' : j' = i
      · obtain ⟨_, hlt'⟩ := key j ob e hji hj hee
        subst hji'
        obtain ⟨k1, _⟩ := hPi ob' hj'
        rw [hee'] at k1
        cases k1
        exact absurd hbl (Nat.ne_of_lt hlt')
      · exact h.pinj j ob j' ob' e e' (hPd _ _ hj hji) (hPd _ _ hj' hji') (key j ob e hji hj hee).1 (key j' ob' e' hji' hj' hee').1 hbl
  · rw [hφ _ fun e0 => hnS (.inr (by omega))]
    exact h.unl j hj fun hS => hnS (.inl hS)
  · refine ⟨fun id hid => ?_, h.post.nx, Nat.le_trans h.post.size hs, h.post.ids, fun c hc hlt' => h.post.new c (halive c hc) hlt', fun c hc hna => ?_, fun j l e hj hl he => ?_, ⟨hos.1.trans h.post.os.1, hos.2.trans h.post.os.2⟩⟩
    · rw [hφ id (by rw [h.h0] at hid; omega)]
      exact h.post.dom id hid
    · rw [hb c (Nat.lt_of_lt_of_le hc h.post.size)]
      exact h.post.kept c hc hna
    · obtain ⟨k1, k2⟩ := h.post.ro j l e hj hl he
      refine ⟨k1, ?_⟩
      obtain ⟨e', g1, _, g3⟩ := h.rel.obj j _ k1
      rw [h.post.dom j hj, he] at g1
      cases g1
      rw [hb _ (ObjOk.lt ω g3)]
      exact k2
/-- what is taken in ahead of a loud step -/
theorem Inv.absorbed (t : Trace run N ops base D v b) (h : Inv ω N ops base D v b φ0 H0 w0 a0 S q φ a w) (hlim : base + ops.length < lim) {i m : Nat} (hi : i ≤ ops.length) (hin : ∀ j, j < i → m.testBit j = true → S j) (hlow : ∀ (l : Nat) (x : Oper), ops[l]? = some x → isLoud x = true → l < q → l < i) (hH : (D i).H = (D q).H) :
    Rel ω φ ⟨(absorb m (D i).pend (D i).H.t).2, (D i).H.nx⟩ w ∧ Post φ0 H0 w0 φ ⟨(absorb m (D i).pend (D i).H.t).2, (D i).H.nx⟩ w ∧
    ∀ c, Alive φ ⟨(absorb m (D i).pend (D i).H.t).2, (D i).H.nx⟩ c → Alive φ (D q).H c ∨ ∃ j ob e, m.testBit j = true ∧ Pd ops D b S q j ob ∧ φ (base + j) = some e ∧ e.blk = c := by
  have hpd : ∀ p ∈ (D i).pend, m.testBit p.1 = true → p.2.1 = base + p.1 ∧ Pd ops D b S q p.1 p.2.2 ∧ p.1 < ops.length := fun p hp hb => by
    obtain ⟨o, f, r, h1, h2, h3, h4, h5, h6, h7⟩ := t.pend i hi hp
    refine ⟨by rw [h6], ⟨o, f, r, h2, hin _ h1 hb, h3, h4, h5, by rw [h6], fun l x hx hl hlq => h7 l x hx hl (hlow l x hx hl hlq)⟩, by omega⟩
  have hr := h.rel
  rw [← hH] at hr
  obtain ⟨k1, k2, k4⟩ := absorb_ok ω (φ := φ) (w := w) (m := m) (nx := (D i).H.nx) (l := (D i).pend) (H := (D i).H.t) hr (fun p hp hb => by
    obtain ⟨e1, e2, e3⟩ := hpd p hp hb
    obtain ⟨e, g1, g2, g3, g4⟩ := h.pend _ _ e2
    rw [e1]
    refine ⟨e, g1, by omega, g2, fun j oj ej hj hoj hej hbl => g3 ⟨j, oj, ej, by rw [← hH]; exact hoj, hej, hbl⟩⟩) (fun p hp p' hp' hb hb' hne e e' he he' hbl => by
    obtain ⟨e1, e2, e3⟩ := hpd p hp hb
    obtain ⟨e1', e2', e3'⟩ := hpd p' hp' hb'
    rw [e1] at he hne
    rw [e1'] at he' hne
    exact hne (by rw [h.pinj _ _ _ _ _ _ e2 e2' he he' hbl]))
  have hal : ∀ c, Alive φ ⟨(absorb m (D i).pend (D i).H.t).2, (D i).H.nx⟩ c → Alive φ (D q).H c ∨ ∃ j ob e, m.testBit j = true ∧ Pd ops D b S q j ob ∧ φ (base + j) = some e ∧ e.blk = c := fun c ⟨j, oj, ej, h1, h2, h3⟩ => by
    rcases k2 j oj h1 with hh | ⟨p, hp, hb, hj⟩
    · exact .inl ⟨j, oj, ej, by rw [← hH]; exact hh, h2, h3⟩
    · obtain ⟨e1, e2, e3⟩ := hpd p hp hb
      exact .inr ⟨p.1, p.2.2, ej, hb, e2, by rw [← e1, ← hj]; exact h2, h3⟩
  refine ⟨k1, ⟨h.post.dom, ?_, h.post.size, fun j oj hj hlt => ?_, fun c hc hlt => ?_, h.post.kept, fun j l e hj hl he => ?_, h.post.os⟩, hal⟩
  · show H0.nx ≤ (D i).H.nx
    rw [hH]
    exact h.post.nx
  · rcases k2 j oj hj with hh | ⟨p, hp, hb, hj⟩
    · exact h.post.ids j oj (by rw [← hH]; exact hh) hlt
    · obtain ⟨e1, e2, e3⟩ := hpd p hp hb
      rw [h.h0] at hlt
      omega
  · rcases hal c hc with hh | ⟨j, ob, e, h1, h2, h3, h4⟩
    · exact h.post.new c hh hlt
    · obtain ⟨e2, g1, g2, g3, g4⟩ := h.pend _ _ h2
      rw [h3] at g1
      cases g1
      omega
  · obtain ⟨g1, g2⟩ := h.post.ro j l e hj hl he
    refine ⟨?_, g2⟩
    show (absorb m (D i).pend (D i).H.t).2.get j = _
    rw [k4 j fun p hp hb e0 => by
      obtain ⟨e1, _, _⟩ := hpd p hp hb
      rw [h.h0] at hj
      omega, hH]
    exact g1
/-- a loud step -/
theorem Inv.louder (t : Trace run N ops base D v b) (h : Inv ω N ops base D v b φ0 H0 w0 a0 S q φ a w) (hlim : base + ops.length < lim) {i : Nat} {o : Oper} (ho : ops[i]? = some o) (hi : ¬ S i) (he : ∀ e ∈ o.after.toList, Region.binds .any e = true → S e.on) (hl : isLoud o = true) :
    (D i).H = (D q).H ∧ Rel ω φ ⟨(absorb ((ancL ops []).getD i 0) (D i).pend (D i).H.t).2, (D i).H.nx⟩ w ∧
    ∀ φ' w' x, Rel ω φ' (D (i + 1)).H w' → Post φ ⟨(absorb ((ancL ops []).getD i 0) (D i).pend (D i).H.t).2, (D i).H.nx⟩ w φ' (D (i + 1)).H w' → conc ω φ' (v i) = some x →
      Inv ω N ops base D v b φ0 H0 w0 a0 (Add S i) (i + 1) φ' (a.put o.dst x) w' := by
  have hlt := (List.getElem?_eq_some_iff.1 ho).1
  -- the loud ones that are listed are those ahead
  have hlow : ∀ (l : Nat) (x : Oper), ops[l]? = some x → isLoud x = true → (S l ↔ l < i) := fun l x hx hxl => by
    constructor
    · intro hS
      rcases Nat.lt_trichotomy l i with hh | hh | hh
      · exact hh
      · subst hh; exact absurd hS hi
      · exact absurd (h.anc' hx hS (t.chk.loud l x i o hx ho hh hxl hl)) hi
    · intro hli
      exact h.anc ho he (t.chk.loud i o l x ho hx hli hl hxl)
  have hqi : q ≤ i := Nat.le_of_not_lt fun hh => hi ((h.loud i o ho hl).2 hh)
  have hH : (D i).H = (D q).H := t.same i hqi (by omega) fun l x hx hxl hql => Nat.le_of_not_lt fun hli => absurd ((h.loud l x hx hxl).1 ((hlow l x hx hxl).2 hli)) (by omega)
  obtain ⟨k1, k2, k3⟩ := h.absorbed t hlim (i := i) (m := (ancL ops []).getD i 0) (by omega) (fun j _ hb => h.anc ho he hb) (fun l x hx hxl hlq => Nat.lt_of_lt_of_le hlq hqi) hH
  refine ⟨hH, k1, fun φ' w' x hr hp hx => ?_⟩
  have hext : Ext φ φ' := hp.ext ω k1
  obtain ⟨hs1, hs0⟩ := h.slots t ho hi hext hx
  have hnx : base + ops.length ≤ (D i).H.nx := by rw [hH]; exact h.nx
  have hres : ∀ j, j < ops.length → φ' (base + j) = φ (base + j) := fun j hj => hp.dom _ (show base + j < (D i).H.nx by omega)
  have hPd : ∀ j ob, Pd ops D b (Add S i) (i + 1) j ob → Pd ops D b S q j ob ∧ bitA (ancL ops []) i j = false ∧ j < ops.length := fun j ob ⟨p, f, r, h1, h2, h3, h4, h5, h6, h7⟩ => by
    have hji : j ≠ i := fun e0 => by
      subst e0
      rw [ho] at h1
      cases h1
      obtain ⟨g, hg⟩ := isLoud_iff.1 hl
      rw [hg] at h3
      cases h3
    exact ⟨⟨p, f, r, h1, h2.resolve_right hji, h3, h4, h5, h6, fun l y hy hyl hlq => h7 l y hy hyl (by omega)⟩, h7 i o ho hl (Nat.lt_succ_self _), (List.getElem?_eq_some_iff.1 h1).1⟩
  refine ⟨h.down' ho he, fun j hj => hj.elim (h.lt j) fun e => e ▸ hlt, hlt, fun l p hp' hpl => ?_, hr, hs1, hs0, put_size.trans h.size, put_defers.trans h.defers, fun j ob hj => ?_, fun j ob j' ob' e e' hj hj' hee hee' hbl => ?_, fun j hj hnS => ?_, Nat.le_trans hnx hp.nx, h.h0, k2.trans hp⟩
  · constructor
    · rintro (hS | rfl)
      · have := (hlow l p hp' hpl).1 hS; omega
      · omega
    · intro hli
      by_cases hh : l = i
      · exact .inr hh
      · exact .inl ((hlow l p hp' hpl).2 (by omega))
  · obtain ⟨g1, g2, g3⟩ := hPd j ob hj
    obtain ⟨e, e1, e2, e3, e4⟩ := h.pend j ob g1
    have hna : ¬ Alive φ ⟨(absorb ((ancL ops []).getD i 0) (D i).pend (D i).H.t).2, (D i).H.nx⟩ e.blk := fun ha => by
      rcases k3 _ ha with hh | ⟨j2, ob2, ee, m1, m2, m3, m4⟩
      · exact e3 hh
      · have := h.pinj _ _ _ _ _ _ m2 g1 m3 e1 m4
        subst this
        rw [show bitA (ancL ops []) i j2 = true from m1] at g2
        cases g2
    have hbl := ObjOk.lt ω e2
    exact ⟨e, by rw [hres j g3]; exact e1, ObjOk.mono ω hext (hp.kept _ hbl hna) e2, fun ha => hna (hp.new _ ha hbl), e4⟩
  · obtain ⟨g1, _, g3⟩ := hPd j ob hj
    obtain ⟨g1', _, g3'⟩ := hPd j' ob' hj'
    rw [hres j g3] at hee
    rw [hres j' g3'] at hee'
    exact h.pinj _ _ _ _ _ _ g1 g1' hee hee' hbl
  · rw [hres j hj]
    exact h.unl j hj fun hS => hnS (.inl hS)
end
end
end Go.Proofs.YtenadfoomejmkaaGreatDoor.Eng
