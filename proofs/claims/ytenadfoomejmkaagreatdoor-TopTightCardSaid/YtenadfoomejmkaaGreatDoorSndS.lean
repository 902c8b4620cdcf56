import Derived.Test.YtenadfoomejmkaaGreatDoorSndR
/- The engine's soundness, nineteenth part: a region in the order of its text. -/
namespace Go.Proofs.YtenadfoomejmkaaGreatDoor.Eng
open Go
set_option linter.unusedSimpArgs false
set_option linter.unusedVariables false
section
variable (ω : Bool → Int) (hω : ω true ≠ ω false)
theorem TRel.mono' {φ φ' : Phi} {H H' : Hp} {w w' : World} (hp : Post φ H w φ' H' w') (hr : Rel ω φ H w) {T : Fr} {n : Nat} {tmps : Array Value} (h : TRel ω φ T n tmps) : TRel ω φ' T n tmps := h.mono ω (hp.ext ω hr)
theorem Marks.mono' {φ φ' : Phi} {H H' : Hp} {w w' : World} (hp : Post φ H w φ' H' w') (hr : Rel ω φ H w) {ms : List Nat} {ds : List Deferred} (h : Marks φ ms ds) : Marks φ' ms ds := h.mono (hp.ext ω hr)
/-- a guard -/
theorem want_ok {φ : Phi} {T : Fr} {n : Nat} {a : Act} (hT : TRel ω φ T n a.tmps) {ops : Array Oper} {o : Oper} {b : Bool} (h : wantA ops.toList o.guard T = some b) : Region.wanted o (yielded ops a.tmps) = b := by
  unfold wantA at h
  cases hg : o.guard with
  | none =>
    rw [hg] at h
    cases (show some true = some b from h)
    simp [Region.wanted, hg]
  | some p =>
    obtain ⟨j, w⟩ := p
    rw [hg] at h
    obtain ⟨d, hd, h⟩ := ob_some (show ob (gSlot ops.toList j) _ = some b from h)
    obtain ⟨v, hv, h⟩ := ob_some h
    obtain ⟨oj, hoj, hd⟩ := ob_some hd
    have hc := hT.slot d v hv
    have hops : ops[j]? = some oj := by simpa using hoj
    simp only [Region.wanted, hg, yielded, hops, Option.bind_some, hd]
    cases v
    case bool c =>
      cases (show some (c == w) = some b from h)
      have hx : a.tmps[d]? = some (.bool c) := by
        have hc : Value.bool c = a.tmps.getD d undef := by simpa [conc] using hc
        rw [Array.getD_eq_getD_getElem?] at hc
        cases hx : a.tmps[d]? with
        | none => rw [hx] at hc; cases hc
        | some y => rw [hx] at hc; rw [show y = Value.bool c from hc.symm]
      rw [hx]
      cases c <;> cases w <;> rfl
    case undef =>
      cases (show some false = some b from h)
      have hc : undef = a.tmps.getD d undef := by simpa [conc, undef] using hc
      rw [Array.getD_eq_getD_getElem?] at hc
      cases hx : a.tmps[d]? with
      | none => rfl
      | some y =>
        rw [hx] at hc
        have : y = undef := hc.symm
        subst this
        rfl
    all_goals exact nomatch (show none = some b from h)
theorem put_ok {φ : Phi} {T T' : Fr} {n : Nat} {a : Act} (hT : TRel ω φ T n a.tmps) {d : Option Nat} {v : AV} {x : Value} (h : putD n d v T = some T') (hx : conc ω φ v = some x) : TRel ω φ T' n (a.put d x).tmps ∧ (a.put d x).defers = a.defers := by
  cases d with
  | none => cases (show some T = some T' from h); exact ⟨hT, rfl⟩
  | some d =>
    obtain ⟨hlt, h⟩ := ch_some (show ch _ _ = some T' from h)
    cases h
    exact ⟨hT.put ω (nblt hlt) hx, rfl⟩
/-- one operation in the order of the text -/
theorem step_ok {run : Run} (hrun : RunOk ω run) {F : Fence} {n N : Nat} (hW : Wd F) {φ : Phi} {T : Fr} {a : Act} {H H' : Hp} {w : World} (hω : ω true ≠ ω false) (hT : TRel ω φ T N a.tmps) (h : Rel ω φ H w) {o : Oper} {v : AV} (hv : stepC (cls o.op) run T H = some (v, H')) {next : Act → World → Prop} {Q : Exit → Act → World → Prop}
    (hk : ∀ φ' x w', conc ω φ' v = some x → Rel ω φ' H' w' → Post φ H w φ' H' w' → next (a.put o.dst x) w') : o.wpIn F n PP a w next Q := by
  have hnd : cls o.op ≠ .bad → ∀ c, o.op ≠ .defer c := fun hb c e => by rw [e] at hb; exact hb rfl
  cases hc : cls o.op with
  | pure f =>
    rw [hc] at hv
    obtain ⟨u, hu, hv⟩ := ob_some (show ob (f T) _ = some (v, H') from hv)
    cases hv
    obtain ⟨x, hx, hr⟩ := pure_ok ω hω hT h.g0 hc hu
    exact Does.wp ω hW ⟨φ, w, x, .inl (hr w), hx, h, Post.refl _ _ _⟩ (hnd (by rw [hc]; simp)) hk
  | slice f =>
    rw [hc] at hv
    obtain ⟨u, hu, hv⟩ := ob_some (show ob (f T H.nx) _ = some (v, H') from hv)
    cases hv
    obtain ⟨e', x, hx, hr⟩ := slice_ok ω hT h.g0 hc hu (h.fresh _ (Nat.le_refl _))
    have hg : H.t.get H.nx = none := by
      cases hh : H.t.get H.nx with
      | none => rfl
      | some o' =>
        obtain ⟨f', h1, _⟩ := h.obj _ _ hh
        rw [h.fresh _ (Nat.le_refl _)] at h1
        cases h1
    have hr2 := (h.skip ω (H.nx + 1) (Nat.le_succ _)).name ω (i := H.nx) e' (h.fresh _ (Nat.le_refl _)) (Nat.lt_succ_self _) hg
    refine Does.wp ω hW ⟨upd φ H.nx e', w, x, .inl (hr w), hx, hr2, ⟨fun id hid => upd_ne _ _ _ (Nat.ne_of_lt hid), Nat.le_succ _, Nat.le_refl _, fun i o' hi _ => ⟨o', hi⟩, fun b ⟨i, oi, ei, k1, k2, k3⟩ _ => ?_, fun _ _ _ => rfl, fun _ _ _ _ h _ => ⟨h, rfl⟩, ⟨rfl, rfl⟩⟩⟩ (hnd (by rw [hc]; simp)) hk
    have hi : i ≠ H.nx := fun e0 => by subst e0; rw [hg] at k1; cases k1
    rw [upd_ne _ _ _ hi] at k2
    exact ⟨i, oi, ei, k1, k2, k3⟩
  | read f =>
    rw [hc] at hv
    obtain ⟨u, hu, hv⟩ := ob_some (show ob (f T H.t) _ = some (v, H') from hv)
    cases hv
    obtain ⟨x, hx, hr⟩ := read_ok ω h hT hc hu
    exact Does.wp ω hW ⟨φ, w, x, .inl hr, hx, h, Post.refl _ _ _⟩ (hnd (by rw [hc]; simp)) hk
  | make f =>
    rw [hc] at hv
    obtain ⟨m, hm, hv⟩ := ob_some (show ob (f T) _ = some (v, H') from hv)
    obtain ⟨H1, ha, hv⟩ := ob_some hv
    cases hv
    exact Does.wp ω hW (makes_does ω h (make_ok ω hT h.g0 hc hm) ha) (hnd (by rw [hc]; simp)) hk
  | loud f =>
    rw [hc] at hv
    exact loud_ok ω hω hrun hW hT h hc hv hk
  | bad => rw [hc] at hv; cases hv
/-- the operations of a region, one by one -/
theorem ops_ok {run : Run} (hrun : RunOk ω run) {F : Fence} {n N : Nat} (hW : Wd F) (hω : ω true ≠ ω false) {ops : Array Oper} {Q : Exit → Act → World → Prop} : ∀ {l : List Oper} {T T' : Fr} {H H' : Hp} {φ : Phi} {a : Act} {w : World}, opsA run N ops.toList l T H = some (T', H') → TRel ω φ T N a.tmps → Rel ω φ H w →
    (∀ φ' a' w', TRel ω φ' T' N a'.tmps → a'.defers = a.defers → Rel ω φ' H' w' → Post φ H w φ' H' w' → Q .normal a' w') → wpListIn F n PP ops Q l a w
  | [], T, T', H, H', φ, a, w, h, hT, hr, hQ => by
    cases (show some (T, H) = some (T', H') from h)
    exact hQ φ a w hT rfl hr (Post.refl _ _ _)
  | o :: l, T, T', H, H', φ, a, w, h, hT, hr, hQ => by
    obtain ⟨b, hb, h⟩ := ob_some (show ob (wantA ops.toList o.guard T) _ = some (T', H') from h)
    have hw := want_ok ω hT hb
    rw [ite2_eq] at h
    show (if Region.wanted o (yielded ops a.tmps) = true then o.wpIn F n PP a w (wpListIn F n PP ops Q l) Q else _)
    rw [hw]
    split at h
    · rename_i hbt
      obtain ⟨r, hr1, h⟩ := ob_some h
      obtain ⟨T1, hT1, h⟩ := ob_some h
      rw [if_pos hbt]
      refine step_ok ω hrun hW hω hT hr (v := r.1) (H' := r.2) hr1 fun φ' x w' hx hrel hpost => ?_
      obtain ⟨h1, h2⟩ := put_ok ω (hT.mono' ω hpost hr) hT1 hx
      exact ops_ok hrun hW hω h h1 hrel fun φ2 a2 w2 k1 k2 k3 k4 => hQ φ2 a2 w2 k1 (k2.trans h2) k3 (hpost.trans k4)
    · rename_i hbt
      obtain ⟨T1, hT1, h⟩ := ob_some h
      rw [if_neg hbt]
      obtain ⟨h1, h2⟩ := put_ok ω hT hT1 (x := undef) rfl
      exact ⟨fun f _ => hW.fn f, ops_ok hrun hW hω h h1 hr fun φ2 a2 w2 k1 k2 k3 k4 => hQ φ2 a2 w2 k1 (k2.trans h2) k3 k4⟩
end
end Go.Proofs.YtenadfoomejmkaaGreatDoor.Eng
