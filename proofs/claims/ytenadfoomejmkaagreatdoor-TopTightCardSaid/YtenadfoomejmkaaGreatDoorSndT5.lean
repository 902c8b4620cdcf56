import Derived.Test.YtenadfoomejmkaaGreatDoorSndT4
/- The engine's soundness, twenty-fifth part: a drawn region. -/
namespace Go.Proofs.YtenadfoomejmkaaGreatDoor.Eng
open Go
set_option linter.unusedSimpArgs false
set_option linter.unusedVariables false
set_option linter.unusedSectionVars false
/-- a frame cut down to some slots -/
noncomputable def restr (l : List Nat) (T : Fr) : Fr := ⟨0, l.filterMap fun t => (slot t T).map fun v => (t, v), .nil⟩
theorem slot_restr {t : Nat} {l : List Nat} {T : Fr} : slot t (restr l T) = if t ∈ l then slot t T else none := by
  have h0 : slot t (restr l T) = look t (l.filterMap fun t => (slot t T).map fun v => (t, v)) := by
    show (Bool.rec (motive := fun _ => Option AV) (look t _) (Tr.get .nil t) (bitN 0 t) : Option AV) = _
    have : bitN 0 t = false := by
      simp [bitN]
      rfl
    rw [this]
  rw [h0]
  clear h0
  have hl : ∀ d v l', look t ((d, v) :: l') = if t = d then some v else look t l' := fun d v l' => by
    show (Bool.rec (motive := fun _ => Option AV) (look t l') (some v) (Nat.beq d t) : Option AV) = _
    rw [brec]
    simp only [nbeqI]
    by_cases h : t = d
    · rw [if_pos h, if_pos h.symm]
    · rw [if_neg h, if_neg (Ne.symm h)]
  induction l with
  | nil => rfl
  | cons x r ih =>
    cases hx : slot x T with
    | none =>
      rw [List.filterMap_cons_none (by rw [hx]; rfl), ih]
      by_cases htx : t = x
      · subst htx
        simp [hx]
      · simp [htx]
    | some y =>
      rw [List.filterMap_cons_some (b := (x, y)) (by rw [hx]; rfl), hl, ih]
      by_cases htx : t = x
      · subst htx
        simp [hx]
      · simp [htx]
section
variable (ω : Bool → Int) (hω : ω true ≠ ω false)
/-- a value, and on -/
theorem value_wp {F : Fence} {n : Nat} (hW : Wd F) {w w' : World} {o : Oper} {a : Act} {x : Value} (hnd : ∀ c, o.op ≠ .defer c) (hx : (execOp a.eval o).run PP w = .ok (.value x) w') {next : Act → World → Prop} {Q : Exit → Act → World → Prop}
    (hk : next (a.put o.dst x) w') : o.wpIn F n PP a w next Q := by
  refine ⟨fun f _ => hW.fn f, ?_⟩
  rw [Oper.semAt_eq _ _ _ hnd, hx]
  exact hk
theorem stableAt_ok {d : Rd} {lo hi : Nat} : ∀ {l : List (Tr AObj)} {k0 k : Nat} {h : Tr AObj}, stableAt d lo hi k0 l = true → l[k]? = some h → lo ≤ k0 + k → k0 + k ≤ hi → d.f d.T h = some d.v
  | [], _, _, _, _, h, _, _ => by cases h
  | x :: r, k0, k, h, hs, hk, h1, h2 => by
    have hs : ((ite2 (Nat.ble lo k0 && Nat.ble k0 hi) (match d.f d.T x with
      | some v => AV.beq v d.v
      | none => false) true) && stableAt d lo hi (k0 + 1) r) = true := hs
    rw [Bool.and_eq_true] at hs
    cases k with
    | zero =>
      cases hk
      have hb : (Nat.ble lo k0 && Nat.ble k0 hi) = true := by
        rw [Bool.and_eq_true, Nat.ble_eq, Nat.ble_eq]
        exact ⟨by omega, by omega⟩
      have hs1 := hs.1
      rw [hb, ite2_eq, if_pos rfl] at hs1
      cases hf : d.f d.T x with
      | none => rw [hf] at hs1; cases hs1
      | some y => rw [hf] at hs1; rw [beq_eq _ _ hs1]
    | succ k => exact stableAt_ok (k := k) hs.2 hk (by omega) (by omega)
theorem stable_ok {ops : List Oper} {hist : List (Tr AObj)} : ∀ {l : List Rd} {d : Rd}, stable ops hist l = true → d ∈ l → stableAt d (kMin (zipN 0 ops) (ancL ops []) d.i) (kMax (zipN 0 ops) (ancL ops []) d.i) 0 hist = true
  | [], _, _, h => by cases h
  | x :: r, d, hs, h => by
    have hs : (stableAt x (kMin (zipN 0 ops) (ancL ops []) x.i) (kMax (zipN 0 ops) (ancL ops []) x.i) 0 hist && stable ops hist r) = true := hs
    rw [Bool.and_eq_true] at hs
    rcases List.mem_cons.1 h with h | h
    · subst h; exact hs.1
    · exact stable_ok hs.2 h
theorem cnt_le1 {P : Nat → Bool} : ∀ {l : List Oper} {k q : Nat}, (∀ (i : Nat) (o : Oper), l[i]? = some o → isLoud o = true → P (k + i) = true → i < q) → ((zipN k l).countP fun p => isLoud p.2 && P p.1) ≤ (l.take q).countP isLoud
  | [], _, _, _ => Nat.zero_le _
  | x :: r, k, 0, h => by
    have ih := cnt_le1 (l := r) (k := k + 1) (q := 0) fun i o ho hl hp => absurd (h (i + 1) o ho hl (by rwa [show k + 1 + i = k + (i + 1) by omega] at hp)) (Nat.not_lt_zero _)
    show ((k, x) :: zipN (k + 1) r).countP _ ≤ _
    rw [List.countP_cons]
    have hno : (isLoud x && P k) = false := by
      cases hl : isLoud x with
      | false => rfl
      | true =>
        cases hp : P k with
        | false => rfl
        | true => exact absurd (h 0 x rfl hl hp) (Nat.not_lt_zero _)
    simp only [hno] at ih ⊢
    simpa using ih
  | x :: r, k, q + 1, h => by
    have ih := cnt_le1 (l := r) (k := k + 1) (q := q) fun i o ho hl hp => Nat.lt_of_succ_lt_succ (h (i + 1) o ho hl (by rwa [show k + 1 + i = k + (i + 1) by omega] at hp))
    show ((k, x) :: zipN (k + 1) r).countP _ ≤ (x :: r.take q).countP isLoud
    rw [List.countP_cons, List.countP_cons]
    refine Nat.add_le_add ih ?_
    cases hl : isLoud x <;> simp [hl]
    split <;> omega
theorem cnt_le2 {P : Nat → Bool} : ∀ {l : List Oper} {k q : Nat}, (∀ (i : Nat) (o : Oper), l[i]? = some o → isLoud o = true → i < q → P (k + i) = true) → (l.take q).countP isLoud ≤ ((zipN k l).countP fun p => isLoud p.2 && P p.1)
  | [], _, q, _ => by simp
  | x :: r, k, 0, h => by simp
  | x :: r, k, q + 1, h => by
    have ih := cnt_le2 (l := r) (k := k + 1) (q := q) fun i o ho hl hp => (by have := h (i + 1) o ho hl (by omega); rwa [show k + 1 + i = k + (i + 1) by omega])
    show (x :: r.take q).countP isLoud ≤ ((k, x) :: zipN (k + 1) r).countP _
    rw [List.countP_cons, List.countP_cons]
    refine Nat.add_le_add ih ?_
    cases hl : isLoud x with
    | false => simp
    | true =>
      have := h 0 x rfl hl (Nat.zero_lt_succ _)
      simp only [Nat.add_zero] at this
      simp [hl, this]
section
variable {ω} {run : Run} {N : Nat} {ops : Array Oper} {base : Nat} {D : Nat → Dr} {v : Nat → AV} {b : Nat → Bool} {φ0 : Phi} {H0 : Hp} {w0 : World} {a0 : Act} {S : Nat → Prop} {q : Nat} {φ : Phi} {a : Act} {w : World}
/-- what an operation looks at is as in the walk -/
theorem Inv.frame (t : Trace run N ops.toList base D v b) (h : Inv ω N ops.toList base D v b φ0 H0 w0 a0 S q φ a w) {i : Nat} {o : Oper} (ho : ops.toList[i]? = some o) (hi : ¬ S i) (he : ∀ e ∈ o.after.toList, Region.binds .any e = true → S e.on) :
    TRel ω φ (restr (looksA ops.toList o) (D i).T) N a.tmps := by
  refine ⟨fun s y hy => ?_, h.size, t.lim⟩
  rw [slot_restr] at hy
  split at hy
  · rename_i hs
    have hlt := (List.getElem?_eq_some_iff.1 ho).1
    by_cases hw : ∃ (j : Nat) (p : Oper), ops.toList[j]? = some p ∧ j < i ∧ p.dst = some s
    · obtain ⟨j, p, hp, hji, hd⟩ := hw
      rw [t.slotA hp hd i hji (by omega)] at hy
      cases hy
      exact h.slot1 j p s hp (h.anc ho he (t.chk.data i o j p s ho hp hji hd hs)) hd
    · rw [t.slotB i (by omega) fun j p hp hji hd => hw ⟨j, p, hp, hji, hd⟩] at hy
      refine h.slot0 s y (fun j p hp hj hd => ?_) hy
      rcases Nat.lt_trichotomy j i with hji | hji | hji
      · exact hw ⟨j, p, hp, hji, hd⟩
      · subst hji; exact hi hj
      · exact hi (h.anc' hp hj (t.chk.anti j p i o s hp ho hji hd hs))
  · cases hy
theorem wantA_restr {ops : List Oper} {o : Oper} {T : Fr} : wantA ops o.guard (restr (looksA ops o) T) = wantA ops o.guard T := by
  unfold looksA
  cases hg : o.guard with
  | none => rfl
  | some p =>
    obtain ⟨g, c⟩ := p
    show ob (gSlot ops g) _ = ob (gSlot ops g) _
    cases hd : gSlot ops g with
    | none => rfl
    | some d =>
      simp only [hd]
      show ob (slot d _) _ = ob (slot d T) _
      rw [slot_restr, if_pos List.mem_cons_self]
theorem looksA_ops {ops : List Oper} {o : Oper} {t : Nat} (h : t ∈ tmpsOf o.op.operands.toList) : t ∈ looksA ops o := by
  unfold looksA
  split
  · exact h
  · split
    · exact List.mem_cons_of_mem _ h
    · exact h
theorem cls_restr {ops : List Oper} {o : Oper} {T : Fr} : SameCls (cls o.op) (restr (looksA ops o) T) T :=
  cls_same fun t ht => by rw [slot_restr, if_pos (looksA_ops ht)]
/-- a read gives the same where it may come -/
theorem Inv.stab (t : Trace run N ops.toList base D v b) (hst : (ite2 (anyLoud ops.toList) (stable ops.toList (D ops.toList.length).hist.reverse (D ops.toList.length).rds) true) = true) (h : Inv ω N ops.toList base D v b φ0 H0 w0 a0 S q φ a w) {i : Nat} {o : Oper} (ho : ops.toList[i]? = some o) (hi : ¬ S i) (he : ∀ e ∈ o.after.toList, Region.binds .any e = true → S e.on) {f : Fr → Tr AObj → Option AV} (hf : f (D i).T (D i).H.t = some (v i)) (hm : ⟨i, f, (D i).T, v i⟩ ∈ (D (i + 1)).rds) :
    f (D i).T (D q).H.t = some (v i) := by
  have hlt := (List.getElem?_eq_some_iff.1 ho).1
  cases ha : anyLoud ops.toList with
  | false =>
    have hno : ∀ (l : Nat) (x : Oper), ops.toList[l]? = some x → isLoud x = false := fun l x hx => by
      cases hh : isLoud x with
      | false => rfl
      | true =>
        have : anyLoud ops.toList = true := List.any_eq_true.2 ⟨x, List.mem_of_getElem? hx, hh⟩
        rw [ha] at this
        cases this
    have hs : ∀ k, k ≤ ops.toList.length → (D k).H = (D 0).H := fun k hk => t.same k (Nat.zero_le _) hk fun l x hx hxl => by rw [hno l x hx] at hxl; cases hxl
    rw [hs q h.qle, ← hs i (by omega)]
    exact hf
  | true =>
    rw [ha, ite2_eq, if_pos rfl] at hst
    have hmem := t.rds hm ops.toList.length hlt (Nat.le_refl _)
    have h1 := stable_ok hst hmem
    have h2 := (t.hist ops.toList.length (Nat.le_refl _)).2 q h.qle
    refine stableAt_ok (d := ⟨i, f, (D i).T, v i⟩) h1 h2 ?_ ?_
    · rw [Nat.zero_add]
      unfold kMin
      rw [← List.countP_eq_length_filter]
      exact cnt_le1 (P := fun j => bitA (ancL ops.toList []) i j) fun l x hx hl hb => by
        rw [Nat.zero_add] at hb
        exact (h.loud l x hx hl).1 (h.anc ho he hb)
    · rw [Nat.zero_add]
      unfold kMax
      rw [← List.countP_eq_length_filter]
      exact cnt_le2 (P := fun j => !bitA (ancL ops.toList []) j i) fun l x hx hl hlq => by
        rw [Nat.zero_add]
        cases hb : bitA (ancL ops.toList []) l i with
        | false => rfl
        | true => exact absurd (h.anc' hx ((h.loud l x hx hl).2 hlq) hb) hi
include hω in
/-- an operation that is ready -/
theorem Inv.ready (hrun : RunOk ω run) {F : Fence} {n : Nat} (hW : Wd F) {Q : Exit → Act → World → Prop} (t : Trace run N ops.toList base D v b) (hst : (ite2 (anyLoud ops.toList) (stable ops.toList (D ops.toList.length).hist.reverse (D ops.toList.length).rds) true) = true) (hlim : base + ops.toList.length < lim) (h : Inv ω N ops.toList base D v b φ0 H0 w0 a0 S q φ a w) {i : Nat} {o : Oper} (ho : ops.toList[i]? = some o) (hi : ¬ S i) (he : ∀ e ∈ o.after.toList, Region.binds .any e = true → S e.on)
    {K : Act → World → Prop} (hK : ∀ q' φ' a' w', Inv ω N ops.toList base D v b φ0 H0 w0 a0 (Add S i) q' φ' a' w' → K a' w') : wpOpIn F n PP ops Q i K a w := by
  have hlt := (List.getElem?_eq_some_iff.1 ho).1
  have hT := h.frame t ho hi he
  have hstep := t.step i o ho
  have hoA : ops[i]? = some o := by simpa using ho
  have hw := want_ok ω hT (ops := ops) (o := o) (b := b i) (by rw [wantA_restr]; exact hstep.want)
  unfold wpOpIn
  simp only [hoA]
  rw [hw]
  cases hb : b i with
  | false =>
    rw [if_neg (by simp)]
    refine ⟨fun f _ => hW.fn f, ?_⟩
    cases hl : isLoud o with
    | true =>
      obtain ⟨hH, k1, k2⟩ := h.louder t hlim ho hi he hl
      obtain ⟨_, _, _, e4⟩ := hstep.loud hl
      rcases e4 with ⟨e4, _⟩ | ⟨_, e4, e5⟩
      · rw [hb] at e4; cases e4
      · refine hK _ _ _ _ (k2 φ w undef (by rw [e5]; exact k1) (by rw [e5]; exact Post.refl _ _ _) (by rw [e4]; rfl))
    | false =>
      have hv := (hstep.quiet hl).2.2.2.2.1 hb
      exact hK _ _ _ _ (h.quiet t ho hi he hl (fun _ _ => rfl) (fun _ _ => rfl) (Nat.le_refl _) ⟨rfl, rfl⟩ h.rel (x := undef) (by rw [hv]; rfl) fun f r _ h1 => by rw [hb] at h1; cases h1)
  | true =>
    rw [if_pos rfl]
    have hsame := cls_restr (ops := ops.toList) (o := o) (T := (D i).T)
    cases hl : isLoud o with
    | true =>
      obtain ⟨hH, k1, k2⟩ := h.louder t hlim ho hi he hl
      obtain ⟨_, _, _, e4⟩ := hstep.loud hl
      rcases e4 with ⟨_, f, hf, e4⟩ | ⟨e4, _⟩
      · rw [hf] at hsame
        rw [← hsame run] at e4
        exact loud_ok ω hω hrun hW hT k1 hf e4 fun φ' x w' hc hr hp => hK _ _ _ _ (k2 φ' w' x hr hp hc)
      · rw [hb] at e4; cases e4
    | false =>
      obtain ⟨_, _, _, _, _, e6⟩ := hstep.quiet hl
      have hnd : ∀ f, cls o.op = f → f ≠ .bad → ∀ c, o.op ≠ .defer c := fun f hf hb c e => by rw [e] at hf; exact hb hf.symm
      have hnone := h.unl i hlt hi
      have hgi : (D q).H.t.get (base + i) = none := by
        cases hg : (D q).H.t.get (base + i) with
        | none => rfl
        | some oj =>
          obtain ⟨e, h1, _⟩ := h.rel.obj _ _ hg
          rw [hnone] at h1
          cases h1
      have hnx : base + i < (D q).H.nx := Nat.lt_of_lt_of_le (by omega) h.nx
      rcases e6 hb with ⟨f, hf, hv⟩ | ⟨f, hf, hv⟩ | ⟨f, hf, hv, hm⟩ | ⟨f, r, hf, hr, hv⟩
      · rw [hf] at hsame
        obtain ⟨x, hx, hrx⟩ := pure_ok ω hω hT h.rel.g0 hf ((show f _ = f _ from hsame).trans hv)
        exact value_wp hW (hnd _ hf (by simp)) (hrx w) (hK _ _ _ _ (h.quiet t ho hi he hl (fun _ _ => rfl) (fun _ _ => rfl) (Nat.le_refl _) ⟨rfl, rfl⟩ h.rel hx fun g r hg => by rw [hf] at hg; cases hg))
      · rw [hf] at hsame
        obtain ⟨e', x, hx, hrx⟩ := slice_ok ω hT h.rel.g0 hf ((congrFun (show f _ = f _ from hsame) _).trans hv) hnone
        refine value_wp hW (hnd _ hf (by simp)) (hrx w) (hK _ _ _ _ (h.quiet t ho hi he hl (φ' := upd φ (base + i) e') (fun id hid => upd_ne _ _ _ hid) (fun _ _ => rfl) (Nat.le_refl _) ⟨rfl, rfl⟩ (h.rel.name ω e' hnone hnx hgi) hx fun g r hg => by rw [hf] at hg; cases hg))
      · have hv2 := h.stab t hst ho hi he hv hm
        rw [hf] at hsame
        obtain ⟨x, hx, hrx⟩ := read_ok ω h.rel hT hf ((congrFun (show f _ = f _ from hsame) _).trans hv2)
        exact value_wp hW (hnd _ hf (by simp)) hrx (hK _ _ _ _ (h.quiet t ho hi he hl (fun _ _ => rfl) (fun _ _ => rfl) (Nat.le_refl _) ⟨rfl, rfl⟩ h.rel hx fun g r hg => by rw [hf] at hg; cases hg))
      · rw [hf] at hsame
        have hmk := make_ok ω hT h.rel.g0 hf ((show f _ = f _ from hsame).trans hr)
        obtain ⟨O, hO⟩ := hmk.made
        obtain ⟨x, hx, hcx, hob⟩ := hO w
        have hgrow : ∀ c, c < w.heap.size → (w.alloc O).heap[c]? = w.heap[c]? := fun c hc => by
          show (w.heap.push O)[c]? = _
          rw [Array.getElem?_push, if_neg (Nat.ne_of_lt hc)]
        have hnew : (w.alloc O).heap[w.heap.size]? = some O := by show (w.heap.push O)[w.heap.size]? = _; simp
        refine value_wp hW (hnd _ hf (by simp)) hx (hK _ _ _ _ (h.quiet t ho hi he hl (φ' := upd φ (base + i) ⟨w.heap.size, 0, 0, 0⟩) (fun id hid => upd_ne _ _ _ hid) hgrow (by simp [World.alloc_eq]) ⟨rfl, rfl⟩ ((h.rel.name ω ⟨w.heap.size, 0, 0, 0⟩ hnone hnx hgi).grow ω hgrow) (by rw [hv]; exact hcx _ _ (upd_self _ _ _)) fun g r2 hg _ hr2 => ?_))
        rw [hf] at hg
        cases hg
        rw [hr] at hr2
        cases hr2
        exact ⟨upd_self _ _ _, hob _ _ hnew (upd_ext hnone)⟩
end
/-- where nothing is ready all is listed -/
theorem ready_none {ops : Array Oper} (c : RegC ops.toList) {listed : Array Bool} (hs : listed.size = ops.size) (h : Region.ready .any ops listed = []) : ∀ n j, j < n → j < ops.size → listed.getD j false = true
  | 0, _, hj, _ => absurd hj (Nat.not_lt_zero _)
  | n + 1, j, hj, hlt => by
    cases hl : listed.getD j false with
    | true => rfl
    | false =>
      have ho : ops[j]? = some ops[j] := by simp [hlt]
      have hoL : ops.toList[j]? = some ops[j] := by simp [hlt]
      have hmem : j ∈ Region.ready .any ops listed := mem_ready.2 ⟨by
        rw [Array.getD_eq_getD_getElem?] at hl ⊢
        have hj2 : j < listed.size := by omega
        simpa [hj2] using hl, _, ho, fun e he hb => ready_none c hs h n e.on (by have := c.back j _ hoL e (by simpa using he) hb; omega) (by have := c.back j _ hoL e (by simpa using he) hb; omega)⟩
      rw [h] at hmem
      cases hmem
section
variable {ω} {run : Run} {N : Nat} {ops : Array Oper} {base : Nat} {D : Nat → Dr} {v : Nat → AV} {b : Nat → Bool} {φ0 : Phi} {H0 : Hp} {w0 : World} {a0 : Act}
include hω in
theorem any_ok (hrun : RunOk ω run) {F : Fence} {n : Nat} (hW : Wd F) {Q : Exit → Act → World → Prop} (t : Trace run N ops.toList base D v b) (hst : (ite2 (anyLoud ops.toList) (stable ops.toList (D ops.toList.length).hist.reverse (D ops.toList.length).rds) true) = true) (hlim : base + ops.toList.length < lim)
    (hQ : ∀ S q φ a w, (∀ j, j < ops.size → S j) → Inv ω N ops.toList base D v b φ0 H0 w0 a0 S q φ a w → Q .normal a w) :
    ∀ (fuel : Nat) (listed : Array Bool) (q : Nat) (φ : Phi) (a : Act) (w : World), listed.size = ops.size → listed.toList.countP (fun b => !b) ≤ fuel → Inv ω N ops.toList base D v b φ0 H0 w0 a0 (fun j => listed.getD j false = true) q φ a w → wpAnyIn F n PP .any ops Q fuel listed a w
  | 0, listed, q, φ, a, w, hs, hc, h => by
    have hall : ∀ j, j < ops.size → listed.getD j false = true := fun j hj => by
      have h0 : listed.toList.countP (fun b => !b) = 0 := Nat.le_zero.1 hc
      rw [List.countP_eq_zero] at h0
      have hj2 : j < listed.size := by omega
      have := h0 listed[j] (by simp)
      rw [Array.getD_eq_getD_getElem?]
      simpa [hj2] using this
    refine ⟨?_, hQ _ _ _ _ _ hall h⟩
    cases hr : Region.ready .any ops listed with
    | nil => rfl
    | cons j r =>
      have hj : j ∈ Region.ready .any ops listed := by rw [hr]; exact List.mem_cons_self
      obtain ⟨h1, o, h2, _⟩ := mem_ready.1 hj
      have hlt : j < ops.size := (Array.getElem?_eq_some_iff.1 h2).1
      have := hall j hlt
      rw [Array.getD_eq_getD_getElem?] at h1 this
      have hj2 : j < listed.size := by omega
      simp [hj2] at h1 this
      rw [h1] at this
      cases this
  | fuel + 1, listed, q, φ, a, w, hs, hc, h => by
    refine ⟨fun hr => hQ _ _ _ _ _ (fun j hj => ready_none t.chk hs hr (j + 1) j (Nat.lt_succ_self _) hj) h, fun i hi => ?_⟩
    obtain ⟨h1, o, h2, h3⟩ := mem_ready.1 hi
    have hlt : i < ops.size := (Array.getElem?_eq_some_iff.1 h2).1
    have hlt2 : i < listed.size := by omega
    have hfalse : listed[i] = false := by
      rw [Array.getD_eq_getD_getElem?] at h1
      simpa [hlt2] using h1
    have hni : ¬ (listed.getD i false = true) := by
      rw [Array.getD_eq_getD_getElem?]
      simp [hlt2, hfalse]
    refine h.ready hω hrun hW t hst hlim (o := o) (by simpa using h2) hni (fun e he hb => h3 e (by simpa using he) hb) fun q' φ' a' w' hinv => ?_
    refine any_ok hrun hW t hst hlim hQ fuel (listed.setIfInBounds i true) q' φ' a' w' (by simp [hs]) ?_ ?_
    · have : (listed.setIfInBounds i true).toList = listed.toList.set i true := by simp
      rw [this, List.countP_set (by simpa using hlt2)]
      have hget : listed.toList[i]'(by simpa using hlt2) = false := by simpa using hfalse
      rw [hget]
      simp only [Bool.not_false, Bool.not_true, if_true, Bool.false_eq_true, if_false]
      omega
    · have heq : (fun j => (listed.setIfInBounds i true).getD j false = true) = Add (fun j => listed.getD j false = true) i := by
        funext j
        apply propext
        show (listed.setIfInBounds i true).getD j false = true ↔ (listed.getD j false = true ∨ j = i)
        simp only [Array.getD_eq_getD_getElem?]
        by_cases hji : j = i
        · subst hji; simp [hlt2]
        · rw [Array.getElem?_setIfInBounds_ne (Ne.symm hji)]
          simp [hji]
      rw [heq]
      exact hinv
end
/-- a drawn region -/
theorem draw_ok (hω : ω true ≠ ω false) (run : Run) (hrun : RunOk ω run) : DrawOk ω run := by
  intro F n N id ops T T' H H' φ a w Q hW h hT hr hQ
  obtain ⟨hchk, h⟩ := ch_some (show ch _ _ = some (T', H') from h)
  rw [Bool.and_eq_true] at hchk
  obtain ⟨Dm, hD, h⟩ := ob_some h
  obtain ⟨hst, h⟩ := ch_some h
  rw [Bool.and_eq_true] at hst
  obtain ⟨D, v, b, h0, hm, hstep⟩ := drawA_trace hD
  have hstp : ∀ (j : Nat) (o : Oper), ops.toList[j]? = some o → StepT run N ops.toList (ancL ops.toList []) H.nx j o (b j) (v j) (D j) (D (j + 1)) := fun j o ho => by
    have := hstep j o ho
    rwa [Nat.zero_add] at this
  have t : Trace run N ops.toList H.nx D v b := ⟨chkReg_ok hchk.1, hT.lim, hstp, by rw [h0], by rw [h0]⟩
  have hlim : H.nx + ops.toList.length < lim := nblt hchk.2
  refine wpIn_region_any mixed ?_
  have hinv : Inv ω N ops.toList H.nx D v b φ H w a (fun j => (Array.replicate ops.size false).getD j false = true) 0 φ a { w with drawn := w.drawn + 1 } := by
    have hno : ∀ j, ¬ ((Array.replicate ops.size false).getD j false = true) := fun j => by
      rw [Array.getD_eq_getD_getElem?, Array.getElem?_replicate]
      split <;> simp
    have hr1 : Rel ω φ (D 0).H { w with drawn := w.drawn + 1 } := by
      rw [h0]
      exact (hr.skip ω (H.nx + ops.toList.length) (Nat.le_add_right _ _)).heap ω rfl
    refine ⟨fun i o _ hi => absurd hi (hno i), fun i hi => absurd hi (hno i), Nat.zero_le _, fun l o _ _ => ⟨fun hl => absurd hl (hno l), fun hl => absurd hl (Nat.not_lt_zero _)⟩, hr1, fun j o s _ hj => absurd hj (hno j), fun s y _ hy => ?_, hT.size, rfl, fun j ob hp => ?_, fun j ob j' ob' e e' hp => ?_, fun j _ _ => hr.fresh _ (Nat.le_add_right _ _), ?_, rfl, ?_⟩
    · rw [h0] at hy
      exact hT.slot s y hy
    · obtain ⟨_, _, _, _, hS, _⟩ := hp
      exact absurd hS (hno j)
    · obtain ⟨_, _, _, _, hS, _⟩ := hp
      exact absurd hS (hno j)
    · rw [h0]
      exact Nat.le_refl _
    · rw [h0]
      exact ⟨fun _ _ => rfl, Nat.le_add_right _ _, Nat.le_refl _, fun i o h _ => ⟨o, h⟩, fun _ h _ => h, fun _ _ _ => rfl, fun _ _ _ _ h _ => ⟨h, rfl⟩, ⟨rfl, rfl⟩⟩
  refine any_ok hω hrun hW t (by rw [hm]; exact hst.1) hlim (fun S q φ1 a1 w1 hall hinv => ?_) ops.size _ 0 φ a _ (by simp) (Nat.le_trans List.countP_le_length (by simp)) hinv
  have hall' : ∀ j, j < ops.toList.length → S j := fun j hj => hall j (by simpa using hj)
  have hH : (D ops.toList.length).H = (D q).H := t.same ops.toList.length hinv.qle (Nat.le_refl _) fun l x hx hxl hql => absurd ((hinv.loud l x hx hxl).1 (hall' l (List.getElem?_eq_some_iff.1 hx).1)) (by omega)
  obtain ⟨k1, k2, _⟩ := hinv.absorbed t hlim (i := ops.toList.length) (m := 2 ^ ops.toList.length - 1) (Nat.le_refl _) (fun j hj _ => hall' j hj) (fun l x hx _ _ => (List.getElem?_eq_some_iff.1 hx).1) hH
  rw [hm] at k1 k2
  cases h
  refine hQ φ1 a1 w1 ⟨fun s y hy => ?_, hinv.size, hT.lim⟩ hinv.defers k1 k2
  by_cases hw : ∃ (j : Nat) (p : Oper), ops.toList[j]? = some p ∧ p.dst = some s
  · obtain ⟨j, p, hp, hd⟩ := hw
    have hjl := (List.getElem?_eq_some_iff.1 hp).1
    have := t.slotA hp hd ops.toList.length hjl (Nat.le_refl _)
    rw [hm, hy] at this
    cases this
    exact hinv.slot1 j p s hp (hall' j hjl) hd
  · have := t.slotB (s := s) ops.toList.length (Nat.le_refl _) fun j p hp _ hd => hw ⟨j, p, hp, hd⟩
    rw [hm] at this
    exact hinv.slot0 s y (fun j p hp _ hd => hw ⟨j, p, hp, hd⟩) (this ▸ hy)
theorem exec_sound (hω : ω true ≠ ω false) {M : Memo} (hM : MemoOk ω M) (n : Nat) : RunOk ω (exec M n) := exec_ok ω hω (draw_ok ω hω) hM n
end
end Go.Proofs.YtenadfoomejmkaaGreatDoor.Eng
