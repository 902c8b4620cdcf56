import Derived.Test.YtenadfoomejmkaaGreatDoorSndS
/- The engine's soundness: a code's run, by the ways of the code; a drawn region as a hypothesis. -/
namespace Go.Proofs.YtenadfoomejmkaaGreatDoor.Eng
open Go
set_option linter.unusedSimpArgs false
set_option linter.unusedVariables false
section
variable (ω : Bool → Int) (hω : ω true ≠ ω false)
/-- what is to be shown of a drawn region -/
def DrawOk (run : Run) : Prop := ∀ {F : Fence} {n N id : Nat} {ops : Array Oper} {T T' : Fr} {H H' : Hp} {φ : Phi} {a : Act} {w : World} {Q : Exit → Act → World → Prop}, Wd F → regA run N ops.toList T H = some (T', H') → TRel ω φ T N a.tmps → Rel ω φ H w →
    (∀ φ' a' w', TRel ω φ' T' N a'.tmps → a'.defers = a.defers → Rel ω φ' H' w' → Post φ H w φ' H' w' → Q .normal a' w') → (Code.region id ops true).wpIn F n PP Q a w
theorem exitOf_nrm {e : Ex} (h : isNrm e = true) : exitOf e = .normal := by
  cases e <;> first | rfl | cases h
theorem semC_ok {run : Run} (hrun : RunOk ω run) (hdraw : DrawOk ω run) (hω : ω true ≠ ω false) : RunOk ω (stepA run) := by
  refine ⟨?_, hrun.memo⟩
  intro env c st e st' h0
  have h : semC c run env st = some (e, st') := h0
  clear h0
  cases c
  case skip =>
    cases (show some (Ex.nrm, st) = some (e, st') from h)
    exact ⟨0, fun F n hW hro φ a w hs Q hQ => wpIn_skip (hQ φ a w hs (Post.refl _ _ _))⟩
  case label l =>
    cases (show some (Ex.nrm, st) = some (e, st') from h)
    exact ⟨0, fun F n hW hro φ a w hs Q hQ => wpIn_label (hQ φ a w hs (Post.refl _ _ _))⟩
  case ret =>
    cases (show some (Ex.ret, st) = some (e, st') from h)
    exact ⟨0, fun F n hW hro φ a w hs Q hQ => wpIn_ret (hQ φ a w hs (Post.refl _ _ _))⟩
  case exit i =>
    cases (show some (Ex.exit i, st) = some (e, st') from h)
    exact ⟨0, fun F n hW hro φ a w hs Q hQ => wpIn_exit (hQ φ a w hs (Post.refl _ _ _))⟩
  case seq x y =>
    obtain ⟨r, hr, h⟩ := ob_some (show ob (run.go env x st) _ = some (e, st') from h)
    rw [ite2_eq] at h
    refine ⟨0, fun F n hW hro φ a w hs Q hQ => wpIn_seq ?_⟩
    refine hrun.use ω (e := r.1) (st' := r.2) hr hW hro hs fun φ1 a1 w1 hs1 hp1 => ?_
    split at h
    · rename_i hn
      rw [exitOf_nrm hn]
      exact hrun.use ω h hW hro hs1 fun φ2 a2 w2 hs2 hp2 => hQ φ2 a2 w2 hs2 (hp1.trans hp2)
    · rename_i hn
      cases h
      have := hQ φ1 a1 w1 hs1 hp1
      cases e with
      | nrm => exact absurd rfl hn
      | ret => exact this
      | exit i => exact this
  case cond x c1 c2 =>
    obtain ⟨v, hv, h⟩ := ob_some (show ob (evo x st.T) _ = some (e, st') from h)
    obtain ⟨k, hk, h⟩ := ob_some h
    have hb := asBool_eq hk
    rw [ite2_eq] at h
    refine ⟨0, fun F n hW hro φ a w hs Q hQ => ?_⟩
    have hc := evo_ok ω hs.T hs.H.g0 hv
    rw [hb] at hc
    simp only [conc, Option.some.injEq] at hc
    refine wpIn_cond hc.symm ?_
    split at h
    · rw [if_pos ‹_›]; exact hrun.use ω h hW hro hs hQ
    · rw [if_neg ‹_›]; exact hrun.use ω h hW hro hs hQ
  case block i b =>
    obtain ⟨r, hr, h⟩ := ob_some (show ob (run.go env b st) _ = some (e, st') from h)
    cases h
    refine ⟨0, fun F n hW hro φ a w hs Q hQ => wpIn_block ?_⟩
    refine hrun.use ω (e := r.1) (st' := r.2) hr hW hro hs fun φ1 a1 w1 hs1 hp1 => ?_
    have := hQ φ1 a1 w1 hs1 hp1
    cases hr1 : r.1 with
    | nrm => rw [hr1] at this; exact this
    | ret => rw [hr1] at this; exact this
    | exit j =>
      rw [hr1] at this
      show if j = i then Q .normal a1 w1 else Q (.exit j) a1 w1
      have hbe : blockE i (.exit j) = if i = j then .nrm else .exit j := by
        show ite2 (Nat.beq i j) Ex.nrm (.exit j) = _
        rw [ite2_eq]
        simp only [nbeqI]
      rw [hbe] at this
      by_cases hij : i = j
      · rw [if_pos hij] at this
        rw [if_pos hij.symm]
        exact this
      · rw [if_neg hij] at this
        rw [if_neg (Ne.symm hij)]
        exact this
  case loop b =>
    obtain ⟨r, hr, h⟩ := ob_some (show ob (run.go env b st) _ = some (e, st') from h)
    rw [ite2_eq] at h
    split at h
    · rename_i hn
      obtain ⟨m, hm⟩ := hrun.go env (.loop b) r.2 e st' h
      refine ⟨m + 1, fun F n hW hro φ a w hs Q hQ => ?_⟩
      show b.wpIn F n PP (Exit.then (Code.roundsIn F n PP b Q m) Q) a w
      refine hrun.use ω (e := r.1) (st' := r.2) hr hW hro hs fun φ1 a1 w1 hs1 hp1 => ?_
      rw [exitOf_nrm hn]
      exact hm F n hW hro φ1 a1 w1 hs1 Q fun φ2 a2 w2 hs2 hp2 => hQ φ2 a2 w2 hs2 (hp1.trans hp2)
    · rename_i hn
      cases h
      refine ⟨1, fun F n hW hro φ a w hs Q hQ => ?_⟩
      show b.wpIn F n PP (Exit.then (Code.roundsIn F n PP b Q 0) Q) a w
      refine hrun.use ω hr hW hro hs fun φ1 a1 w1 hs1 hp1 => ?_
      have := hQ φ1 a1 w1 hs1 hp1
      cases e with
      | nrm => exact absurd rfl hn
      | ret => exact this
      | exit i => exact this
  case region id ops d =>
    cases d with
    | false =>
      obtain ⟨r, hr, h⟩ := ob_some (show ob (opsA run env.n ops.toList ops.toList st.T st.H) _ = some (e, st') from h)
      cases h
      refine ⟨0, fun F n hW hro φ a w hs Q hQ => wpIn_region_list ?_⟩
      exact ops_ok ω hrun hW hω (T' := r.1) (H' := r.2) hr hs.T hs.H fun φ' a' w' k1 k2 k3 k4 => hQ φ' a' w' ⟨⟨fun t v hv => k1.slot t v (slotE_get hv), k1.size, k1.lim⟩, k3, by rw [k2]; exact hs.M.mono' ω k4 hs.H⟩ k4
    | true =>
      obtain ⟨r, hr, h⟩ := ob_some (show ob (regA run env.n ops.toList st.T st.H) _ = some (e, st') from h)
      cases h
      refine ⟨0, fun F n hW hro φ a w hs Q hQ => ?_⟩
      exact hdraw hW (T' := r.1) (H' := r.2) hr hs.T hs.H fun φ' a' w' k1 k2 k3 k4 => hQ φ' a' w' ⟨⟨fun t v hv => k1.slot t v (slotE_get hv), k1.size, k1.lim⟩, k3, by rw [k2]; exact hs.M.mono' ω k4 hs.H⟩ k4
  case rangeFunc g ps asg body =>
    have h : ite2 env.rnd none (ob (evo g st.T) fun v => ob (alloc st.H .dfr) fun H => ob (alloc H (.loop .ready none env.fn env.n st.T ps.toList asg body)) fun H2 => ob (callR run v [.fn (.yield H.nx) [] []] H2) fun r =>
      ob (getL r.2.t H.nx) fun p => ite2 (isBusy p.st) none (ob (jumpE p.pe) fun e => some (e, (⟨st.T, ⟨Tr.put dep H.nx none r.2.t, r.2.nx⟩, st.H.nx :: st.ms⟩ : St)))) = some (e, st') := h
    rw [ite2_eq] at h
    split at h
    · cases h
    rename_i hrnd
    have hrnd : env.rnd = false := by simpa using hrnd
    obtain ⟨v, hv, h⟩ := ob_some h
    obtain ⟨H1, hH1, h⟩ := ob_some h
    obtain ⟨H2, hH2, h⟩ := ob_some h
    obtain ⟨r, hr, h⟩ := ob_some h
    obtain ⟨p, hp, h⟩ := ob_some h
    rw [ite2_eq] at h
    split at h
    · cases h
    rename_i hbusy
    obtain ⟨e', hj, h⟩ := ob_some h
    cases h
    refine ⟨0, fun F n hW hro φ a w hs Q hQ => ?_⟩
    have hro := hro hrnd
    obtain ⟨fu, hfu, hr⟩ := ob_some hr
    have hvf := asFn_eq hfu
    subst hvf
    have hcv := evo_ok ω hs.T hs.H.g0 hv
    have hcv2 := hcv
    simp only [conc, Option.bind_eq_some_iff, Option.map_eq_some_iff] at hcv2
    obtain ⟨fn', hfn, af, haf, cf, hcf, hval⟩ := hcv2
    cases hff : fu.f with
    | func g' =>
      rw [hff] at hr hfn
      cases hfn
      obtain ⟨i, hi⟩ := callF_get hr
      refine wpIn_rangeFunc fun fn _ => ?_
      rw [hro]
      -- the record and the block for the deferred calls
      obtain ⟨hl1, hH1⟩ := ch_some hH1
      cases hH1
      obtain ⟨hl2, hH2⟩ := ch_some hH2
      cases hH2
      let O1 : Obj := .deferred (some [])
      let O2 : Obj := .loop { state := .ready, pending := none, fn := fn, tmps := a.tmps, params := ps, assign := asg, body := body, defers := w.heap.size }
      let w1 := w.alloc O1
      let w2 := w1.alloc O2
      have hs1 : w1.heap.size = w.heap.size + 1 := by simp [w1, World.alloc_eq]
      have hpush : ∀ (u : World) (O : Obj) (b : Nat), b < u.heap.size → (u.alloc O).heap[b]? = u.heap[b]? := fun u O b hb => by
        show (u.heap.push O)[b]? = _
        rw [Array.getElem?_push, if_neg (Nat.ne_of_lt hb)]
      have hnew : ∀ (u : World) (O : Obj), (u.alloc O).heap[u.heap.size]? = some O := fun u O => by
        show (u.heap.push O)[u.heap.size]? = _
        simp
      obtain ⟨hr1, hp1⟩ := hs.H.fresh_ok ω (w' := w1) (E := ⟨w.heap.size, 0, 0, 0⟩) (o := .dfr) rfl (by omega) (fun b hb => hpush w O1 b hb) (nblt hl1) (hnew w O1)
      have hT1 := hs.T.mono' ω hp1 hs.H
      obtain ⟨hr2, hp2⟩ := hr1.fresh_ok ω (w' := w2) (E := ⟨w1.heap.size, 0, 0, 0⟩) (o := .loop .ready none env.fn env.n st.T ps.toList asg body) rfl (by simp [w2, World.alloc_eq]) (fun b hb => hpush w1 O2 b hb) (nblt hl2) ⟨fn, a.tmps, w.heap.size, hnew w1 O2, hT1.mono ω (upd_ext (hr1.fresh _ (Nat.le_refl _)))⟩
      have hp12 := hp1.trans hp2
      have hcv3 := conc_mono ω (hp12.ext ω hs.H) _ _ hcv
      have haf3 := concL_mono ω (hp12.ext ω hs.H) _ _ haf
      have hcf3 := concL_mono ω (hp12.ext ω hs.H) _ _ hcf
      have hyl : conc ω (upd (upd φ st.H.nx ⟨w.heap.size, 0, 0, 0⟩) (st.H.nx + 1) ⟨w1.heap.size, 0, 0, 0⟩) (.fn (.yield (st.H.nx + 1)) [] []) = some (.func (.yield w1.heap.size) #[] #[]) := by
        simp [conc, fnC, upd_self, concL]
      have hL := concL_append ω haf3 (concL_append ω (concL_mk ω hyl (show concL ω _ [] = some [] from rfl)) hcf3)
      refine ⟨w1.heap.size, [{ target := .collected w.heap.size, args := #[] }], w2, { target := .fn (.func g') cf.toArray, args := af.toArray ++ #[Value.func (.yield w1.heap.size) #[] #[]] }, w2, g', (af ++ ([Value.func (.yield w1.heap.size) #[] #[]] ++ cf)).toArray, w2, ?_, ?_, fun f _ => hW.fn f, ?_, fun h0 => (by rw [hW.dep] at h0; cases h0), ?_⟩
      · simp [Instr.enterLoop, w2, w1, O1, O2, World.alloc_eq]
      · have hev : a.eval g = .func (.func g') af.toArray cf.toArray := hval.symm
        have hcst : a.eval (.const (Value.func (.yield w1.heap.size) #[] #[])) = Value.func (.yield w1.heap.size) #[] #[] := rfl
        simp [resolve, rangeCall, hev, Deferred.ofValue, hcst]
      · have harr : af.toArray ++ #[Value.func (.yield w1.heap.size) #[] #[]] ++ cf.toArray = (af ++ ([Value.func (.yield w1.heap.size) #[] #[]] ++ cf)).toArray := by
          apply Array.ext'
          simp
        simp only [invoke, harr]
        exact callFunc_ok hi _ _
      · refine (fn_ok ω hrun hr hW (n := n - 1) hr2 hL).mono fun e2 w3 ⟨φ3, x, he2, hcx, hr3, hp3⟩ => ?_
        subst he2
        obtain ⟨e4, he4, hlim4, fn4, tmps4, d4, hb4, hTR4⟩ := hr3.obj _ _ (getL_some hp)
        have hblk : e4.blk = w1.heap.size := by
          have := hp3.ext ω hr2 _ _ (upd_self _ _ _)
          have h5 : φ3 (st.H.nx + 1) = some e4 := he4
          rw [h5] at this
          cases this
          rfl
        rw [hblk] at hb4
        have hlt4 := (Array.getElem?_eq_some_iff.1 hb4).1
        have hnb : (p.st == .busy) = false := by
          cases hps : p.st <;> rw [hps] at hbusy <;> first | rfl | exact absurd rfl hbusy
        have hd := hr3.dropChange ω (w' := w3.putObj w1.heap.size (.loop { state := .exhausted, pending := p.pe, fn := fn4, tmps := tmps4, params := p.ps.toArray, assign := p.asg, body := p.body, defers := d4 })) (getL_some hp) he4 (by simp [World.putObj]) (fun b hb => World.putObj_heap_other (by rw [← hblk]; exact hb))
        have hall := hp12.trans (hp3.trans hd.2)
        have hfin : ∀ a', a'.tmps = a.tmps → a'.defers = { target := .collected w.heap.size, args := #[] } :: a.defers → Q (exitOf e) a' _ := fun a' ht hdf => hQ φ3 a' _ ⟨by rw [ht]; exact hs.T.mono' ω hall hs.H, hd.1, by
          rw [hdf]
          refine ⟨⟨⟨w.heap.size, 0, 0, 0⟩, ?_, rfl⟩, hs.M.mono' ω hall hs.H⟩
          have := hp3.ext ω hr2 st.H.nx ⟨w.heap.size, 0, 0, 0⟩ (by rw [upd_ne _ _ _ (Nat.ne_of_lt (Nat.lt_succ_self _)), upd_self])
          exact this⟩ hall
        refine ⟨p.pe, w3.putObj w1.heap.size (.loop { state := .exhausted, pending := p.pe, fn := fn4, tmps := tmps4, params := p.ps.toArray, assign := p.asg, body := p.body, defers := d4 }), ?_, ?_⟩
        · have hg : (getObj w1.heap.size).run PP w3 = .ok _ w3 := run_getObj_loop hb4
          simp only [Instr.endLoop, Instr.getLoop, Sem.run_bind, hg, Result.andThen_ok, Sem.run_pure, hnb, Bool.false_eq_true, if_false, run_setObj_loop _ hb4]
        · cases hpe : p.pe with
          | none =>
            rw [hpe] at hj hfin
            cases (show some Ex.nrm = some e from hj)
            exact hfin _ rfl rfl
          | some c =>
            rw [hpe] at hj hfin
            cases c
            case ret =>
              cases (show some Ex.ret = some e from hj)
              exact wpIn_ret (hfin _ rfl rfl)
            case exit j =>
              cases (show some (Ex.exit j) = some e from hj)
              exact wpIn_exit (hfin _ rfl rfl)
            all_goals exact nomatch (show none = some e from hj)
    | _ => rw [hff] at hr; cases hr
  all_goals exact nomatch (show none = some (e, st') from h)
theorem exec_ok (hω : ω true ≠ ω false) (hdraw : ∀ run, RunOk ω run → DrawOk ω run) {M : Memo} (hM : MemoOk ω M) : ∀ n, RunOk ω (exec M n)
  | 0 => ⟨fun _ _ _ _ _ h => (by cases h), hM⟩
  | n + 1 => semC_ok ω (exec_ok hω hdraw hM n) (hdraw _ (exec_ok hω hdraw hM n)) hω
theorem noMemo_ok : MemoOk ω noMemo := fun _ _ _ _ _ h => by cases h
end
end Go.Proofs.YtenadfoomejmkaaGreatDoor.Eng
