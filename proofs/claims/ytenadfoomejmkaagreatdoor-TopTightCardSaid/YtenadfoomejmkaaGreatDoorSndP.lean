import Derived.Test.YtenadfoomejmkaaGreatDoorSndO
/- The engine's soundness, sixteenth part: what is to be shown of a run; a call. -/
namespace Go.Proofs.YtenadfoomejmkaaGreatDoor.Eng
open Go
set_option linter.unusedSimpArgs false
set_option linter.unusedVariables false
section
variable (ω : Bool → Int) (hω : ω true ≠ ω false)
/-- a fence that lets all in -/
structure Wd (F : Fence) : Prop where
  fn : ∀ f, F.fn f
  dep : F.depth = none
theorem Wd.plain {F : Fence} (h : Wd F) : Wd F.plain := ⟨h.fn, h.dep⟩
theorem Wd.inRound {F : Fence} (h : Wd F) (l : Nat) : Wd (F.inRound l) := ⟨h.fn, h.dep⟩
/-- the marks among the deferred calls -/
def Marks (φ : Phi) : List Nat → List Deferred → Prop
  | [], [] => True
  | m :: ms, d :: ds => (∃ e, φ m = some e ∧ d = { target := .collected e.blk, args := #[] }) ∧ Marks φ ms ds
  | _, _ => False
theorem Marks.mono {φ φ' : Phi} (h : Ext φ φ') : ∀ {ms : List Nat} {ds : List Deferred}, Marks φ ms ds → Marks φ' ms ds
  | [], [], _ => trivial
  | _ :: _, _ :: _, ⟨⟨e, he, hd⟩, h2⟩ => ⟨⟨e, h _ _ he, hd⟩, Marks.mono h h2⟩
  | [], _ :: _, hh => hh.elim
  | _ :: _, [], hh => hh.elim
def exitOf : Ex → Exit
  | .nrm => .normal
  | .ret => .ret
  | .exit i => .exit i
/-- a state -/
structure SRel (φ : Phi) (st : St) (n : Nat) (a : Act) (w : World) : Prop where
  T : TRel ω φ st.T n a.tmps
  H : Rel ω φ st.H w
  M : Marks φ st.ms a.defers
/-- a loop is told by its rounds -/
def WpL (m : Nat) (F : Fence) (n : Nat) (c : Code) (Q : Exit → Act → World → Prop) (a : Act) (w : World) : Prop :=
  match c with
  | .loop b => b.roundsIn F n PP Q m a w
  | c => c.wpIn F n PP Q a w
theorem WpL.wpIn {m : Nat} {F : Fence} {n : Nat} {c : Code} {Q : Exit → Act → World → Prop} {a : Act} {w : World} (h : WpL m F n c Q a w) : c.wpIn F n PP Q a w := by
  cases c
  case loop b => exact wpIn_loop_rounds m h
  all_goals exact h
def GoOk (run : Run) : Prop := ∀ env c st e st', run.go env c st = some (e, st') → ∃ m, ∀ F n, Wd F → (env.rnd = false → F.round = none) → ∀ φ a w, SRel ω φ st env.n a w →
  ∀ Q : Exit → Act → World → Prop, (∀ φ' a' w', SRel ω φ' st' env.n a' w' → Post φ st.H w φ' st'.H w' → Q (exitOf e) a' w') → WpL m F n c Q a w
/-- known calls, told rightly -/
def MemoOk (M : Memo) : Prop := ∀ f args H r H', M f args H = some (r, H') → ∀ F n, Wd F → ∀ φ w L, Rel ω φ H w → concL ω φ args = some L →
  CallsIn F n PP f L.toArray w fun e w' => ∃ φ' x, e = .returned x ∧ conc ω φ' r = some x ∧ Rel ω φ' H' w' ∧ Post φ H w φ' H' w'
structure RunOk (run : Run) : Prop where
  go : GoOk ω run
  memo : MemoOk ω run.memo
theorem RunOk.use {run : Run} (h : RunOk ω run) {env : Env} {c : Code} {st st' : St} {e : Ex} (hr : run.go env c st = some (e, st')) {F : Fence} {n : Nat} (hW : Wd F) (hro : env.rnd = false → F.round = none) {φ : Phi} {a : Act} {w : World} (hs : SRel ω φ st env.n a w)
    {Q : Exit → Act → World → Prop} (hQ : ∀ φ' a' w', SRel ω φ' st' env.n a' w' → Post φ st.H w φ' st'.H w' → Q (exitOf e) a' w') : c.wpIn F n PP Q a w := by
  obtain ⟨m, hm⟩ := h.go env c st e st' hr
  exact (hm F n hW hro φ a w hs Q hQ).wpIn
/-- a name dropped, its block changed -/
theorem Rel.dropChange {φ : Phi} {H : Hp} {w w' : World} (h : Rel ω φ H w) {id : Nat} {o0 : AObj} {e : Ent} (hid : H.t.get id = some o0) (he : φ id = some e) (hs : w'.heap.size = w.heap.size) (hb : ∀ b, b ≠ e.blk → w'.heap[b]? = w.heap[b]?) (hro : ∀ l, o0 ≠ .cells true l := by intro l hl; cases hl) (hos : w'.os = w.os ∧ w'.output = w.output := by exact ⟨rfl, rfl⟩) :
    Rel ω φ ⟨Tr.put dep id none H.t, H.nx⟩ w' ∧ Post φ H w φ ⟨Tr.put dep id none H.t, H.nx⟩ w' := by
  obtain ⟨e', he', hlim, hok⟩ := h.obj id _ hid
  rw [he] at he'
  cases he'
  have hget : ∀ j oj, (Tr.put dep id none H.t).get j = some oj → j ≠ id ∧ H.t.get j = some oj := fun j oj hj => by
    rw [get_put _ _ _ _ hlim] at hj
    split at hj
    · cases hj
    · exact ⟨‹_›, hj⟩
  have hdis : ∀ j oj ej, j ≠ id → H.t.get j = some oj → φ j = some ej → ej.blk ≠ e.blk := fun j oj ej hj hoj hej hbb => hj (h.inj j id oj o0 ej e hoj hid hej he hbb)
  refine ⟨⟨h.fresh, h.g0, fun i oi hi => ?_, fun i j oi oj ei ej hi hj hei hej hbl => h.inj i j oi oj ei ej (hget i oi hi).2 (hget j oj hj).2 hei hej hbl⟩, ⟨fun _ _ => rfl, Nat.le_refl _, by rw [hs]; exact Nat.le_refl _, fun i oi hi _ => ⟨oi, (hget i oi hi).2⟩, fun b ⟨i, oi, ei, h1, h2, h3⟩ _ => ⟨i, oi, ei, (hget i oi h1).2, h2, h3⟩, fun b _ hna => hb b fun e0 => hna ⟨id, o0, e, hid, he, e0.symm⟩, fun i l ei _ hi hei => have hne : i ≠ id := (fun e0 => by subst e0; rw [hid] at hi; cases hi; exact hro _ rfl); ⟨by show (Tr.put dep id none H.t).get i = _; rw [get_put _ _ _ _ hlim, if_neg hne]; exact hi, hb _ (hdis i _ ei hne hi hei)⟩, hos⟩⟩
  obtain ⟨hne, hi'⟩ := hget i oi hi
  obtain ⟨ei, h1, h2, h3⟩ := h.obj i oi hi'
  exact ⟨ei, h1, h2, ObjOk.mono ω (fun _ _ h => h) (hb _ (hdis i oi ei hne hi' h1)) h3⟩
/-- one result, read -/
def resS (tmps : Array Value) : ResultVar → _root_.Go.Sem Value
  | .tmp t => pure (tmps.getD t undef)
  | .cell a t => do loadVar t (← asAddr (tmps.getD a undef))
/-- the results, read -/
theorem resA_ok {φ : Phi} {T : Fr} {n : Nat} {tmps : Array Value} {H : Hp} {w : World} (h : Rel ω φ H w) (hT : TRel ω φ T n tmps) : ∀ {rs : List ResultVar} {l : List AV}, resA T H.t rs = some l →
    ∃ L, concL ω φ l = some L ∧ (rs.mapM (resS tmps)).run PP w = .ok L w
  | [], l, hr => by
    cases hr
    exact ⟨[], rfl, rfl⟩
  | .tmp t :: rs, l, hr => by
    obtain ⟨v, hv, hr⟩ := ob_some hr
    obtain ⟨l', hl', hr⟩ := ob_some hr
    cases hr
    obtain ⟨L, hL, hrun⟩ := resA_ok h hT hl'
    exact ⟨_, concL_mk ω (hT.slot t v hv) hL, by simp only [List.mapM_cons, resS, Sem.run_bind, Sem.run_pure, Result.andThen_ok, hrun]⟩
  | .cell a t :: rs, l, hr => by
    obtain ⟨p, hp, hr⟩ := ob_some hr
    obtain ⟨v, hv, hr⟩ := ob_some hr
    obtain ⟨l', hl', hr⟩ := ob_some hr
    cases hr
    obtain ⟨L, hL, hrun⟩ := resA_ok h hT hl'
    have hc := hT.slot a p hp
    obtain ⟨x, hx, hld⟩ := loadA_ok ω h hv hc
    have hp2 : ∃ q, asPtr p = some q := by
      obtain ⟨q, _, hv⟩ := ob_some hv
      obtain ⟨q2, hq2, _⟩ := ob_some hv
      exact ⟨q2, hq2⟩
    obtain ⟨q, hq⟩ := hp2
    have := asPtr_eq hq
    subst this
    simp only [conc, Option.map_eq_some_iff] at hc
    obtain ⟨e, he, hc⟩ := hc
    refine ⟨_, concL_mk ω hx hL, ?_⟩
    rw [← hc] at hld
    simp only [Instr.loadAt, Instr.sureAddr, Sem.run_bind, Sem.run_pure, Result.andThen_ok] at hld
    simp only [List.mapM_cons, resS, ← hc, Sem.run_bind, asAddr, Sem.run_pure, Result.andThen_ok, hld, hrun]
theorem results_ok {φ : Phi} {T : Fr} {n : Nat} {tmps : Array Value} {H : Hp} {w : World} (h : Rel ω φ H w) (hT : TRel ω φ T n tmps) {fn : Func} {l : List AV} (hr : resA T H.t fn.results.toList = some l) :
    ∃ x, conc ω φ (resV l) = some x ∧ (results fn tmps).run PP w = .ok x w := by
  obtain ⟨L, hL, hrun⟩ := resA_ok ω h hT hr
  have hlen := concL_length ω hL
  refine ⟨if hh : L.toArray.size = 1 then L.toArray[0] else .tuple L.toArray, ?_, ?_⟩
  · match l, L, hL, hlen with
    | [], [], _, _ => rfl
    | [v], [x], hL, _ =>
      obtain ⟨y, l2, hy, hl2, he⟩ := concL_cons ω hL
      cases he
      exact hy
    | v :: u :: r, x :: y :: s, hL, _ =>
      simp [resV, conc, hL]
  · have hf : ∀ (g : ResultVar → _root_.Go.Sem Value), (∀ r, g r = resS tmps r) → ((do let vs ← fn.results.mapM g; pure (if h : vs.size = 1 then vs[0] else .tuple vs)) : _root_.Go.Sem Value).run PP w = .ok (if hh : L.toArray.size = 1 then L.toArray[0] else .tuple L.toArray) w := fun g hg => by
      rw [show g = resS tmps from funext hg, Array.mapM_eq_mapM_toList]
      simp only [Sem.run_bind, Sem.run_map, hrun, Result.andThen_ok, Sem.run_pure]
    exact hf _ (fun r => by cases r <;> rfl)
/-- a frame's leaving: its marks taken -/
theorem leave_ok {F : Fence} {n N : Nat} {fn : Func} {R : Ending → World → Prop} {T : Fr} {tmps : Array Value} {l : List AV} : ∀ {ms : List Nat} {ds : List Deferred} {φ : Phi} {H : Hp} {h' : Tr AObj} {w : World}, Marks φ ms ds → closeM ms H.t = some h' → Rel ω φ H w → TRel ω φ T N tmps → resA T h' fn.results.toList = some l →
    (∀ x w', conc ω φ (resV l) = some x → Rel ω φ ⟨h', H.nx⟩ w' → Post φ H w φ ⟨h', H.nx⟩ w' → R (.returned x) w') → LeavesInM F n PP fn tmps R ds .returning w
  | [], [], φ, H, h', w, _, hc, hr, hT, hres, hR => by
    cases (show some H.t = some h' from hc)
    obtain ⟨x, hx, hrun⟩ := results_ok ω hr hT hres
    exact ⟨x, hrun, hR x w hx hr (Post.refl _ _ _)⟩
  | m :: ms, d :: ds, φ, H, h', w, hM, hc, hr, hT, hres, hR => by
    obtain ⟨⟨e, he, rfl⟩, hM2⟩ := hM
    obtain ⟨o, ho, hc⟩ := ob_some (show ob (H.t.get m) _ = some h' from hc)
    cases o with
    | dfr =>
      have hob := hr.obj m _ ho
      obtain ⟨e', he', hlim, hok⟩ := hob
      rw [he] at he'
      cases he'
      have hok : w.heap[e.blk]? = some (.deferred (some [])) := hok
      have hlt := (Array.getElem?_eq_some_iff.1 hok).1
      have hd := hr.dropChange ω (w' := w.putObj e.blk (.deferred none)) ho he (by simp [World.putObj]) (fun b hb => World.putObj_heap_other hb)
      refine ⟨by simp, .inl ⟨e.blk, w.putObj e.blk (.deferred none), rfl, ?_, ?_⟩⟩
      · simp [Instr.takeDeferred, getObj, setObj, Sem.run, hok, World.putObj]
      · exact leave_ok (H := ⟨Tr.put dep m none H.t, H.nx⟩) hM2 hc hd.1 hT hres fun x w' hx hrel hpost => hR x w' hx hrel (hd.2.trans hpost)
    | cells => cases hc
    | map => cases hc
    | loop => cases hc
  | [], _ :: _, _, _, _, _, hM, _, _, _, _, _ => hM.elim
  | _ :: _, [], _, _, _, _, hM, _, _, _, _, _ => hM.elim
end
end Go.Proofs.YtenadfoomejmkaaGreatDoor.Eng
