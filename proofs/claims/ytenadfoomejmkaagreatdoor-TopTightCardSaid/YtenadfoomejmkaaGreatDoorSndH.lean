import Derived.Test.YtenadfoomejmkaaGreatDoorSndG
/- The engine's soundness, eighth part: operations by their kinds: pure, slice, read, make. -/
namespace Go.Proofs.YtenadfoomejmkaaGreatDoor.Eng
open Go
set_option linter.unusedSimpArgs false
set_option linter.unusedVariables false
section
variable (ω : Bool → Int) (hω : ω true ≠ ω false)
theorem gv {s : _root_.Go.Sem Value} {x : Value} (h : Gives s x) (w : World) : (do pure (Next.value (← s)) : _root_.Go.Sem Next).run PP w = .ok (.value x) w := by
  simp [h w]
include hω in
theorem pure_ok {φ : Phi} {T : Fr} {n : Nat} {a : Act} (hT : TRel ω φ T n a.tmps) (hg : G0 φ) {o : Oper} {f : Fr → Option AV} (hc : cls o.op = .pure f) {v : AV} (h : f T = some v) :
    ∃ x, conc ω φ v = some x ∧ ∀ w, (execOp a.eval o).run PP w = .ok (.value x) w := by
  obtain ⟨dst, op, type, pos, after, guard⟩ := o
  simp only at hc
  cases op
  case move x => cases hc; exact ⟨_, evo_ok ω hT hg h, fun w => rfl⟩
  case assign x => cases hc; exact ⟨_, evo_ok ω hT hg h, fun w => rfl⟩
  case pick c x y =>
    cases hc
    obtain ⟨u, hu, h⟩ := ob_some h
    obtain ⟨k, hk, hP⟩ := ob_some h
    clear h
    have := asBool_eq hk
    subst this
    have h1 := evo_ok ω hT hg hu
    simp only [conc, Option.some.injEq] at h1
    rw [ite2_eq] at hP
    refine ⟨if k = true then a.eval x else a.eval y, ?_, fun w => by simp [execOp, ← h1, Go.asBool]⟩
    split at hP
    · rw [if_pos ‹_›]; exact evo_ok ω hT hg hP
    · rw [if_neg ‹_›]; exact evo_ok ω hT hg hP
  case build t ps =>
    cases hc
    obtain ⟨x, hx, hgv⟩ := buildP_ok ω hT hg h
    exact ⟨x, hx, fun w => gv hgv w⟩
  case nilCheck x =>
    cases hc
    obtain ⟨u, hu, h⟩ := ob_some h
    have h1 := evo_ok ω hT hg hu
    cases u
    case ptr id off =>
      cases h
      refine ⟨_, h1, fun w => ?_⟩
      simp only [conc, Option.map_eq_some_iff] at h1
      obtain ⟨e, he, h1⟩ := h1
      simp [execOp, ← h1]
    case fn f' a' c' =>
      cases h
      refine ⟨_, h1, fun w => ?_⟩
      simp only [conc, Option.bind_eq_some_iff, Option.map_eq_some_iff] at h1
      obtain ⟨g, hgf, a2, ha, c2, hc2, h1⟩ := h1
      cases f' <;> simp only [fnC, Option.some.injEq, Option.map_eq_some_iff] at hgf <;> first | (subst hgf; simp [execOp, ← h1]; done) | (obtain ⟨e, he, rfl⟩ := hgf; simp [execOp, ← h1]; done) | cases hgf
    case ifc t' v' =>
      cases h
      refine ⟨_, h1, fun w => ?_⟩
      simp only [conc, Option.map_eq_some_iff] at h1
      obtain ⟨e, he, h1⟩ := h1
      simp [execOp, ← h1]
    all_goals exact nomatch (show none = some v from h)
  case binOp op xt x y yt =>
    cases hc
    obtain ⟨u, hu, h⟩ := ob_some h
    obtain ⟨s, hs, h⟩ := ob_some h
    obtain ⟨z, hz, hgv⟩ := binA_ok ω hω (xo := x) h (evo_ok ω hT hg hu) (evo_ok ω hT hg hs)
    exact ⟨z, hz, fun w => gv hgv w⟩
  case unOp op xt x =>
    cases hc
    obtain ⟨u, hu, h⟩ := ob_some h
    obtain ⟨z, hz, hgv⟩ := unP_ok ω h (evo_ok ω hT hg hu)
    exact ⟨z, hz, fun w => gv hgv w⟩
  case convert s d x =>
    unfold cls at hc
    simp only [clsV] at hc
    split at hc
    · cases hc
    · cases hc
      obtain ⟨i, hi, h⟩ := ob_some h
      obtain ⟨u, hu, h⟩ := ob_some h
      obtain ⟨I, D, z, hty⟩ := tyG_ok ω hi
      obtain ⟨z, hz, hgv⟩ := convP_ok ω hty.und h (evo_ok ω hT hg hu)
      exact ⟨z, hz, fun w => gv hgv w⟩
  case makeInterface t x =>
    cases hc
    obtain ⟨i, hi, h⟩ := ob_some h
    obtain ⟨hk, h⟩ := ch_some h
    obtain ⟨u, hu, h⟩ := ob_some h
    cases h
    obtain ⟨I, D, z, hty⟩ := tyG_ok ω hi
    refine ⟨.iface t (a.eval x), by simp [conc, evo_ok ω hT hg hu], fun w => ?_⟩
    have hD : ∀ m, D ≠ .interface m := fun m e => by
      have h2 := hty.kk
      subst e
      revert hk h2
      cases i.k <;> simp [chkK, kTag] <;> decide
    have : (Instr.makeInterface t (a.eval x)).run PP w = .ok (.iface t (a.eval x)) w := by
      simp only [Instr.makeInterface, Sem.run_bind, hty.run_und ω, Result.andThen_ok]
      cases D <;> first | rfl | exact absurd rfl (hD _)
    simp [execOp, this]
  case makeFunc fn fs cs =>
    cases hc
    obtain ⟨l, hl, h⟩ := ob_some h
    obtain ⟨m, hm, h⟩ := ob_some h
    obtain ⟨hk, h⟩ := ch_some h
    cases h
    have h1 := evl_ok ω hT hg hl
    have h2 := evl_ok ω hT hg hm
    have h3 : fnC φ fn = some fn := by cases fn <;> first | rfl | exact nomatch (show false = true from hk)
    exact ⟨.func fn (fs.map a.eval) (cs.map a.eval), by simp [conc, h1, h2, h3, ← Array.toList_map], fun w => by simp [execOp, Instr.makeFunc]⟩
  case fieldAddr t x f' =>
    cases hc
    obtain ⟨u, hu, h⟩ := ob_some h
    obtain ⟨z, hz, hgv⟩ := faddrP_ok ω h (evo_ok ω hT hg hu)
    exact ⟨z, hz, fun w => gv hgv w⟩
  case field t x f' =>
    cases hc
    obtain ⟨u, hu, h⟩ := ob_some h
    obtain ⟨z, hz, hgv⟩ := fieldP_ok ω h (evo_ok ω hT hg hu)
    exact ⟨z, hz, fun w => gv hgv w⟩
  case indexAddr t x y =>
    cases hc
    obtain ⟨u, hu, h⟩ := ob_some h
    obtain ⟨s, hs, h⟩ := ob_some h
    obtain ⟨z, hz, hgv⟩ := iaddrP_ok ω h (evo_ok ω hT hg hu) (evo_ok ω hT hg hs)
    exact ⟨z, hz, fun w => gv hgv w⟩
  case index t x y =>
    cases hc
    obtain ⟨u, hu, h⟩ := ob_some h
    obtain ⟨s, hs, h⟩ := ob_some h
    obtain ⟨z, hz, hgv⟩ := indexP_ok ω h (evo_ok ω hT hg hu) (evo_ok ω hT hg hs)
    exact ⟨z, hz, fun w => gv hgv w⟩
  case extract x i =>
    cases hc
    obtain ⟨u, hu, h⟩ := ob_some h
    obtain ⟨l, hl, hP⟩ := ob_some h
    clear h
    have := asTup_eq hl
    subst this
    have h1 := evo_ok ω hT hg hu
    simp only [conc, Option.map_eq_some_iff] at h1
    obtain ⟨L, hL, h1⟩ := h1
    obtain ⟨y, hy, hx⟩ := concL_get ω hL i v hP
    exact ⟨y, hy, fun w => by simp [execOp, ← h1, Instr.extract, hx]⟩
  case call c =>
    unfold cls at hc
    simp only [clsC] at hc
    split at hc
    · cases hc
    · cases hc
    · rename_i b hb
      cases b
      case len =>
        cases hc
        obtain ⟨t0, ht0, h⟩ := ob_some h
        obtain ⟨g, hgt, h⟩ := ob_some h
        obtain ⟨l, hl, h⟩ := ob_some h
        obtain ⟨z, hz, hgv⟩ := lenP_ok ω ht0 hgt h (evl_ok ω hT hg hl) type
        refine ⟨z, hz, fun w => ?_⟩
        have : (c.args.toList.map a.eval).toArray = c.args.map a.eval := by rw [← Array.toList_map, Array.toArray_toList]
        rw [this] at hgv
        have := hgv w
        simp only [execOp, resolve, hb, invoke, builtin, Sem.run_bind, Sem.run_pure, Result.andThen_ok, this]
      case min =>
        cases hc
        obtain ⟨l, hl, h⟩ := ob_some h
        obtain ⟨z, hz, hgv⟩ := minP_ok ω h (evl_ok ω hT hg hl) c.argTypes type
        refine ⟨z, hz, fun w => ?_⟩
        have : (c.args.toList.map a.eval).toArray = c.args.map a.eval := by rw [← Array.toList_map, Array.toArray_toList]
        rw [this] at hgv
        have := hgv w
        simp only [execOp, resolve, hb, invoke, builtin, Sem.run_bind, Sem.run_pure, Result.andThen_ok, this]
      all_goals cases hc
  all_goals cases hc
end
end Go.Proofs.YtenadfoomejmkaaGreatDoor.Eng
