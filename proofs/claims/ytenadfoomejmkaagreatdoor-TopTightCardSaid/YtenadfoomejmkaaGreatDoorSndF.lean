import Derived.Test.YtenadfoomejmkaaGreatDoorSndE
/- The engine's soundness, sixth part: all operations that need no memory. -/
namespace Go.Proofs.YtenadfoomejmkaaGreatDoor.Eng
open Go
set_option linter.unusedSimpArgs false
set_option linter.unusedVariables false
section
variable (ω : Bool → Int) (hω : ω true ≠ ω false)
theorem add_addr (b o n : Nat) : (⟨b, o, none⟩ : Addr).add n = ⟨b, o + n, none⟩ := by
  unfold Addr.add
  split
  · rename_i h; subst h; rfl
  · rfl
theorem buildP_ok {φ : Phi} {T : Fr} {n : Nat} {a : Act} (hT : TRel ω φ T n a.tmps) (hg : G0 φ) {t : TypeId} {ps : Array (Nat × Operand)} {v : AV} (h : buildP t ps.toList T = some v) :
    ∃ x, conc ω φ v = some x ∧ Gives (Instr.build t (ps.map fun p => (p.1, a.eval p.2))) x := by
  obtain ⟨i, hi, h⟩ := ob_some h
  obtain ⟨l, hl, h⟩ := ob_some h
  obtain ⟨I, d, z, hty⟩ := tyG_ok ω hi
  have hp := evp_ok ω hT hg hl
  have hz := hty.zc φ
  have hL : (ps.map fun p => (p.1, a.eval p.2)).toList = ps.toList.map fun p => (p.1, a.eval p.2) := by simp
  cases hs : kStruct i.k with
  | none =>
    rw [hs] at h
    obtain ⟨q, hq, h⟩ := ob_some (show ob (kArr i.k) _ = some v from h)
    obtain ⟨e, he, h⟩ := ob_some h
    obtain ⟨cs, hcs, h⟩ := ob_some h
    cases h
    have hd := kArr_ok ω hty hq
    obtain ⟨Ie, de, ze, hte⟩ := tyG_ok ω he
    obtain ⟨C', hf, hcc, _⟩ := fill_ok ω hcs hp hz
    refine ⟨.agg C', by simp [conc, hcc], fun w => ?_⟩
    have hz' := hty.run_zero ω
    have hu := hty.run_und ω
    have hse := hte.run_size ω
    subst hd
    have hf' : Instr.fill (fun i => some (i * e.size, e.size)) z.cells (ps.map fun p => (p.1, a.eval p.2)).toList = some C' := by rw [hL]; exact hf
    simp only [Instr.build, Sem.run_bind, hz', hu, hse, Result.andThen_ok, hf']
    rfl
  | some fs =>
    rw [hs] at h
    obtain ⟨cs, hcs, h⟩ := ob_some (show ob (fillA _ l i.zero) _ = some v from h)
    cases h
    obtain ⟨gs, rfl⟩ : ∃ gs, d = .struct gs := by
      have hk := hty.kk
      cases hik : i.k with
      | struct g =>
        rw [hik] at hk
        cases d <;> first | exact ⟨_, rfl⟩ | cases hk
      | _ => rw [hik] at hs; exact nomatch (show none = some fs from hs)
    obtain ⟨C', hf, hcc, _⟩ := fill_ok ω hcs hp hz
    refine ⟨.agg C', by simp [conc, hcc], fun w => ?_⟩
    have hz' := hty.run_zero ω
    have hu := hty.run_und ω
    have hF : ∀ f q, fs[f]? = some q → fieldT t f = some q := fun f q hq => by
      show ob (tyG t) _ = _
      rw [hi]
      show ob (kStruct i.k) _ = _
      rw [hs]
      exact hq
    -- the places
    have hlen : gs.size = fs.length := by
      have hk := hty.kk
      cases hik : i.k with
      | struct g =>
        rw [hik] at hk hs
        cases (show some g = some fs from hs)
        have key : ∀ (fl : List Field) (gl : List (Nat × Nat × Bool)), chkF fl gl = true → fl.length = gl.length := by
          intro fl
          induction fl with
          | nil => intro gl h; cases gl with
            | nil => rfl
            | cons _ _ => cases h
          | cons F r ih =>
            intro gl h
            cases gl with
            | nil => cases h
            | cons g s =>
              simp only [chkF, Bool.and_eq_true] at h
              simp [ih s h.2]
        simpa using key gs.toList fs hk
      | _ => rw [hik] at hs; exact nomatch (show none = some fs from hs)
    have hmap : ∀ w, (gs.mapM fun f => do pure (f.offset, ← sizeOf f.type) : _root_.Go.Sem (Array (Nat × Nat))).run PP w = .ok (fs.map fun q => (q.1, q.2.1)).toArray w := fun w => by
      have key : ∀ (l : List Field) (m : List (Nat × Nat × Bool)), l.length = m.length → (∀ (j : Nat) (q : Nat × Nat × Bool), m[j]? = some q → ∃ (F : Field) (If : TypeInfo), l[j]? = some F ∧ F.offset = q.1 ∧ PP.info? F.type = some If ∧ If.size = q.2.1) →
          (l.mapM fun f => do pure (f.offset, ← sizeOf f.type) : _root_.Go.Sem (List (Nat × Nat))).run PP w = .ok (m.map fun q => (q.1, q.2.1)) w := by
        intro l
        induction l with
        | nil => intro m hm _; cases m with
          | nil => rfl
          | cons _ _ => simp at hm
        | cons F r ih =>
          intro m hm hj
          cases m with
          | nil => simp at hm
          | cons q s =>
            obtain ⟨F', If, h1, h2, h3, h4⟩ := hj 0 q rfl
            simp at h1
            subst h1
            rw [List.mapM_cons]
            simp only [Sem.run_bind, run_size' h3, Result.andThen_ok, Sem.run_pure, ih s (by simpa using hm) (fun j q hq => by simpa using hj (j + 1) q (by simpa using hq)), h2, h4, List.map_cons]
      have := key gs.toList fs (by simpa using hlen) (fun j q hq => by
        obtain ⟨fs', F, If, df, h1, h2, h3, h4, h5, _⟩ := fieldT_ok (hF j q hq)
        rw [hty.und] at h1
        cases h1
        exact ⟨F, If, by simpa using h2, h3, h4, h5⟩)
      rw [Array.mapM_eq_mapM_toList, Sem.run_map, this]
      rfl
    have hf' : Instr.fill ((fs.map fun q => (q.1, q.2.1)).toArray[·]?) z.cells (ps.map fun p => (p.1, a.eval p.2)).toList = some C' := by
      rw [hL, ← hf]
      congr 1
      funext j
      simp only [List.getElem?_toArray, List.getElem?_map]
      cases fs[j]? <;> rfl
    simp only [Instr.build, Sem.run_bind, hz', hu, Result.andThen_ok, hmap, hf']
    rfl
theorem faddrP_ok {φ : Phi} {t f : Nat} {v r : AV} {X : Value} (h : faddrP t f v = some r) (hx : conc ω φ v = some X) : ∃ x, conc ω φ r = some x ∧ Gives (Instr.fieldAt t X f) x := by
  obtain ⟨q, hq, h⟩ := ob_some h
  obtain ⟨hc, h⟩ := ch_some h
  obtain ⟨p, hp, h⟩ := ob_some h
  cases h
  obtain ⟨fs, F, If, df, h1, h2, h3, h4, h5, h6, h7⟩ := fieldT_ok hq
  have := asPtr_eq hp
  subst this
  simp only [conc, Option.map_eq_some_iff] at hx
  obtain ⟨e, he, rfl⟩ := hx
  refine ⟨.pointer (some ⟨e.blk, e.sh + (p.2 + q.1), none⟩), by simp [conc, he], fun w => ?_⟩
  have h8 : ¬ If.size = 0 := fun e0 => by
    rw [h5] at e0
    rw [e0] at hc
    cases hc
  simp only [Instr.fieldAt, Sem.run_bind, run_underlying h1, Result.andThen_ok, h2, Instr.sureAddr, fieldPlace, run_size' h4, Sem.run_pure, h8, if_false, h3, add_addr, Nat.add_assoc]
theorem fieldP_ok {φ : Phi} {t f : Nat} {v r : AV} {X : Value} (h : fieldP t f v = some r) (hx : conc ω φ v = some X) : ∃ x, conc ω φ r = some x ∧ Gives (Instr.field t X f) x := by
  obtain ⟨q, hq, h⟩ := ob_some h
  obtain ⟨cs, hcs, h⟩ := ob_some h
  obtain ⟨l, hl, h9⟩ := ob_some h
  obtain ⟨fs, F, If, df, h1, h2, h3, h4, h5, h6, h7⟩ := fieldT_ok hq
  have := asAgg_eq hcs
  subst this
  simp only [conc, Option.map_eq_some_iff] at hx
  obtain ⟨L, hL, rfl⟩ := hx
  obtain ⟨x, hx, hg⟩ := part_ok ω hl h9 hL h4 h5 h6 h7
  refine ⟨x, hx, fun w => ?_⟩
  simp only [Instr.field, Sem.run_bind, run_underlying h1, Result.andThen_ok, h2, asAgg, Go.asAgg, Sem.run_pure, h3]
  exact hg w
theorem idxOf_ok {t : Nat} {q : Option Nat × Nat × Bool} (h : idxOf t = some q) : ∃ e Ie de, PP.info? e = some Ie ∧ Ie.size = q.2.1 ∧ PP.underlying e = some de ∧ isAggD de = q.2.2 ∧
    ((q.1 = none ∧ PP.underlying t = some (.slice e)) ∨ (∃ n, q.1 = some n ∧ PP.underlying t = some (.array n e))) := by
  obtain ⟨i, hi, h⟩ := ob_some h
  obtain ⟨I, d, z, hty⟩ := tyG_ok (fun _ => 0) hi
  cases hs : kArr i.k with
  | none =>
    rw [hs] at h
    obtain ⟨e, he, h⟩ := ob_some (show ob (kSlice i.k) _ = some q from h)
    obtain ⟨ei, hei, h⟩ := ob_some h
    cases h
    obtain ⟨Ie, de, ze, hte⟩ := tyG_ok (fun _ => 0) hei
    exact ⟨e, Ie, de, hte.info, hte.size, hte.und, hte.ag, .inl ⟨rfl, by rw [hty.und, kSlice_ok _ hty he]⟩⟩
  | some p =>
    rw [hs] at h
    obtain ⟨ei, hei, h⟩ := ob_some (show ob (tyG p.2) _ = some q from h)
    cases h
    obtain ⟨Ie, de, ze, hte⟩ := tyG_ok (fun _ => 0) hei
    exact ⟨p.2, Ie, de, hte.info, hte.size, hte.und, hte.ag, .inr ⟨p.1, rfl, by rw [hty.und, kArr_ok _ hty hs]⟩⟩
theorem iaddrP_ok {φ : Phi} {t : Nat} {v u r : AV} {X Y : Value} (h : iaddrP t v u = some r) (hx : conc ω φ v = some X) (hy : conc ω φ u = some Y) : ∃ x, conc ω φ r = some x ∧ Gives (Instr.indexAt t X Y) x := by
  obtain ⟨q, hq, h⟩ := ob_some h
  obtain ⟨m, hm, h⟩ := ob_some h
  obtain ⟨k, rfl⟩ := asNat_eq hm
  cases hy
  obtain ⟨e, Ie, de, h1, h2, h3, h4, h5⟩ := idxOf_ok hq
  rcases h5 with ⟨h5, h6⟩ | ⟨n, h5, h6⟩
  · rw [h5] at h
    obtain ⟨o, ho, h⟩ := ob_some (show ob (asSlc v) _ = some r from h)
    obtain ⟨s, hs, h⟩ := ob_some h
    obtain ⟨hlt, h⟩ := ch_some h
    cases h
    subst hs
    have := asSlc_eq ho
    subst this
    simp only [slcV, conc, Option.bind_eq_some_iff, Option.map_eq_some_iff] at hx
    obtain ⟨en, he, c, hc, rfl⟩ := hx
    refine ⟨.pointer (some ⟨en.blk, en.sh + (s.off + m * q.2.1), none⟩), by simp [conc, he], fun w => ?_⟩
    have hb : (0 : Int) ≤ (m : Int) ∧ (m : Int) < (s.len : Int) := by have := nblt hlt; omega
    simp only [Instr.indexAt, Sem.run_bind, asIntOf, Sem.run_pure, Result.andThen_ok, run_underlying h6, hb, and_self, if_true, run_size' h1, h2, add_addr, Int.toNat_natCast, Nat.add_assoc]
  · rw [h5] at h
    obtain ⟨p, hp, h⟩ := ob_some (show ob (asPtr v) _ = some r from h)
    obtain ⟨hlt, h⟩ := ch_some h
    cases h
    have := asPtr_eq hp
    subst this
    simp only [conc, Option.map_eq_some_iff] at hx
    obtain ⟨en, he, rfl⟩ := hx
    refine ⟨.pointer (some ⟨en.blk, en.sh + (p.2 + m * q.2.1), none⟩), by simp [conc, he], fun w => ?_⟩
    have hb : (0 : Int) ≤ (m : Int) ∧ (m : Int) < (n : Int) := by have := nblt hlt; omega
    simp only [Instr.indexAt, Sem.run_bind, asIntOf, Sem.run_pure, Result.andThen_ok, run_underlying h6, Instr.sureAddr, hb, and_self, if_true, run_size' h1, h2, add_addr, Int.toNat_natCast, Nat.add_assoc]
theorem indexP_ok {φ : Phi} {t : Nat} {v u r : AV} {X Y : Value} (h : indexP t v u = some r) (hx : conc ω φ v = some X) (hy : conc ω φ u = some Y) : ∃ x, conc ω φ r = some x ∧ Gives (Instr.index t X Y) x := by
  obtain ⟨q, hq, h⟩ := ob_some h
  obtain ⟨m, hm, h⟩ := ob_some h
  obtain ⟨n, hn, h⟩ := ob_some h
  obtain ⟨hlt, h⟩ := ch_some h
  obtain ⟨cs, hcs, h⟩ := ob_some h
  obtain ⟨l, hl, h9⟩ := ob_some h
  obtain ⟨k, rfl⟩ := asNat_eq hm
  cases hy
  obtain ⟨e, Ie, de, h1, h2, h3, h4, h5⟩ := idxOf_ok hq
  rcases h5 with ⟨h5, h6⟩ | ⟨n', h5, h6⟩
  · rw [h5] at hn; cases hn
  · rw [h5] at hn
    cases hn
    have := asAgg_eq hcs
    subst this
    simp only [conc, Option.map_eq_some_iff] at hx
    obtain ⟨L, hL, rfl⟩ := hx
    obtain ⟨x, hx, hg⟩ := part_ok ω hl h9 hL h1 h2 h3 h4
    refine ⟨x, hx, fun w => ?_⟩
    have hb : (0 : Int) ≤ (m : Int) ∧ (m : Int) < (n : Int) := by have := nblt hlt; omega
    simp only [Instr.index, Sem.run_bind, asIntOf, Sem.run_pure, Result.andThen_ok, run_underlying h6, hb, and_self, if_true, run_size' h1, h2, Int.toNat_natCast]
    exact hg w
end
end Go.Proofs.YtenadfoomejmkaaGreatDoor.Eng
