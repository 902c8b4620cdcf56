import Derived.Test.YtenadfoomejmkaaGreatDoorSndD
/- The engine's soundness, fifth part: literals, places, slicing. -/
namespace Go.Proofs.YtenadfoomejmkaaGreatDoor.Eng
open Go
set_option linter.unusedSimpArgs false
set_option linter.unusedVariables false
section
variable (ω : Bool → Int) (hω : ω true ≠ ω false)
theorem fold_paste (off : Nat) : ∀ (vs : List Value) (k : Nat) (cs : Array Value), off + k + vs.length ≤ cs.size →
    ((vs.zipIdx k).foldl (fun cs p => cs.setIfInBounds (off + p.2) p.1) cs).toList = cs.toList.take (off + k) ++ vs ++ cs.toList.drop (off + k + vs.length)
  | [], k, cs, _ => by simp
  | v :: r, k, cs, h => by
    simp only [List.zipIdx_cons, List.foldl_cons]
    rw [fold_paste off r (k + 1) _ (by simp at h ⊢; omega)]
    have e := list_seg_step cs.toList (off + k) v r (by simp at h ⊢; omega)
    simpa [Array.toList_setIfInBounds, Nat.add_assoc] using e
theorem fill_ok {φ : Phi} {place : Nat → Option (Nat × Nat)} : ∀ {l : List (Nat × AV)} {L : List (Nat × Value)} {cs cs' : List AV} {C : Array Value}, fillA place l cs = some cs' → PairsOk ω φ l L → concL ω φ cs = some C.toList →
    ∃ C' : Array Value, Instr.fill place C L = some C' ∧ concL ω φ cs' = some C'.toList ∧ cs'.length = cs.length
  | [], [], cs, cs', C, h, _, hc => by
    cases h
    exact ⟨C, rfl, hc, rfl⟩
  | p :: r, q :: s, cs, cs', C, h, hp, hc => by
    obtain ⟨i, v⟩ := q
    obtain ⟨h1, h2, h3⟩ := hp
    obtain ⟨o, ho, h⟩ := ob_some (show ob (place p.1) _ = some cs' from h)
    obtain ⟨hs, h⟩ := ch_some h
    obtain ⟨c2, hp2, h⟩ := ob_some h
    have hv := cells_conc ω h2
    have hvl := concL_length ω hv
    have hcl := concL_length ω hc
    obtain ⟨h4, h5⟩ := paste_some hp2
    have hsz : v.cells.size = o.2 := by
      have := nbeq hs
      rw [← this, ← hvl]; simp
    have hcs : C.size = cs.length := by rw [← hcl]; simp
    have hfold := fold_paste o.1 v.cells.toList 0 C (by simp at hvl ⊢; omega)
    have hnew : concL ω φ c2 = some ((v.cells.toList.zipIdx 0).foldl (fun cs p => cs.setIfInBounds (o.1 + p.2) p.1) C).toList := by
      rw [hfold, h4]
      refine concL_append ω (concL_append ω ?_ hv) ?_
      · refine concL_of ω (by simp; omega) fun j a ha => ?_
        rw [List.getElem?_take] at ha
        split at ha
        · obtain ⟨y, hy, hx⟩ := concL_get ω hc j a ha
          exact ⟨y, hy, by rw [List.getElem?_take, if_pos (by omega)]; exact hx⟩
        · cases ha
      · refine concL_of ω (by simp at hvl ⊢; omega) fun j a ha => ?_
        rw [List.getElem?_drop] at ha
        obtain ⟨y, hy, hx⟩ := concL_get ω hc _ a ha
        refine ⟨y, hy, ?_⟩
        rw [List.getElem?_drop, ← hx]
        congr 1
        simp at hvl ⊢
        omega
    obtain ⟨C', hf, hcc, hln⟩ := fill_ok h h3 hnew
    refine ⟨C', ?_, hcc, ?_⟩
    · simp only [Instr.fill]
      rw [show i = p.1 from h1.symm, ho]
      simp only
      rw [if_neg (by simp [hsz]; rw [hcs]; simp at hvl; omega)]
      rw [← hf]
      congr 1
      rw [← Array.foldl_toList, Array.toList_zipIdx]
    · rw [hln, h4]; simp; omega
  | [], _ :: _, _, _, _, _, hp, _ => hp.elim
  | _ :: _, [], _, _, _, _, hp, _ => hp.elim

/-- a type's field: where it lies -/
theorem fieldT_ok {t f : Nat} {q : Nat × Nat × Bool} (h : fieldT t f = some q) : ∃ fs F If df, PP.underlying t = some (.struct fs) ∧ fs[f]? = some F ∧ F.offset = q.1 ∧ PP.info? F.type = some If ∧ If.size = q.2.1 ∧ PP.underlying F.type = some df ∧ isAggD df = q.2.2 := by
  obtain ⟨i, hi, h⟩ := ob_some h
  obtain ⟨l, hl, h⟩ := ob_some h
  obtain ⟨I, d, z, hT⟩ := tyG_ok (fun _ => 0) hi
  have hk := hT.kk
  cases hik : i.k with
  | struct gs =>
    rw [hik] at hk hl
    cases (show some gs = some l from hl)
    cases d with
    | struct fs =>
      have key : ∀ (fl : List Field) (gl : List (Nat × Nat × Bool)) (f : Nat), chkF fl gl = true → gl[f]? = some q → ∃ F If df, fl[f]? = some F ∧ F.offset = q.1 ∧ PP.info? F.type = some If ∧ If.size = q.2.1 ∧ PP.underlying F.type = some df ∧ isAggD df = q.2.2 := by
        intro fl
        induction fl with
        | nil => intro gl f h1 h2; cases gl with
          | nil => simp at h2
          | cons _ _ => cases h1
        | cons F r ih =>
          intro gl f h1 h2
          cases gl with
          | nil => cases h1
          | cons g s =>
            simp only [chkF, Bool.and_eq_true, nbeqI] at h1
            obtain ⟨⟨h3, h4⟩, h5⟩ := h1
            cases f with
            | zero =>
              simp at h2
              subst h2
              split at h4
              · rename_i If df h6 h7
                simp only [Bool.and_eq_true, nbeqI, beq_iff_eq] at h4
                exact ⟨F, If, df, rfl, h3, h6, h4.1, h7, h4.2⟩
              · cases h4
            | succ f => simpa using ih s f h5 (by simpa using h2)
      obtain ⟨F, If, df, h1, h2⟩ := key fs.toList l f hk h
      exact ⟨fs, F, If, df, hT.und, by simpa using h1, h2⟩
    | _ => cases hk
  | _ => rw [hik] at hl; exact nomatch (show none = some l from hl)
theorem kSlice_ok {i : Ty} {t : Nat} {I : TypeInfo} {d : TypeDesc} {z : Value} {e : Nat} (hT : TyOk ω t i I d z) (h : kSlice i.k = some e) : d = .slice e := by
  have hk := hT.kk
  cases hik : i.k with
  | slice f =>
    rw [hik] at hk h
    cases (show some f = some e from h)
    cases d <;> first | (simp only [chkK, nbeqI] at hk; subst hk; rfl) | cases hk
  | _ => rw [hik] at h; exact nomatch (show none = some e from h)
theorem kArr_ok {i : Ty} {t : Nat} {I : TypeInfo} {d : TypeDesc} {z : Value} {q : Nat × Nat} (hT : TyOk ω t i I d z) (h : kArr i.k = some q) : d = .array q.1 q.2 := by
  have hk := hT.kk
  cases hik : i.k with
  | arr n f =>
    rw [hik] at hk h
    cases (show some (n, f) = some q from h)
    cases d <;> first | (simp only [chkK, Bool.and_eq_true, nbeqI] at hk; obtain ⟨rfl, rfl⟩ := hk; rfl) | cases hk
  | _ => rw [hik] at h; exact nomatch (show none = some q from h)
theorem kInt_ok {i : Ty} {t : Nat} {I : TypeInfo} {d : TypeDesc} {z : Value} {e : IntKind} (hT : TyOk ω t i I d z) (h : kInt i.k = some e) : d = .int e := by
  have hk := hT.kk
  cases hik : i.k with
  | int f =>
    rw [hik] at hk h
    cases (show some f = some e from h)
    cases d <;> first | (simp only [chkK] at hk; rw [kindEq_eq hk]) | cases hk
  | _ => rw [hik] at h; exact nomatch (show none = some e from h)
theorem kMap_ok {i : Ty} {t : Nat} {I : TypeInfo} {d : TypeDesc} {z : Value} {e : Nat × Bool} (hT : TyOk ω t i I d z) (h : kMap i.k = some e) : d = .map (if e.2 = true then 223 else 3) e.1 := by
  have hk := hT.kk
  cases hik : i.k with
  | map f b =>
    rw [hik] at hk h
    cases (show some (f, b) = some e from h)
    cases d
    case map k' e' =>
      simp only [chkK, Bool.and_eq_true, nbeqI] at hk
      obtain ⟨rfl, hk⟩ := hk
      split at hk
      · rw [nbeqI] at hk; rw [hk, if_pos ‹_›]
      · rw [nbeqI] at hk; rw [hk, if_neg ‹_›]
    all_goals cases hk
  | _ => rw [hik] at h; exact nomatch (show none = some e from h)
theorem run_size' {t : TypeId} {I : TypeInfo} (h : PP.info? t = some I) (w : World) : (sizeOf t).run PP w = .ok I.size w := by simp [sizeOf, typeInfo, h]
theorem run_agg' {t : TypeId} {d : TypeDesc} (h : PP.underlying t = some d) (w : World) : (isAgg t).run PP w = .ok (isAggD d) w := by
  simp only [isAgg, Sem.run_bind, run_underlying h, Result.andThen_ok]
  cases d <;> rfl
theorem concL_cut {φ : Phi} {l x : List AV} {off n : Nat} {X : List Value} (h : cut l off n = some x) (hX : concL ω φ l = some X) : concL ω φ x = some ((X.drop off).take n) ∧ off + n ≤ X.length := by
  obtain ⟨h1, h2⟩ := cut_some h
  have hl := concL_length ω hX
  refine ⟨concL_of ω (by rw [h1]; simp [hl]) fun i v hv => ?_, by omega⟩
  rw [h1, List.getElem?_take] at hv
  split at hv
  · rw [List.getElem?_drop] at hv
    obtain ⟨y, hy, hx⟩ := concL_get ω hX _ v hv
    exact ⟨y, hy, by rw [List.getElem?_take, if_pos ‹_›, List.getElem?_drop]; exact hx⟩
  · cases hv
/-- a part of a struct or an array -/
theorem part_ok {φ : Phi} {cs l : List AV} {off n : Nat} {g : Bool} {v : AV} {X : List Value} {t : TypeId} {I : TypeInfo} {d : TypeDesc} (hc : cut cs off n = some l) (hv : ofCells g l = some v) (hX : concL ω φ cs = some X)
    (hi : PP.info? t = some I) (hn : I.size = n) (hd : PP.underlying t = some d) (hg : isAggD d = g) : ∃ x, conc ω φ v = some x ∧ Gives (Go.part t X.toArray off) x := by
  obtain ⟨h1, h2⟩ := concL_cut ω hc hX
  obtain ⟨h3, h4⟩ := ofCells_ok ω hv h1
  refine ⟨_, h3, fun w => ?_⟩
  simp only [Go.part, Sem.run_bind, run_agg' hd, Result.andThen_ok, hg, run_size' hi, hn]
  cases g with
  | true =>
    simp only [if_true, Sem.run_bind, run_size' hi, hn, Result.andThen_ok, Sem.run_pure]
    have hx : X.toArray.extract off (off + n) = ((X.drop off).take n).toArray := by
      apply Array.ext'
      simp [List.extract_eq_take_drop]
    rw [hx]
  | false =>
    have h5 := h4 rfl
    simp only [Bool.false_eq_true, if_false]
    have h6 : n = 1 := by
      have := congrArg List.length h5
      simp at this
      omega
    subst h6
    have h7 : X[off]? = some (((X.drop off).take 1).headD undef) := by
      have : off < X.length := by omega
      rw [List.getElem?_eq_getElem this]
      refine congrArg some ?_
      rw [List.drop_eq_getElem_cons this, List.take_succ_cons, List.headD_cons]
    generalize ((X.drop off).take 1).headD undef = u at h7 ⊢
    rw [List.getElem?_toArray, h7]
    rfl
end
end Go.Proofs.YtenadfoomejmkaaGreatDoor.Eng
