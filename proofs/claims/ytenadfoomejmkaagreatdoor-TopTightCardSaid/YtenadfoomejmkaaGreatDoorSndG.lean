import Derived.Test.YtenadfoomejmkaaGreatDoorSndF
/- The engine's soundness, seventh part: the kinds 'pure' and 'slice'. -/
namespace Go.Proofs.YtenadfoomejmkaaGreatDoor.Eng
open Go
set_option linter.unusedSimpArgs false
set_option linter.unusedVariables false
section
variable (ω : Bool → Int) (hω : ω true ≠ ω false)
theorem unP_ok {φ : Phi} {op : UnOp} {v r : AV} {X : Value} (h : unP op v = some r) (hx : conc ω φ v = some X) : ∃ x, conc ω φ r = some x ∧ Gives (Op.unary op X) x := by
  cases op
  case neg =>
    obtain ⟨p, hp, h2⟩ := ob_some (show ob (asInt v) _ = some r from h)
    have := asInt_eq hp
    subst this
    cases hx
    cases h2
    exact ⟨_, rfl, fun w => by simp [Op.unary, Op.intArith, wrapF_eq]⟩
  case not =>
    obtain ⟨p, hp, h2⟩ := ob_some (show ob (asBool v) _ = some r from h)
    have := asBool_eq hp
    subst this
    cases hx
    cases h2
    exact ⟨_, rfl, fun w => by simp [Op.unary]⟩
  all_goals exact nomatch (show none = some r from h)
theorem convP_ok {φ : Phi} {d s : Nat} {v r : AV} {X : Value} {S : TypeDesc} (hs : PP.underlying s = some S) (h : convP d v = some r) (hx : conc ω φ v = some X) : ∃ x, conc ω φ r = some x ∧ Gives (convert s d X) x := by
  obtain ⟨p, hp, h⟩ := ob_some h
  obtain ⟨i, hi, h⟩ := ob_some h
  obtain ⟨k, hk, h⟩ := ob_some h
  cases h
  have := asInt_eq hp
  subst this
  cases hx
  obtain ⟨I, D, z, hty⟩ := tyG_ok ω hi
  have := kInt_ok ω hty hk
  subst this
  refine ⟨_, rfl, fun w => ?_⟩
  simp only [convert, Sem.run_bind, run_underlying hs, run_underlying hty.und, Result.andThen_ok]
  simp [Conv.intToInt, wrapF_eq]
theorem lenP_ok {φ : Phi} {l : List AV} {r : AV} {L : List Value} {t0 g : Nat} {ts : Array TypeId} (h0 : ts[0]? = some t0) (hg : tagT t0 = some g) (h : lenP g l = some r) (hx : concL ω φ l = some L) (t : TypeId) : ∃ x, conc ω φ r = some x ∧ Gives (Builtin.len_ ts t L.toArray) x := by
  obtain ⟨v, hv, h2⟩ := ob_some h
  clear h
  have := one_eq hv
  subst this
  obtain ⟨y, l, hy, hl, rfl⟩ := concL_cons ω hx
  have := concL_nil ω hl
  subst this
  obtain ⟨i, I, d, z, hT, hk⟩ := tagT_ok ω hg
  have hd := chkK_tag hT.kk
  rw [hk] at hd
  have hu := hT.run_und ω
  cases hs : asSlc v with
  | none =>
    rw [hs] at h2
    obtain ⟨s, hs2, h3⟩ := ob_some (show ob (asStr v) _ = some r from h2)
    obtain ⟨hc, h4⟩ := ch_some h3
    cases h4
    have := asStr_eq hs2
    subst this
    cases hy
    have := hd.2.2.2.2.2 (nbeq hc)
    subst this
    refine ⟨_, rfl, fun w => ?_⟩
    simp [Builtin.len_, h0, hu, goInt]
  | some o =>
    rw [hs] at h2
    obtain ⟨hc, h4⟩ := ch_some (show ch _ _ = some r from h2)
    cases h4
    obtain ⟨e, hd⟩ := hd.2.1 (nbeq hc)
    subst hd
    have := asSlc_eq hs
    subst this
    cases o with
    | none =>
      cases hy
      refine ⟨_, rfl, fun w => ?_⟩
      simp [Builtin.len_, h0, hu, goInt]
    | some s =>
      simp only [slcV, conc, Option.bind_eq_some_iff, Option.map_eq_some_iff] at hy
      obtain ⟨en, he, c, hc, rfl⟩ := hy
      refine ⟨_, rfl, fun w => ?_⟩
      simp [Builtin.len_, h0, hu, goInt]
theorem minP_ok {φ : Phi} {l : List AV} {r : AV} {L : List Value} (h : minP l = some r) (hx : concL ω φ l = some L) (ts : Array TypeId) (t : TypeId) : ∃ x, conc ω φ r = some x ∧ Gives (Builtin.min_ ts t L.toArray) x := by
  match l, h with
  | [a, b], h =>
    obtain ⟨p, hp, h⟩ := ob_some h
    obtain ⟨q, hq, h⟩ := ob_some h
    obtain ⟨hk, h⟩ := ch_some h
    cases h
    have := asInt_eq hp
    subst this
    have := asInt_eq hq
    subst this
    obtain ⟨y, l, hy, hl, rfl⟩ := concL_cons ω hx
    obtain ⟨y2, l2, hy2, hl2, rfl⟩ := concL_cons ω hl
    have := concL_nil ω hl2
    subst this
    cases hy
    cases hy2
    refine ⟨_, rfl, fun w => ?_⟩
    simp only [Builtin.min_, List.foldlM_cons, List.foldlM_nil, Builtin.min2, ite2_eq, ltF_lt]
    simp
theorem bnd_ok {φ : Phi} {T : Fr} {n : Nat} {a : Act} (hT : TRel ω φ T n a.tmps) (hg : G0 φ) {x : Option Operand} {o : Option Nat} (h : bnd x T = some o) :
    (x.map a.eval = none ∧ o = none) ∨ ∃ (k : IntKind) (m : Nat), x.map a.eval = some (.int k (m : Int)) ∧ o = some m := by
  cases x with
  | none => cases (show some none = some o from h); exact .inl ⟨rfl, rfl⟩
  | some y =>
    obtain ⟨v, hv, h2⟩ := ob_some (show ob (evo y T) _ = some o from h)
    obtain ⟨m, hm, h3⟩ := ob_some h2
    cases h3
    obtain ⟨k, rfl⟩ := asNat_eq hm
    have := evo_ok ω hT hg hv
    simp only [conc, Option.some.injEq] at this
    exact .inr ⟨k, m, by simp [← this], rfl⟩
theorem sb_ok {k : IntKind} {m y : Nat} {c : BoundsCode} {w : World} (h : m ≤ y) : (Instr.sliceBound (.int k (m : Int)) y c).run PP w = .ok m w := by
  have : (0 : Int) ≤ (m : Int) ∧ (m : Int) ≤ (y : Int) := by omega
  simp [Instr.sliceBound, asIntOf, h]
theorem elemT_ok {t : Nat} {e : Ty} (h : elemT t = some e) : ∃ eid I d z, PP.underlying t = some (.slice eid) ∧ TyOk ω eid e I d z := by
  obtain ⟨i, hi, h⟩ := ob_some h
  obtain ⟨eid, he, h⟩ := ob_some h
  obtain ⟨I, d, z, hty⟩ := tyG_ok ω hi
  obtain ⟨I2, d2, z2, hty2⟩ := tyG_ok ω h
  have := kSlice_ok ω hty he
  subst this
  exact ⟨eid, I2, d2, z2, hty.und, hty2⟩
/-- the bounds of a slicing, told -/
theorem bounds_ok {len cap : Nat} {lo hi mx : Option Value} {l h m : Option Nat} {w : World}
    (hlo : (lo = none ∧ l = none) ∨ ∃ (k : IntKind) (n : Nat), lo = some (.int k (n : Int)) ∧ l = some n)
    (hhi : (hi = none ∧ h = none) ∨ ∃ (k : IntKind) (n : Nat), hi = some (.int k (n : Int)) ∧ h = some n)
    (hmx : (mx = none ∧ m = none) ∨ ∃ (k : IntKind) (n : Nat), mx = some (.int k (n : Int)) ∧ m = some n)
    (hc : mx = none ∨ hi ≠ none) (h1 : l.getD 0 ≤ h.getD len) (h2 : h.getD len ≤ m.getD cap) (h3 : m.getD cap ≤ cap) :
    (Instr.sliceBounds true len cap lo hi mx).run PP w = .ok (l.getD 0, h.getD len, m.getD cap) w := by
  unfold Instr.sliceBounds
  rcases hlo with ⟨rfl, rfl⟩ | ⟨kl, nl, rfl, rfl⟩ <;> rcases hhi with ⟨rfl, rfl⟩ | ⟨kh, nh, rfl, rfl⟩ <;> rcases hmx with ⟨rfl, rfl⟩ | ⟨km, nm, rfl, rfl⟩
  all_goals first | (exfalso; simp at hc; done) | skip
  all_goals
    simp only [Option.getD_some, Option.getD_none] at h1 h2 h3 ⊢
    first
      | (simp [sb_ok, h1, h2, h3]; done)
      | simp
theorem sliceP_ok {φ : Phi} {T : Fr} {n : Nat} {a : Act} (hT : TRel ω φ T n a.tmps) (hg : G0 φ) {t : TypeId} {x : Operand} {lo hi mx : Option Operand} {nid : Nat} {v : AV} (h : sliceP t x lo hi mx T nid = some v) (hn : φ nid = none) :
    ∃ e' X, conc ω (upd φ nid e') v = some X ∧ Gives (Instr.sliceAt t (a.eval x) (lo.map a.eval) (hi.map a.eval) (mx.map a.eval)) X := by
  obtain ⟨e, he, h⟩ := ob_some h
  obtain ⟨y, hy, h⟩ := ob_some h
  obtain ⟨o, ho, h⟩ := ob_some h
  obtain ⟨l, hl, h⟩ := ob_some h
  obtain ⟨hh, hhi, h⟩ := ob_some h
  obtain ⟨m, hm, hS⟩ := ob_some h
  clear h
  obtain ⟨eid, I, d, z, hu, hte⟩ := elemT_ok ω he
  have hx := evo_ok ω hT hg hy
  have := asSlc_eq ho
  subst this
  have hlo := bnd_ok ω hT hg hl
  have hhi := bnd_ok ω hT hg hhi
  have hmx := bnd_ok ω hT hg hm
  generalize a.eval x = X at hx ⊢
  generalize lo.map a.eval = LO at hlo ⊢
  generalize hi.map a.eval = HI at hhi ⊢
  generalize mx.map a.eval = MX at hmx ⊢
  have hsz := hte.run_size ω
  have hgen : ∀ (A : Option Addr) (len cap : Nat), (MX = none ∨ HI ≠ none) → l.getD 0 ≤ hh.getD len → hh.getD len ≤ m.getD cap → m.getD cap ≤ cap →
      Gives (Instr.sliceAt t (.slice A len cap) LO HI MX) (.slice (if m.getD cap = l.getD 0 then A else A.map (·.add (l.getD 0 * e.size))) (hh.getD len - l.getD 0) (m.getD cap - l.getD 0)) := fun A len cap h0 h1 h2 h3 w => by
    simp only [Instr.sliceAt, Sem.run_bind, run_underlying hu, Result.andThen_ok, Instr.slice, bounds_ok hlo hhi hmx h0 h1 h2 h3, hsz, Sem.run_pure]
  have hMH : (m.isNone = true ∨ hh.isSome = true) → (MX = none ∨ HI ≠ none) := fun hc => by
    rcases hc with hc | hc
    · rcases hmx with ⟨h1, _⟩ | ⟨_, _, _, h2⟩
      · exact .inl h1
      · rw [h2] at hc; cases hc
    · rcases hhi with ⟨_, h2⟩ | ⟨_, _, h1, _⟩
      · rw [h2] at hc; cases hc
      · right; rw [h1]; simp
  cases o with
  | none =>
    obtain ⟨hc, h⟩ := ch_some (show ch _ _ = some v from hS)
    cases h
    cases hx
    simp only [Bool.and_eq_true, nbeqI, Bool.or_eq_true] at hc
    obtain ⟨⟨h1, h2⟩, h3, h4⟩ := hc
    refine ⟨⟨0, 0, 0, 0⟩, .slice none 0 0, rfl, ?_⟩
    have := hgen none 0 0 (hMH h2) (by omega) (by omega) (by omega)
    rw [h1, h3, h4] at this
    simpa using this
  | some s =>
    simp only [slcV, conc, Option.bind_eq_some_iff, Option.map_eq_some_iff] at hx
    obtain ⟨en, hen, c, hc, rfl⟩ := hx
    have hne : nid ≠ s.id := fun e0 => by rw [← e0, hn] at hen; cases hen
    have hup : ∀ e', upd φ nid e' s.id = some en := fun e' => by rw [upd_ne _ _ _ hne.symm]; exact hen
    cases m with
    | none =>
      cases hk : capK s.cap with
      | some mm =>
        have h : ch (Nat.ble (l.getD 0) (hh.getD s.len) && Nat.ble (hh.getD s.len) mm) (some (.slc s.id (ite2 (Nat.beq mm (l.getD 0)) s.off (s.off + l.getD 0 * e.size)) (hh.getD s.len - l.getD 0) (.known (mm - l.getD 0)))) = some v := by
          simpa [sliceA, hk] using hS
        obtain ⟨hb, h⟩ := ch_some h
        cases h
        simp only [Bool.and_eq_true] at hb
        have hb1 := nble hb.1
        have hb2 := nble hb.2
        have hcm : c = mm := by
          cases hcap : s.cap with
          | known q =>
            rw [hcap] at hk hc
            cases (show some q = some mm from hk)
            simp only [capC] at hc
            split at hc
            · simpa using hc.symm
            · cases hc
          | unk q z => rw [hcap] at hk; cases hk
        subst hcm
        refine ⟨⟨0, 0, 0, 0⟩, _, ?_, hgen _ _ _ (hMH (.inl rfl)) hb1 hb2 (Nat.le_refl _)⟩
        simp only [conc, hup, Option.bind_some, capC, Option.getD_none]
        rw [if_pos (by omega)]
        simp only [Option.map_some, ite2_eq, nbeqI]
        split <;> simp [add_addr, Nat.add_assoc]
      | none =>
        have h : ch (Nat.ble (l.getD 0) (hh.getD s.len) && Nat.ble (hh.getD s.len) s.len) (ite2 (Nat.beq (hh.getD s.len) (l.getD 0) && !Nat.beq (l.getD 0) 0) (some (.slc nid 0 0 (.unk 0 (capZ s.cap)))) (some (.slc s.id (s.off + l.getD 0 * e.size) (hh.getD s.len - l.getD 0) (.unk (capU s.cap + l.getD 0) (capZ s.cap))))) = some v := by
          simpa [sliceA, hk] using hS
        obtain ⟨hb, h⟩ := ch_some h
        simp only [Bool.and_eq_true] at hb
        have hb1 := nble hb.1
        have hb2 := nble hb.2
        obtain ⟨q, zz, hcap⟩ : ∃ q zz, s.cap = .unk q zz := by
          cases hcap : s.cap with
          | known q => rw [hcap] at hk; cases hk
          | unk q zz => exact ⟨q, zz, rfl⟩
        rw [hcap] at hc h
        simp only [capC] at hc
        split at hc
        · rename_i hcc
          cases hc
          rw [ite2_eq] at h
          split at h
          · rename_i hl0
            cases h
            simp only [Bool.and_eq_true, nbeqI] at hl0
            obtain ⟨hl1, hl2⟩ := hl0
            refine ⟨⟨en.blk, if en.cap - q = l.getD 0 then en.sh + s.off else en.sh + s.off + l.getD 0 * e.size, en.cap - q - l.getD 0, en.esz⟩, _, ?_, hgen _ _ _ (hMH (.inl rfl)) hb1 (by simp; omega) (Nat.le_refl _)⟩
            by_cases hml : en.cap - q = l.getD 0
            · simp [conc, upd_self, capC, capZ, hcc.1, hml, hl1]
            · simp [conc, upd_self, capC, capZ, hcc.1, hml, hl1, add_addr]
          · rename_i hl0
            cases h
            refine ⟨⟨0, 0, 0, 0⟩, _, ?_, hgen _ _ _ (hMH (.inl rfl)) hb1 (by simp; omega) (Nat.le_refl _)⟩
            have hcap2 : capC en (hh.getD s.len - l.getD 0) (.unk (capU (Cap.unk q zz) + l.getD 0) (capZ (Cap.unk q zz))) = some (en.cap - (q + l.getD 0)) := by
              show (if en.esz = zz ∧ hh.getD s.len - l.getD 0 ≤ en.cap - (q + l.getD 0) then some (en.cap - (q + l.getD 0)) else none) = _
              rw [if_pos ⟨hcc.1, by omega⟩]
            simp only [conc, hup, Option.bind_some, hcap2, Option.getD_none]
            simp only [Option.map_some, Option.some.injEq]
            have hne0 : ¬ (en.cap - q = l.getD 0) ∨ l.getD 0 = 0 := by
              simp only [Bool.and_eq_true, nbeqI, Bool.not_eq_true', not_and] at hl0
              by_cases h0 : l.getD 0 = 0
              · exact .inr h0
              · left
                intro h1
                have : hh.getD s.len = l.getD 0 := by omega
                have := hl0 this
                rw [Bool.eq_false_iff] at this
                exact this (fun e0 => by rw [nbeqI] at e0; exact h0 e0)
            rcases hne0 with h0 | h0
            · rw [if_neg h0]
              simp [add_addr, Nat.add_assoc, Nat.sub_sub]
            · rw [h0]
              simp [add_addr, Nat.sub_sub]
        · cases hc
    | some mm =>
      have h : ch ((Nat.ble (l.getD 0) (hh.getD 0) && hh.isSome) && (Nat.ble (hh.getD 0) mm && Nat.ble mm s.len)) (some (.slc s.id (ite2 (Nat.beq mm (l.getD 0)) s.off (s.off + l.getD 0 * e.size)) (hh.getD 0 - l.getD 0) (.known (mm - l.getD 0)))) = some v := by
        simpa [sliceA] using hS
      obtain ⟨hb, h⟩ := ch_some h
      cases h
      simp only [Bool.and_eq_true] at hb
      obtain ⟨⟨hb1, hb2⟩, hb3, hb4⟩ := hb
      have hb1 := nble hb1
      have hb3 := nble hb3
      have hb4 := nble hb4
      have hD : hh.getD s.len = hh.getD 0 := by
        cases hh with
        | none => cases hb2
        | some _ => rfl
      have hlc : s.len ≤ c := by
        revert hc
        cases s.cap <;> simp only [capC] <;> intro hc <;> split at hc <;> (first | (cases hc; omega) | cases hc)
      refine ⟨⟨0, 0, 0, 0⟩, _, ?_, hgen _ _ _ (hMH (.inr hb2)) (by rw [hD]; exact hb1) (by rw [hD]; simpa using hb3) (by simp; omega)⟩
      simp only [conc, hup, Option.bind_some, capC, Option.getD_some, hD]
      rw [if_pos (by omega)]
      simp only [Option.map_some, ite2_eq, nbeqI]
      split <;> simp [add_addr, Nat.add_assoc]
end
end Go.Proofs.YtenadfoomejmkaaGreatDoor.Eng
