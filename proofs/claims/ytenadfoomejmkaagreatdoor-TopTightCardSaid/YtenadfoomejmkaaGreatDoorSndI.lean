import Derived.Test.YtenadfoomejmkaaGreatDoorSndH
import Derived.MapKept
import Derived.Laws.StructEq
/- The engine's soundness, ninth part: slicing, reading, making. -/
namespace Go.Proofs.YtenadfoomejmkaaGreatDoor.Eng
open Go
set_option linter.unusedSimpArgs false
set_option linter.unusedVariables false
section
variable (ω : Bool → Int) (hω : ω true ≠ ω false)
theorem slice_ok {φ : Phi} {T : Fr} {n : Nat} {a : Act} (hT : TRel ω φ T n a.tmps) (hg : G0 φ) {o : Oper} {f : Fr → Nat → Option AV} (hc : cls o.op = .slice f) {nid : Nat} {v : AV} (h : f T nid = some v) (hn : φ nid = none) :
    ∃ e' x, conc ω (upd φ nid e') v = some x ∧ ∀ w, (execOp a.eval o).run PP w = .ok (.value x) w := by
  obtain ⟨dst, op, type, pos, after, guard⟩ := o
  simp only at hc
  cases op
  case slice t x lo hi mx =>
    cases hc
    obtain ⟨e', X, hX, hgv⟩ := sliceP_ok ω hT hg h hn
    exact ⟨e', X, hX, fun w => gv hgv w⟩
  case convert s d x =>
    unfold cls at hc
    simp only [clsV] at hc
    split at hc <;> cases hc
  case call c =>
    unfold cls at hc
    simp only [clsC] at hc
    split at hc
    · cases hc
    · cases hc
    · rename_i b hb
      cases b
      all_goals cases hc
  all_goals cases hc
/-! ### reading -/
theorem getC_some {H : Tr AObj} {id : Nat} {l : List AV} (h : getC H id = some l) : ∃ ro, H.get id = some (.cells ro l) := by
  obtain ⟨o, ho, h⟩ := ob_some h
  cases o with
  | cells ro l' => cases (show some l' = some l from h); exact ⟨ro, ho⟩
  | map es => exact nomatch (show none = some l from h)
  | loop => exact nomatch (show none = some l from h)
  | dfr => exact nomatch (show none = some l from h)
theorem getW_some {H : Tr AObj} {id : Nat} {l : List AV} (h : getW H id = some l) : H.get id = some (.cells false l) := by
  obtain ⟨o, ho, h⟩ := ob_some h
  cases o with
  | cells ro l' =>
    have h : ite2 ro none (some l') = some l := h
    rw [ite2_eq] at h
    cases ro with
    | true => cases h
    | false => cases h; exact ho
  | map es => exact nomatch (show none = some l from h)
  | loop => exact nomatch (show none = some l from h)
  | dfr => exact nomatch (show none = some l from h)
theorem getM_some {H : Tr AObj} {id : Nat} {l : List (AV × AV)} (h : getM H id = some l) : H.get id = some (.map l) := by
  obtain ⟨o, ho, h⟩ := ob_some h
  cases o with
  | cells ro l' => exact nomatch (show none = some l from h)
  | map es => cases (show some es = some l from h); exact ho
  | loop => exact nomatch (show none = some l from h)
  | dfr => exact nomatch (show none = some l from h)
/-- the cells that an object tells lie in memory -/
theorem Rel.cells {φ : Phi} {H : Hp} {w : World} (h : Rel ω φ H w) {id : Nat} {ro : Bool} {l : List AV} (ho : H.t.get id = some (.cells ro l)) {e : Ent} (he : φ id = some e) :
    ∃ L, concL ω φ l = some L ∧ ∀ i x, L[i]? = some x → w.cell? ⟨e.blk, e.sh + i, none⟩ = some x := by
  obtain ⟨e', he', _, c, el, fz, h1, h2, h3, h4, h5⟩ := h.obj id _ ho
  rw [he] at he'
  cases he'
  refine ⟨((c.toList.drop e.sh).take l.length), concL_of ω (by simp; omega) fun i v hv => ?_, fun i x hx => ?_⟩
  · obtain ⟨x, hx, hc⟩ := h5 i v hv
    refine ⟨x, hx, ?_⟩
    rw [List.getElem?_take, if_pos (by have := (List.getElem?_eq_some_iff.1 hv).1; omega), List.getElem?_drop]
    simpa using hc
  · rw [List.getElem?_take] at hx
    split at hx
    · rw [List.getElem?_drop] at hx
      simp only [World.cell?, h1]
      simpa using hx
    · cases hx
theorem loadA_ok {φ : Phi} {H : Hp} {w : World} (h : Rel ω φ H w) {t : Nat} {v r : AV} {X : Value} (hl : loadA t v H.t = some r) (hx : conc ω φ v = some X) : ∃ x, conc ω φ r = some x ∧ (Instr.loadAt t X).run PP w = .ok x w := by
  obtain ⟨q, hq, hl⟩ := ob_some hl
  obtain ⟨p, hp, hl⟩ := ob_some hl
  obtain ⟨l, hgl, hl⟩ := ob_some hl
  obtain ⟨x, hcut, hF⟩ := ob_some hl
  clear hl
  obtain ⟨i, hi, hq⟩ := ob_some hq
  cases hq
  obtain ⟨I, d, z, hty⟩ := tyG_ok ω hi
  have := asPtr_eq hp
  subst this
  simp only [conc, Option.map_eq_some_iff] at hx
  obtain ⟨e, he, rfl⟩ := hx
  obtain ⟨ro, hro⟩ := getC_some hgl
  obtain ⟨L, hL, hcell⟩ := h.cells ω hro he
  obtain ⟨hX, hle⟩ := concL_cut ω hcut hL
  obtain ⟨h3, h4⟩ := ofCells_ok ω hF hX
  refine ⟨_, h3, ?_⟩
  have hlen : ((L.drop p.2).take i.size).length = i.size := by simp; omega
  have hrd : ∀ j v, ((L.drop p.2).take i.size)[j]? = some v → w.cell? (Addr.add ⟨e.blk, e.sh + p.2, none⟩ j) = some v := fun j v hv => by
    rw [List.getElem?_take] at hv
    split at hv
    · rw [List.getElem?_drop] at hv
      rw [add_addr, Nat.add_assoc]
      exact hcell _ _ hv
    · cases hv
  simp only [Instr.loadAt, Instr.sureAddr, Sem.run_bind, Sem.run_pure, Result.andThen_ok, loadVar, hty.run_agg ω]
  cases hag : i.agg with
  | true =>
    have := run_loadCells_list (P := PP) w ⟨e.blk, e.sh + p.2, none⟩ _ hrd
    rw [hlen] at this
    simp [hty.run_size ω, this]
  | false =>
    have h5 := h4 hag
    have : w.cell? ⟨e.blk, e.sh + p.2, none⟩ = some (((L.drop p.2).take i.size).headD undef) := by
      have := hrd 0 _ (by rw [h5]; rfl)
      simpa [add_addr] using this
    simp [this]
theorem read_load_ok {φ : Phi} {T : Fr} {n : Nat} {a : Act} {H : Hp} {w : World} (h : Rel ω φ H w) (hT : TRel ω φ T n a.tmps) {t : TypeId} {x : Operand} {v : AV} (hl : (ob (evo x T) fun v => loadA t v H.t) = some v) : ∃ y, conc ω φ v = some y ∧ (Instr.loadAt t (a.eval x)).run PP w = .ok y w := by
  obtain ⟨u, hu, hl⟩ := ob_some hl
  exact loadA_ok ω h hl (evo_ok ω hT h.g0 hu)
/-! ### maps -/
theorem isI64_ok {v : AV} (h : isI64 v = true) : ∃ n, v = .int .i64 n := by
  cases v
  case int k n => exact ⟨n, by rw [kindEq_eq (show kindEq k .i64 = true from h)]⟩
  all_goals exact nomatch (show false = true from h)
theorem und3 : PP.underlying 3 = some (.int .i64) := by kernel_rfl
theorem keyForm_ok {φ : Phi} {b : Bool} {k : AV} {K : Value} (h : keyForm b k = true) (hk : conc ω φ k = some K) : (b = false ∧ ∃ n, k = .int .i64 n ∧ K = .int .i64 n) ∨ (b = true ∧ ∃ n m, k = .agg [.int .i64 n, .int .i64 m] ∧ K = .agg #[.int .i64 n, .int .i64 m]) := by
  unfold keyForm at h
  rw [ite2_eq] at h
  cases b with
  | false =>
    rw [if_neg (by decide)] at h
    obtain ⟨n, rfl⟩ := isI64_ok h
    cases hk
    exact .inl ⟨rfl, n, rfl, rfl⟩
  | true =>
    rw [if_pos rfl] at h
    right
    cases ha : asAgg k with
    | none => rw [ha] at h; exact nomatch (show false = true from h)
    | some l =>
      rw [ha] at h
      have := asAgg_eq ha
      subst this
      match l, h with
      | [x, y], h =>
        have h : (isI64 x && isI64 y) = true := h
        simp only [Bool.and_eq_true] at h
        obtain ⟨n, rfl⟩ := isI64_ok h.1
        obtain ⟨m, rfl⟩ := isI64_ok h.2
        simp [conc, concL] at hk
        exact ⟨rfl, n, m, rfl, hk.symm⟩
theorem checkKey_int (n : Int) (e : Bool) (w : World) : (Instr.checkKey e 10000 3 (.int .i64 n)).run PP w = .ok () w := MapKept.run_checkKey und3 (by simp [MapKept.IsKey]) e 9999
theorem checkKey_pair (n m : Int) (e : Bool) (w : World) : (Instr.checkKey e 10000 223 (.agg #[.int .i64 n, .int .i64 m])).run PP w = .ok () w := by
  have key : ∀ d, (Instr.checkKey e (d + 1 + 1) 223 (.agg #[.int .i64 n, .int .i64 m])).run PP w = .ok () w := fun d => by
    have h3 : ∀ (q : Int) w, (Instr.checkKey e (d + 1) 3 (.int .i64 q)).run PP w = .ok () w := fun q w => MapKept.run_checkKey und3 (by simp [MapKept.IsKey]) e d
    have hag : ∀ w, (isAgg 3).run PP w = .ok false w := fun w => by simp [isAgg, run_underlying und3]
    simp only [Instr.checkKey, Sem.run_bind, run_underlying Tryz.underlying223, Result.andThen_ok]
    simp [part, hag, h3]
  exact key 9998
theorem keyEq1_int {k a : AV} {b : Bool} (h : keyEq1 k a = some b) : ∃ kk n m, k = .int kk n ∧ a = .int kk m ∧ b = (n == m) := by
  obtain ⟨p, hp, h⟩ := ob_some h
  obtain ⟨q, hq, h⟩ := ob_some h
  obtain ⟨hk, h⟩ := ch_some h
  cases h
  have h1 := asInt_eq hp
  have h2 := asInt_eq hq
  have := kindEq_eq hk
  exact ⟨p.1, p.2, q.2, h1, by rw [h2, this], eqF_dec _ _⟩
theorem keyEq_int {kk : IntKind} {n : Int} {a : AV} {b : Bool} (h : keyEq (.int kk n) a = some b) : ∃ m, a = .int kk m ∧ b = (n == m) := by
  obtain ⟨_, _, m, h1, h2, h3⟩ := keyEq1_int (show keyEq1 (.int kk n) a = some b from h)
  cases h1
  exact ⟨m, h2, h3⟩
theorem keyEq_pair {n m : Int} {a : AV} {b : Bool} (h : keyEq (.agg [.int .i64 n, .int .i64 m]) a = some b) : ∃ n' m', a = .agg [.int .i64 n', .int .i64 m'] ∧ b = (n == n' && m == m') := by
  obtain ⟨r, hr, h⟩ := ob_some (show ob (asAgg a) _ = some b from h)
  have := asAgg_eq hr
  subst this
  match r, h with
  | [z, y], h =>
    obtain ⟨c, hc, h⟩ := ob_some (show ob (keyEq1 (.int .i64 n) z) _ = some b from h)
    obtain ⟨d, hd, h⟩ := ob_some h
    cases h
    obtain ⟨_, _, n', h1, rfl, rfl⟩ := keyEq1_int hc
    obtain ⟨_, _, m', h2, rfl, rfl⟩ := keyEq1_int hd
    cases h1
    cases h2
    exact ⟨n', m', rfl, rfl⟩
  | [], h => exact nomatch (show (none : Option Bool) = some b from h)
  | [_], h => exact nomatch (show (none : Option Bool) = some b from h)
  | _ :: _ :: _ :: _, h => exact nomatch (show (none : Option Bool) = some b from h)
theorem ofUnd {t : TypeId} {fs : Array Field} (h : PP.underlying t = some (.struct fs)) : PP.fieldsOf t = fs := by
  unfold Program.fieldsOf
  rw [h]
/-- two pairs, compared -/
theorem equal_pair (n m n' m' : Int) (w : World) : (Op.equal 223 (.agg #[.int .i64 n, .int .i64 m]) (.agg #[.int .i64 n', .int .i64 m'])).run PP w = .ok (n == n' && m == m') w := by
  have h3 : ∀ d (p q : Int) w, (Op.equalIn (d + 1) 3 (.int .i64 p) (.int .i64 q)).run PP w = .ok (p == q) w := fun d p q w => run_equalIn_int w d 3 .i64 .i64 p q und3
  have hag : ∀ w, (isAgg 3).run PP w = .ok false w := fun w => by simp [isAgg, run_underlying und3]
  have key : ∀ d, (Op.equalIn (d + 1 + 1) 223 (.agg #[.int .i64 n, .int .i64 m]) (.agg #[.int .i64 n', .int .i64 m'])).run PP w = .ok (n == n' && m == m') w := fun d => by
    rw [run_equalIn_struct w (d + 1) 223 _ _ (by kernel_rfl) (by kernel_rfl)]
    have hfs := ofUnd Tryz.underlying223
    rw [hfs]
    simp only [Op.eqFields, part, Sem.run_bind, hag, Result.andThen_ok]
    cases h1 : (n == n') <;> cases h2 : (m == m') <;> simp [part, hag, h3, h1, h2, Op.eqFields]
  exact key 9998
/-- a key's place among the entries -/
theorem findA_int {φ : Phi} {kk : IntKind} {n : Int} : ∀ {es : List (AV × AV)} {ms : List MapEntry} {r : Option AV} (i : Nat), EntsOk ω φ es ms → findA (.int kk n) es = some r →
    (r = none ∧ Instr.findNow (.int kk) (.int kk n) ms i = some none) ∨ (∃ v V j, r = some v ∧ conc ω φ v = some V ∧ Instr.findNow (.int kk) (.int kk n) ms i = some (some (j, V)))
  | [], [], r, i, _, h => by
    cases h
    exact .inl ⟨rfl, rfl⟩
  | p :: es, m :: ms, r, i, he, h => by
    obtain ⟨h1, h2, h3⟩ := he
    obtain ⟨b, hb, h⟩ := ob_some (show ob (keyEq (.int kk n) p.1) _ = some r from h)
    obtain ⟨n', hp, rfl⟩ := keyEq_int hb
    rw [hp] at h1
    have hm : m.key = .int kk n' := by simpa [conc] using h1.symm
    have hs : Instr.sameNow (.int kk) (.int kk n) m.key = some (n == n') := by simp [Instr.sameNow, hm]
    rw [ite2_eq] at h
    split at h
    · rename_i hn
      cases h
      exact .inr ⟨p.2, m.val, i, rfl, h2, by simp [Instr.findNow, hs, hn]⟩
    · rename_i hn
      have hn : (n == n') = false := by simpa using hn
      rcases findA_int (i + 1) h3 h with ⟨rfl, h6⟩ | ⟨v, V, j, rfl, hV, hF⟩
      · exact .inl ⟨rfl, by simp [Instr.findNow, hs, hn, h6]⟩
      · exact .inr ⟨v, V, j, rfl, hV, by simp [Instr.findNow, hs, hn, hF]⟩
  | [], _ :: _, _, _, he, _ => he.elim
  | _ :: _, [], _, _, he, _ => he.elim
theorem findA_pair {φ : Phi} {n m : Int} : ∀ {es : List (AV × AV)} {ms : List MapEntry} {r : Option AV} (i : Nat), EntsOk ω φ es ms → findA (.agg [.int .i64 n, .int .i64 m]) es = some r →
    (r = none ∧ ∀ w, (Instr.findAsking 223 (.agg #[.int .i64 n, .int .i64 m]) ms i).run PP w = .ok none w) ∨ (∃ v V j, r = some v ∧ conc ω φ v = some V ∧ ∀ w, (Instr.findAsking 223 (.agg #[.int .i64 n, .int .i64 m]) ms i).run PP w = .ok (some (j, V)) w)
  | [], [], r, i, _, h => by
    cases h
    exact .inl ⟨rfl, fun w => by simp [Instr.findAsking]⟩
  | p :: es, e :: ms, r, i, he, h => by
    obtain ⟨h1, h2, h3⟩ := he
    obtain ⟨b, hb, h⟩ := ob_some (show ob (keyEq (.agg [.int .i64 n, .int .i64 m]) p.1) _ = some r from h)
    obtain ⟨n', m', hp, rfl⟩ := keyEq_pair hb
    rw [hp] at h1
    have hm : e.key = .agg #[.int .i64 n', .int .i64 m'] := by simpa [conc, concL] using h1.symm
    have hs : ∀ w, (Op.equal 223 (.agg #[.int .i64 n, .int .i64 m]) e.key).run PP w = .ok (n == n' && m == m') w := fun w => by rw [hm]; exact equal_pair n m n' m' w
    rw [ite2_eq] at h
    split at h
    · rename_i hn
      cases h
      exact .inr ⟨p.2, e.val, i, rfl, h2, fun w => by simp only [Instr.findAsking, Sem.run_bind, hs, hn, Result.andThen_ok, if_true, Sem.run_pure]⟩
    · rename_i hn
      have hn : (n == n' && m == m') = false := by simpa using hn
      rcases findA_pair (i + 1) h3 h with ⟨rfl, h6⟩ | ⟨v, V, j, rfl, hV, hF⟩
      · exact .inl ⟨rfl, fun w => by simp only [Instr.findAsking, Sem.run_bind, hs, hn, Result.andThen_ok, Bool.false_eq_true, if_false, h6]⟩
      · exact .inr ⟨v, V, j, rfl, hV, fun w => by simp only [Instr.findAsking, Sem.run_bind, hs, hn, Result.andThen_ok, Bool.false_eq_true, if_false, hF]⟩
  | [], _ :: _, _, _, he, _ => he.elim
  | _ :: _, [], _, _, he, _ => he.elim
theorem findKey223 (K : Value) (es : List MapEntry) (w : World) : (Instr.findKey 223 K es).run PP w = (Instr.findAsking 223 K es 0).run PP w := by
  cases es with
  | nil => simp [Instr.findKey, run_underlying Tryz.underlying223, Instr.findNow, Instr.findAsking]
  | cons e es => simp [Instr.findKey, run_underlying Tryz.underlying223, Instr.findNow, Instr.sameNow]
/-- the search, run -/
theorem findKey_ok {φ : Phi} {b : Bool} {k : AV} {K : Value} (hk : conc ω φ k = some K) (hf : keyForm b k = true) {es : List (AV × AV)} {ms : List MapEntry} {r : Option AV} (he : EntsOk ω φ es ms) (h : findA k es = some r) :
    ∃ R, (∀ w, (Instr.findKey (if b = true then 223 else 3) K ms).run PP w = .ok R w) ∧ ((r = none ∧ R = none) ∨ ∃ v V j, r = some v ∧ conc ω φ v = some V ∧ R = some (j, V)) := by
  rcases keyForm_ok ω hf hk with ⟨rfl, n, rfl, rfl⟩ | ⟨rfl, n, m, rfl, rfl⟩
  · rcases findA_int ω 0 he h with ⟨rfl, h6⟩ | ⟨v, V, j, rfl, hV, hF⟩
    · exact ⟨none, fun w => by simp [Instr.findKey, run_underlying und3, h6], .inl ⟨rfl, rfl⟩⟩
    · exact ⟨some (j, V), fun w => by simp [Instr.findKey, run_underlying und3, hF], .inr ⟨v, V, j, rfl, hV, rfl⟩⟩
  · rcases findA_pair ω 0 he h with ⟨rfl, h6⟩ | ⟨v, V, j, rfl, hV, hF⟩
    · exact ⟨none, fun w => (findKey223 _ _ w).trans (h6 w), .inl ⟨rfl, rfl⟩⟩
    · exact ⟨some (j, V), fun w => (findKey223 _ _ w).trans (hF w), .inr ⟨v, V, j, rfl, hV, rfl⟩⟩
theorem checkKey_ok {φ : Phi} {b : Bool} {k : AV} {K : Value} (hk : conc ω φ k = some K) (hf : keyForm b k = true) (e : Bool) (w : World) : (Instr.checkKey e 10000 (if b = true then 223 else 3) K).run PP w = .ok () w := by
  rcases keyForm_ok ω hf hk with ⟨rfl, n, rfl, rfl⟩ | ⟨rfl, n, m, rfl, rfl⟩
  · exact checkKey_int n e w
  · exact checkKey_pair n m e w
theorem Rel.mapAt {φ : Phi} {H : Hp} {w : World} (h : Rel ω φ H w) {id : Nat} {es : List (AV × AV)} (ho : H.t.get id = some (.map es)) {e : Ent} (he : φ id = some e) :
    ∃ ms clock, w.heap[e.blk]? = some (.map ms clock) ∧ EntsOk ω φ es ms.toList := by
  obtain ⟨e', he', _, ms, cl, h1, h2⟩ := h.obj id _ ho
  rw [he] at he'
  cases he'
  exact ⟨ms, cl, h1, h2⟩
theorem lookA_ok {φ : Phi} {H : Hp} {w : World} (h : Rel ω φ H w) {t : Nat} {m k r : AV} {ok : Bool} {M K : Value} (hl : lookA t m k ok H.t = some r) (hm : conc ω φ m = some M) (hk : conc ω φ k = some K) :
    ∃ x, conc ω φ r = some x ∧ (Instr.lookup t M K ok).run PP w = .ok x w := by
  obtain ⟨i, hi, hl⟩ := ob_some hl
  obtain ⟨e, he, hl⟩ := ob_some hl
  obtain ⟨ei, hei, hl⟩ := ob_some hl
  obtain ⟨hkf, hl⟩ := ch_some hl
  obtain ⟨id, hid, hl⟩ := ob_some hl
  obtain ⟨es, hes, hl⟩ := ob_some hl
  obtain ⟨rr, hr, hF⟩ := ob_some hl
  clear hl
  obtain ⟨I, d, z, hty⟩ := tyG_ok ω hi
  obtain ⟨I2, d2, z2, hty2⟩ := tyG_ok ω hei
  have hd := kMap_ok ω hty he
  have := asMap_eq hid
  subst this
  simp only [conc, Option.map_eq_some_iff] at hm
  obtain ⟨en, hen, rfl⟩ := hm
  obtain ⟨ms, cl, h1, h2⟩ := h.mapAt ω (getM_some hes) hen
  obtain ⟨R, hR, hRR⟩ := findKey_ok ω hk hkf h2 hr
  have hgo : (getObj en.blk).run PP w = .ok (.map ms cl) w := by simp [getObj, Sem.run, h1]
  have hck := checkKey_ok ω hk hkf
  subst hd
  have hu := hty.run_und ω
  have hz2 := hty2.run_zero ω
  rcases hRR with ⟨rfl, rfl⟩ | ⟨v, V, j, rfl, hV, rfl⟩
  · obtain ⟨zz, hz, hF⟩ := ob_some (show ob (ofCells ei.agg ei.zero) _ = some r from hF)
    have hcz := ofCells_ok ω hz (hty2.zc φ)
    have hzv : conc ω φ zz = some z2 := by
      rw [hcz.1]
      congr 1
      cases hag : ei.agg with
      | true =>
        rw [if_pos rfl]
        have := hty2.za
        rw [hag] at this
        cases z2
        case agg => simp [Value.cells]
        all_goals cases this
      | false =>
        rw [if_neg (by decide)]
        have := hty2.za
        rw [hag] at this
        cases z2 <;> first | rfl | cases this
    rw [ite2_eq] at hF
    refine ⟨if ok = true then .tuple #[z2, .bool false] else z2, ?_, ?_⟩
    · split at hF <;> cases hF <;> simp [conc, concL, hzv, *]
    · simp only [Instr.lookup, Sem.run_bind, hu, Result.andThen_ok, hgo, Sem.run_pure, hck, hR, hz2]
  · have hF : some (ite2 ok (AV.tup [v, .bool true]) v) = some r := hF
    cases hF
    refine ⟨if ok = true then .tuple #[V, .bool true] else V, ?_, ?_⟩
    · rw [ite2_eq]; split <;> simp [conc, concL, hV]
    · simp only [Instr.lookup, Sem.run_bind, hu, Result.andThen_ok, hgo, Sem.run_pure, hck, hR]
theorem read_ok {φ : Phi} {T : Fr} {n : Nat} {a : Act} {H : Hp} {w : World} (h : Rel ω φ H w) (hT : TRel ω φ T n a.tmps) {o : Oper} {f : Fr → Tr AObj → Option AV} (hc : cls o.op = .read f) {v : AV} (hv : f T H.t = some v) :
    ∃ x, conc ω φ v = some x ∧ (execOp a.eval o).run PP w = .ok (.value x) w := by
  obtain ⟨dst, op, type, pos, after, guard⟩ := o
  simp only at hc
  cases op
  case load t x =>
    cases hc
    obtain ⟨y, hy, hr⟩ := read_load_ok ω h hT hv
    exact ⟨y, hy, by simp [execOp, hr]⟩
  case lookup t m k ok =>
    cases hc
    obtain ⟨u, hu, hv⟩ := ob_some hv
    obtain ⟨s, hs, hv⟩ := ob_some hv
    obtain ⟨y, hy, hr⟩ := lookA_ok ω h hv (evo_ok ω hT h.g0 hu) (evo_ok ω hT h.g0 hs)
    exact ⟨y, hy, by simp [execOp, hr]⟩
  case convert s d x =>
    unfold cls at hc
    simp only [clsV] at hc
    split at hc <;> cases hc
  case call c =>
    unfold cls at hc
    simp only [clsC] at hc
    split at hc
    · cases hc
    · cases hc
    · rename_i b hb
      cases b
      all_goals cases hc
  all_goals cases hc
end
end Go.Proofs.YtenadfoomejmkaaGreatDoor.Eng
