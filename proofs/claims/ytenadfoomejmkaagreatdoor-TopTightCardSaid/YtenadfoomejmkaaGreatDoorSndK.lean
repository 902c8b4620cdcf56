import Derived.Test.YtenadfoomejmkaaGreatDoorSndJ
import Derived.RangeFuncRecord
/- The engine's soundness, eleventh part: stores, maps, rows that grow. -/
namespace Go.Proofs.YtenadfoomejmkaaGreatDoor.Eng
open Go
set_option linter.unusedSimpArgs false
set_option linter.unusedVariables false
section
variable (ω : Bool → Int) (hω : ω true ≠ ω false)
/-- an object changed in its block -/
theorem Rel.change {φ : Phi} {H : Hp} {w w' : World} (h : Rel ω φ H w) {id : Nat} {o0 o : AObj} {e : Ent} (hid : H.t.get id = some o0) (he : φ id = some e) (hs : w'.heap.size = w.heap.size) (hb : ∀ b, b ≠ e.blk → w'.heap[b]? = w.heap[b]?) (ho : ObjOk ω φ w' e o) (hro : ∀ l, o0 ≠ .cells true l := by intro l hl; cases hl) (hos : w'.os = w.os ∧ w'.output = w.output := by exact ⟨rfl, rfl⟩) :
    Rel ω φ ⟨Tr.put dep id (some o) H.t, H.nx⟩ w' ∧ Post φ H w φ ⟨Tr.put dep id (some o) H.t, H.nx⟩ w' := by
  obtain ⟨e', he', hlim, hok⟩ := h.obj id _ hid
  rw [he] at he'
  cases he'
  have hdis : ∀ j oj ej, j ≠ id → H.t.get j = some oj → φ j = some ej → ej.blk ≠ e.blk := fun j oj ej hj hoj hej hb => hj (h.inj j id oj o0 ej e hoj hid hej he hb)
  have halive : ∀ b, Alive φ ⟨Tr.put dep id (some o) H.t, H.nx⟩ b → Alive φ H b := fun b ⟨i, oi, ei, h1, h2, h3⟩ => by
    rw [get_put _ _ _ _ hlim] at h1
    split at h1
    · rename_i hi
      subst hi
      exact ⟨_, o0, ei, hid, h2, h3⟩
    · exact ⟨i, oi, ei, h1, h2, h3⟩
  refine ⟨⟨h.fresh, h.g0, fun i oi hi => ?_, fun i j oi oj ei ej hi hj hei hej hbl => ?_⟩, ⟨fun _ _ => rfl, Nat.le_refl _, by rw [hs]; exact Nat.le_refl _, fun i oi hi _ => ?_, fun b hb' _ => halive b hb', fun b _ hna => hb b fun e0 => hna ⟨id, o0, e, hid, he, e0.symm⟩, fun i l ei _ hi hei => ?_, hos⟩⟩
  · rw [get_put _ _ _ _ hlim] at hi
    split at hi
    · rename_i hii
      subst hii
      cases hi
      exact ⟨e, he, hlim, ho⟩
    · rename_i hii
      obtain ⟨ei, h1, h2, h3⟩ := h.obj i oi hi
      exact ⟨ei, h1, h2, ObjOk.mono ω (fun _ _ h => h) (hb _ (hdis i oi ei hii hi h1)) h3⟩
  · have key : ∀ k ok, (Tr.put dep id (some o) H.t).get k = some ok → ∃ ok', H.t.get k = some ok' := fun k ok hk => by
      rw [get_put _ _ _ _ hlim] at hk
      split at hk
      · rename_i hkk; subst hkk; exact ⟨_, hid⟩
      · exact ⟨_, hk⟩
    obtain ⟨oi', hi'⟩ := key i oi hi
    obtain ⟨oj', hj'⟩ := key j oj hj
    exact h.inj i j oi' oj' ei ej hi' hj' hei hej hbl
  · have hi : (Tr.put dep id (some o) H.t).get i = some oi := hi
    rw [get_put _ _ _ _ hlim] at hi
    split at hi
    · rename_i hii; subst hii; exact ⟨_, hid⟩
    · exact ⟨_, hi⟩
  · have hne : i ≠ id := fun e0 => by subst e0; rw [hid] at hi; cases hi; exact hro _ rfl
    exact ⟨by show (Tr.put dep id (some o) H.t).get i = _; rw [get_put _ _ _ _ hlim, if_neg hne]; exact hi, hb _ (hdis i _ ei hne hi hei)⟩
/-- an operation's doing -/
def Does (φ : Phi) (H : Hp) (w : World) (s : _root_.Go.Sem Next) (v : AV) (H' : Hp) : Prop :=
  ∃ φ' w' x, (s.run PP w = .ok (.value x) w' ∨ (s.run PP w = .ok .skip w' ∧ x = undef)) ∧ conc ω φ' v = some x ∧ Rel ω φ' H' w' ∧ Post φ H w φ' H' w'
/-- cells laid over others, in memory -/
theorem over_ok {φ : Phi} {H : Hp} {w : World} (h : Rel ω φ H w) {id off : Nat} {l x y : List AV} {e : Ent} (ho : H.t.get id = some (.cells false l)) (he : φ id = some e) (hp : paste off x l = some y) {X : List Value} (hX : concL ω φ x = some X) (h1 : ∀ v ∈ X, v.oneCell' = true) :
    ∃ w', (storeCells ⟨e.blk, e.sh + off, none⟩ X).run PP w = .ok () w' ∧ Rel ω φ ⟨Tr.put dep id (some (.cells false y)) H.t, H.nx⟩ w' ∧ Post φ H w φ ⟨Tr.put dep id (some (.cells false y)) H.t, H.nx⟩ w' := by
  obtain ⟨e', he', hlim, c, el, fz, g1, g2, g3, g4, g5⟩ := h.obj id _ ho
  rw [he] at he'
  cases he'
  have := g2 rfl
  subst this
  obtain ⟨hy, hle⟩ := paste_some hp
  have hxl := concL_length ω hX
  have hrun := run_storeCells_atF PP e.blk (e.sh + off) el (0, 0) X 0 c w g1 (Nat.zero_le _) (by omega) h1
  refine ⟨_, hrun, h.change ω ho he (by simp) (fun b hb => setRow_other w e.blk b _ hb) ?_⟩
  refine ⟨_, el, (0, 0), setRow_heap w e.blk c _ el (0, 0) g1, fun _ => rfl, ?_, ?_, fun i v hv => ?_⟩
  · rw [hy]; simp; omega
  · simp; omega
  · rw [hy] at hv
    have hcl : c.toList.length = c.size := by simp
    by_cases hi1 : i < off
    · rw [List.append_assoc, List.getElem?_append_left (by simp; omega), List.getElem?_take, if_pos hi1] at hv
      obtain ⟨z, hz, hc⟩ := g5 i v hv
      refine ⟨z, hz, ?_⟩
      rw [List.getElem?_toArray, List.append_assoc, List.getElem?_append_left (by simp; omega), List.getElem?_take, if_pos (by omega)]
      simpa using hc
    · by_cases hi2 : i < off + x.length
      · rw [List.append_assoc, List.getElem?_append_right (by simp; omega), List.getElem?_append_left (by simp; omega)] at hv
        obtain ⟨z, hz, hc⟩ := concL_get ω hX _ v hv
        refine ⟨z, hz, ?_⟩
        rw [List.getElem?_toArray, List.append_assoc, List.getElem?_append_right (by simp; omega), List.getElem?_append_left (by simp; omega)]
        rw [← hc]
        congr 1
        simp
        omega
      · rw [List.append_assoc, List.getElem?_append_right (by simp; omega), List.getElem?_append_right (by simp; omega), List.getElem?_drop] at hv
        have hi3 : i < l.length := by
          have := (List.getElem?_eq_some_iff.1 hv).1
          simp at this
          omega
        have he2 : off + x.length + (i - (List.take off l).length - x.length) = i := by simp; omega
        rw [he2] at hv
        obtain ⟨z, hz, hc⟩ := g5 i v hv
        refine ⟨z, hz, ?_⟩
        rw [List.getElem?_toArray, List.append_assoc, List.getElem?_append_right (by simp; omega), List.getElem?_append_right (by simp; omega), List.getElem?_drop]
        rw [← hc]
        simp only [Array.getElem?_toList]
        congr 1
        simp
        omega
theorem storeL_ok {φ : Phi} {H H' : Hp} {w : World} (h : Rel ω φ H w) {t : Nat} {p v r : AV} {X Y : Value} (hl : storeL t p v H = some (r, H')) (hx : conc ω φ p = some X) (hy : conc ω φ v = some Y) :
    r = .undef ∧ ∃ w', (Instr.storeAt t X Y).run PP w = .ok () w' ∧ Rel ω φ H' w' ∧ Post φ H w φ H' w' := by
  obtain ⟨q, hq, hl⟩ := ob_some hl
  obtain ⟨a, ha, hl⟩ := ob_some hl
  obtain ⟨l, hgl, hl⟩ := ob_some hl
  obtain ⟨hc, hl⟩ := ch_some hl
  obtain ⟨y, hpa, hF⟩ := ob_some hl
  clear hl
  cases hF
  obtain ⟨i, hi, hq⟩ := ob_some hq
  cases hq
  obtain ⟨I, d, z, hty⟩ := tyG_ok ω hi
  have := asPtr_eq ha
  subst this
  simp only [conc, Option.map_eq_some_iff] at hx
  obtain ⟨e, he, rfl⟩ := hx
  simp only [Bool.and_eq_true, nbeqI] at hc
  have hcy := cells_conc ω hy
  have hlen := concL_length ω hcy
  obtain ⟨w', hrun, hrel, hpost⟩ := over_ok ω h (getW_some hgl) he hpa hcy (allScal_one ω hcy hc.2)
  refine ⟨rfl, w', ?_, hrel, hpost⟩
  have hsz : ¬ (Y.cells.size ≠ i.size) := by
    intro h0
    apply h0
    rw [← hc.1, ← hlen]
    simp
  simp only [Instr.storeAt, Instr.sureAddr, Sem.run_bind, Sem.run_pure, Result.andThen_ok, storeVar, hty.run_size ω]
  rw [if_neg hsz]
  exact hrun
theorem setA_int {φ : Phi} {kk : IntKind} {n : Int} {v : AV} {V : Value} (hv : conc ω φ v = some V) : ∀ {es es' : List (AV × AV)} {ms : List MapEntry} (i : Nat), EntsOk ω φ es ms → setA (.int kk n) v es = some es' →
    (∃ j m0, Instr.findNow (.int kk) (.int kk n) ms i = some (some (i + j, m0.val)) ∧ m0.key = .int kk n ∧ ms[j]? = some m0 ∧ EntsOk ω φ es' (ms.set j { m0 with key := .int kk n, val := V })) ∨
    (Instr.findNow (.int kk) (.int kk n) ms i = some none ∧ ∀ b, EntsOk ω φ es' (ms ++ [{ key := .int kk n, val := V, born := b }]))
  | [], es', [], i, _, h => by
    cases h
    exact .inr ⟨rfl, fun b => ⟨rfl, hv, trivial⟩⟩
  | p :: es, es', m :: ms, i, he, h => by
    obtain ⟨h1, h2, h3⟩ := he
    obtain ⟨b, hb, h⟩ := ob_some (show ob (keyEq (.int kk n) p.1) _ = some es' from h)
    obtain ⟨n', hp, rfl⟩ := keyEq_int hb
    rw [hp] at h1
    have hm : m.key = .int kk n' := by simpa [conc] using h1.symm
    have hs : Instr.sameNow (.int kk) (.int kk n) m.key = some (n == n') := by simp [Instr.sameNow, hm]
    rw [ite2_eq] at h
    split at h
    · rename_i hn
      cases h
      left
      refine ⟨0, m, by simp [Instr.findNow, hs, hn], ?_, rfl, ⟨rfl, hv, h3⟩⟩
      rw [hm]
      have : n = n' := by simpa using hn
      rw [this]
    · rename_i hn
      have hn : (n == n') = false := by simpa using hn
      obtain ⟨l, hl, h⟩ := ob_some h
      cases h
      have h1' : conc ω φ p.1 = some m.key := by rw [hp, hm]; rfl
      rcases setA_int hv (i + 1) h3 hl with ⟨j, m0, g1, g2, g3, g4⟩ | ⟨g1, g3⟩
      · left
        refine ⟨j + 1, m0, ?_, g2, by simpa using g3, ⟨h1', h2, g4⟩⟩
        rw [show i + (j + 1) = i + 1 + j by omega]
        simp [Instr.findNow, hs, hn, g1]
      · right
        exact ⟨by simp [Instr.findNow, hs, hn, g1], fun b => ⟨h1', h2, g3 b⟩⟩
  | [], _, _ :: _, _, he, _ => he.elim
  | _ :: _, _, [], _, he, _ => he.elim
theorem setA_pair {φ : Phi} {n m : Int} {v : AV} {V : Value} (hv : conc ω φ v = some V) : ∀ {es es' : List (AV × AV)} {ms : List MapEntry} (i : Nat), EntsOk ω φ es ms → setA (.agg [.int .i64 n, .int .i64 m]) v es = some es' →
    (∃ j m0, (∀ w, (Instr.findAsking 223 (.agg #[.int .i64 n, .int .i64 m]) ms i).run PP w = .ok (some (i + j, m0.val)) w) ∧ m0.key = .agg #[.int .i64 n, .int .i64 m] ∧ ms[j]? = some m0 ∧ EntsOk ω φ es' (ms.set j { m0 with key := .agg #[.int .i64 n, .int .i64 m], val := V })) ∨
    ((∀ w, (Instr.findAsking 223 (.agg #[.int .i64 n, .int .i64 m]) ms i).run PP w = .ok none w) ∧ ∀ b, EntsOk ω φ es' (ms ++ [{ key := .agg #[.int .i64 n, .int .i64 m], val := V, born := b }]))
  | [], es', [], i, _, h => by
    cases h
    exact .inr ⟨fun w => by simp [Instr.findAsking], fun b => ⟨by simp [conc, concL], hv, trivial⟩⟩
  | p :: es, es', e :: ms, i, he, h => by
    obtain ⟨h1, h2, h3⟩ := he
    obtain ⟨b, hb, h⟩ := ob_some (show ob (keyEq (.agg [.int .i64 n, .int .i64 m]) p.1) _ = some es' from h)
    obtain ⟨n', m', hp, rfl⟩ := keyEq_pair hb
    have h1' := h1
    rw [hp] at h1
    have hm : e.key = .agg #[.int .i64 n', .int .i64 m'] := by simpa [conc, concL] using h1.symm
    have hs : ∀ w, (Op.equal 223 (.agg #[.int .i64 n, .int .i64 m]) e.key).run PP w = .ok (n == n' && m == m') w := fun w => by rw [hm]; exact equal_pair n m n' m' w
    rw [ite2_eq] at h
    split at h
    · rename_i hn
      cases h
      left
      refine ⟨0, e, fun w => by simp only [Instr.findAsking, Sem.run_bind, hs, hn, Result.andThen_ok, if_true, Sem.run_pure, Nat.add_zero], ?_, rfl, ⟨by simp [conc, concL], hv, h3⟩⟩
      rw [hm]
      have : n = n' ∧ m = m' := by simpa using hn
      rw [this.1, this.2]
    · rename_i hn
      have hn : (n == n' && m == m') = false := by simpa using hn
      obtain ⟨l, hl, h⟩ := ob_some h
      cases h
      rcases setA_pair hv (i + 1) h3 hl with ⟨j, m0, g1, g2, g3, g4⟩ | ⟨g1, g3⟩
      · left
        refine ⟨j + 1, m0, fun w => ?_, g2, by simpa using g3, ⟨h1', h2, g4⟩⟩
        rw [show i + (j + 1) = i + 1 + j by omega]
        simp only [Instr.findAsking, Sem.run_bind, hs, hn, Result.andThen_ok, Bool.false_eq_true, if_false, g1]
      · right
        exact ⟨fun w => by simp only [Instr.findAsking, Sem.run_bind, hs, hn, Result.andThen_ok, Bool.false_eq_true, if_false, g1], fun b => ⟨h1', h2, g3 b⟩⟩
  | [], _, _ :: _, _, he, _ => he.elim
  | _ :: _, _, [], _, he, _ => he.elim
theorem setA_ok {φ : Phi} {b : Bool} {k v : AV} {K V : Value} (hk : conc ω φ k = some K) (hf : keyForm b k = true) (hv : conc ω φ v = some V) {es es' : List (AV × AV)} {ms : List MapEntry} (he : EntsOk ω φ es ms) (h : setA k v es = some es') :
    (∃ j m0, (∀ w, (Instr.findKey (if b = true then 223 else 3) K ms).run PP w = .ok (some (j, m0.val)) w) ∧ m0.key = K ∧ Instr.sameBits 10000 K K = true ∧ ms[j]? = some m0 ∧ EntsOk ω φ es' (ms.set j { m0 with key := K, val := V })) ∨
    ((∀ w, (Instr.findKey (if b = true then 223 else 3) K ms).run PP w = .ok none w) ∧ ∀ b, EntsOk ω φ es' (ms ++ [{ key := K, val := V, born := b }])) := by
  rcases keyForm_ok ω hf hk with ⟨rfl, n, rfl, rfl⟩ | ⟨rfl, n, m, rfl, rfl⟩
  · rcases setA_int ω hv 0 he h with ⟨j, m0, g1, g2, g3, g4⟩ | ⟨g1, g3⟩
    · rw [Nat.zero_add] at g1
      exact .inl ⟨j, m0, fun w => by simp [Instr.findKey, run_underlying und3, g1], g2, by simp [Instr.sameBits], g3, g4⟩
    · exact .inr ⟨fun w => by simp [Instr.findKey, run_underlying und3, g1], g3⟩
  · rcases setA_pair ω hv 0 he h with ⟨j, m0, g1, g2, g3, g4⟩ | ⟨g1, g3⟩
    · rw [Nat.zero_add] at g1
      exact .inl ⟨j, m0, fun w => (findKey223 _ _ w).trans (g1 w), g2, by simp [Instr.sameBits], g3, g4⟩
    · exact .inr ⟨fun w => (findKey223 _ _ w).trans (g1 w), g3⟩
theorem mupdL_ok {φ : Phi} {H H' : Hp} {w : World} (h : Rel ω φ H w) {t : Nat} {m k v r : AV} {M K V : Value} (hl : mupdL t m k v H = some (r, H')) (hm : conc ω φ m = some M) (hk : conc ω φ k = some K) (hv : conc ω φ v = some V) :
    r = .undef ∧ ∃ w', (Instr.mapUpdate t M K V).run PP w = .ok () w' ∧ Rel ω φ H' w' ∧ Post φ H w φ H' w' := by
  obtain ⟨i, hi, hl⟩ := ob_some hl
  obtain ⟨e, he, hl⟩ := ob_some hl
  obtain ⟨hkf, hl⟩ := ch_some hl
  obtain ⟨id, hid, hl⟩ := ob_some hl
  obtain ⟨es, hes, hl⟩ := ob_some hl
  obtain ⟨es', hs, hF⟩ := ob_some hl
  clear hl
  cases hF
  obtain ⟨I, d, z, hty⟩ := tyG_ok ω hi
  have hd := kMap_ok ω hty he
  have := asMap_eq hid
  subst this
  simp only [conc, Option.map_eq_some_iff] at hm
  obtain ⟨en, hen, rfl⟩ := hm
  obtain ⟨ms, cl, h1, h2⟩ := h.mapAt ω (getM_some hes) hen
  have hgo : (getObj en.blk).run PP w = .ok (.map ms cl) w := by simp [getObj, Sem.run, h1]
  have hlt : en.blk < w.heap.size := (Array.getElem?_eq_some_iff.1 h1).1
  have hso : ∀ o, (setObj en.blk o).run PP w = .ok () (w.putObj en.blk o) := fun o => by simp [setObj, Sem.run, h1, World.putObj]
  have hck := checkKey_ok ω hk hkf
  subst hd
  have hu := hty.run_und ω
  have hch : ∀ o, ObjOk ω φ (w.putObj en.blk o) en (.map es') → Rel ω φ ⟨Tr.put dep id (some (.map es')) H.t, H.nx⟩ (w.putObj en.blk o) ∧ Post φ H w φ ⟨Tr.put dep id (some (.map es')) H.t, H.nx⟩ (w.putObj en.blk o) := fun o ho =>
    h.change ω (getM_some hes) hen (by simp [World.putObj]) (fun b hb => World.putObj_heap_other hb) ho
  refine ⟨rfl, ?_⟩
  rcases setA_ok ω hk hkf hv h2 hs with ⟨j, m0, g1, hmk, hsb, g3, g4⟩ | ⟨g1, g3⟩
  · have hk0 : (ms[j]?).map (·.key) = some m0.key := by
      have : ms[j]? = some m0 := by simpa using g3
      rw [this]; rfl
    have hstay : ∀ w, (Instr.keyThatStays m0.key K).run PP w = .ok K w := fun w => by
      rw [hmk]
      simp [Instr.keyThatStays, hsb]
    refine ⟨_, ?_, hch (.map (ms.modify j fun e => { e with key := K, val := V }) cl) ⟨_, cl, World.putObj_heap_same hlt, ?_⟩⟩
    · simp only [Instr.mapUpdate, Sem.run_bind, hu, Result.andThen_ok, hgo, hck, g1, hk0, Option.getD_some, hstay, hso]
    · have hmm : (ms.modify j fun e => { e with key := K, val := V }).toList = ms.toList.set j { m0 with key := K, val := V } := by
        rw [Array.toList_modify]
        apply List.ext_getElem?
        intro q
        rw [List.getElem?_modify, List.getElem?_set]
        split
        · rename_i hq
          subst hq
          rw [g3]
          have hjl : j < ms.size := by simpa using (List.getElem?_eq_some_iff.1 g3).1
          simp [hjl]
        · simp
      rw [hmm]
      exact g4
  · refine ⟨_, ?_, hch (.map (ms.push { key := K, val := V, born := cl }) (cl + 1)) ⟨_, _, World.putObj_heap_same hlt, ?_⟩⟩
    · simp only [Instr.mapUpdate, Sem.run_bind, hu, Result.andThen_ok, hgo, hck, g1, hso]
    · simpa using g3 cl
end
end Go.Proofs.YtenadfoomejmkaaGreatDoor.Eng
