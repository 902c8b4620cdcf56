import Derived.Test.YtenadfoomejmkaaGreatDoorSndK
/- The engine's soundness, twelfth part: rows that grow. -/
namespace Go.Proofs.YtenadfoomejmkaaGreatDoor.Eng
open Go
set_option linter.unusedSimpArgs false
set_option linter.unusedVariables false
section
variable (ω : Bool → Int) (hω : ω true ≠ ω false)
theorem growBy_le (n B : Nat) (hB : n + (n + 768) / 4 ≤ B) : ∀ (r c : Nat), c ≤ B → Builtin.growBy n r c ≤ B
  | 0, c, h => h
  | r + 1, c, h => by
    rw [Builtin.growBy]
    split
    · exact h
    · exact growBy_le n B hB r _ (by omega)
theorem nsc_le {n c : Nat} (hc : c < n) (hn : n ≤ 200000) : Builtin.nextslicecap n c ≤ 1000000 := by
  unfold Builtin.nextslicecap
  split
  · omega
  · split
    · omega
    · exact growBy_le n _ (by omega) _ _ (by omega)
theorem slc_conc {φ : Phi} {s : Slc} {X : Value} (h : conc ω φ (slcV (some s)) = some X) : ∃ e c, φ s.id = some e ∧ capC e s.len s.cap = some c ∧ X = .slice (some ⟨e.blk, e.sh + s.off, none⟩) s.len c ∧ s.len ≤ c := by
  simp only [slcV, conc, Option.bind_eq_some_iff, Option.map_eq_some_iff] at h
  obtain ⟨e, he, c, hc, rfl⟩ := h
  refine ⟨e, c, he, hc, rfl, ?_⟩
  revert hc
  cases s.cap <;> simp only [capC] <;> intro hc <;> split at hc <;> (first | (cases hc; omega) | cases hc)
/-- a row's cells, read -/
theorem row_ok {φ : Phi} {H : Hp} {w : World} (h : Rel ω φ H w) {sz : Nat} {s : Slc} {l r : List AV} {X : Value} {ro : Bool} (hg : H.t.get s.id = some (.cells ro l)) (hc : cut l s.off (Nat.mul s.len sz) = some r) (hx : conc ω φ (slcV (some s)) = some X) :
    ∃ L, concL ω φ r = some L ∧ L.length = s.len * sz ∧ ∀ w', w'.heap = w.heap → (Builtin.firstCells sz s.len X).run PP w' = .ok L.toArray w' := by
  obtain ⟨e, c, he, hcc, rfl, hle⟩ := slc_conc ω hx
  obtain ⟨L, hL, hcell⟩ := h.cells ω hg he
  obtain ⟨hX, hlen⟩ := concL_cut ω hc hL
  have hl2 : ((L.drop s.off).take (s.len * sz)).length = s.len * sz := by
    have : s.len * sz = Nat.mul s.len sz := rfl
    simp; omega
  refine ⟨_, hX, hl2, fun w' hw => ?_⟩
  have hrd : ∀ j v, ((L.drop s.off).take (s.len * sz))[j]? = some v → w'.cell? (Addr.add ⟨e.blk, e.sh + s.off, none⟩ j) = some v := fun j v hv => by
    rw [List.getElem?_take] at hv
    split at hv
    · rw [List.getElem?_drop] at hv
      rw [add_addr, Nat.add_assoc]
      have := hcell _ _ hv
      simpa [World.cell?, hw] using this
    · cases hv
  have := run_loadCells_list (P := PP) w' ⟨e.blk, e.sh + s.off, none⟩ _ hrd
  rw [hl2] at this
  exact this
/-- a new block for a grown row -/
theorem grown_ok {φ : Phi} {H H' : Hp} {w : World} (h : Rel ω φ H w) {sz n : Nat} {l : List AV} {v : AV} {L R : List Value} {el : TypeId} {cap : Nat} (hn : newRowA H sz n l = some (v, H')) (hL : concL ω φ l = some L) (hl : L.length = n * sz) (hR : R.length = (cap - n) * sz) (hc : n ≤ cap) {w1 : World} (hw : w1.heap = w.heap) (ho1 : w1.os = w.os ∧ w1.output = w.output := by exact ⟨rfl, rfl⟩) :
    ∃ φ', conc ω φ' v = some (.slice (some ⟨w.heap.size, 0, none⟩) n cap) ∧ Rel ω φ' H' (w1.alloc (.cells (L ++ R).toArray el)) ∧ Post φ H w φ' H' (w1.alloc (.cells (L ++ R).toArray el)) := by
  obtain ⟨H1, h1, h2⟩ := ob_some hn
  cases h2
  obtain ⟨hlt, h1⟩ := ch_some h1
  cases h1
  have hlt := nblt hlt
  have hr1 := (h.heap ω hw).alloc ω (.cells (L ++ R).toArray el) cap sz
  have hsz : w1.heap.size = w.heap.size := by rw [hw]
  rw [hsz] at hr1
  have hself : upd φ H.nx ⟨w.heap.size, 0, cap, sz⟩ H.nx = some ⟨w.heap.size, 0, cap, sz⟩ := upd_self _ _ _
  have hext : Ext φ (upd φ H.nx ⟨w.heap.size, 0, cap, sz⟩) := upd_ext (h.fresh _ (Nat.le_refl _))
  have hnx : ∀ j oj, H.t.get j = some oj → j ≠ H.nx := fun j oj hj e => by
    obtain ⟨f, h1, _⟩ := h.obj j oj hj
    subst e
    rw [h.fresh _ (Nat.le_refl _)] at h1
    cases h1
  have hblk : ∀ j oj ej, H.t.get j = some oj → upd φ H.nx ⟨w.heap.size, 0, cap, sz⟩ j = some ej → ej.blk < w.heap.size := fun j oj ej hj hej => by
    rw [upd_ne _ _ _ (hnx j oj hj)] at hej
    obtain ⟨f, h1, _, h3⟩ := h.obj j oj hj
    rw [hej] at h1
    cases h1
    exact ObjOk.lt ω h3
  have hcs : (n * sz : Nat) + (cap - n) * sz = cap * sz := by rw [← Nat.add_mul]; congr 1; omega
  have hob : ObjOk ω (upd φ H.nx ⟨w.heap.size, 0, cap, sz⟩) (w1.alloc (.cells (L ++ R).toArray el)) ⟨w.heap.size, 0, cap, sz⟩ (.cells false l) := by
    refine ⟨(L ++ R).toArray, el, (0, 0), ?_, fun _ => rfl, ?_, ?_, fun i v hv => ?_⟩
    · show (w1.heap.push _)[w.heap.size]? = _
      rw [← hsz]; simp
    · have := concL_length ω hL; simp; omega
    · simp only [List.size_toArray, List.length_append, hl, hR, hcs]; omega
    · obtain ⟨y, hy, hx⟩ := concL_get ω (concL_mono ω hext _ _ hL) i v hv
      refine ⟨y, hy, ?_⟩
      have := (List.getElem?_eq_some_iff.1 hx).1
      simp [List.getElem?_append_left this, hx]
  refine ⟨_, ?_, hr1.lay ω hself hlt hob (fun j oj ej hj hoj hej => Nat.ne_of_lt (hblk j oj ej hoj hej)), ⟨fun id hid => upd_ne _ _ _ (Nat.ne_of_lt hid), Nat.le_succ _, ?_, fun i oi hi hlt' => ?_, fun b hb hlt' => ?_, fun b hb _ => ?_, fun i l' ei hi0 hi hei => ?_, ho1⟩⟩
  rotate_left 5
  · have hb := hblk i _ ei hi (by rw [upd_ne _ _ _ (Nat.ne_of_lt hi0)]; exact hei)
    refine ⟨by show (Tr.put dep H.nx _ _).get i = _; rw [get_put _ _ _ _ hlt, if_neg (Nat.ne_of_lt hi0)]; exact hi, ?_⟩
    show (w1.heap.push _)[ei.blk]? = _
    rw [Array.getElem?_push, if_neg (by rw [hsz]; exact Nat.ne_of_lt hb), hw]
  · simp [conc, hself, capC, hc]
  · simp [World.alloc_eq, hsz]
  · have hi : (Tr.put dep H.nx (some (AObj.cells false l)) H.t).get i = some oi := hi
    rw [get_put _ _ _ _ hlt, if_neg (Nat.ne_of_lt hlt')] at hi
    exact ⟨oi, hi⟩
  · obtain ⟨i, oi, ei, h1, h2, h3⟩ := hb
    have h1 : (Tr.put dep H.nx (some (AObj.cells false l)) H.t).get i = some oi := h1
    rw [get_put _ _ _ _ hlt] at h1
    split at h1
    · rename_i hi
      subst hi
      rw [hself] at h2
      cases h2
      have h3 : w.heap.size = b := h3
      omega
    · rename_i hi
      rw [upd_ne _ _ _ hi] at h2
      exact ⟨i, oi, ei, h1, h2, h3⟩
  · show (w1.heap.push _)[b]? = _
    rw [Array.getElem?_push, if_neg (by rw [hsz]; exact Nat.ne_of_lt hb), hw]
/-- the new branch of an append -/
theorem append_new {φ : Phi} {H H' : Hp} {w : World} (h : Rel ω φ H w) {t t' sz sLen n cap : Nat} {base : Option Addr} {X : Value} {old new : List AV} {LO LN : List Value} {v : AV} {e : Ty} {eid : TypeId} {I : TypeInfo} {d : TypeDesc} {z : Value} {ts : Array TypeId} {d' : TypeDesc} (ty : TypeId)
    (h0 : ts[0]? = some t) (h1 : ts[1]? = some t') (hu : PP.underlying t = some (.slice eid)) (hu' : PP.underlying t' = some d') (hd' : ∀ k, d' ≠ .int k) (hte : TyOk ω eid e I d z) (hsz : e.size = sz)
    (hlen : ∀ w', w'.heap = w.heap → (Builtin.lenOf X).run PP w' = .ok n w') (hold : ∀ w', w'.heap = w.heap → (Builtin.firstCells sz sLen (.slice base sLen cap)).run PP w' = .ok LO.toArray w') (hnew : ∀ w', w'.heap = w.heap → (Builtin.firstCells sz n X).run PP w' = .ok LN.toArray w')
    (hLO : concL ω φ old = some LO) (hLN : concL ω φ new = some LN) (hlo : LO.length = sLen * sz) (hln : LN.length = n * sz) (hcap : cap < sLen + n) (hle : sLen + n ≤ 200000) (hr : newRowA H sz (sLen + n) (old ++ new) = some (v, H')) :
    ∃ φ' w' x, (Builtin.append_ ts ty #[.slice base sLen cap, X]).run PP w = .ok x w' ∧ conc ω φ' v = some x ∧ Rel ω φ' H' w' ∧ Post φ H w φ' H' w' := by
  subst hsz
  have hb := hte.bytes
  have hns : Builtin.nextslicecap (sLen + n) cap * I.bytes ≤ 1000000 * 1000000 := Nat.mul_le_mul (nsc_le hcap hle) hb
  have hng : ¬ (Builtin.nextslicecap (sLen + n) cap * I.bytes > 2 ^ 48) := by
    have : (2 : Nat) ^ 48 = 281474976710656 := by decide
    omega
  have hd2 : (d' matches .int _) = false := by cases d' <;> first | rfl | exact absurd rfl (hd' _)
  let nc := (Question.appendCap (sLen + n) cap eid).cut (w.tape w.drawn (.appendCap (sLen + n) cap eid))
  have hnc : sLen + n ≤ nc := Nat.le_add_right _ _
  have hzs := hte.zsize ω
  have hR : (Builtin.zeroCells z.cells (nc - (sLen + n))).toList.length = (nc - (sLen + n)) * e.size := by simp [Builtin.zeroCells, hzs]
  obtain ⟨φ', g1, g2, g3⟩ := grown_ok ω h (el := eid) (w1 := w.drew) hr (concL_append ω hLO hLN) (by rw [List.length_append, hlo, hln, Nat.add_mul]) hR hnc rfl
  refine ⟨φ', _, _, ?_, g1, g2, g3⟩
  have hi64 : ¬ ((sLen + n : Nat) : Int) > IntKind.i64.max := by
    have : IntKind.i64.max = 9223372036854775807 := by decide
    rw [this]; omega
  have hch : (choose (.appendCap (sLen + n) cap eid)).run PP w = .ok nc w.drew := by
    simp [nc, Question.forced]
  have hdh : w.drew.heap = w.heap := rfl
  have hro := hold w.drew hdh
  have hrn := hnew w.drew hdh
  have hl := hlen w rfl
  have hnlt : ¬ (sLen + n ≤ cap) := by omega
  simp only [Builtin.append_, h0, h1, List.getElem?_toArray, List.getElem?_cons_zero, List.getElem?_cons_succ, Sem.run_bind, run_underlying hu, run_underlying hu', Result.andThen_ok, hte.run_size ω, Sem.run_pure, hd2, Bool.false_eq_true, if_false, hl, hnlt, hi64, false_and, hte.run_info ω, hng, hch, run_askRoom, hro, Bool.not_false, if_true, hrn, hte.run_zero ω, run_newRow']
  have harr : (LO ++ LN ++ (Builtin.zeroCells z.cells (nc - (sLen + n))).toList).toArray = LO.toArray ++ LN.toArray ++ Builtin.zeroCells z.cells (nc - (sLen + n)) := by
    apply Array.ext'
    simp
  rw [harr]
  rfl
/-- the other branch: in place -/
theorem append_old {φ : Phi} {H H' : Hp} {w : World} (h : Rel ω φ H w) {t t' sz n : Nat} {s : Slc} {X : Value} {l old new : List AV} {LN : List Value} {v : AV} {e : Ty} {eid : TypeId} {I : TypeInfo} {d : TypeDesc} {z : Value} {ts : Array TypeId} {d' : TypeDesc} {en : Ent} {cap k : Nat} (ty : TypeId)
    (h0 : ts[0]? = some t) (h1 : ts[1]? = some t') (hu : PP.underlying t = some (.slice eid)) (hu' : PP.underlying t' = some d') (hd' : ∀ k, d' ≠ .int k) (hte : TyOk ω eid e I d z) (hsz : e.size = sz)
    (hlen : (Builtin.lenOf X).run PP w = .ok n w) (hnew : (Builtin.firstCells sz n X).run PP w = .ok LN.toArray w)
    (hg : H.t.get s.id = some (.cells false l)) (hen : φ s.id = some en) (hcut : cut l s.off (s.len * sz) = some old) (hesz : en.esz = sz) (hoff : s.off = k * sz) (hcap : cap = en.cap - k)
    (hLN : concL ω φ new = some LN) (hln : LN.length = n * sz) (hone : ∀ v ∈ LN, v.oneCell' = true) (hn0 : 0 < n) (hfit : s.len + n ≤ cap) (hr : newRowA ⟨Tr.put dep s.id none H.t, H.nx⟩ sz (s.len + n) (old ++ new) = some (v, H')) :
    ∃ φ' w' x, (Builtin.append_ ts ty #[.slice (some ⟨en.blk, en.sh + s.off, none⟩) s.len cap, X]).run PP w = .ok x w' ∧ conc ω φ' v = some x ∧ Rel ω φ' H' w' ∧ Post φ H w φ' H' w' := by
  subst hsz
  obtain ⟨e', he', hlim, c, el, fz, g1, g2, g3, g4, g5⟩ := h.obj _ _ hg
  rw [hen] at he'
  cases he'
  have := g2 rfl
  subst this
  obtain ⟨H1, hr1, hr2⟩ := ob_some hr
  cases hr2
  obtain ⟨hlt, hr1⟩ := ch_some hr1
  cases hr1
  have hlt := nblt hlt
  simp only at hlt
  obtain ⟨hc1, hc2⟩ := cut_some hcut
  have hnl := concL_length ω hLN
  have hk : k + (s.len + n) ≤ en.cap := by omega
  have hmul : k * e.size + (s.len + n) * e.size ≤ en.cap * e.size := by rw [← Nat.add_mul]; exact Nat.mul_le_mul_right _ hk
  have hmul2 : (s.len + n) * e.size = s.len * e.size + n * e.size := Nat.add_mul _ _ _
  have hfull : en.sh + s.off + s.len * e.size + LN.length ≤ c.size := by rw [hesz] at g4; rw [hoff, hln]; omega
  have hrun := run_storeCells_atF PP en.blk (en.sh + s.off + s.len * e.size) el (0, 0) LN 0 c w g1 (Nat.zero_le _) (by omega) hone
  have hd2 : (d' matches .int _) = false := by cases d' <;> first | rfl | exact absurd rfl (hd' _)
  generalize hC : (c.toList.take (en.sh + s.off + s.len * e.size + 0) ++ LN ++ c.toList.drop (en.sh + s.off + s.len * e.size + 0 + LN.length)).toArray = C at hrun
  have hCs : C.size = c.size := by rw [← hC]; simp; omega
  have hnx : ∀ j oj, H.t.get j = some oj → j ≠ H.nx := fun j oj hj e0 => by
    obtain ⟨f, f1, _⟩ := h.obj j oj hj
    subst e0
    rw [h.fresh _ (Nat.le_refl _)] at f1
    cases f1
  let E : Ent := ⟨en.blk, en.sh + s.off, cap, e.size⟩
  have hself : upd φ H.nx E H.nx = some E := upd_self _ _ _
  have hext : Ext φ (upd φ H.nx E) := upd_ext (h.fresh _ (Nat.le_refl _))
  have hw' : ∀ b, b ≠ en.blk → (w.setRow en.blk C).heap[b]? = w.heap[b]? := fun b hb => setRow_other w en.blk b C hb
  have hrow : (w.setRow en.blk C).heap[en.blk]? = some (.cells C el (0, 0)) := setRow_heap w en.blk c C el (0, 0) g1
  have hget : ∀ j oj, (Tr.put dep s.id none H.t).get j = some oj → j ≠ s.id ∧ H.t.get j = some oj := fun j oj hj => by
    rw [get_put _ _ _ _ hlim] at hj
    split at hj
    · cases hj
    · exact ⟨‹_›, hj⟩
  have hdis : ∀ j oj ej, (Tr.put dep s.id none H.t).get j = some oj → φ j = some ej → ej.blk ≠ en.blk := fun j oj ej hj hej hb => by
    obtain ⟨hne, hj⟩ := hget j oj hj
    exact hne (h.inj j s.id oj _ ej en hj hg hej hen hb)
  have hCi : ∀ i v, (old ++ new)[i]? = some v → ∃ x, conc ω φ v = some x ∧ C[en.sh + s.off + i]? = some x := fun i v hv => by
    have hol : old.length = s.len * e.size := by rw [hc1]; simp; omega
    by_cases hi : i < old.length
    · rw [List.getElem?_append_left hi, hc1, List.getElem?_take, if_pos (by omega), List.getElem?_drop] at hv
      obtain ⟨x, hx, hcx⟩ := g5 _ v hv
      refine ⟨x, hx, ?_⟩
      rw [← hC, List.getElem?_toArray, List.append_assoc, List.getElem?_append_left (by simp; omega), List.getElem?_take, if_pos (by omega)]
      simpa [Nat.add_assoc] using hcx
    · rw [List.getElem?_append_right (by omega)] at hv
      obtain ⟨x, hx, hcx⟩ := concL_get ω hLN _ v hv
      have hil := (List.getElem?_eq_some_iff.1 hcx).1
      refine ⟨x, hx, ?_⟩
      rw [← hC, List.getElem?_toArray, List.append_assoc, List.getElem?_append_right (by simp; omega), List.getElem?_append_left (by simp; omega)]
      rw [show en.sh + s.off + i - (List.take (en.sh + s.off + s.len * e.size + 0) c.toList).length = i - old.length by simp; omega]
      exact hcx
  have hrel : Rel ω (upd φ H.nx E) ⟨Tr.put dep H.nx (some (.cells false (old ++ new))) (Tr.put dep s.id none H.t), H.nx + 1⟩ (w.setRow en.blk C) := by
    have hol : old.length = s.len * e.size := by rw [hc1]; simp; omega
    refine ⟨fun id hid => ?_, fun g hg => ?_, fun i o ho => ?_, fun i j oi oj ei ej hi hj hei hej hbl => ?_⟩
    · simp only at hid
      rw [upd_ne _ _ _ (by omega)]
      exact h.fresh id (by omega)
    · obtain ⟨c0, z0, hc0⟩ := h.g0 g hg
      exact ⟨c0, z0, hext _ _ hc0⟩
    · simp only at ho
      rw [get_put _ _ _ _ hlt] at ho
      split at ho
      · rename_i hi
        subst hi
        cases ho
        refine ⟨E, hself, hlt, C, el, (0, 0), hrow, fun _ => rfl, ?_, ?_, fun i v hv => ?_⟩
        · show en.sh + s.off + (old ++ new).length ≤ C.size
          rw [hCs, List.length_append, hol]; omega
        · show en.sh + s.off + cap * e.size ≤ C.size
          rw [hCs]
          rw [hesz] at g4
          have : k * e.size + cap * e.size ≤ en.cap * e.size := by rw [← Nat.add_mul]; exact Nat.mul_le_mul_right _ (by omega)
          omega
        · obtain ⟨x, hx, hcx⟩ := hCi i v hv
          exact ⟨x, conc_mono ω hext _ _ hx, hcx⟩
      · obtain ⟨hne, ho'⟩ := hget i o ho
        obtain ⟨f, f1, f2, f3⟩ := h.obj i o ho'
        exact ⟨f, hext _ _ f1, f2, ObjOk.mono ω hext (hw' _ (hdis i o f ho f1)) f3⟩
    · simp only at hi hj
      rw [get_put _ _ _ _ hlt] at hi hj
      split at hi
      · rename_i hii
        subst hii
        rw [hself] at hei
        cases hei
        split at hj
        · rename_i hjj; exact hjj.symm
        · rename_i hjj
          rw [upd_ne _ _ _ hjj] at hej
          exact absurd hbl.symm (hdis j oj ej hj hej)
      · rename_i hii
        rw [upd_ne _ _ _ hii] at hei
        split at hj
        · rename_i hjj
          subst hjj
          rw [hself] at hej
          cases hej
          exact absurd hbl (hdis i oi ei hi hei)
        · rename_i hjj
          rw [upd_ne _ _ _ hjj] at hej
          exact h.inj i j oi oj ei ej (hget i oi hi).2 (hget j oj hj).2 hei hej hbl
  have hpost : Post φ H w (upd φ H.nx E) ⟨Tr.put dep H.nx (some (.cells false (old ++ new))) (Tr.put dep s.id none H.t), H.nx + 1⟩ (w.setRow en.blk C) := by
    refine ⟨fun id hid => upd_ne _ _ _ (Nat.ne_of_lt hid), Nat.le_succ _, by simp, fun i oi hi hlt' => ?_, fun b hb _ => ?_, fun b _ hna => hw' b fun e0 => hna ⟨s.id, _, en, hg, hen, e0.symm⟩, fun i l ei hi0 hi hei => ?_, ⟨rfl, rfl⟩⟩
    · simp only at hi
      rw [get_put _ _ _ _ hlt, if_neg (Nat.ne_of_lt hlt')] at hi
      exact ⟨oi, (hget i oi hi).2⟩
    · obtain ⟨i, oi, ei, k1, k2, k3⟩ := hb
      simp only at k1
      rw [get_put _ _ _ _ hlt] at k1
      split at k1
      · rename_i hi
        subst hi
        rw [hself] at k2
        cases k2
        exact ⟨s.id, _, en, hg, hen, k3⟩
      · rename_i hi
        rw [upd_ne _ _ _ hi] at k2
        exact ⟨i, oi, ei, (hget i oi k1).2, k2, k3⟩
    · have hne : i ≠ s.id := fun e0 => by subst e0; rw [hg] at hi; cases hi
      have hput : (Tr.put dep s.id none H.t).get i = some (.cells true l) := by rw [get_put _ _ _ _ hlim, if_neg hne]; exact hi
      exact ⟨by show (Tr.put dep H.nx _ _).get i = _; rw [get_put _ _ _ _ hlt, if_neg (Nat.ne_of_lt hi0)]; exact hput, hw' _ (hdis i _ ei hput hei)⟩
  refine ⟨_, w.setRow en.blk C, .slice (some ⟨en.blk, en.sh + s.off, none⟩) (s.len + n) cap, ?_, ?_, hrel, hpost⟩
  · simp only [Builtin.append_, h0, h1, List.getElem?_toArray, List.getElem?_cons_zero, List.getElem?_cons_succ, Sem.run_bind, run_underlying hu, run_underlying hu', Result.andThen_ok, hte.run_size ω, Sem.run_pure, hd2, Bool.false_eq_true, if_false, hlen, hfit, if_true, Bool.not_false, hnew, add_addr, hrun]
  · show conc ω (upd φ H.nx E) (.slc H.nx 0 (s.len + n) (.unk 0 e.size)) = _
    simp only [conc, hself, Option.bind_some, capC]
    rw [if_pos ⟨rfl, by show s.len + n ≤ cap - 0; omega⟩]
    rfl
end
end Go.Proofs.YtenadfoomejmkaaGreatDoor.Eng
