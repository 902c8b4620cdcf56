import Derived.Test.YtenadfoomejmkaaGreatDoorSndA
/- The engine's soundness, second part: memory, slots, operands. -/
namespace Go.Proofs.YtenadfoomejmkaaGreatDoor.Eng
open Go
set_option linter.unusedSimpArgs false
set_option linter.unusedVariables false
section
variable (ω : Bool → Int)
/-- two entries' lists that tell the same -/
def EntsOk (φ : Phi) : List (AV × AV) → List MapEntry → Prop
  | [], [] => True
  | p :: r, m :: s => conc ω φ p.1 = some m.key ∧ conc ω φ p.2 = some m.val ∧ EntsOk φ r s
  | _, _ => False
/-- a frame's slots -/
structure TRel (φ : Phi) (T : Fr) (n : Nat) (tmps : Array Value) : Prop where
  slot : ∀ t v, Eng.slot t T = some v → conc ω φ v = some (tmps.getD t undef)
  size : tmps.size = n
  lim : n ≤ Eng.lim
def ObjOk (φ : Phi) (w : World) (e : Ent) : AObj → Prop
  | .cells ro l => ∃ c el fz, w.heap[e.blk]? = some (.cells c el fz) ∧ (ro = false → fz = (0, 0)) ∧ e.sh + l.length ≤ c.size ∧ e.sh + e.cap * e.esz ≤ c.size ∧
      ∀ i v, l[i]? = some v → ∃ x, conc ω φ v = some x ∧ c[e.sh + i]? = some x
  | .map es => ∃ ms clock, w.heap[e.blk]? = some (.map ms clock) ∧ EntsOk ω φ es ms.toList
  | .loop st pe fn n T ps asg body => ∃ fn' tmps d, w.heap[e.blk]? = some (.loop { state := st, pending := pe, fn := fn', tmps := tmps, params := ps.toArray, assign := asg, body := body, defers := d }) ∧ TRel ω φ T n tmps
  | .dfr => w.heap[e.blk]? = some (.deferred (some []))
theorem EntsOk.mono {φ φ' : Phi} (h : Ext φ φ') : ∀ {a : List (AV × AV)} {b : List MapEntry}, EntsOk ω φ a b → EntsOk ω φ' a b
  | [], [], _ => trivial
  | _ :: _, _ :: _, ⟨h1, h2, h3⟩ => ⟨conc_mono ω h _ _ h1, conc_mono ω h _ _ h2, EntsOk.mono h h3⟩
  | [], _ :: _, hh => hh.elim
  | _ :: _, [], hh => hh.elim
theorem TRel.mono {φ φ' : Phi} (h : Ext φ φ') {T : Fr} {n : Nat} {tmps : Array Value} (ht : TRel ω φ T n tmps) : TRel ω φ' T n tmps :=
  ⟨fun t v hv => conc_mono ω h _ _ (ht.slot t v hv), ht.size, ht.lim⟩
theorem ObjOk.mono {φ φ' : Phi} (h : Ext φ φ') {w w' : World} {e : Ent} {o : AObj} (hw : w'.heap[e.blk]? = w.heap[e.blk]?) (ho : ObjOk ω φ w e o) : ObjOk ω φ' w' e o := by
  cases o with
  | cells ro l =>
    obtain ⟨c, el, fz, h1, h2, h3, h4, h5⟩ := ho
    exact ⟨c, el, fz, hw.trans h1, h2, h3, h4, fun i v hv => let ⟨x, hx, hc⟩ := h5 i v hv; ⟨x, conc_mono ω h _ _ hx, hc⟩⟩
  | map es =>
    obtain ⟨ms, cl, h1, h2⟩ := ho
    exact ⟨ms, cl, hw.trans h1, EntsOk.mono ω h h2⟩
  | loop =>
    obtain ⟨fn', tmps, d, h1, h2⟩ := ho
    exact ⟨fn', tmps, d, hw.trans h1, TRel.mono ω h h2⟩
  | dfr => exact hw.trans ho
/-- the memory -/
structure Rel (φ : Phi) (H : Hp) (w : World) : Prop where
  fresh : ∀ id, H.nx ≤ id → φ id = none
  g0 : ∀ g, g < 2 → ∃ c z, φ g = some ⟨g, 0, c, z⟩
  obj : ∀ i o, H.t.get i = some o → ∃ e, φ i = some e ∧ i < lim ∧ ObjOk ω φ w e o
  inj : ∀ i j oi oj ei ej, H.t.get i = some oi → H.t.get j = some oj → φ i = some ei → φ j = some ej → ei.blk = ej.blk → i = j
theorem ObjOk.lt {φ : Phi} {w : World} {e : Ent} {o : AObj} (h : ObjOk ω φ w e o) : e.blk < w.heap.size := by
  have key : ∀ x, w.heap[e.blk]? = some x → e.blk < w.heap.size := fun x hx => by
    by_cases hlt : e.blk < w.heap.size
    · exact hlt
    · rw [Array.getElem?_eq_none (Nat.le_of_not_lt hlt)] at hx; cases hx
  cases o with
  | cells ro l => obtain ⟨c, el, fz, h1, _⟩ := h; exact key _ h1
  | map es => obtain ⟨ms, cl, h1, _⟩ := h; exact key _ h1
  | loop => obtain ⟨fn', tmps, d, h1, _⟩ := h; exact key _ h1
  | dfr => exact key _ h
/-- alive block -/
def Alive (φ : Phi) (H : Hp) (b : Nat) : Prop := ∃ i o e, H.t.get i = some o ∧ φ i = some e ∧ e.blk = b
/-- what a step may have done -/
structure Post (φ : Phi) (H : Hp) (w : World) (φ' : Phi) (H' : Hp) (w' : World) : Prop where
  dom : ∀ id, id < H.nx → φ' id = φ id
  nx : H.nx ≤ H'.nx
  size : w.heap.size ≤ w'.heap.size
  ids : ∀ i o, H'.t.get i = some o → i < H.nx → ∃ o0, H.t.get i = some o0
  new : ∀ b, Alive φ' H' b → b < w.heap.size → Alive φ H b
  kept : ∀ b, b < w.heap.size → ¬ Alive φ H b → w'.heap[b]? = w.heap[b]?
  ro : ∀ i l e, i < H.nx → H.t.get i = some (.cells true l) → φ i = some e → H'.t.get i = some (.cells true l) ∧ w'.heap[e.blk]? = w.heap[e.blk]?
  os : w'.os = w.os ∧ w'.output = w.output
theorem Post.refl (φ : Phi) (H : Hp) (w : World) : Post φ H w φ H w :=
  ⟨fun _ _ => rfl, Nat.le_refl _, Nat.le_refl _, fun i o h _ => ⟨o, h⟩, fun _ h _ => h, fun _ _ _ => rfl, fun _ _ _ _ h _ => ⟨h, rfl⟩, ⟨rfl, rfl⟩⟩
theorem Post.trans {φ φ1 φ2 : Phi} {H H1 H2 : Hp} {w w1 w2 : World} (h : Post φ H w φ1 H1 w1) (k : Post φ1 H1 w1 φ2 H2 w2) : Post φ H w φ2 H2 w2 where
  dom id hid := (k.dom id (Nat.lt_of_lt_of_le hid h.nx)).trans (h.dom id hid)
  nx := Nat.le_trans h.nx k.nx
  size := Nat.le_trans h.size k.size
  ids i o ho hi := let ⟨o1, h1⟩ := k.ids i o ho (Nat.lt_of_lt_of_le hi h.nx); h.ids i o1 h1 hi
  new b hb hlt := h.new b (k.new b hb (Nat.lt_of_lt_of_le hlt h.size)) hlt
  kept b hlt hb := (k.kept b (Nat.lt_of_lt_of_le hlt h.size) (fun ha => hb (h.new b ha hlt))).trans (h.kept b hlt hb)
  ro i l e hi hl he := let ⟨h1, h2⟩ := h.ro i l e hi hl he; let ⟨k1, k2⟩ := k.ro i l e (Nat.lt_of_lt_of_le hi h.nx) h1 (by rw [h.dom i hi]; exact he); ⟨k1, k2.trans h2⟩
  os := ⟨k.os.1.trans h.os.1, k.os.2.trans h.os.2⟩
theorem Post.ext {φ φ' : Phi} {H H' : Hp} {w w' : World} (h : Post φ H w φ' H' w') (hr : Rel ω φ H w) : Ext φ φ' := fun id e he => by
  by_cases hid : id < H.nx
  · rw [h.dom id hid]; exact he
  · rw [hr.fresh id (Nat.le_of_not_lt hid)] at he; cases he
/-- only the draws part -/
theorem Rel.heap {φ : Phi} {H : Hp} {w w' : World} (h : Rel ω φ H w) (he : w'.heap = w.heap) : Rel ω φ H w' :=
  ⟨h.fresh, h.g0, fun i o ho => let ⟨e, h1, h2, h3⟩ := h.obj i o ho; ⟨e, h1, h2, ObjOk.mono ω (fun _ _ h => h) (by rw [he]) h3⟩, h.inj⟩
theorem Post.heap {φ : Phi} {H : Hp} {w w' : World} (he : w'.heap = w.heap) (ho : w'.os = w.os ∧ w'.output = w.output) : Post φ H w φ H w' :=
  ⟨fun _ _ => rfl, Nat.le_refl _, by rw [he]; exact Nat.le_refl _, fun i o h _ => ⟨o, h⟩, fun _ h _ => h, fun _ _ _ => by rw [he], fun _ _ _ _ h _ => ⟨h, by rw [he]⟩, ho⟩
/-- only names part: one name more, of which no object is known -/
theorem Rel.skip {φ : Phi} {H : Hp} {w : World} (h : Rel ω φ H w) (n : Nat) (hn : H.nx ≤ n) : Rel ω φ ⟨H.t, n⟩ w :=
  ⟨fun id hid => h.fresh id (Nat.le_trans hn hid), h.g0, h.obj, h.inj⟩
def upd (φ : Phi) (i : Nat) (e : Ent) : Phi := fun j => if j = i then some e else φ j
theorem upd_self (φ : Phi) (i : Nat) (e : Ent) : upd φ i e i = some e := by simp [upd]
theorem upd_ne (φ : Phi) (i : Nat) (e : Ent) {j : Nat} (h : j ≠ i) : upd φ i e j = φ j := by simp [upd, h]
theorem upd_ext {φ : Phi} {i : Nat} {e : Ent} (h : φ i = none) : Ext φ (upd φ i e) := fun j f hj => by
  by_cases hij : j = i
  · subst hij; rw [h] at hj; cases hj
  · rw [upd_ne _ _ _ hij]; exact hj
/-- a name given, without an object -/
theorem Rel.name {φ : Phi} {H : Hp} {w : World} (h : Rel ω φ H w) {i : Nat} (e : Ent) (hi : φ i = none) (hlt : i < H.nx) (hg : H.t.get i = none) : Rel ω (upd φ i e) H w where
  fresh id hid := by rw [upd_ne _ _ _ (by omega)]; exact h.fresh id hid
  g0 g hg := by
    obtain ⟨c, z, hc⟩ := h.g0 g hg
    exact ⟨c, z, upd_ext hi _ _ hc⟩
  obj j o ho := let ⟨f, h1, h2, h3⟩ := h.obj j o ho; ⟨f, upd_ext hi _ _ h1, h2, ObjOk.mono ω (upd_ext hi) rfl h3⟩
  inj a b oa ob ea eb ha hb hea heb hbl := by
    have hai : a ≠ i := fun e => by subst e; rw [hg] at ha; cases ha
    have hbi : b ≠ i := fun e => by subst e; rw [hg] at hb; cases hb
    rw [upd_ne _ _ _ hai] at hea
    rw [upd_ne _ _ _ hbi] at heb
    exact h.inj a b oa ob ea eb ha hb hea heb hbl
/-- an object laid at a name that has none -/
theorem Rel.lay {φ : Phi} {H : Hp} {w : World} (h : Rel ω φ H w) {i : Nat} {e : Ent} {o : AObj} (hi : φ i = some e) (hlim : i < lim) (ho : ObjOk ω φ w e o) (hd : ∀ j oj ej, j ≠ i → H.t.get j = some oj → φ j = some ej → ej.blk ≠ e.blk) :
    Rel ω φ ⟨Tr.put dep i (some o) H.t, H.nx⟩ w where
  fresh := h.fresh
  g0 := h.g0
  obj j o' ho' := by
    rw [get_put _ _ _ _ hlim] at ho'
    split at ho'
    · rename_i hj; subst hj; cases ho'; exact ⟨e, hi, hlim, ho⟩
    · exact h.obj j o' ho'
  inj a b oa ob ea eb ha hb hea heb hbl := by
    rw [get_put _ _ _ _ hlim] at ha hb
    split at ha
    · rename_i hai
      subst hai
      rw [hi] at hea
      cases hea
      split at hb
      · rename_i hbi; exact hbi.symm
      · rename_i hbi; exact absurd hbl.symm (hd b ob eb hbi hb heb)
    · rename_i hai
      split at hb
      · rename_i hbi
        subst hbi
        rw [hi] at heb
        cases heb
        exact absurd hbl (hd a oa ea hai ha hea)
      · exact h.inj a b oa ob ea eb ha hb hea heb hbl
/-- an object dropped -/
theorem Rel.drop {φ : Phi} {H : Hp} {w : World} (h : Rel ω φ H w) (i : Nat) (hlim : i < lim) : Rel ω φ ⟨Tr.put dep i none H.t, H.nx⟩ w where
  fresh := h.fresh
  g0 := h.g0
  obj j o' ho' := by
    rw [get_put _ _ _ _ hlim] at ho'
    split at ho'
    · cases ho'
    · exact h.obj j o' ho'
  inj a b oa ob ea eb ha hb := by
    rw [get_put _ _ _ _ hlim] at ha hb
    split at ha
    · cases ha
    · split at hb
      · cases hb
      · exact h.inj a b oa ob ea eb ha hb
/-- a new block -/
theorem Rel.alloc {φ : Phi} {H : Hp} {w : World} (h : Rel ω φ H w) (O : Obj) (cap esz : Nat) :
    Rel ω (upd φ H.nx ⟨w.heap.size, 0, cap, esz⟩) ⟨H.t, H.nx + 1⟩ (w.alloc O) where
  fresh id hid := by rw [upd_ne _ _ _ (by simp at hid; omega)]; exact h.fresh id (by simp at hid; omega)
  g0 g hg := by
    obtain ⟨c, z, hc⟩ := h.g0 g hg
    exact ⟨c, z, upd_ext (h.fresh _ (Nat.le_refl _)) _ _ hc⟩
  obj j o ho := by
    obtain ⟨f, h1, h2, h3⟩ := h.obj j o ho
    refine ⟨f, upd_ext (h.fresh _ (Nat.le_refl _)) _ _ h1, h2, ObjOk.mono ω (upd_ext (h.fresh _ (Nat.le_refl _))) ?_ h3⟩
    have := ObjOk.lt ω h3
    show (w.heap.push O)[f.blk]? = _
    rw [Array.getElem?_push, if_neg (Nat.ne_of_lt this)]
  inj a b oa ob ea eb ha hb hea heb hbl := by
    have key : ∀ j oj, H.t.get j = some oj → j ≠ H.nx := fun j oj hj e => by
      obtain ⟨f, h1, _⟩ := h.obj j oj hj
      subst e
      rw [h.fresh _ (Nat.le_refl _)] at h1
      cases h1
    rw [upd_ne _ _ _ (key a oa ha)] at hea
    rw [upd_ne _ _ _ (key b ob hb)] at heb
    exact h.inj a b oa ob ea eb ha hb hea heb hbl
end
end Go.Proofs.YtenadfoomejmkaaGreatDoor.Eng
