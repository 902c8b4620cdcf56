import Derived.Test.YtenadfoomejmkaaGreatDoorSndL
/- The engine's soundness, thirteenth part: all that is loud but no call. -/
namespace Go.Proofs.YtenadfoomejmkaaGreatDoor.Eng
open Go
set_option linter.unusedSimpArgs false
set_option linter.unusedVariables false
section
variable (ω : Bool → Int) (hω : ω true ≠ ω false)
/-- a new block with a new name -/
theorem Rel.fresh_ok {φ : Phi} {H : Hp} {w w' : World} (h : Rel ω φ H w) {E : Ent} {o : AObj} (hE : E.blk = w.heap.size) (hs : w.heap.size ≤ w'.heap.size) (hb : ∀ b, b < w.heap.size → w'.heap[b]? = w.heap[b]?) (hlt : H.nx < lim) (ho : ObjOk ω (upd φ H.nx E) w' E o) (hos : w'.os = w.os ∧ w'.output = w.output := by exact ⟨rfl, rfl⟩) :
    Rel ω (upd φ H.nx E) ⟨Tr.put dep H.nx (some o) H.t, H.nx + 1⟩ w' ∧ Post φ H w (upd φ H.nx E) ⟨Tr.put dep H.nx (some o) H.t, H.nx + 1⟩ w' := by
  have hself : upd φ H.nx E H.nx = some E := upd_self _ _ _
  have hext : Ext φ (upd φ H.nx E) := upd_ext (h.fresh _ (Nat.le_refl _))
  have hnx : ∀ j oj, H.t.get j = some oj → j ≠ H.nx := fun j oj hj e0 => by
    obtain ⟨f, f1, _⟩ := h.obj j oj hj
    subst e0
    rw [h.fresh _ (Nat.le_refl _)] at f1
    cases f1
  have hblk : ∀ j oj ej, H.t.get j = some oj → φ j = some ej → ej.blk < w.heap.size := fun j oj ej hj hej => by
    obtain ⟨f, h1, _, h3⟩ := h.obj j oj hj
    rw [hej] at h1
    cases h1
    exact ObjOk.lt ω h3
  refine ⟨⟨fun id hid => ?_, fun g hg => ?_, fun i oi hi => ?_, fun i j oi oj ei ej hi hj hei hej hbl => ?_⟩, ⟨fun id hid => upd_ne _ _ _ (Nat.ne_of_lt hid), Nat.le_succ _, hs, fun i oi hi hlt' => ?_, fun b hbb hlt' => ?_, fun b hlt' _ => hb b hlt', fun i l ei hi0 hi hei => ⟨by show (Tr.put dep H.nx _ _).get i = _; rw [get_put _ _ _ _ hlt, if_neg (Nat.ne_of_lt hi0)]; exact hi, hb _ (hblk i _ ei hi hei)⟩, hos⟩⟩
  · simp only at hid
    rw [upd_ne _ _ _ (by omega)]
    exact h.fresh id (by omega)
  · obtain ⟨c0, z0, hc0⟩ := h.g0 g hg
    exact ⟨c0, z0, hext _ _ hc0⟩
  · simp only at hi
    rw [get_put _ _ _ _ hlt] at hi
    split at hi
    · rename_i hii
      subst hii
      cases hi
      exact ⟨E, hself, hlt, ho⟩
    · obtain ⟨f, f1, f2, f3⟩ := h.obj i oi hi
      exact ⟨f, hext _ _ f1, f2, ObjOk.mono ω hext (hb _ (ObjOk.lt ω f3)) f3⟩
  · simp only at hi hj
    rw [get_put _ _ _ _ hlt] at hi hj
    split at hi
    · rename_i hii
      subst hii
      rw [hself] at hei
      cases hei
      split at hj
      · rename_i hjj; exact hjj.symm
      · rename_i hjj
        rw [upd_ne _ _ _ hjj] at hej
        have := hblk j oj ej hj hej
        omega
    · rename_i hii
      rw [upd_ne _ _ _ hii] at hei
      split at hj
      · rename_i hjj
        subst hjj
        rw [hself] at hej
        cases hej
        have := hblk i oi ei hi hei
        omega
      · rename_i hjj
        rw [upd_ne _ _ _ hjj] at hej
        exact h.inj i j oi oj ei ej hi hj hei hej hbl
  · simp only at hi
    rw [get_put _ _ _ _ hlt, if_neg (Nat.ne_of_lt hlt')] at hi
    exact ⟨oi, hi⟩
  · obtain ⟨i, oi, ei, h1, h2, h3⟩ := hbb
    simp only at h1
    rw [get_put _ _ _ _ hlt] at h1
    split at h1
    · rename_i hi
      subst hi
      rw [hself] at h2
      cases h2
      omega
    · rename_i hi
      rw [upd_ne _ _ _ hi] at h2
      exact ⟨i, oi, ei, h1, h2, h3⟩
/-- a maker, in the order of the text -/
theorem makes_does {φ : Phi} {H H' : Hp} {w : World} (h : Rel ω φ H w) {s : _root_.Go.Sem Next} {o : AObj} {g : Nat → AV} (hm : Makes ω φ s o g) (ha : alloc H o = some H') : Does ω φ H w s (g H.nx) H' := by
  obtain ⟨hlt, ha⟩ := ch_some ha
  cases ha
  obtain ⟨O, hO⟩ := hm.made
  obtain ⟨x, hx, hc, hob⟩ := hO w
  have hext : Ext φ (upd φ H.nx ⟨w.heap.size, 0, 0, 0⟩) := upd_ext (h.fresh _ (Nat.le_refl _))
  have hnew : (w.alloc O).heap[w.heap.size]? = some O := by show (w.heap.push O)[w.heap.size]? = _; simp
  obtain ⟨h1, h2⟩ := h.fresh_ok ω (w' := w.alloc O) (E := ⟨w.heap.size, 0, 0, 0⟩) (o := o) rfl (by simp [World.alloc_eq]) (fun b hb => by show (w.heap.push O)[b]? = _; rw [Array.getElem?_push, if_neg (Nat.ne_of_lt hb)]) (nblt hlt) (hob _ _ hnew hext)
  exact ⟨_, _, x, .inl hx, hc _ _ (upd_self _ _ _), h1, h2⟩
theorem elem_noint {t : Nat} {e : Ty} (h : elemT t = some e) : ∃ d, PP.underlying t = some d ∧ ∀ k, d ≠ .int k := by
  obtain ⟨eid, I, d, z, hu, _⟩ := elemT_ok (fun _ => 0) h
  exact ⟨_, hu, fun k => by simp⟩
theorem appendL_ok {φ : Phi} {H H' : Hp} {w : World} (h : Rel ω φ H w) {t t' : Nat} {e e' : Ty} {s x r : AV} {S X : Value} {ts : Array TypeId} (ty : TypeId) (h0 : ts[0]? = some t) (h1 : ts[1]? = some t') (he : elemT t = some e) (he' : elemT t' = some e') (hl : appendL e.size s x H = some (r, H')) (hs : conc ω φ s = some S) (hx : conc ω φ x = some X) :
    ∃ φ' w' y, (Builtin.append_ ts ty #[S, X]).run PP w = .ok y w' ∧ conc ω φ' r = some y ∧ Rel ω φ' H' w' ∧ Post φ H w φ' H' w' := by
  obtain ⟨eid, I, d, z, hu, hte⟩ := elemT_ok ω he
  obtain ⟨d', hu', hd'⟩ := elem_noint he'
  have hd2 : (d' matches .int _) = false := by cases d' <;> first | rfl | exact absurd rfl (hd' _)
  obtain ⟨o, ho, hl⟩ := ob_some hl
  have := asSlc_eq ho
  subst this
  -- nothing is appended
  have hnone : ∀ {so : Option Slc}, asSlc s = some so → (∀ w', (Builtin.lenOf X).run PP w' = .ok 0 w') → (∀ w', (Builtin.firstCells e.size 0 X).run PP w' = .ok #[] w') → (Builtin.append_ ts ty #[S, X]).run PP w = .ok S w := fun {so} hso hl0 hf0 => by
    have := asSlc_eq hso
    subst this
    cases so with
    | none =>
      cases hs
      simp [Builtin.append_, h0, h1, run_underlying hu, run_underlying hu', hte.run_size ω, hd2, hl0, hf0]
    | some so =>
      obtain ⟨en, c, hen, hc, rfl, hle⟩ := slc_conc ω hs
      simp [Builtin.append_, h0, h1, run_underlying hu, run_underlying hu', hte.run_size ω, hd2, hl0, hf0, hle, storeCells]
  cases o with
  | none =>
    obtain ⟨so, hso, hl⟩ := ob_some (show ob (asSlc s) _ = some (r, H') from hl)
    cases hl
    cases hx
    exact ⟨φ, w, S, hnone hso (fun w' => rfl) (fun w' => rfl), hs, h, Post.refl _ _ _⟩
  | some xs =>
    obtain ⟨en, c, hen, hc, rfl, hle⟩ := slc_conc ω hx
    have hl : ite2 (Nat.beq xs.len 0) (ob (asSlc s) fun _ => some (s, H)) (ob (rowOf H.t e.size (some xs)) fun new => ob (asSlc s) fun o => ch (Nat.ble xs.len 100000) (match o with
      | none => newRowA H e.size xs.len new
      | some s => match capK s.cap with
        | some c => ch (Nat.blt c (Nat.add s.len xs.len) && Nat.ble s.len 100000) (ob (ite2 (Nat.beq s.len 0) (some []) (rowOf H.t e.size (some s))) fun old => newRowA H e.size (Nat.add s.len xs.len) (old ++ new))
        | none => ch ((Nat.beq (capZ s.cap) e.size && Nat.beq s.off (Nat.mul (capU s.cap) e.size)) && (Nat.ble s.len 100000 && allScal new)) (ob (getW H.t s.id) fun l => ob (cut l s.off (Nat.mul s.len e.size)) fun old => newRowA ⟨Tr.put dep s.id none H.t, H.nx⟩ e.size (Nat.add s.len xs.len) (old ++ new)))) = some (r, H') := hl
    rw [ite2_eq] at hl
    split at hl
    · rename_i hz
      have hz := nbeq hz
      obtain ⟨so, hso, hl⟩ := ob_some hl
      cases hl
      refine ⟨φ, w, S, hnone hso (fun w' => by simp [Builtin.lenOf, hz]) (fun w' => by simp [Builtin.firstCells, loadCells, loadCellsFrom]), hs, h, Post.refl _ _ _⟩
    · rename_i hz
      have hz : 0 < xs.len := Nat.pos_of_ne_zero fun e0 => hz (by rw [e0]; rfl)
      obtain ⟨new, hnew, hl⟩ := ob_some hl
      obtain ⟨so, hso, hl⟩ := ob_some hl
      obtain ⟨hxl, hZ⟩ := ch_some hl
      clear hl
      have hxl := nble hxl
      obtain ⟨lx, hlx, hcx⟩ := ob_some (show ob (getC H.t xs.id) _ = some new from hnew)
      obtain ⟨rox, hrox⟩ := getC_some hlx
      obtain ⟨LN, hLN, hln, hrn⟩ := row_ok ω h hrox hcx hx
      have := asSlc_eq hso
      subst this
      cases so with
      | none =>
        cases hs
        obtain ⟨φ', w', y, g1, g2, g3, g4⟩ := append_new ω h ty h0 h1 hu hu' hd' hte rfl (n := xs.len) (cap := 0) (base := none) (sLen := 0) (LO := []) (old := []) (fun w' _ => rfl) (fun w' _ => rfl) hrn rfl hLN (by simp) hln (by omega) (by omega) (by simpa using hZ)
        exact ⟨φ', w', y, g1, g2, g3, g4⟩
      | some so =>
        obtain ⟨en2, c2, hen2, hc2, rfl, hle2⟩ := slc_conc ω hs
        cases hk : capK so.cap with
        | some kc =>
          simp only [hk] at hZ
          obtain ⟨hb, hY⟩ := ch_some hZ
          clear hZ
          simp only [Bool.and_eq_true] at hb
          have hb1 := nblt hb.1
          have hb2 := nble hb.2
          have hb1 : kc < so.len + xs.len := hb1
          have hkc : c2 = kc := by
            cases hcap : so.cap with
            | known q =>
              rw [hcap] at hk hc2
              cases (show some q = some kc from hk)
              simp only [capC] at hc2
              split at hc2
              · simpa using hc2.symm
              · cases hc2
            | unk q z => rw [hcap] at hk; cases hk
          subst hkc
          obtain ⟨old, hold, hV⟩ := ob_some hY
          have hO : ∃ LO, concL ω φ old = some LO ∧ LO.length = so.len * e.size ∧ ∀ w', w'.heap = w.heap → (Builtin.firstCells e.size so.len (.slice (some ⟨en2.blk, en2.sh + so.off, none⟩) so.len c2)).run PP w' = .ok LO.toArray w' := by
            rw [ite2_eq] at hold
            split at hold
            · rename_i h00
              have h00 := nbeq h00
              cases hold
              refine ⟨[], rfl, by simp [h00], fun w' _ => ?_⟩
              rw [h00]
              simp [Builtin.firstCells, loadCells, loadCellsFrom]
            · obtain ⟨lo, hlo, hco⟩ := ob_some (show ob (getC H.t so.id) _ = some old from hold)
              obtain ⟨roo, hroo⟩ := getC_some hlo
              exact row_ok ω h hroo hco hs
          obtain ⟨LO, hLO, hlo, hro⟩ := hO
          exact append_new ω h ty h0 h1 hu hu' hd' hte rfl (fun w' _ => rfl) hro hrn hLO hLN hlo hln hb1 (by omega) hV
        | none =>
          simp only [hk] at hZ
          obtain ⟨hb, hY⟩ := ch_some hZ
          clear hZ
          simp only [Bool.and_eq_true, nbeqI] at hb
          obtain ⟨⟨hb1, hb2⟩, hb3, hb4⟩ := hb
          have hb3 := nble hb3
          obtain ⟨lo, hlo, hU⟩ := ob_some hY
          obtain ⟨old, hco, hV⟩ := ob_some hU
          have hw := getW_some hlo
          obtain ⟨q, zz, hcap⟩ : ∃ q zz, so.cap = .unk q zz := by
            cases hcap : so.cap with
            | known q => rw [hcap] at hk; cases hk
            | unk q zz => exact ⟨q, zz, rfl⟩
          rw [hcap] at hc2 hb1 hb2
          simp only [capC] at hc2
          split at hc2
          · rename_i hcc
            cases hc2
            have hesz : en2.esz = e.size := hcc.1.trans hb1
            by_cases hfit : so.len + xs.len ≤ en2.cap - q
            · exact append_old ω h ty h0 h1 hu hu' hd' hte rfl rfl (hrn w rfl) hw hen2 hco hesz hb2 rfl hLN hln (allScal_one ω hLN hb4) hz hfit hV
            · obtain ⟨LO, hLO, hlo', hro⟩ := row_ok ω h hw hco hs
              have hd0 := h.drop ω so.id (by obtain ⟨_, _, hh, _⟩ := h.obj _ _ hw; exact hh)
              obtain ⟨φ', w', y, g1, g2, g3, g4⟩ := append_new ω hd0 ty h0 h1 hu hu' hd' hte rfl (fun w' _ => rfl) hro hrn hLO hLN hlo' hln (by omega) (by omega) hV
              refine ⟨φ', w', y, g1, g2, g3, ?_⟩
              have hsub : ∀ i oi, (Tr.put dep so.id none H.t).get i = some oi → H.t.get i = some oi := fun i oi hi => by
                rw [get_put _ _ _ _ (by obtain ⟨_, _, hh, _⟩ := h.obj _ _ hw; exact hh)] at hi
                split at hi
                · cases hi
                · exact hi
              have hal : ∀ b, Alive φ ⟨Tr.put dep so.id none H.t, H.nx⟩ b → Alive φ H b := fun b ⟨i, oi, ei, k1, k2, k3⟩ => ⟨i, oi, ei, hsub i oi k1, k2, k3⟩
              exact ⟨g4.dom, g4.nx, g4.size, fun i oi hi hlt => (g4.ids i oi hi hlt).imp fun o0 ho => hsub i o0 ho, fun b hb hlt => hal b (g4.new b hb hlt), fun b hlt hna => g4.kept b hlt fun ha => hna (hal b ha), fun i l ei hi0 hi hei => g4.ro i l ei hi0 (by show (Tr.put dep so.id none H.t).get i = _; rw [get_put _ _ _ _ (by obtain ⟨_, _, hh, _⟩ := h.obj _ _ hw; exact hh), if_neg (fun e0 => by subst e0; rw [hw] at hi; cases hi)]; exact hi) hei, g4.os⟩
          · cases hc2
end
end Go.Proofs.YtenadfoomejmkaaGreatDoor.Eng
