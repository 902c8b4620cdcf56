import Derived.Test.YtenadfoomejmkaaGreatDoorSndM
/- The engine's soundness, fourteenth part: clear; bytes of a string; loud operations but calls. -/
namespace Go.Proofs.YtenadfoomejmkaaGreatDoor.Eng
open Go
set_option linter.unusedSimpArgs false
set_option linter.unusedVariables false
section
variable (ω : Bool → Int) (hω : ω true ≠ ω false)
theorem allScal_cons (a : AV) (l : List AV) : allScal (a :: l) = true ↔ scal a = true ∧ allScal l = true := by
  show ite2 (scal a) (allScal l) false = true ↔ _
  rw [ite2_eq]
  split <;> simp [*]
theorem allScal_append : ∀ (a b : List AV), allScal a = true → allScal b = true → allScal (a ++ b) = true
  | [], b, _, h => h
  | x :: a, b, h1, h2 => by
    rw [allScal_cons] at h1
    exact (allScal_cons _ _).2 ⟨h1.1, allScal_append a b h1.2 h2⟩
theorem allScal_rep (l : List AV) (h : allScal l = true) : ∀ n, allScal (rep l n) = true
  | 0 => rfl
  | n + 1 => allScal_append _ _ h (allScal_rep l h n)
theorem clearL_ok {φ : Phi} {H H' : Hp} {w : World} (h : Rel ω φ H w) {t : Nat} {e : Ty} {x r : AV} {X : Value} {ts : Array TypeId} (ty : TypeId) (h0 : ts[0]? = some t) (he : elemT t = some e) (hl : clearL e x H = some (r, H')) (hx : conc ω φ x = some X) :
    r = .undef ∧ ∃ w', (Builtin.clear_ ts ty #[X]).run PP w = .ok undef w' ∧ Rel ω φ H' w' ∧ Post φ H w φ H' w' := by
  obtain ⟨eid, I, d, z, hu, hte⟩ := elemT_ok ω he
  obtain ⟨o, ho, hl⟩ := ob_some hl
  have := asSlc_eq ho
  subst this
  cases o with
  | none =>
    cases hl
    cases hx
    exact ⟨rfl, w, by simp [Builtin.clear_, h0, run_underlying hu, undef], h, Post.refl _ _ _⟩
  | some s =>
    obtain ⟨en, c, hen, hc, rfl, hle⟩ := slc_conc ω hx
    have hl : ite2 (Nat.beq s.len 0) (some (AV.undef, H)) (ob (getW H.t s.id) fun l => ch (Nat.beq e.zero.length e.size && allScal e.zero) (ob (paste s.off (rep e.zero s.len) l) fun l => some (.undef, ⟨Tr.put dep s.id (some (.cells false l)) H.t, H.nx⟩))) = some (r, H') := hl
    rw [ite2_eq] at hl
    split at hl
    · rename_i hz
      have hz := nbeq hz
      cases hl
      exact ⟨rfl, w, by simp [Builtin.clear_, h0, run_underlying hu, hz, undef], h, Post.refl _ _ _⟩
    · rename_i hz
      have hz : s.len ≠ 0 := fun e0 => hz (by rw [e0]; rfl)
      obtain ⟨l, hgl, hl⟩ := ob_some hl
      obtain ⟨hb, hl⟩ := ch_some hl
      obtain ⟨y, hp, hF⟩ := ob_some hl
      cases hF
      simp only [Bool.and_eq_true] at hb
      have hrc := rep_conc ω (hte.zc φ) s.len
      obtain ⟨w', hrun, hrel, hpost⟩ := over_ok ω h (getW_some hgl) hen hp hrc (allScal_one ω hrc (allScal_rep _ hb.2 _))
      refine ⟨rfl, w', ?_, hrel, hpost⟩
      obtain ⟨m, hm⟩ : ∃ m, s.len = m + 1 := ⟨s.len - 1, by omega⟩
      rw [hm] at hrun ⊢
      simp only [Builtin.clear_, h0, List.getElem?_toArray, List.getElem?_cons_zero, Sem.run_bind, run_underlying hu, Result.andThen_ok, hte.run_zero ω, Builtin.zeroCells, hrun, Sem.run_pure]
      rfl
/-- a string's bytes -/
theorem bytesL_ok {φ : Phi} {H H' : Hp} {w : World} (h : Rel ω φ H w) {s d : Nat} {e : Ty} {x r : AV} {X : Value} {S : TypeDesc} (hS : PP.underlying s = some S) (he : elemT d = some e) (hk : e.k = .int .u8) (hl : bytesL x H = some (r, H')) (hx : conc ω φ x = some X) :
    ∃ φ' w' y, (convert s d X).run PP w = .ok y w' ∧ conc ω φ' r = some y ∧ Rel ω φ' H' w' ∧ Post φ H w φ' H' w' := by
  obtain ⟨b, hb, hl⟩ := ob_some hl
  obtain ⟨H1, ha, hl⟩ := ob_some hl
  cases hl
  have := asStr_eq hb
  subst this
  cases hx
  obtain ⟨hlt, ha⟩ := ch_some ha
  cases ha
  obtain ⟨eid, I, dd, z, hu, hte⟩ := elemT_ok ω he
  have hdd : dd = .int .u8 := kInt_ok ω hte (e := .u8) (by rw [hk]; rfl)
  subst hdd
  let nc := (Question.appendCap b.size 0 eid).cut (w.tape w.drawn (.appendCap b.size 0 eid))
  have hnc : b.size ≤ nc := Nat.le_add_right _ _
  have hch : (choose (.appendCap b.size 0 eid)).run PP w = .ok nc w.drew := by
    simp [nc, Question.forced]
  let C : Array Value := (b.data.map fun b => Value.int .u8 b.toNat) ++ Array.replicate (nc - b.size) (.int .u8 0)
  have hbs : b.data.size = b.size := rfl
  have hCs : C.size = nc := by simp [C, hbs]; omega
  let w1 := w.drew.alloc (.cells C eid)
  let w2 := w1.freeze { block := w.heap.size, off := nc } 1
  have hw1 : w1.heap[w.heap.size]? = some (.cells C eid) := by show (w.heap.push _)[w.heap.size]? = _; simp
  have hw2o : ∀ k, k ≠ w.heap.size → w2.heap[k]? = w1.heap[k]? := fun k hk => by
    simp only [w2, World.freeze, Nat.one_ne_zero, if_false]
    rw [Array.getElem?_modify, if_neg (Ne.symm hk)]
  have hw2 : ∃ fz, w2.heap[w.heap.size]? = some (.cells C eid fz) := by
    simp only [w2, World.freeze, Nat.one_ne_zero, if_false]
    rw [Array.getElem?_modify, if_pos rfl, hw1]
    exact ⟨_, rfl⟩
  obtain ⟨fz, hw2⟩ := hw2
  have hsz2 : w2.heap.size = w.heap.size + 1 := by
    simp only [w2, World.freeze, Nat.one_ne_zero, if_false, Array.size_modify]
    simp [w1, World.alloc_eq]
  have hob : ObjOk ω (upd φ H.nx ⟨w.heap.size, 0, nc, 1⟩) w2 ⟨w.heap.size, 0, nc, 1⟩ (.cells true (b.data.toList.map fun b => .int .u8 (.ofNat b.toNat))) := by
    refine ⟨C, eid, fz, hw2, fun h => (by cases h), ?_, ?_, fun i v hv => ?_⟩
    · rw [hCs]; simp [hbs]; exact hnc
    · rw [hCs]; simp
    · rw [List.getElem?_map] at hv
      cases hbi : b.data.toList[i]? with
      | none => rw [hbi] at hv; cases hv
      | some u =>
        rw [hbi] at hv
        cases hv
        refine ⟨_, rfl, ?_⟩
        have hi : i < b.data.size := by simpa using (List.getElem?_eq_some_iff.1 hbi).1
        have hbi2 : b.data[i]? = some u := by simpa using hbi
        simp only [Nat.zero_add, C]
        rw [Array.getElem?_append_left (by simpa using hi), Array.getElem?_map, hbi2]
        rfl
  have hE := h.fresh_ok ω (w' := w2) (E := ⟨w.heap.size, 0, nc, 1⟩) rfl (by omega) (fun k hk => by
    rw [hw2o k (by omega)]
    show (w.heap.push _)[k]? = _
    rw [Array.getElem?_push, if_neg (by omega)]) (nblt hlt) hob
  refine ⟨_, w2, .slice (some ⟨w.heap.size, 0, none⟩) b.size nc, ?_, ?_, hE.1, hE.2⟩
  · have hsh : w1.shape? w.heap.size = some (eid, nc) := by simp [World.shape?, hw1, hCs]
    have hel : ∀ w', (underlying eid).run PP w' = .ok (.int .u8) w' := fun w' => run_underlying hte.und w'
    simp only [convert, Sem.run_bind, run_underlying hS, run_underlying hu, Result.andThen_ok]
    have hsb : (Conv.stringToBytes eid b).run PP w = .ok (.slice (some ⟨w.heap.size, 0, none⟩) b.size nc) w2 := by
      simp only [Conv.stringToBytes, Sem.run_bind, hch, Result.andThen_ok, run_newRow', markStringish, run_shape]
      have : (w.drew.alloc (.cells C eid)).shape? w.drew.heap.size = some (eid, nc) := hsh
      simp only [C] at this
      rw [this]
      rfl
    cases S <;> simp [hel, hsb]
  · have : capC ⟨w.heap.size, 0, nc, 1⟩ b.size (.unk 0 1) = some nc := by
      show (if (1 : Nat) = 1 ∧ b.size ≤ nc - 0 then some (nc - 0) else none) = _
      rw [if_pos ⟨rfl, by omega⟩]
      rfl
    simp only [conc, upd_self, Option.bind_some, this]
    rfl
end
end Go.Proofs.YtenadfoomejmkaaGreatDoor.Eng
