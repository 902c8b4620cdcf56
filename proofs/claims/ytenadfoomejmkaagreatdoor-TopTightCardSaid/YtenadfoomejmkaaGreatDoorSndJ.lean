import Derived.Test.YtenadfoomejmkaaGreatDoorSndI
import Derived.Laws.NewFold
/- The engine's soundness, tenth part: what makes a block. -/
namespace Go.Proofs.YtenadfoomejmkaaGreatDoor.Eng
open Go
set_option linter.unusedSimpArgs false
set_option linter.unusedVariables false
section
variable (ω : Bool → Int) (hω : ω true ≠ ω false)
theorem rep_length (l : List AV) : ∀ n, (rep l n).length = n * l.length
  | 0 => by simp [rep]
  | n + 1 => by rw [rep, List.length_append, rep_length l n, Nat.succ_mul, Nat.add_comm]
theorem rep_get (l : List AV) : ∀ n i, i < n * l.length → (rep l n)[i]? = l[i % l.length]?
  | 0, i, h => by simp at h
  | n + 1, i, h => by
    rw [rep, List.getElem?_append]
    split
    · rename_i hi; rw [Nat.mod_eq_of_lt hi]
    · rename_i hi
      rw [rep_get l n _ (by rw [Nat.succ_mul] at h; omega)]
      congr 1
      rw [Nat.mod_eq_sub_mod (Nat.le_of_not_lt hi)]
/-- so many times the zero cells -/
theorem rep_conc {φ : Phi} {zs : List AV} {z : Array Value} (h : concL ω φ zs = some z.toList) (n : Nat) : concL ω φ (rep zs n) = some ((Array.range (n * z.size)).map (fun i => z[i % z.size]!)).toList := by
  have hl : z.size = zs.length := by simpa using concL_length ω h
  refine concL_of ω (by rw [rep_length]; simp [hl]) fun i v hv => ?_
  have hi : i < n * zs.length := by
    have := (List.getElem?_eq_some_iff.1 hv).1
    rwa [rep_length] at this
  rw [rep_get zs n i hi] at hv
  obtain ⟨y, hy, hx⟩ := concL_get ω h _ v hv
  refine ⟨y, hy, ?_⟩
  have hlt : i % z.size < z.size := by
    have := (List.getElem?_eq_some_iff.1 hv).1
    rw [hl]; exact this
  have hz : z[i % z.size]! = y := by
    rw [getElem!_pos z _ hlt]
    rw [← hl] at hx
    simpa [hlt] using hx
  simp only [Array.toList_map, List.getElem?_map, Array.toList_range]
  rw [List.getElem?_range (by rw [hl]; exact hi)]
  simp [hz]
/-- what a maker does -/
structure Makes (φ : Phi) (s : _root_.Go.Sem Next) (o : AObj) (g : Nat → AV) : Prop where
  made : ∃ O : Obj, ∀ w : World, ∃ x, s.run PP w = .ok (.value x) (w.alloc O) ∧ (∀ φ' id, φ' id = some ⟨w.heap.size, 0, 0, 0⟩ → conc ω φ' (g id) = some x) ∧
    (∀ (w' : World) (φ' : Phi), w'.heap[w.heap.size]? = some O → Ext φ φ' → ObjOk ω φ' w' ⟨w.heap.size, 0, 0, 0⟩ o)
theorem makes_cells {φ : Phi} {l : List AV} {C : Array Value} (h : concL ω φ l = some C.toList) (el : TypeId) (b : Nat) (w' : World) (φ' : Phi) (hw : w'.heap[b]? = some (.cells C el)) (he : Ext φ φ') : ObjOk ω φ' w' ⟨b, 0, 0, 0⟩ (.cells false l) := by
  have hl : C.size = l.length := by simpa using concL_length ω h
  refine ⟨C, el, (0, 0), hw, fun _ => rfl, by simp [hl], by simp, fun i v hv => ?_⟩
  obtain ⟨y, hy, hx⟩ := concL_get ω (concL_mono ω he _ _ h) i v hv
  exact ⟨y, hy, by simpa using hx⟩
theorem run_newRow' (e : TypeId) (c : Array Value) (w : World) : (newRow e c).run PP w = .ok ⟨w.heap.size, 0, none⟩ (w.alloc (.cells c e)) := by
  simp [newRow]
theorem make_ok {φ : Phi} {T : Fr} {n : Nat} {a : Act} (hT : TRel ω φ T n a.tmps) (hg : G0 φ) {o : Oper} {f : Fr → Mk} (hc : cls o.op = .make f) {q : AObj × (Nat → AV)} (h : f T = some q) : Makes ω φ (execOp a.eval o) q.1 q.2 := by
  obtain ⟨dst, op, type, pos, after, guard⟩ := o
  simp only at hc
  cases op
  case alloc t =>
    cases hc
    obtain ⟨i, hi, h⟩ := ob_some h
    cases h
    obtain ⟨I, d, z, hty⟩ := tyG_ok ω hi
    refine ⟨.cells z.cells t, fun w => ⟨.pointer (some ⟨w.heap.size, 0, none⟩), ?_, fun φ' id hid => by simp [conc, hid], fun w' φ' hw he => makes_cells ω (hty.zc φ) t _ w' φ' hw he⟩⟩
    simp [execOp, Instr.alloc, hty.run_zero ω, newVar, run_newRow']
  case box t x =>
    cases hc
    obtain ⟨v, hv, h⟩ := ob_some h
    cases h
    have hx := evo_ok ω hT hg hv
    refine ⟨.cells (a.eval x).cells t, fun w => ⟨.pointer (some ⟨w.heap.size, 0, none⟩), ?_, fun φ' id hid => by simp [conc, hid], fun w' φ' hw he => makes_cells ω (cells_conc ω hx) t _ w' φ' hw he⟩⟩
    simp [execOp, Instr.box, newVar, run_newRow']
  case buildSlice t m ps =>
    cases hc
    obtain ⟨e, he, h⟩ := ob_some h
    obtain ⟨hle, h⟩ := ch_some h
    obtain ⟨l, hl, h⟩ := ob_some h
    obtain ⟨cs, hcs, h⟩ := ob_some h
    cases h
    obtain ⟨eid, I, d, z, hu, hte⟩ := elemT_ok ω he
    have hp := evp_ok ω hT hg hl
    have hzs := hte.zsize ω
    have hz := rep_conc ω (hte.zc φ) m
    obtain ⟨C', hf, hcc, hln⟩ := fill_ok ω hcs hp hz
    have hL : (ps.map fun p => (p.1, a.eval p.2)).toList = ps.toList.map fun p => (p.1, a.eval p.2) := by simp
    rw [← hL] at hf
    have hle := nble hle
    refine ⟨.cells C' eid, fun w => ⟨.slice (some ⟨w.heap.size, 0, none⟩) m m, ?_, fun φ' id hid => by simp [conc, hid, capC], fun w' φ' hw hee => makes_cells ω hcc eid _ w' φ' hw hee⟩⟩
    have hng : ¬ (m * e.size > 2 ^ 24) := by
      have : (2 : Nat) ^ 24 = 16777216 := by decide
      rw [this]
      exact Nat.not_lt.2 hle
    have harr : ((Array.range (m * e.size)).map ((if m * e.size = 0 then #[] else z.cells)[· % (if m * e.size = 0 then #[] else z.cells).size]!)) = ((Array.range (m * z.cells.size)).map (fun i => z.cells[i % z.cells.size]!)) := by
      split
      · rename_i h0; rw [hzs, h0]; simp
      · rw [hzs]
    have hfz : Instr.fill (fun i => some (i * e.size, e.size)) ((Array.range (m * z.cells.size)).map (fun i => z.cells[i % z.cells.size]!)) (ps.map fun p => (p.1, a.eval p.2)).toList = some C' := hf
    have hzr : ∀ w, (if m * e.size = 0 then pure #[] else do pure (← zeroValue eid).cells : _root_.Go.Sem (Array Value)).run PP w = .ok (if m * e.size = 0 then #[] else z.cells) w := fun w => by
      split
      · rfl
      · simp [hte.run_zero ω]
    simp only [execOp, Instr.buildSlice, Sem.run_bind, run_underlying hu, Result.andThen_ok, hte.run_size ω, hng, if_false, Sem.run_pure]
    by_cases h0 : m * e.size = 0
    · rw [if_pos h0]
      simp only [h0, if_true] at harr
      rw [h0]
      simp only [Sem.run_bind, Sem.run_pure, Result.andThen_ok, harr, hfz, run_newRow']
    · rw [if_neg h0]
      simp only [h0, if_false] at harr
      simp only [Sem.run_bind, hte.run_zero ω, Sem.run_pure, Result.andThen_ok, harr, hfz, run_newRow']
  case makeSlice t x y =>
    cases hc
    obtain ⟨e, he, h⟩ := ob_some h
    obtain ⟨v, hv, h⟩ := ob_some h
    obtain ⟨m, hm, h⟩ := ob_some h
    obtain ⟨u, hu', h⟩ := ob_some h
    obtain ⟨m', hm', h⟩ := ob_some h
    obtain ⟨hle, h⟩ := ch_some h
    cases h
    simp only [Bool.and_eq_true, nbeqI] at hle
    obtain ⟨rfl, hle⟩ := hle
    have hle := nble hle
    obtain ⟨k, rfl⟩ := asNat_eq hm
    obtain ⟨k', rfl⟩ := asNat_eq hm'
    have hx := evo_ok ω hT hg hv
    have hy := evo_ok ω hT hg hu'
    simp only [conc, Option.some.injEq] at hx hy
    obtain ⟨eid, I, d, z, hu, hte⟩ := elemT_ok ω he
    have hzs := hte.zsize ω
    have hz := rep_conc ω (hte.zc φ) m
    refine ⟨.cells ((Array.range (m * z.cells.size)).map (fun i => z.cells[i % z.cells.size]!)) eid, fun w => ⟨.slice (some ⟨w.heap.size, 0, none⟩) m m, ?_, fun φ' id hid => by simp [conc, hid, capC], fun w' φ' hw hee => makes_cells ω hz eid _ w' φ' hw hee⟩⟩
    have hw64 : IntKind.wrap .i64 (m : Int) = (m : Int) := by
      rw [← wrap64_eq]
      show ite2 (Nat.blt m 9223372036854775808) (Int.ofNat m) _ = _
      rw [ite2_eq, if_pos (by simp [Nat.blt]; omega)]
      rfl
    have hb := hte.bytes
    have hbm : (I.bytes : Int) * (m : Int) ≤ 100000000000 := by
      have h1 : I.bytes * m ≤ 1000000 * 100000 := Nat.mul_le_mul hb hle
      have h2 : ((I.bytes * m : Nat) : Int) ≤ ((1000000 * 100000 : Nat) : Int) := Int.ofNat_le.2 h1
      rw [Int.natCast_mul] at h2
      omega
    have hng : ¬ ((I.bytes : Int) * (m : Int) > 2 ^ 48) := by omega
    have hzr : ∀ w, (if m * e.size = 0 then pure #[] else do pure (← zeroValue eid).cells : _root_.Go.Sem (Array Value)).run PP w = .ok (if m * e.size = 0 then #[] else z.cells) w := fun w => by
      split
      · rfl
      · simp [hte.run_zero ω]
    have harr : ((Array.range (m * e.size)).map ((if m * e.size = 0 then #[] else z.cells)[· % (if m * e.size = 0 then #[] else z.cells).size]!)) = ((Array.range (m * z.cells.size)).map (fun i => z.cells[i % z.cells.size]!)) := by
      split
      · rename_i h0; rw [hzs, h0]; simp
      · rw [hzs]
    have hnn : ¬ ((m : Int) < 0) := by omega
    simp only [execOp, Instr.makeSlice, ← hx, ← hy, Sem.run_bind, run_underlying hu, Result.andThen_ok, Go.asInt, asIntOf, Sem.run_pure, hte.run_info ω, hw64]
    have hng2 : (I.bytes : Int) * (m : Int) ≤ 281474976710656 := by omega
    rw [if_neg (by simp [hng2, hnn])]
    simp only [Sem.run_bind, run_askRoom, Result.andThen_ok, hte.run_size ω, Int.toNat_natCast, Sem.run_pure]
    by_cases h0 : m * e.size = 0
    · rw [if_pos h0]
      simp only [h0, if_true] at harr
      rw [h0]
      simp only [Sem.run_bind, Sem.run_pure, Result.andThen_ok, harr, run_newRow']
    · rw [if_neg h0]
      simp only [h0, if_false] at harr
      simp only [Sem.run_bind, hte.run_zero ω, Sem.run_pure, Result.andThen_ok, harr, run_newRow']
  case makeMap t r =>
    cases hc
    cases r with
    | some x => exact nomatch (show none = some q from h)
    | none =>
      cases (show some (AObj.map [], fun id => AV.map id) = some q from h)
      refine ⟨.map #[] 0, fun w => ⟨.map (some w.heap.size), ?_, fun φ' id hid => by simp [conc, hid], fun w' φ' hw hee => ⟨#[], 0, hw, trivial⟩⟩⟩
      simp [execOp, Instr.makeMap]
  case convert s d x =>
    unfold cls at hc
    simp only [clsV] at hc
    split at hc <;> cases hc
  case call c =>
    unfold cls at hc
    simp only [clsC] at hc
    split at hc
    · cases hc
    · cases hc
    · rename_i b hb
      cases b
      all_goals cases hc
  all_goals cases hc
end
end Go.Proofs.YtenadfoomejmkaaGreatDoor.Eng
