import Derived.Test.YtenadfoomejmkaaGreatDoorSndT5
import Derived.RowKit3
import Derived.OpenShut
import Derived.LaidMore
import Derived.Test.YtenadfoomejmkaaGreatDoorRows
/- The engine's soundness, twenty-sixth part: a call from the memory that the program's text lays. -/
namespace Go.Proofs.YtenadfoomejmkaaGreatDoor.Eng
open Go Go.WideShapes Go.ChangeShapes
set_option linter.unusedSimpArgs false
set_option linter.unusedVariables false
def phi0 : Phi := fun i => if i < 2 then some ⟨i, 0, 0, 0⟩ else none
section
variable (ω : Bool → Int)
/-- the two listed variables, as the engine's memory has them -/
structure LaidA (w : World) : Prop where
  b0 : ∀ o, H0.t.get 0 = some o → ObjOk ω phi0 w ⟨0, 0, 0, 0⟩ o
  b1 : ∀ o, H0.t.get 1 = some o → ObjOk ω phi0 w ⟨1, 0, 0, 0⟩ o
theorem H0_get (i : Nat) : H0.t.get i = if i = 0 then H0.t.get 0 else if i = 1 then H0.t.get 1 else none := by
  by_cases h0 : i = 0
  · subst h0; rw [if_pos rfl]
  · rw [if_neg h0]
    by_cases h1 : i = 1
    · subst h1; rw [if_pos rfl]
    · rw [if_neg h1]
      show (Tr.put dep 0 _ (Tr.put dep 1 _ .nil)).get i = none
      rw [get_put _ _ _ _ (by decide), if_neg h0, get_put _ _ _ _ (by decide), if_neg h1]
      rfl
theorem H0_ro (i : Nat) (o : AObj) (h : H0.t.get i = some o) : i < 2 ∧ ∃ l, o = .cells true l := by
  have hh := h
  rw [H0_get] at h
  split at h
  · refine ⟨by omega, ?_⟩
    have h : (Tr.put dep 0 _ (Tr.put dep 1 _ .nil)).get 0 = some o := h
    rw [get_put _ _ _ _ (by decide), if_pos rfl] at h
    cases h
    exact ⟨_, rfl⟩
  · split at h
    · refine ⟨by omega, ?_⟩
      have h : (Tr.put dep 0 _ (Tr.put dep 1 _ .nil)).get 1 = some o := h
      rw [get_put _ _ _ _ (by decide), if_neg (by decide), get_put _ _ _ _ (by decide), if_pos rfl] at h
      cases h
      exact ⟨_, rfl⟩
    · cases h
theorem LaidA.rel {w : World} (h : LaidA ω w) : Rel ω phi0 H0 w where
  fresh id hid := by
    have : ¬ id < 2 := Nat.not_lt.2 hid
    simp [phi0, this]
  g0 g hg := ⟨0, 0, by simp [phi0, hg]⟩
  obj i o ho := by
    have hi := (H0_ro i o ho).1
    refine ⟨⟨i, 0, 0, 0⟩, by simp [phi0, hi], Nat.lt_trans hi (by decide), ?_⟩
    match i, hi with
    | 0, _ => exact h.b0 o ho
    | 1, _ => exact h.b1 o ho
  inj i j oi oj ei ej hi hj hei hej hbl := by
    have h1 := (H0_ro i oi hi).1
    have h2 := (H0_ro j oj hj).1
    simp [phi0, h1] at hei
    simp [phi0, h2] at hej
    subst hei
    subst hej
    exact hbl
/-- what a call leaves -/
structure Kept (w w' : World) : Prop where
  os : w'.os = w.os ∧ w'.output = w.output
  heap : ∀ b, b < w.heap.size → w'.heap[b]? = w.heap[b]?
theorem Kept.frame {w w' : World} (h : Kept w w') (may : MemPlace → Prop) : w.keptBut w' may := by
  refine ⟨h.os.1, h.os.2, fun i hi => ?_⟩
  rw [h.heap i hi]
  have : w.heap[i]? = some w.heap[i] := Array.getElem?_eq_getElem hi
  rw [this]
  cases w.heap[i] <;> simp
/-- a call that the engine runs to its end -/
theorem call_ok (hω : ω true ≠ ω false) {M : Memo} (hM : MemoOk ω M) {n f : Nat} {args : List AV} {L : List Value} {r : AV} {x : Value} {w : World} (h : LaidA ω w) (hL : concL ω phi0 args = some L) (hr : ∀ φ, conc ω φ r = some x) (hc : ∃ H', callF (exec M n) f args H0 = some (r, H')) :
    Calls PP f L.toArray w fun e w' => e = .returned x ∧ Kept w w' := by
  obtain ⟨H', hc⟩ := hc
  refine (callsIn_wide (n := 0)).1 ((fn_ok ω (exec_sound ω hω hM n) hc (F := Fence.wide) ⟨fun _ => trivial, rfl⟩ (h.rel ω) hL).mono fun e w' ⟨φ', y, he, hy, hrel, hp⟩ => ?_)
  rw [hr φ'] at hy
  cases hy
  refine ⟨he, hp.os, fun b hb => ?_⟩
  by_cases ha : Alive phi0 H0 b
  · obtain ⟨i, o, e', h1, h2, h3⟩ := ha
    obtain ⟨hi, l, rfl⟩ := H0_ro i o h1
    have := (hp.ro i l e' hi h1 h2).2
    rwa [h3] at this
  · exact hp.kept b hb ha
/-! ### the listed variables -/
def dbs : List Int := [0, 1, 56, 2, 57, 49, 28, 3, 61, 58, 42, 50, 38, 29, 17, 4, 62, 47, 59, 36, 45, 43, 51, 22, 53, 39, 33, 30, 24, 18, 12, 5, 63, 55, 48, 27, 60, 41, 37, 16, 46, 35, 44, 21, 52, 32, 23, 11, 54, 26, 40, 15, 34, 20, 31, 10, 25, 14, 19, 9, 13, 8, 7, 6]
def nms : List (List UInt8) := [[], [99, 114, 101, 97, 116, 101], [110, 111, 114, 109, 97, 108], [119, 114, 105, 116, 101], [114, 101, 97, 100], [115, 101, 110, 100], [114, 101, 99, 101, 105, 118, 101], [115, 116, 97, 116, 117, 115], [112, 101, 101, 107], [112, 111, 107, 101]]
theorem H0_0 : H0.t.get 0 = some (.cells true (dbs.map fun n => .int .u8 n)) := by kernel_rfl
theorem H0_1 : H0.t.get 1 = some (.cells true (nms.map fun s => .str ⟨s.toArray⟩)) := by kernel_rfl
def laid {H : Type} : List (String × DataW H) := [("math/bits.deBruijn64tab", Rows.laid_math_bits_deBruijn64tab), ("porthole/sign.names", Rows.laid_porthole_sign_names)]
theorem laid0 {H : Type} : (Rows.laid_math_bits_deBruijn64tab : DataW H) = .agg (dbs.map fun n => DataW.lit (Lit.int .u8 n)) := rfl
theorem laid1 {H : Type} : (Rows.laid_porthole_sign_names : DataW H) = .agg (nms.map fun s => DataW.lit (Lit.string s)) := rfl
theorem g0 : PP.globalNamed "math/bits.deBruijn64tab" = some 0 := by kernel_rfl
theorem g1 : PP.globalNamed "porthole/sign.names" = some 1 := by kernel_rfl
theorem t0 : (PP.globals[0]?).map (·.type) = some 203 := by kernel_rfl
theorem t1 : (PP.globals[1]?).map (·.type) = some 288 := by kernel_rfl
theorem c5 : PP.cellsOf 5 = 1 := by kernel_rfl
theorem c9 : PP.cellsOf 9 = 1 := by kernel_rfl
theorem take_one {cs : List Value} {i : Nat} {x : Value} (h : (cs.drop (i * 1)).take 1 = [x]) : cs[i]? = some x := by
  rw [Nat.mul_one] at h
  have := congrArg (fun l => l[0]?) h
  simpa [List.getElem?_take] using this
theorem heap_of_var {P : Program} {w : World} {n : String} {g : Nat} {cs : Array Value} (hg : P.globalNamed n = some g) (h : w.var? P n = some cs) : ∃ el fz, w.heap[g]? = some (.cells cs el fz) := by
  simp only [World.var?, hg, Option.bind_some] at h
  split at h <;> simp_all
theorem of_laid {w : World} (h : laidMetH PP laid w) : LaidA ω w := by
  rw [MakeChecks.laidMetH_plain _ _ _ (by kernel_rfl)] at h
  obtain ⟨ps, ⟨i0, y0, cs0, f0, p0, q0, hg0, ht0, hv0, hd0, ⟨i1, y1, cs1, f1, p1, q1, hg1, ht1, hv1, hd1, _, _⟩, _⟩, _, _⟩ := h
  obtain rfl := Option.some.inj (g0.symm.trans hg0)
  obtain rfl := Option.some.inj (g1.symm.trans hg1)
  obtain rfl := Option.some.inj (t0.symm.trans ht0)
  obtain rfl := Option.some.inj (t1.symm.trans ht1)
  constructor
  · intro o ho
    rw [H0_0] at ho
    cases ho
    obtain ⟨el, fz, hh⟩ := heap_of_var hg0 hv0
    obtain ⟨xs, m, rfl, hx, hlen, hn, hel⟩ := DataW.trod_array Tryz.underlying203 hd0
    rw [c5] at hel
    have hxs : xs.map (·.1) = dbs.map fun n => DataW.lit (Lit.int .u8 n) := by
      have := (Prod.mk.inj hx).1
      rw [laid0] at this
      exact (DataW.agg.inj this).symm
    have hget : ∀ (i : Nat) (v : Int), dbs[i]? = some v → cs0[i]? = some (Value.int .u8 v) := fun i v hv => by
      have hi : i < 64 := (List.getElem?_eq_some_iff.1 hv).1
      have h1 := hel i hi
      rw [List.getElem?_eq_getElem (by omega)] at h1
      obtain ⟨k, e1, e2, _⟩ := DataW.trod_int Tryz.underlying5 h1
      have h2 := congrArg (fun l => l[i]?) hxs
      simp only [List.getElem?_map, hv, Option.map_some] at h2
      rw [List.getElem?_eq_getElem (by omega), e2] at h2
      simp only [Option.map_some, Option.some.injEq, DataW.lit.injEq, Lit.int.injEq, true_and] at h2
      subst h2
      simpa using take_one e1
    refine ⟨cs0, el, fz, hh, fun h => (by cases h), ?_, by simp, fun i v hv => ?_⟩
    · have := hget 63 6 rfl
      have := (Array.getElem?_eq_some_iff.1 this).1
      simp only [List.length_map]
      show 0 + 64 ≤ cs0.size
      omega
    · rw [List.getElem?_map] at hv
      cases hi : dbs[i]? with
      | none => rw [hi] at hv; cases hv
      | some n =>
        rw [hi] at hv
        cases hv
        exact ⟨_, rfl, by rw [Nat.zero_add]; exact hget i n hi⟩
  · intro o ho
    rw [H0_1] at ho
    cases ho
    obtain ⟨el, fz, hh⟩ := heap_of_var hg1 hv1
    obtain ⟨xs, m, rfl, hx, hlen, hn, hel⟩ := DataW.trod_array Tryz.underlying288 hd1
    rw [c9] at hel
    have hxs : xs.map (·.1) = nms.map fun s => DataW.lit (Lit.string s) := by
      have := (Prod.mk.inj hx).1
      rw [laid1] at this
      exact (DataW.agg.inj this).symm
    have hget : ∀ (i : Nat) (v : List UInt8), nms[i]? = some v → cs1[i]? = some (Value.string ⟨v.toArray⟩) := fun i v hv => by
      have hi : i < 10 := (List.getElem?_eq_some_iff.1 hv).1
      have h1 := hel i hi
      rw [List.getElem?_eq_getElem (by omega)] at h1
      obtain ⟨s, e1, e2, _⟩ := DataW.trod_string Tryz.underlying9 h1
      have h2 := congrArg (fun l => l[i]?) hxs
      simp only [List.getElem?_map, hv, Option.map_some] at h2
      rw [List.getElem?_eq_getElem (by omega), e2] at h2
      simp only [Option.map_some, Option.some.injEq, DataW.lit.injEq, Lit.string.injEq] at h2
      subst h2
      simpa using take_one e1
    refine ⟨cs1, el, fz, hh, fun h => (by cases h), ?_, by simp, fun i v hv => ?_⟩
    · have := hget 9 [112, 111, 107, 101] rfl
      have := (Array.getElem?_eq_some_iff.1 this).1
      simp only [List.length_map]
      show 0 + 10 ≤ cs1.size
      omega
    · rw [List.getElem?_map] at hv
      cases hi : nms[i]? with
      | none => rw [hi] at hv; cases hv
      | some n =>
        rw [hi] at hv
        cases hv
        exact ⟨_, rfl, by rw [Nat.zero_add]; exact hget i n hi⟩
end
end Go.Proofs.YtenadfoomejmkaaGreatDoor.Eng
