import Derived.Test.YtbpmmabdjabfcaaWWords
import Derived.Deep.Slices
import Derived.OpenShut
import Derived.ChangeArms
import Derived.WalkKit
import Derived.ProofKit
import Derived.ChangeOld
import Derived.Below
/- What a datum that came in reads as, kind by kind: from the form's own reading ('DataW.trod') to the printed words' kinds ('Kd'), with what is known of each number. -/
namespace Go.Proofs.Ytbpmmabdjabfcaa.Opn
open Go.RowKit Go.Proofs.YtbpmmabdjabfcaaW.PrintWords

def Opn {α : Type} (P : Program) (t : TypeId) (d : Kd α) (V : α → Prop) : Prop :=
  ∀ (H : Type) (enc : TypeId × Value → H) (W : World) (spare : Nat → Bool) (held : Bool) (fuel : Nat) (cs : List Value) (x : DataW H × List MemPlace),
    DataW.trod enc P W 0 spare held fuel t cs = some x → ∃ a, d.K W a cs ∧ V a

theorem Opn.mono {α : Type} {P : Program} {t : TypeId} {d : Kd α} {V V' : α → Prop} (h : Opn P t d V) (hv : ∀ a, V a → V' a) : Opn P t d V' := by
  intro H enc W spare held fuel cs x hx
  obtain ⟨a, ha, hva⟩ := h H enc W spare held fuel cs x hx
  exact ⟨a, ha, hv a hva⟩
theorem opn_int {P : Program} {t : TypeId} {k : IntKind} (ht : P.underlying t = some (.int k)) : Opn P t (Kd.int k) (fun n => (Lit.int k n).wf = true) := by
  intro H enc W spare held fuel cs x hx
  obtain ⟨n, rfl, _, hw⟩ := DataW.trod_int ht hx
  exact ⟨n, rfl, hw⟩
theorem opn_bool {P : Program} {t : TypeId} (ht : P.underlying t = some .bool) : Opn P t Kd.bool (fun _ => True) := by
  intro H enc W spare held fuel cs x hx
  obtain ⟨n, rfl, _⟩ := DataW.trod_bool ht hx
  exact ⟨n, rfl, trivial⟩

theorem opn_iso {α β : Type} {P : Program} {t : TypeId} {d : Kd α} {V : α → Prop} (f : β → α) (g : α → β) (hfg : ∀ a, f (g a) = a) (h : Opn P t d V) : Opn P t (Kd.iso d f) (fun b => V (f b)) := by
  intro H enc W spare held fuel cs x hx
  obtain ⟨a, ha, hv⟩ := h H enc W spare held fuel cs x hx
  exact ⟨g a, show d.K W (f (g a)) cs by rw [hfg]; exact ha, by show V (f (g a)); rw [hfg]; exact hv⟩

theorem opn_slice {α : Type} {P : Program} {t e : TypeId} {d : Kd α} {V : α → Prop} (ht : P.underlying t = some (.slice e)) (hs : P.cellsOf e = d.sz) (h : Opn P e d V) :
    Opn P t (Kd.slice e d) (fun xs => xs.length ≤ maxLen ∧ ∀ x ∈ xs, V x) := by
  intro H enc W spare held fuel cs x hx
  rcases Go.Deep.open_slice ht hx with ⟨rfl, _⟩ | ⟨a, len, cap, m, n, D, Pl, rfl, hb, hl, hm, hmm, _, hel⟩
  · exact ⟨[], ⟨none, 0, rfl, Nat.zero_le _, rfl, by simp, fun hp => absurd hp (by simp)⟩, by simp, fun x hx => by cases hx⟩
  · have hle : len ≤ m := by rw [hmm]; split <;> omega
    have key : ∀ n', n' ≤ len → ∃ xs : List α, xs.length = n' ∧ ∀ i y, xs[i]? = some y → V y ∧ ∃ c, c.length = d.sz ∧ d.K W y c ∧ ∀ j u, c[j]? = some u → W.cell? (a.add (i * d.sz + j)) = some u := by
      intro n'
      induction n' with
      | zero => intro _; exact ⟨[], rfl, fun i y hy => by simp at hy⟩
      | succ q ih =>
        intro hq
        obtain ⟨xs, hxl, hxs⟩ := ih (by omega)
        obtain ⟨cs', hcs, htr⟩ := hel q (by omega)
        obtain ⟨y, hy, hv⟩ := h H enc W spare held n cs' _ htr
        obtain ⟨_, hlen, hcell⟩ := World.cells?_some hcs
        refine ⟨xs ++ [y], by rw [List.length_append, hxl]; rfl, fun i z hz => ?_⟩
        rcases Nat.lt_or_ge i xs.length with hi | hi
        · rw [List.getElem?_append_left hi] at hz
          exact hxs i z hz
        · have hiq : i = q := by
            have := (List.getElem?_eq_some_iff.1 hz).1
            rw [List.length_append, List.length_singleton] at this
            omega
          subst hiq
          have hyz : y = z := by rw [List.getElem?_append_right hi] at hz; simpa [hxl] using hz
          subst hyz
          refine ⟨hv, cs', d.K_len hy, hy, fun j u hu => ?_⟩
          have hj : j < cs'.length := (List.getElem?_eq_some_iff.1 hu).1
          have h1 := hcell j (by omega)
          rw [hs] at h1
          rw [← Go.Deep.add_add, h1, hu]
    obtain ⟨xs, hxl, hxs⟩ := key len (Nat.le_refl _)
    subst hxl
    refine ⟨xs, ⟨some a, cap, rfl, hl, rfl, by unfold maxLen at hm; omega, fun _ => ⟨a, rfl, fun j y hy => ?_⟩⟩, by omega, fun y hy => ?_⟩
    · exact (hxs j y hy).2
    · obtain ⟨i, hi⟩ := List.getElem?_of_mem hy
      exact (hxs i y hi).1

/-- The fields of a struct from a place on. -/
def OpnL {α : Type} (P : Program) (o : Nat) (fs : List Field) (d : Kd α) (V : α → Prop) : Prop :=
  ∀ (H : Type) (enc : TypeId × Value → H) (W : World) (spare : Nat → Bool) (held : Bool) (fuel : Nat) (cs : List Value), cs.length = o + d.sz →
    (∀ f ∈ fs, ∃ x, DataW.trod enc P W 0 spare held fuel f.type ((cs.drop f.offset).take (P.cellsOf f.type)) = some x) → ∃ a, d.K W a (cs.drop o) ∧ V a
theorem opnl_one {α : Type} {P : Program} {f : Field} {o : Nat} {d : Kd α} {V : α → Prop} (h : Opn P f.type d V) (hs : P.cellsOf f.type = d.sz) (hf0 : f.offset = o) : OpnL P o [f] d V := by
  subst hf0
  intro H enc W spare held fuel cs hl hf
  obtain ⟨x, hx⟩ := hf f (by simp)
  obtain ⟨a, ha, hv⟩ := h H enc W spare held fuel _ x hx
  rw [List.take_of_length_le (by rw [List.length_drop, hs]; omega)] at ha
  exact ⟨a, ha, hv⟩
theorem opnl_cons {α β : Type} {P : Program} {f : Field} {fs : List Field} {o o0 : Nat} {d : Kd α} {d2 : Kd β} {V : α → Prop} {V2 : β → Prop}
    (h : Opn P f.type d V) (h2 : OpnL P o fs d2 V2) (hs : P.cellsOf f.type = d.sz) (hf0 : f.offset = o0) (ho : o = o0 + d.sz) : OpnL P o0 (f :: fs) (Kd.pair d d2) (fun x => V x.1 ∧ V2 x.2) := by
  subst hf0
  intro H enc W spare held fuel cs hl hf
  have hl' : cs.length = f.offset + (d.sz + d2.sz) := hl
  obtain ⟨x, hx⟩ := hf f (by simp)
  obtain ⟨a, ha, hv⟩ := h H enc W spare held fuel _ x hx
  obtain ⟨b, hb, hv2⟩ := h2 H enc W spare held fuel cs (by omega) (fun g hg => hf g (List.mem_cons_of_mem _ hg))
  refine ⟨(a, b), ⟨(cs.drop f.offset).take d.sz, cs.drop o, ?_, by rw [← hs]; exact ha, hb⟩, hv, hv2⟩
  rw [ho, ← List.drop_drop, List.take_append_drop]
theorem opn_struct {α : Type} {P : Program} {t : TypeId} {fs : Array Field} {d : Kd α} {V : α → Prop} (ht : P.underlying t = some (.struct fs)) (hs : P.cellsOf t = d.sz) (h : OpnL P 0 fs.toList d V) : Opn P t d V := by
  intro H enc W spare held fuel cs x hx
  obtain ⟨xs, n, rfl, _, hlen, hxl, hfs⟩ := DataW.trod_struct ht hx
  have hq := h H enc W spare held n cs (by omega) (fun f hf => by
    obtain ⟨i, hi⟩ := List.getElem?_of_mem hf
    rw [Array.getElem?_toList] at hi
    have h1 := hfs i f hi
    have hlt : i < xs.length := by rw [hxl]; exact (Array.getElem?_eq_some_iff.1 hi).1
    exact ⟨_, h1.trans (List.getElem?_eq_getElem hlt)⟩)
  simpa using hq
/-- An array of two. -/
theorem opn_two {α : Type} {P : Program} {t e : TypeId} {d : Kd α} {V : α → Prop} (ht : P.underlying t = some (.array 2 e)) (hs : P.cellsOf e = d.sz) (hst : P.cellsOf t = d.sz + d.sz) (h : Opn P e d V) :
    Opn P t (Kd.pair d d) (fun x => V x.1 ∧ V x.2) := by
  intro H enc W spare held fuel cs x hx
  obtain ⟨xs, m, rfl, _, hlen, hxl, hel⟩ := DataW.trod_array ht hx
  have h0 := hel 0 (by omega)
  have h1 := hel 1 (by omega)
  obtain ⟨a, ha, hva⟩ := h H enc W spare held m _ _ (h0.trans (List.getElem?_eq_getElem (by omega)))
  obtain ⟨b, hb, hvb⟩ := h H enc W spare held m _ _ (h1.trans (List.getElem?_eq_getElem (by omega)))
  refine ⟨(a, b), ⟨cs.take d.sz, cs.drop d.sz, (List.take_append_drop _ _).symm, ?_, ?_⟩, hva, hvb⟩
  · rw [hs, Nat.zero_mul, List.drop_zero] at ha; exact ha
  · rw [hs, Nat.one_mul, List.take_of_length_le (by rw [List.length_drop]; omega)] at hb; exact hb
theorem okWide_array {P : Program} {w : World} {r : Reach} {base : Nat} {t : TypeId} {v : Value} {n : Nat} {e : TypeId} (ht : P.underlying t = some (.array n e)) (h : Value.okWide P w r base t v) : ∃ cs, v = .agg cs ∧ cs.size = P.cellsOf t := by
  unfold Value.okWide at h
  rw [ht] at h
  obtain ⟨cs, h1, h2, _⟩ := h
  exact ⟨cs, h1, h2⟩
/-- Back from a value: the argument that came in. -/
theorem opn_arg {α : Type} {P : Program} {t : TypeId} {d : Kd α} {V : α → Prop} (h : Opn P t d V) {H : Type} {enc : TypeId × Value → H} {W : World} {spare : Nat → Bool} {held : Bool} {v : Value} {x : DataW H} {ps : List MemPlace}
    (ht : DataW.Trod enc P W 0 spare held t v x ps) : ∃ a, d.K W a v.cells.toList ∧ V a := by
  obtain ⟨fuel, hf⟩ := ht
  exact h H enc W spare held fuel _ _ hf
end Go.Proofs.Ytbpmmabdjabfcaa.Opn
