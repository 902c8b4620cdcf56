import Derived.Test.YtbpmmabdjabfcaaProg
import Derived.Test.YtbpmmabdjabfcaaWWords
import Derived.Test.YtbpmmabdjabfcaaMx
import Derived.WalkKit
import Derived.KernelRfl
import Derived.RowKit
import Derived.Deep.QuietTactic
import Derived.BigQuiet
import Derived.WideLaws
import Derived.Laws.Slices
import Derived.Deep.Draws
import Derived.Maps.AppendAt
/- Package raw: a box of words that are read one by one; what Next does. The box may be the head of a greater block (a reader): 'rest' are that block's other cells. -/
namespace Go.Proofs.Ytbpmmabdjabfcaa.Box
open Go.RowKit Go.Proofs.YtbpmmabdjabfcaaW.PrintWords Go.Proofs.YtbpmmabdjabfcaaW.PrintMore

/-- Block g of W begins with a box: ws are left to be read (they lie as they lay in w0), s: there were too few. -/
def IsBox (w0 W : World) (g : Nat) (T : Nat) (rest : List Value) (ws : List Int) (s : Bool) : Prop :=
  ∃ A c, W.heap[g]? = some (.cells (.slice A ws.length c :: .bool s :: rest).toArray T (0, 0)) ∧ w0.heap.size ≤ g ∧ ws.length ≤ c ∧ Kd.C (Kd.int .u32) w0 A ws.length ws

theorem isbox_of {w0 w : World} {g T : Nat} {rest : List Value} {A : Option Addr} {n c : Nat} {ws : List Int} {s : Bool} (hg : w.heap[g]? = some (.cells (.slice A n c :: .bool s :: rest).toArray T (0, 0))) (hgb : w0.heap.size ≤ g)
    {A' : Option Addr} {n' c' : Nat} (hn : n' = ws.length) (hc : n' ≤ c') (hr : Kd.C (Kd.int .u32) w0 A' ws.length ws) : IsBox w0 (w.setCell ⟨g, 0, none⟩ (.slice A' n' c')) g T rest ws s := by
  subst hn
  exact ⟨A', c', blk_put hg 0 _ rfl, hgb, hc, hr⟩
theorem isbox_short {w0 w : World} {g T : Nat} {rest : List Value} {ws : List Int} {s : Bool} (hI : IsBox w0 w g T rest ws s) (s' : Bool) : IsBox w0 (w.setCell ⟨g, 1, none⟩ (.bool s')) g T rest ws s' := by
  obtain ⟨A, c, hg, h⟩ := hI
  exact ⟨A, c, blk_put hg 1 _ rfl, h⟩
theorem IsBox.ge {w0 w : World} {g T : Nat} {rest : List Value} {ws : List Int} {s : Bool} (hI : IsBox w0 w g T rest ws s) : w0.heap.size ≤ g := by
  obtain ⟨A, c, hg, h, _⟩ := hI
  exact h
theorem IsBox.below {w0 w w1 : World} {g T : Nat} {rest : List Value} {ws : List Int} {s : Bool} (hI : IsBox w0 w g T rest ws s) (hb : Below w.heap.size w w1) : IsBox w0 w1 g T rest ws s := by
  obtain ⟨A, c, hg, h⟩ := hI
  exact ⟨A, c, blk_below hg hb, h⟩

set_option maxHeartbeats 400000 in
theorem next_cons (T : Nat) (rest : List Value) (g : Nat) (x : Int) (ws : List Int) (s : Bool) (w0 w : World) (hI : IsBox w0 w g T rest (x :: ws) s) (hB : Below w0.heap.size w0 w) :
    Calls Try.prog 30 #[.pointer (some ⟨g, 0, none⟩)] w fun e w' => e = .returned (.int .u32 x) ∧ IsBox w0 w' g T rest ws s ∧ Below w0.heap.size w0 w' ∧ KeepBut w w' g none := by
  obtain ⟨A, c, hg, hgb, hc, hr⟩ := hI
  have hc0 : w.cell? ⟨g, 0, none⟩ = some (.slice A (ws.length + 1) c) := (blk_cell hg 0).trans rfl
  have hf0 := blk_frozen hg 0
  obtain ⟨ad, rfl, hx⟩ := Kd.at_int hr 0 (by omega) (by simp)
  have hx' : w.cell? ad = some (.int .u32 x) := (pw_cell_below hB hx).trans rfl
  have HG := Aside0.mk hg
  have HGB := Aside0.mk hgb
  have HB := Aside0.mk hB
  have HC := Aside0.mk hc
  have hd := Kd.C_drop (m := 1) hr (by simp) hc
  rw [show (Kd.int IntKind.u32).sz = 1 from rfl, Nat.mul_one] at hd
  have HR := Aside0.mk hd
  clear hg hgb hB hc hr hx hd
  go_enter Try.func30, Try.ntmps30
  go_wp2
  all_goals
    go_ret
    refine ⟨rfl, isbox_of HG.out HGB.out rfl (by have := HC.out; simp at this; omega) ?_, HB.out.setCell HGB.out _, (KeepBut.refl w g none).set_ _ _⟩
    simpa [Addr.add, *] using HR.out
theorem next_nil (T : Nat) (rest : List Value) (g : Nat) (s : Bool) (w0 w : World) (hI : IsBox w0 w g T rest [] s) (hB : Below w0.heap.size w0 w) :
    Calls Try.prog 30 #[.pointer (some ⟨g, 0, none⟩)] w fun e w' => e = .returned (.int .u32 0) ∧ IsBox w0 w' g T rest [] true ∧ Below w0.heap.size w0 w' ∧ KeepBut w w' g none := by
  have HI := Aside0.mk hI
  obtain ⟨A, c, hg, hgb, hc, hr⟩ := hI
  have hc0 : w.cell? ⟨g, 0, none⟩ = some (.slice A 0 c) := (blk_cell hg 0).trans rfl
  have hc1 : w.cell? ⟨g, 1, none⟩ = some (.bool s) := (blk_cell hg 1).trans rfl
  have hf1 := blk_frozen hg 1
  have HB := Aside0.mk hB
  clear hg hgb hB hc hr
  go_enter Try.func30, Try.ntmps30
  go_wp2
  go_ret
  exact ⟨rfl, isbox_short HI.out true, HB.out.setCell HI.out.ge _, (KeepBut.refl w g none).set_ _ _⟩
/-- Next, in one word: the first word, or 0, and too few. -/
def nextV (ws : List Int) : Int := ws.headD 0
def nextS (ws : List Int) (s : Bool) : Bool := ws.isEmpty || s
theorem next_any (T : Nat) (rest : List Value) (g : Nat) (ws : List Int) (s : Bool) (w0 w : World) (hI : IsBox w0 w g T rest ws s) (hB : Below w0.heap.size w0 w) :
    Calls Try.prog 30 #[.pointer (some ⟨g, 0, none⟩)] w fun e w' => e = .returned (.int .u32 (nextV ws)) ∧ IsBox w0 w' g T rest ws.tail (nextS ws s) ∧ Below w0.heap.size w0 w' ∧ KeepBut w w' g none := by
  cases ws with
  | nil => exact next_nil T rest g s w0 w hI hB
  | cons x r => exact next_cons T rest g x r s w0 w hI hB
end Go.Proofs.Ytbpmmabdjabfcaa.Box
