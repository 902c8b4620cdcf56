import Derived.Test.YtndmdlnmjamgkaaOpn
import Derived.Test.YtndmdlnmjamgkaaPFx0
/- A frame that came in: its length, and its windows. -/
namespace Go.Proofs.Ytndmdlnmjamgkaa.Frame
open Go.RowKit Go.Proofs.YtndmdlnmjamgkaaW.PrintWords Go.Proofs.Ytndmdlnmjamgkaa.PF Go.Proofs.Ytndmdlnmjamgkaa.Opn

def VI (n : Int) : Prop := (Lit.int .i64 n).wf = true
def VW (w : S46) : Prop := VI w.f0 ∧ VI w.f1 ∧ VI w.f2
theorem opn_window : Opn Try.prog 46 k46 VW := by
  refine (opn_iso (fun x : S46 => (x.f0, x.f1, x.f2)) (fun a => ⟨a.1, a.2.1, a.2.2⟩) (fun _ => rfl) (opn_struct (V := fun a : Int × Int × Int => VI a.1 ∧ VI a.2.1 ∧ VI a.2.2) Try.underlying46 ?_ ?_)).mono (fun _ h => h)
  · kernel_rfl
  · exact opnl_cons (o := 1) (opn_int Try.underlying3) (opnl_cons (o := 2) (opn_int Try.underlying3) (opnl_one (opn_int Try.underlying3) (by kernel_rfl) rfl) (by kernel_rfl) rfl rfl) (by kernel_rfl) rfl rfl
def kFrame : Kd (Int × List S46) := Kd.pair (Kd.int .i64) (Kd.slice 46 k46)
theorem opn_frame : Opn Try.prog 40 kFrame (fun x => VI x.1 ∧ (x.2.length ≤ maxLen ∧ ∀ w ∈ x.2, VW w)) := by
  refine opn_struct Try.underlying40 ?_ ?_
  · kernel_rfl
  · exact opnl_cons (o := 1) (opn_int Try.underlying3) (opnl_one (opn_slice Try.underlying38 (by kernel_rfl) opn_window) (by kernel_rfl) rfl) (by kernel_rfl) rfl rfl
theorem kFrame_open {w : World} {x : Int × List S46} {cs : Array Value} (h : kFrame.K w x (Value.agg cs).cells.toList) :
    ∃ A c, cs = #[.int .i64 x.1, .slice A x.2.length c] ∧ x.2.length ≤ c ∧ Kd.C k46 w A x.2.length x.2 := by
  obtain ⟨c0, c1, hc, h0, A, c, h1, hl, hr⟩ := h
  rw [show c0 = [Value.int .i64 x.1] from h0, h1] at hc
  refine ⟨A, c, ?_, hl, hr⟩
  have : cs.toList = [Value.int .i64 x.1, .slice A x.2.length c] := hc
  rw [← Array.toArray_toList (xs := cs), this]
end Go.Proofs.Ytndmdlnmjamgkaa.Frame
