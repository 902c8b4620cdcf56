import Derived.Test.YtndmdlnmjamgkaaCoreAccH
import Derived.Test.YtndmdlnmjamgkaaFrameOpn
/- A configuration that came in (seat of core). -/
namespace Go.Proofs.Ytndmdlnmjamgkaa.Core
open Go.RowKit Go.Proofs.YtndmdlnmjamgkaaW.PrintWords Go.Proofs.YtndmdlnmjamgkaaW.PrintLast Go.Proofs.YtndmdlnmjamgkaaW.PrintMore Go.Proofs.Ytndmdlnmjamgkaa.PF Go.Proofs.Ytndmdlnmjamgkaa.Frame Go.Proofs.Ytndmdlnmjamgkaa.Opn
/-- A configuration's cells. -/
def IsCfg (w : World) (f : Fr) (ps : List S69) (xs : List S87) (cs : Array Value) : Prop := ∃ Ap cp Ax cx A2 c2 A3 c3, cs = #[.slice Ap ps.length cp, .slice Ax xs.length cx, .int .i64 f.l0, .slice A2 f.ws0.length c2, .int .i64 f.l1, .slice A3 f.ws1.length c3] ∧ (f.ws0.length ≤ c2 ∧ f.ws1.length ≤ c3) ∧ Kd.C k69 w Ap ps.length ps ∧ Kd.C k87 w Ax xs.length xs ∧ Kd.C k46 w A2 f.ws0.length f.ws0 ∧ Kd.C k46 w A3 f.ws1.length f.ws1
theorem IsCfg.fr {w : World} {f : Fr} {ps : List S69} {xs : List S87} {cs : Array Value} (h : IsCfg w f ps xs cs) : IsFr w f cs := by
  obtain ⟨Ap, cp, Ax, cx, A2, c2, A3, c3, rfl, hl, hp, hx, h2, h3⟩ := h
  exact ⟨_, _, _, _, _, _, _, _, _, _, rfl, hl, h2, h3⟩
def kF : Kd (Int × List S46) := Kd.pair (Kd.int .i64) (Kd.slice 46 k46)
def kCfg : Kd (List S69 × List S87 × (Int × List S46) × (Int × List S46)) := Kd.pair (Kd.slice 69 k69) (Kd.pair (Kd.slice 87 k87) (Kd.pair kF kF))
def W64 (n : Int) : Prop := (Lit.int .i64 n).wf = true
def W32 (n : Int) : Prop := (Lit.int .u32 n).wf = true
theorem opn_part : Opn Try.prog 69 k69 (fun x => W64 x.f0 ∧ W64 x.f1) :=
  opn_iso (fun x : S69 => (x.f0, x.f1)) (fun p => ⟨p.1, p.2⟩) (fun _ => rfl)
    (opn_struct Try.underlying69 (by kernel_rfl) (opnl_cons (opn_int Try.underlying3) (opnl_one (opn_int Try.underlying3) (by kernel_rfl) rfl) (by kernel_rfl) rfl rfl))
theorem opn_chan : Opn Try.prog 87 k87 (fun x => W64 x.f0 ∧ W64 x.f1 ∧ W64 x.f2 ∧ W64 x.f3 ∧ W64 x.f4 ∧ W64 x.f5 ∧ W32 x.f6) :=
  opn_iso (fun x : S87 => (x.f0, x.f1, x.f2, x.f3, x.f4, x.f5, x.f6)) (fun p => ⟨p.1, p.2.1, p.2.2.1, p.2.2.2.1, p.2.2.2.2.1, p.2.2.2.2.2.1, p.2.2.2.2.2.2⟩) (fun _ => rfl)
    (opn_struct Try.underlying87 (by kernel_rfl) (opnl_cons (opn_int Try.underlying3) (opnl_cons (opn_int Try.underlying3) (opnl_cons (opn_int Try.underlying3) (opnl_cons (opn_int Try.underlying3) (opnl_cons (opn_int Try.underlying3) (opnl_cons (opn_int Try.underlying3)
      (opnl_one (opn_int Try.underlying29) (by kernel_rfl) rfl) (by kernel_rfl) rfl rfl) (by kernel_rfl) rfl rfl) (by kernel_rfl) rfl rfl) (by kernel_rfl) rfl rfl) (by kernel_rfl) rfl rfl) (by kernel_rfl) rfl rfl))
def VP (x : S69) : Prop := W64 x.f0 ∧ W64 x.f1
def VX (x : S87) : Prop := W64 x.f0 ∧ W64 x.f1 ∧ W64 x.f2 ∧ W64 x.f3 ∧ W64 x.f4 ∧ W64 x.f5 ∧ W32 x.f6
theorem opn_part' : Opn Try.prog 69 k69 VP := opn_part.mono (fun _ h => h)
theorem opn_chan' : Opn Try.prog 87 k87 VX := opn_chan.mono (fun _ h => h)
def VPs (xs : List S69) : Prop := xs.length ≤ maxLen ∧ ∀ x ∈ xs, VP x
theorem opn_parts : Opn Try.prog 57 (Kd.slice 69 k69) VPs := (opn_slice Try.underlying57 (by kernel_rfl) opn_part').mono (fun _ h => h)
def VXs (xs : List S87) : Prop := xs.length ≤ maxLen ∧ ∀ x ∈ xs, VX x
theorem opn_chans : Opn Try.prog 58 (Kd.slice 87 k87) VXs := (opn_slice Try.underlying58 (by kernel_rfl) opn_chan').mono (fun _ h => h)
def VWs (xs : List S46) : Prop := xs.length ≤ maxLen ∧ ∀ x ∈ xs, VW x
theorem opn_windows : Opn Try.prog 38 (Kd.slice 46 k46) VWs := (opn_slice Try.underlying38 (by kernel_rfl) opn_window).mono (fun _ h => h)
def VF (x : Int × List S46) : Prop := W64 x.1 ∧ VWs x.2
theorem opn_i64 : Opn Try.prog 3 (Kd.int .i64) W64 := opn_int Try.underlying3
theorem opn_frame2 : Opn Try.prog 40 kF (fun x => W64 x.1 ∧ VWs x.2) := by
  refine opn_struct Try.underlying40 ?_ ?_
  · kernel_rfl
  · exact opnl_cons (V := W64) (V2 := VWs) (o := 1) opn_i64 (opnl_one opn_windows (by kernel_rfl) rfl) (by kernel_rfl) rfl rfl
theorem opn_frame' : Opn Try.prog 40 kF VF := opn_frame2.mono (fun _ h => h)
def VFs (x : (Int × List S46) × (Int × List S46)) : Prop := VF x.1 ∧ VF x.2
theorem opn_frames : Opn Try.prog 59 (Kd.pair kF kF) VFs := (opn_two Try.underlying59 (by kernel_rfl) (by kernel_rfl) opn_frame').mono (fun _ h => h)
def VXF (x : List S87 × (Int × List S46) × (Int × List S46)) : Prop := VXs x.1 ∧ VFs x.2
def VC (x : List S69 × List S87 × (Int × List S46) × (Int × List S46)) : Prop := VPs x.1 ∧ VXF x.2
theorem opn_cfg : Opn Try.prog 61 kCfg VC := by
  have h : Opn Try.prog 61 kCfg (fun x : List S69 × List S87 × (Int × List S46) × (Int × List S46) => VPs x.1 ∧ (VXs x.2.1 ∧ VFs x.2.2)) := by
    refine opn_struct Try.underlying61 ?_ ?_
    · kernel_rfl
    · exact opnl_cons (V := VPs) (V2 := fun x : List S87 × (Int × List S46) × (Int × List S46) => VXs x.1 ∧ VFs x.2) (o := 1) opn_parts (opnl_cons (V := VXs) (V2 := VFs) (o := 2) opn_chans (opnl_one opn_frames (by kernel_rfl) rfl) (by kernel_rfl) rfl rfl) (by kernel_rfl) rfl rfl
  exact h.mono (fun _ h => h)
def frOf (x : List S69 × List S87 × (Int × List S46) × (Int × List S46)) : Fr := ⟨x.2.2.1.1, x.2.2.1.2, x.2.2.2.1, x.2.2.2.2⟩
theorem isCfg_of {w : World} {x : List S69 × List S87 × (Int × List S46) × (Int × List S46)} {cs : Array Value} (h : kCfg.K w x cs.toList) : IsCfg w (frOf x) x.1 x.2.1 cs := by
  obtain ⟨_, _, e, ⟨A0, c0, rfl, l0, h0⟩, _, _, rfl, ⟨A1, c1, rfl, l1, h1⟩, _, _, rfl, ⟨_, _, rfl, rfl, A2, c2, rfl, l2, h2⟩, _, _, rfl, rfl, A3, c3, rfl, l3, h3⟩ := h
  refine ⟨A0, c0, A1, c1, A2, c2, A3, c3, ?_, ⟨l2, l3⟩, h0, h1, h2, h3⟩
  rw [← Array.toArray_toList (xs := cs), e]
  rfl
end Go.Proofs.Ytndmdlnmjamgkaa.Core
