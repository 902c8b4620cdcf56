import Derived.Test.YtbpmmabdjabfcaaTableParse
import Derived.Test.YtbpmmabdjabfcaaOpn
/- A configuration that came in, and words that came in. -/
namespace Go.Proofs.Ytbpmmabdjabfcaa.Table
open Go.RowKit Go.Proofs.YtbpmmabdjabfcaaW.PrintWords Go.Proofs.YtbpmmabdjabfcaaW.PrintLast Go.Proofs.YtbpmmabdjabfcaaW.PrintMore Go.Proofs.Ytbpmmabdjabfcaa.Box Go.Proofs.Ytbpmmabdjabfcaa.PT Go.Proofs.Ytbpmmabdjabfcaa.Opn
def kF : Kd (Int × List S72) := Kd.pair (Kd.int .i64) (Kd.slice 72 k72)
def kCfg : Kd (List S64 × List S68 × (Int × List S72) × (Int × List S72)) := Kd.pair (Kd.slice 64 k64) (Kd.pair (Kd.slice 68 k68) (Kd.pair kF kF))
def W64 (n : Int) : Prop := (Lit.int .i64 n).wf = true
def W32 (n : Int) : Prop := (Lit.int .u32 n).wf = true
theorem opn_part : Opn Try.prog 64 k64 (fun x => W64 x.f0 ∧ W64 x.f1) :=
  opn_iso (fun x : S64 => (x.f0, x.f1)) (fun p => ⟨p.1, p.2⟩) (fun _ => rfl)
    (opn_struct Try.underlying64 (by kernel_rfl) (opnl_cons (opn_int Try.underlying3) (opnl_one (opn_int Try.underlying3) (by kernel_rfl) rfl) (by kernel_rfl) rfl rfl))
theorem opn_window : Opn Try.prog 72 k72 (fun x => W64 x.f0 ∧ W64 x.f1 ∧ W64 x.f2) :=
  opn_iso (fun x : S72 => (x.f0, x.f1, x.f2)) (fun p => ⟨p.1, p.2.1, p.2.2⟩) (fun _ => rfl)
    (opn_struct Try.underlying72 (by kernel_rfl) (opnl_cons (opn_int Try.underlying3) (opnl_cons (opn_int Try.underlying3) (opnl_one (opn_int Try.underlying3) (by kernel_rfl) rfl) (by kernel_rfl) rfl rfl) (by kernel_rfl) rfl rfl))
theorem opn_chan : Opn Try.prog 68 k68 (fun x => W64 x.f0 ∧ W64 x.f1 ∧ W64 x.f2 ∧ W64 x.f3 ∧ W64 x.f4 ∧ W64 x.f5 ∧ W32 x.f6) :=
  opn_iso (fun x : S68 => (x.f0, x.f1, x.f2, x.f3, x.f4, x.f5, x.f6)) (fun p => ⟨p.1, p.2.1, p.2.2.1, p.2.2.2.1, p.2.2.2.2.1, p.2.2.2.2.2.1, p.2.2.2.2.2.2⟩) (fun _ => rfl)
    (opn_struct Try.underlying68 (by kernel_rfl) (opnl_cons (opn_int Try.underlying3) (opnl_cons (opn_int Try.underlying3) (opnl_cons (opn_int Try.underlying3) (opnl_cons (opn_int Try.underlying3) (opnl_cons (opn_int Try.underlying3) (opnl_cons (opn_int Try.underlying3)
      (opnl_one (opn_int Try.underlying43) (by kernel_rfl) rfl) (by kernel_rfl) rfl rfl) (by kernel_rfl) rfl rfl) (by kernel_rfl) rfl rfl) (by kernel_rfl) rfl rfl) (by kernel_rfl) rfl rfl) (by kernel_rfl) rfl rfl))
def VP (x : S64) : Prop := W64 x.f0 ∧ W64 x.f1
def VX (x : S68) : Prop := W64 x.f0 ∧ W64 x.f1 ∧ W64 x.f2 ∧ W64 x.f3 ∧ W64 x.f4 ∧ W64 x.f5 ∧ W32 x.f6
def VW (x : S72) : Prop := W64 x.f0 ∧ W64 x.f1 ∧ W64 x.f2
theorem opn_part' : Opn Try.prog 64 k64 VP := opn_part.mono (fun _ h => h)
theorem opn_chan' : Opn Try.prog 68 k68 VX := opn_chan.mono (fun _ h => h)
theorem opn_window' : Opn Try.prog 72 k72 VW := opn_window.mono (fun _ h => h)
def VPs (xs : List S64) : Prop := xs.length ≤ maxLen ∧ ∀ x ∈ xs, VP x
theorem opn_parts : Opn Try.prog 24 (Kd.slice 64 k64) VPs := (opn_slice Try.underlying24 (by kernel_rfl) opn_part').mono (fun _ h => h)
def VXs (xs : List S68) : Prop := xs.length ≤ maxLen ∧ ∀ x ∈ xs, VX x
theorem opn_chans : Opn Try.prog 25 (Kd.slice 68 k68) VXs := (opn_slice Try.underlying25 (by kernel_rfl) opn_chan').mono (fun _ h => h)
def VWs (xs : List S72) : Prop := xs.length ≤ maxLen ∧ ∀ x ∈ xs, VW x
theorem opn_windows : Opn Try.prog 26 (Kd.slice 72 k72) VWs := (opn_slice Try.underlying26 (by kernel_rfl) opn_window').mono (fun _ h => h)
def VF (x : Int × List S72) : Prop := W64 x.1 ∧ VWs x.2
theorem opn_i64 : Opn Try.prog 3 (Kd.int .i64) W64 := opn_int Try.underlying3
theorem opn_frame : Opn Try.prog 28 kF (fun x => W64 x.1 ∧ VWs x.2) := by
  refine opn_struct Try.underlying28 ?_ ?_
  · kernel_rfl
  · exact opnl_cons (V := W64) (V2 := VWs) (o := 1) opn_i64 (opnl_one opn_windows (by kernel_rfl) rfl) (by kernel_rfl) rfl rfl
theorem opn_frame' : Opn Try.prog 28 kF VF := opn_frame.mono (fun _ h => h)
def VFs (x : (Int × List S72) × (Int × List S72)) : Prop := VF x.1 ∧ VF x.2
theorem opn_frames : Opn Try.prog 29 (Kd.pair kF kF) VFs := (opn_two Try.underlying29 (by kernel_rfl) (by kernel_rfl) opn_frame').mono (fun _ h => h)
def VXF (x : List S68 × (Int × List S72) × (Int × List S72)) : Prop := VXs x.1 ∧ VFs x.2
def VC (x : List S64 × List S68 × (Int × List S72) × (Int × List S72)) : Prop := VPs x.1 ∧ VXF x.2
theorem opn_cfg : Opn Try.prog 31 kCfg VC := by
  have h : Opn Try.prog 31 kCfg (fun x : List S64 × List S68 × (Int × List S72) × (Int × List S72) => VPs x.1 ∧ (VXs x.2.1 ∧ VFs x.2.2)) := by
    refine opn_struct Try.underlying31 ?_ ?_
    · kernel_rfl
    · exact opnl_cons (V := VPs) (V2 := fun x : List S68 × (Int × List S72) × (Int × List S72) => VXs x.1 ∧ VFs x.2) (o := 1) opn_parts (opnl_cons (V := VXs) (V2 := VFs) (o := 2) opn_chans (opnl_one opn_frames (by kernel_rfl) rfl) (by kernel_rfl) rfl rfl) (by kernel_rfl) rfl rfl
  exact h.mono (fun _ h => h)
def cfgOf (x : List S64 × List S68 × (Int × List S72) × (Int × List S72)) : Cfg := ⟨x.1, x.2.1, x.2.2.1.1, x.2.2.1.2, x.2.2.2.1, x.2.2.2.2⟩
theorem isCfg_of {w : World} {x : List S64 × List S68 × (Int × List S72) × (Int × List S72)} {cs : Array Value} (h : kCfg.K w x cs.toList) : IsCfg w (cfgOf x) cs := by
  obtain ⟨_, _, e, ⟨A0, c0, rfl, l0, h0⟩, _, _, rfl, ⟨A1, c1, rfl, l1, h1⟩, _, _, rfl, ⟨_, _, rfl, rfl, A2, c2, rfl, l2, h2⟩, _, _, rfl, rfl, A3, c3, rfl, l3, h3⟩ := h
  refine ⟨A0, c0, A1, c1, A2, c2, A3, c3, ?_, ⟨l0, l1, l2, l3⟩, h0, h1, h2, h3⟩
  rw [← Array.toArray_toList (xs := cs), e]
  rfl
end Go.Proofs.Ytbpmmabdjabfcaa.Table
