import Derived.Test.YtndmdlnmjamgkaaRawWakes
import Derived.Test.YtndmdlnmjamgkaaPRx1
/- RawFits: the program's word and the reference's are one. -/
namespace Go.Proofs.Ytndmdlnmjamgkaa.Box
open Go.RowKit Go.Proofs.YtndmdlnmjamgkaaW.PrintWords Go.Proofs.YtndmdlnmjamgkaaW.PrintMore Go.Proofs.Ytndmdlnmjamgkaa.PR
theorem below_drawn0 {B : Nat} {w w1 w2 : World} (h : Below B w w1) (hd : Drawn0 w1 w2) : Below B w w2 := by
  obtain ⟨n, rfl⟩ := hd.out
  exact pw_below_drewN h n
set_option maxHeartbeats 400000 in
theorem RawFits_walk (W : World) (a : Int) (_ha : (Lit.int .i64 a).wf = true) : Calls Try.prog 5 #[.int .i64 a] W fun e w' => e = .returned (.bool true) ∧ Below W.heap.size W w' := by
  clear _ha
  obtain ⟨r, hr⟩ : ∃ r, raw_Fit.f a = some r := by unfold raw_Fit.f; split <;> exact ⟨_, rfl⟩
  have hr2 : portholeref05_Fit.f a = some r := hr
  have HR := Aside0.mk hr
  have HR2 := Aside0.mk hr2
  clear hr hr2
  go_enter Try.func5, Try.ntmps5
  go_wp2_with fail
  refine (wakes_calls _).mono ?_
  rintro e w1 ⟨rfl, hb⟩
  have HB := Aside0.mk hb
  clear hb
  go_wp2_with fail
  refine (raw_Fit.calls a r _ HR.out).mono ?_
  rintro e w2 ⟨rfl, hd⟩
  have HB2 := Aside0.mk (below_drawn0 HB.out hd)
  clear hd
  go_wp2_with fail
  refine (portholeref05_Fit.calls a r _ HR2.out).mono ?_
  rintro e w3 ⟨rfl, hd⟩
  have HB3 := Aside0.mk (below_drawn0 HB2.out hd)
  clear hd
  go_wp2
  go_ret
  exact ⟨by simp, HB3.out⟩
end Go.Proofs.Ytndmdlnmjamgkaa.Box
