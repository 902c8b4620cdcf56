import Derived.Test.YtndmdlnmjamgkaaFrame
import Derived.Test.YtndmdlnmjamgkaaFrameOpn
import Derived.Test.YtndmdlnmjamgkaaPFx4
/- FrameAt: the example holds; the program's frame functions and the reference's come to the same. -/
namespace Go.Proofs.Ytndmdlnmjamgkaa.Frame
open Go.RowKit Go.Proofs.YtndmdlnmjamgkaaW.PrintWords Go.Proofs.Ytndmdlnmjamgkaa.PF Go.Proofs.Ytndmdlnmjamgkaa.Opn

theorem wakes_eq (k : Nat) (hk : 40 < k) : portholelaw09_wakes.f k = some true := by
  unfold portholelaw09_wakes.f portholelaw09_example.f
  simp only [Option.bind_some]
  rw [At_eq k (by omega), At_eq k (by omega), En_eq k (by omega)]
  rfl
theorem FrameAt_true (L : Int) (ws : List S46) (t : Int) : portholelaw09_FrameAt.f 50 L ws t = some true := by
  unfold portholelaw09_FrameAt.f
  rw [wakes_eq 50 (by omega), At_eq 50 (by omega), En_eq 50 (by omega), RefAt_eq 50 (by omega), RefEn_eq 50 (by omega), Right_eq 50 (by omega), RefRight_eq 50 (by omega)]
  simp only [Option.bind_some, if_true, beq_self_eq_true]
  split <;> rfl
theorem FrameAt_walk (W : World) (cs : Array Value) (x : Int × List S46) (hK : kFrame.K W x (Value.agg cs).cells.toList) (_hV : VI x.1 ∧ (x.2.length ≤ maxLen ∧ ∀ w ∈ x.2, VW w)) (a : Int) (_ha : (Lit.int .i64 a).wf = true) :
    Calls Try.prog 6 #[.agg cs, .int .i64 a] W fun e w' => e = .returned (.bool true) ∧ Below W.heap.size W w' := by
  obtain ⟨A, c, rfl, hl, hr⟩ := kFrame_open hK
  exact portholelaw09_FrameAt.calls 50 x.1 A c x.2 a true W hr hl (FrameAt_true _ _ _)
end Go.Proofs.Ytndmdlnmjamgkaa.Frame
