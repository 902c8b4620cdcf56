import Derived.Test.YtegckjbjbodhhaaWeaveCount
import Derived.Test.YtegckjbjbodhhaaWeaveWakes
/- The law WeaveCount: its walk. -/
namespace Go.Proofs.Ytegckjbjbodhhaa.Weave
open Go.RowKit Go.Proofs.YtegckjbjbodhhaaW.PrintWords Go.Proofs.YtegckjbjbodhhaaW.PrintMore
theorem WeaveCount_walk (W : World) (n : Int) (_hn : (Lit.int .i64 n).wf = true) (m : Int) (_hm : (Lit.int .i64 m).wf = true) :
    Calls Try.prog 4 #[.int .i64 n, .int .i64 m] W fun e w' => e = .returned (.bool true) ∧ Below W.heap.size W w' := by
  go_enter Try.func4, Try.ntmps4
  go_wp2_with fail
  refine (wakes_calls W).mono ?_
  rintro e w1 ⟨rfl, h1⟩
  have H1 := Aside0.mk h1
  clear h1
  go_wp2_with fail
  refine (PW.weave_Count.calls 20 n m _ _ (count_20 n m)).mono ?_
  rintro e w2 ⟨rfl, h2⟩
  have H2 := Aside0.mk h2.below
  clear h2
  go_wp2_with fail
  refine (PW.portholeref27_Count.calls 400 n m _ _ (rcount_f n m)).mono ?_
  rintro e w3 ⟨rfl, h3⟩
  have H3 := Aside0.mk h3
  clear h3
  go_wp2
  go_ret
  exact ⟨by simp, H1.out.trans ((H2.out.trans (H3.out.mono H2.out.size)).mono H1.out.size)⟩
end Go.Proofs.Ytegckjbjbodhhaa.Weave
