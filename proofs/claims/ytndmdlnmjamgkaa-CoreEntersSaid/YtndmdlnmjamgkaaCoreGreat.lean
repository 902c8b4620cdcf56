import Derived.Test.YtndmdlnmjamgkaaCoreRef
/- Package portholeref06 (seat of core): Great; package portholeref07: part, word; in plain words. -/
namespace Go.Proofs.Ytndmdlnmjamgkaa.Core
open Go.RowKit Go.Proofs.YtndmdlnmjamgkaaW.PrintWords Go.Proofs.YtndmdlnmjamgkaaW.PrintLast Go.Proofs.YtndmdlnmjamgkaaW.PrintMore Go.Proofs.Ytndmdlnmjamgkaa.PF Go.Proofs.Ytndmdlnmjamgkaa.Frame Go.Proofs.Ytndmdlnmjamgkaa.Box
set_option linter.unusedSimpArgs false
set_option linter.unusedVariables false
set_option maxHeartbeats 1000000 in
theorem great_calls (w : World) (A0 : Option Addr) (n0 c0 : Nat) (A1 : Option Addr) (n1 c1 : Nat) (l0 : Int) (A2 : Option Addr) (n2 c2 : Nat) (l1 : Int) (A3 : Option Addr) (n3 c3 : Nat) : Calls Try.prog 39 #[.agg #[.slice A0 n0 c0, .slice A1 n1 c1, .int .i64 l0, .slice A2 n2 c2, .int .i64 l1, .slice A3 n3 c3]] w fun e w' => e = .returned (.bool (decide (100 < n0) || (decide (100 < n1) || (decide (100 < n2) || decide (100 < n3))))) ∧ Below w.heap.size w w' := by
  have hb := Aside0.mk (below_alloc (Below.refl _ w) (.cells #[.slice A0 n0 c0, .slice A1 n1 c1, .int .i64 l0, .slice A2 n2 c2, .int .i64 l1, .slice A3 n3 c3] 61))
  obtain ⟨g, hg⟩ : ∃ g, (decide (100 < n0) || (decide (100 < n1) || (decide (100 < n2) || decide (100 < n3)))) = g := ⟨_, rfl⟩
  rw [hg]
  by_cases g0 : 100 < n0
  · have d0 : decide ((100 : Int) < (n0 : Int)) = true := decide_eq_true (by omega)
    rw [decide_eq_true g0, Bool.true_or] at hg
    subst hg
    clear g0
    go_enter Try.func39, Try.ntmps39
    go_wp2
    go_ret
    exact ⟨rfl, hb.out⟩
  · have d0 : decide ((100 : Int) < (n0 : Int)) = false := decide_eq_false (by omega)
    rw [decide_eq_false g0, Bool.false_or] at hg
    clear g0
    by_cases g1 : 100 < n1
    · have d1 : decide ((100 : Int) < (n1 : Int)) = true := decide_eq_true (by omega)
      rw [decide_eq_true g1, Bool.true_or] at hg
      subst hg
      clear g1
      go_enter Try.func39, Try.ntmps39
      go_wp2
      go_ret
      exact ⟨rfl, hb.out⟩
    · have d1 : decide ((100 : Int) < (n1 : Int)) = false := decide_eq_false (by omega)
      rw [decide_eq_false g1, Bool.false_or] at hg
      clear g1
      by_cases g2 : 100 < n2
      · have d2 : decide ((100 : Int) < (n2 : Int)) = true := decide_eq_true (by omega)
        rw [decide_eq_true g2, Bool.true_or] at hg
        subst hg
        clear g2
        go_enter Try.func39, Try.ntmps39
        go_wp2
        go_ret
        exact ⟨rfl, hb.out⟩
      · have d2 : decide ((100 : Int) < (n2 : Int)) = false := decide_eq_false (by omega)
        rw [decide_eq_false g2, Bool.false_or] at hg
        clear g2
        have d3 : decide ((100 : Int) < (n3 : Int)) = g := by rw [← hg, decide_eq_decide]; omega
        clear hg
        cases g
        all_goals
          go_enter Try.func39, Try.ntmps39
          go_wp2
          go_ret
          exact ⟨rfl, hb.out⟩
set_option maxHeartbeats 1000000 in
theorem part_calls (w : World) (A0 : Option Addr) (n0 c0 : Nat) (A1 : Option Addr) (n1 c1 : Nat) (l0 : Int) (A2 : Option Addr) (n2 c2 : Nat) (l1 : Int) (A3 : Option Addr) (n3 c3 : Nat) (p : Int) : Calls Try.prog 62 #[.agg #[.slice A0 n0 c0, .slice A1 n1 c1, .int .i64 l0, .slice A2 n2 c2, .int .i64 l1, .slice A3 n3 c3], .int .i64 p] w fun e w' => e = .returned (.bool (decide (0 ≤ p ∧ p < n0))) ∧ Below w.heap.size w w' := by
  have hb := Aside0.mk (below_alloc (Below.refl _ w) (.cells #[.slice A0 n0 c0, .slice A1 n1 c1, .int .i64 l0, .slice A2 n2 c2, .int .i64 l1, .slice A3 n3 c3] 61))
  obtain ⟨g, hg⟩ : ∃ g, decide (0 ≤ p ∧ p < (n0 : Int)) = g := ⟨_, rfl⟩
  rw [hg]
  by_cases h0 : 0 ≤ p
  · have d0 : decide (p ≥ 0) = true := decide_eq_true h0
    have d0' : decide (0 ≤ p) = true := decide_eq_true h0
    have d1 : decide (p < (n0 : Int)) = g := by rw [← hg, decide_eq_decide]; omega
    clear h0 hg
    cases g
    all_goals
      go_enter Try.func62, Try.ntmps62
      go_wp2
      go_ret
      exact ⟨rfl, hb.out⟩
  · have d0 : decide (p ≥ 0) = false := decide_eq_false h0
    have d0' : decide (0 ≤ p) = false := decide_eq_false h0
    obtain rfl : false = g := by rw [← hg]; exact (decide_eq_false (by omega)).symm
    clear h0 hg
    go_enter Try.func62, Try.ntmps62
    go_wp2
    go_ret
    exact ⟨rfl, hb.out⟩
end Go.Proofs.Ytndmdlnmjamgkaa.Core
