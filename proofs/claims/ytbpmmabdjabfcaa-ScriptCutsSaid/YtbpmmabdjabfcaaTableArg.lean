import Derived.Test.YtbpmmabdjabfcaaTableParse
import Derived.Test.YtbpmmabdjabfcaaTableEq
import Derived.Test.YtbpmmabdjabfcaaTableSame
import Derived.Test.YtbpmmabdjabfcaaTableOpn
import Derived.OpenShut
/- Words that came in; what is parsed is short. -/
namespace Go.Proofs.Ytbpmmabdjabfcaa.Table
open Go.RowKit Go.Proofs.YtbpmmabdjabfcaaW.PrintWords Go.Proofs.YtbpmmabdjabfcaaW.PrintLast Go.Proofs.YtbpmmabdjabfcaaW.PrintMore Go.Proofs.Ytbpmmabdjabfcaa.Box Go.Proofs.Ytbpmmabdjabfcaa.PT Go.Proofs.Ytbpmmabdjabfcaa.Opn
set_option linter.unusedSimpArgs false
theorem opn_words : Opn Try.prog 22 (Kd.slice 43 (Kd.int .u32)) (fun xs => xs.length ≤ maxLen ∧ ∀ x ∈ xs, (Lit.int .u32 x).wf = true) := opn_slice Try.underlying22 (by kernel_rfl) (opn_int Try.underlying43)
theorem words_of {ws : List Int} (h : ∀ x ∈ ws, (Lit.int .u32 x).wf = true) : Words ws := fun x hx => by
  exact bounds_u32 (h x hx)
theorem parseC_short {ws : List Int} : Short (parseR ws) := by
  unfold parseR
  by_cases h : parseE ws = 0
  · rw [if_pos h]
    unfold parseE at h
    by_cases h6 : ws.length < 6
    · rw [if_pos h6] at h; exact absurd h (by decide)
    · rw [if_neg h6] at h
      by_cases hb : bigW ws
      · rw [if_pos hb] at h; exact absurd h (by decide)
      · unfold bigW at hb
        unfold parseC Short
        simp only [parts_length, chans_length, windows_length]
        omega
  · rw [if_neg h]
    exact ⟨by decide, by decide, by decide, by decide⟩
end Go.Proofs.Ytbpmmabdjabfcaa.Table
