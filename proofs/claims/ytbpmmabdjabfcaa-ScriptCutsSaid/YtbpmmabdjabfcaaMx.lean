import Derived.Test.YtbpmmabdjabfcaaWWords
import Derived.Test.YtbpmmabdjabfcaaWLast
/- The greatest and the least of some numbers, step by step, as the walk wants them. No condition. -/
namespace Go.Proofs.YtbpmmabdjabfcaaW.PrintMore
open Go.RowKit Go.Proofs.YtbpmmabdjabfcaaW.PrintWords
theorem max2_int (k k' : IntKind) (x y : Int) : Builtin.max2 (.int k x) (.int k' y) = pure (.int k (if x < y then y else x)) := by
  simp only [Builtin.max2, gt_iff_lt]
theorem min2_int (k k' : IntKind) (x y : Int) : Builtin.min2 (.int k x) (.int k' y) = pure (.int k (if y < x then y else x)) := by
  simp only [Builtin.min2]
theorem max_two (ts : Array TypeId) (t : TypeId) (a b : Value) : Builtin.max_ ts t #[a, b] = (Builtin.max2 a b >>= fun s => pure s) := by
  simp only [Builtin.max_, List.foldlM_cons, List.foldlM_nil]
theorem min_two (ts : Array TypeId) (t : TypeId) (a b : Value) : Builtin.min_ ts t #[a, b] = (Builtin.min2 a b >>= fun s => pure s) := by
  simp only [Builtin.min_, List.foldlM_cons, List.foldlM_nil]
theorem max_three (ts : Array TypeId) (t : TypeId) (a b c : Value) : Builtin.max_ ts t #[a, b, c] = (Builtin.max2 a b >>= fun s => Builtin.max2 s c >>= fun s => pure s) := by
  simp only [Builtin.max_, List.foldlM_cons, List.foldlM_nil]
theorem min_three (ts : Array TypeId) (t : TypeId) (a b c : Value) : Builtin.min_ ts t #[a, b, c] = (Builtin.min2 a b >>= fun s => Builtin.min2 s c >>= fun s => pure s) := by
  simp only [Builtin.min_, List.foldlM_cons, List.foldlM_nil]
theorem max_four (ts : Array TypeId) (t : TypeId) (a b c d : Value) : Builtin.max_ ts t #[a, b, c, d] = (Builtin.max2 a b >>= fun s => Builtin.max2 s c >>= fun s => Builtin.max2 s d >>= fun s => pure s) := by
  simp only [Builtin.max_, List.foldlM_cons, List.foldlM_nil]
theorem min_four (ts : Array TypeId) (t : TypeId) (a b c d : Value) : Builtin.min_ ts t #[a, b, c, d] = (Builtin.min2 a b >>= fun s => Builtin.min2 s c >>= fun s => Builtin.min2 s d >>= fun s => pure s) := by
  simp only [Builtin.min_, List.foldlM_cons, List.foldlM_nil]
end Go.Proofs.YtbpmmabdjabfcaaW.PrintMore
