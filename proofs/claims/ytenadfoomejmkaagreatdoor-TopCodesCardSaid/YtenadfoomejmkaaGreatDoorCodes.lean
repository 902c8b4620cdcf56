import Derived.Test.YtenadfoomejmkaaGreatDoorCodesRun
/- The walk of the law TopCodes, out of the engine's run. -/
namespace Go.Proofs.YtenadfoomejmkaaGreatDoor.Eng
open Go
theorem TopCodes_walk (n : Int) {w : World} (h : laidMetH PP laid w) : Calls PP 3 #[.int .u32 n] w fun e w' => e = .returned (.bool true) ∧ Kept w w' := by
  have hω : (fun b : Bool => if b then n + 1 else n) true ≠ (fun b : Bool => if b then n + 1 else n) false := by simp; omega
  exact call_ok (fun b : Bool => if b then n + 1 else n) hω (memoC_ok _ hω) (n := 300) (args := [.opq .u32 false]) (of_laid _ h) (by simp [concL, conc]) (r := .bool true) (fun φ => rfl) (okR_some codes_run)
end Go.Proofs.YtenadfoomejmkaaGreatDoor.Eng
