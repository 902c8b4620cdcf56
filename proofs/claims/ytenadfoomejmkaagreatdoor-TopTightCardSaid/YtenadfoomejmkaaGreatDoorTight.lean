import Derived.Test.YtenadfoomejmkaaGreatDoorTightW
import Derived.Test.YtenadfoomejmkaaGreatDoorTightR1
import Derived.Test.YtenadfoomejmkaaGreatDoorTightR2
import Derived.Test.YtenadfoomejmkaaGreatDoorTightR3
/- The walk of the law TopTight, out of runs of the engine, which the kernel evaluates: with two words that are the same, and with two that are not. -/
namespace Go.Proofs.YtenadfoomejmkaaGreatDoor.Eng
open Go
set_option maxRecDepth 1000000
noncomputable def memoW : Memo := memoE memoG [eWake]
noncomputable def memoU : Memo := memoE (memoE (memoE memoW [eU1]) [eU2]) [eU3]
theorem one_ok {M : Memo} {x E : Eff} (h : StandsE M x) (hE : E ∈ [x]) : StandsE M E := by
  simp only [List.mem_cons, List.not_mem_nil, or_false] at hE
  rw [hE]
  exact h
theorem memoW_ok (ω : Bool → Int) (hω : ω true ≠ ω false) : MemoOk ω memoW := memoE_ok ω hω (memoG_ok ω hω) (memoG_ok ω hω) fun _ h => one_ok eWake_ok h
theorem memoU_ok (ω : Bool → Int) (hω : ω true ≠ ω false) : MemoOk ω memoU := memoE_ok ω hω (memoR3_ok ω hω) (memoE_ok ω hω (memoR2_ok ω hω) (memoE_ok ω hω (memoR1_ok ω hω) (memoW_ok ω hω) fun _ h => one_ok eU1_ok h) fun _ h => one_ok eU2_ok h) fun _ h => one_ok eU3_ok h
theorem tight_run : okR (.bool true) (callF (exec memoU 300) 5 [.opq .u32 false, .opq .u32 true] H0) = true := by kernel_rfl
theorem tight_same : okR (.bool true) (callF (exec memoW 300) 5 [.opq .u32 false, .opq .u32 false] H0) = true := by kernel_rfl
theorem TopTight_walk (a b : Int) {w : World} (h : laidMetH PP laid w) : Calls PP 5 #[.int .u32 a, .int .u32 b] w fun e w' => e = .returned (.bool true) ∧ Kept w w' := by
  by_cases hab : a = b
  · subst hab
    have hω : (fun b : Bool => if b then a + 1 else a) true ≠ (fun b : Bool => if b then a + 1 else a) false := by simp; omega
    exact call_ok (fun b : Bool => if b then a + 1 else a) hω (memoW_ok _ hω) (n := 300) (args := [.opq .u32 false, .opq .u32 false]) (of_laid _ h) (by simp [concL, conc]) (r := .bool true) (fun φ => rfl) (okR_some tight_same)
  · have hω : (fun c : Bool => if c then b else a) true ≠ (fun c : Bool => if c then b else a) false := by
      simp only [if_true, Bool.false_eq_true, if_false]
      exact fun h => hab h.symm
    exact call_ok (fun c : Bool => if c then b else a) hω (memoU_ok _ hω) (n := 300) (args := [.opq .u32 false, .opq .u32 true]) (of_laid _ h) (by simp [concL, conc]) (r := .bool true) (fun φ => rfl) (okR_some tight_run)
end Go.Proofs.YtenadfoomejmkaaGreatDoor.Eng
