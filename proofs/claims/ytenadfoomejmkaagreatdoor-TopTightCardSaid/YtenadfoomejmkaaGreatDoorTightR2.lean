import Derived.Test.YtenadfoomejmkaaGreatDoorTightD
/- The engine: the runs of the two machines of the comparison 2 of the law TopTight, and the comparison, which the kernel evaluates. -/
namespace Go.Proofs.YtenadfoomejmkaaGreatDoor.Eng
open Go
set_option maxRecDepth 1000000
theorem eR21_ok : StandsE memoG eR21 := ⟨⟨300, by kernel_rfl⟩, by kernel_rfl, by kernel_rfl, by kernel_rfl⟩
theorem eR22_ok : StandsE memoG eR22 := ⟨⟨300, by kernel_rfl⟩, by kernel_rfl, by kernel_rfl, by kernel_rfl⟩
noncomputable def memoR2 : Memo := memoE memoG [eR21, eR22]
theorem eU2_ok : StandsE memoR2 eU2 := ⟨⟨300, by kernel_rfl⟩, by kernel_rfl, by kernel_rfl, by kernel_rfl⟩
theorem memoR2_ok (ω : Bool → Int) (hω : ω true ≠ ω false) : MemoOk ω memoR2 := memoE_ok ω hω (memoG_ok ω hω) (memoG_ok ω hω) (fun K hK => by
  simp only [List.mem_cons, List.not_mem_nil, or_false] at hK
  rcases hK with rfl | rfl
  · exact eR21_ok
  · exact eR22_ok)
end Go.Proofs.YtenadfoomejmkaaGreatDoor.Eng
