import Derived.Test.YtenadfoomejmkaaGreatDoorTightD
/- The engine: the runs of the two machines of the comparison 1 of the law TopTight, and the comparison, which the kernel evaluates. -/
namespace Go.Proofs.YtenadfoomejmkaaGreatDoor.Eng
open Go
set_option maxRecDepth 1000000
theorem eR11_ok : StandsE memoG eR11 := ⟨⟨300, by kernel_rfl⟩, by kernel_rfl, by kernel_rfl, by kernel_rfl⟩
theorem eR12_ok : StandsE memoG eR12 := ⟨⟨300, by kernel_rfl⟩, by kernel_rfl, by kernel_rfl, by kernel_rfl⟩
noncomputable def memoR1 : Memo := memoE memoG [eR11, eR12]
theorem eU1_ok : StandsE memoR1 eU1 := ⟨⟨300, by kernel_rfl⟩, by kernel_rfl, by kernel_rfl, by kernel_rfl⟩
theorem memoR1_ok (ω : Bool → Int) (hω : ω true ≠ ω false) : MemoOk ω memoR1 := memoE_ok ω hω (memoG_ok ω hω) (memoG_ok ω hω) (fun K hK => by
  simp only [List.mem_cons, List.not_mem_nil, or_false] at hK
  rcases hK with rfl | rfl
  · exact eR11_ok
  · exact eR12_ok)
end Go.Proofs.YtenadfoomejmkaaGreatDoor.Eng
