import Derived.Test.YtenadfoomejmkaaGreatDoorTightD
/- The engine: the runs of the two machines of the comparison 3 of the law TopTight, and the comparison, which the kernel evaluates. -/
namespace Go.Proofs.YtenadfoomejmkaaGreatDoor.Eng
open Go
set_option maxRecDepth 1000000
theorem eR31_ok : StandsE memoG eR31 := ⟨⟨300, by kernel_rfl⟩, by kernel_rfl, by kernel_rfl, by kernel_rfl⟩
theorem eR32_ok : StandsE memoG eR32 := ⟨⟨300, by kernel_rfl⟩, by kernel_rfl, by kernel_rfl, by kernel_rfl⟩
theorem eV31_ok : StandsE memoG eV31 := ⟨⟨300, by kernel_rfl⟩, by kernel_rfl, by kernel_rfl, by kernel_rfl⟩
theorem eV32_ok : StandsE memoG eV32 := ⟨⟨300, by kernel_rfl⟩, by kernel_rfl, by kernel_rfl, by kernel_rfl⟩
noncomputable def memoR3 : Memo := memoE memoG [eR31, eR32, eV31, eV32]
theorem eU3_ok : StandsE memoR3 eU3 := ⟨⟨300, by kernel_rfl⟩, by kernel_rfl, by kernel_rfl, by kernel_rfl⟩
theorem memoR3_ok (ω : Bool → Int) (hω : ω true ≠ ω false) : MemoOk ω memoR3 := memoE_ok ω hω (memoG_ok ω hω) (memoG_ok ω hω) (fun K hK => by
  simp only [List.mem_cons, List.not_mem_nil, or_false] at hK
  rcases hK with rfl | rfl | rfl | rfl
  · exact eR31_ok
  · exact eR32_ok
  · exact eV31_ok
  · exact eV32_ok)
end Go.Proofs.YtenadfoomejmkaaGreatDoor.Eng
