import Derived.Test.YtenadfoomejmkaaGreatDoorTightD
/- The engine: the run of wakes, which the kernel evaluates. -/
namespace Go.Proofs.YtenadfoomejmkaaGreatDoor.Eng
open Go
set_option maxRecDepth 1000000
theorem eWake_ok : StandsE memoG eWake := ⟨⟨300, by kernel_rfl⟩, by kernel_rfl, by kernel_rfl, by kernel_rfl⟩
end Go.Proofs.YtenadfoomejmkaaGreatDoor.Eng
