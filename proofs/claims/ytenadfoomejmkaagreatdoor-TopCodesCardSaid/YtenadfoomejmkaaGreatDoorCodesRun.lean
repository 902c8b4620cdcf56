import Derived.Test.YtenadfoomejmkaaGreatDoorKnown
/- The engine's run of the law TopCodes, which the kernel evaluates: any word stands as one of two unlike ones. -/
namespace Go.Proofs.YtenadfoomejmkaaGreatDoor.Eng
open Go
set_option maxRecDepth 1000000
theorem codes_run : okR (.bool true) (callF (exec memoC 300) 3 [.opq .u32 false] H0) = true := by kernel_rfl
end Go.Proofs.YtenadfoomejmkaaGreatDoor.Eng
