/- TopBusy: the kernel runs the evaluator. Own text. No condition of a claim. -/
import Derived.Test.YtlpffldeogapmaaGreatDoorBj
import Derived.KernelRfl
namespace Go.Proofs.YtlpffldeogapmaaGreatDoor.Bj
set_option maxRecDepth 1000000
theorem run_bE0 : prefixRun CHx 1 [0, 0] true = true := by kernel_rfl
theorem run_bE : prefixRun CHx 1 [0, 0, 1] false = true := by kernel_rfl
end Go.Proofs.YtlpffldeogapmaaGreatDoor.Bj
