/- TopRepair: the kernel runs the evaluator. Own text. No condition of a claim. -/
import Derived.Test.YtlpffldeogapmaaGreatDoorRq
import Derived.KernelRfl
namespace Go.Proofs.YtlpffldeogapmaaGreatDoor.Rq
set_option maxRecDepth 1000000
theorem run_A0 : prefixRun CHx 0 970 3767072623 = true := by kernel_rfl
end Go.Proofs.YtlpffldeogapmaaGreatDoor.Rq
