/- TopBusy: the kernel runs the evaluator. Own text. No condition of a claim. -/
import Derived.Test.YtlpffldeogapmaaGreatDoorBj
import Derived.KernelRfl
namespace Go.Proofs.YtlpffldeogapmaaGreatDoor.Bj
set_option maxRecDepth 1000000
theorem run_b0 : prefixRun CHx 0 [] false = true := by kernel_rfl
end Go.Proofs.YtlpffldeogapmaaGreatDoor.Bj
