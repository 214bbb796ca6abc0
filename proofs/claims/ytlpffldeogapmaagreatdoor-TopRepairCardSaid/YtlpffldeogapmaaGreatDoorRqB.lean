/- TopRepair: the kernel runs the evaluator. Own text. No condition of a claim. -/
import Derived.Test.YtlpffldeogapmaaGreatDoorRq
import Derived.KernelRfl
namespace Go.Proofs.YtlpffldeogapmaaGreatDoor.Rq
open Go.Proofs.YtlpffldeogapmaaGreatDoor.Ev Go.Proofs.YtlpffldeogapmaaGreatDoor.Rx
set_option maxRecDepth 1000000
theorem run_B : CHx 3 [.ui .i64, .un, .i .u8 0] h1 isT = true := by kernel_rfl
end Go.Proofs.YtlpffldeogapmaaGreatDoor.Rq
