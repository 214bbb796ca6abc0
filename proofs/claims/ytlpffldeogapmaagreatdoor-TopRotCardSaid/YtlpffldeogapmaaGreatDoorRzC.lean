/- TopRot: the kernel runs the evaluator. Own text. No condition of a claim. -/
import Derived.Test.YtlpffldeogapmaaGreatDoorRy
import Derived.KernelRfl
namespace Go.Proofs.YtlpffldeogapmaaGreatDoor.Ry
open Go.Proofs.YtlpffldeogapmaaGreatDoor.Ev Go.Proofs.YtlpffldeogapmaaGreatDoor.Rx
set_option maxRecDepth 1000000
theorem run_C : CHx 4 [.ui .i64, .ui .i64, .i .u8 0, .ub] h1 isT = true := by kernel_rfl
end Go.Proofs.YtlpffldeogapmaaGreatDoor.Ry
