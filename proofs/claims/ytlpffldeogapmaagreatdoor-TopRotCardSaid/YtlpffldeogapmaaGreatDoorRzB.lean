/- TopRot: the kernel runs the evaluator. Own text. No condition of a claim. -/
import Derived.Test.YtlpffldeogapmaaGreatDoorRy
import Derived.KernelRfl
namespace Go.Proofs.YtlpffldeogapmaaGreatDoor.Ry
open Go.Proofs.YtlpffldeogapmaaGreatDoor.Ev Go.Proofs.YtlpffldeogapmaaGreatDoor.Rx
set_option maxRecDepth 1000000
theorem run_B : CHx 4 [.ui .i64, .rg .i64 0 9223372036854775808, .bx 0 0, .ub] h1 isT = true := by kernel_rfl
end Go.Proofs.YtlpffldeogapmaaGreatDoor.Ry
