/- TopRot: the kernel runs the evaluator. Own text. No condition of a claim. -/
import Derived.Test.YtlpffldeogapmaaGreatDoorRy
import Derived.KernelRfl
namespace Go.Proofs.YtlpffldeogapmaaGreatDoor.Ry
open Go.Proofs.YtlpffldeogapmaaGreatDoor.Ev Go.Proofs.YtlpffldeogapmaaGreatDoor.Rx
set_option maxRecDepth 1000000
theorem run_A21f : CHx 4 [.sm 2 3, .nm 1 2, .bx 0 0, .b false] h1 isT = true := by kernel_rfl
end Go.Proofs.YtlpffldeogapmaaGreatDoor.Ry
