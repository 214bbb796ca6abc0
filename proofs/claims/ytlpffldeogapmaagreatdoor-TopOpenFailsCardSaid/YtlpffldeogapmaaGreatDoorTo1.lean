/- TopOpenFails: the kernel runs the evaluator. Own text. No condition of a claim. -/
import Derived.Test.YtlpffldeogapmaaGreatDoorTg
import Derived.KernelRfl
namespace Go.Proofs.YtlpffldeogapmaaGreatDoor.Tg
open Go Go.Proofs.YtlpffldeogapmaaGreatDoor.Ev
set_option maxRecDepth 1000000
theorem run_1_1_t : runO 1 (.sm 1 20) true = true := by kernel_rfl
theorem run_2_1_t : runO 2 (.sm 1 20) true = true := by kernel_rfl
theorem run_5_2_t : runO 5 (.sr 2 20) true = true := by kernel_rfl
theorem run_6_1_f : runO 6 (.sm 1 20) false = true := by kernel_rfl
theorem run_9_2_t : runO 9 (.sr 2 20) true = true := by kernel_rfl
theorem run_11_1_t : runO 11 (.sm 1 20) true = true := by kernel_rfl
theorem run_11_2_t : runO 11 (.sr 2 20) true = true := by kernel_rfl
end Go.Proofs.YtlpffldeogapmaaGreatDoor.Tg
