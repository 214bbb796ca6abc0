/- TopOpenFails: the kernel runs the evaluator. Own text. No condition of a claim. -/
import Derived.Test.YtlpffldeogapmaaGreatDoorTg
import Derived.KernelRfl
namespace Go.Proofs.YtlpffldeogapmaaGreatDoor.Tg
open Go Go.Proofs.YtlpffldeogapmaaGreatDoor.Ev
set_option maxRecDepth 1000000
theorem run_0_0_f : runO 0 (.sm 0 20) false = true := by kernel_rfl
theorem run_0_2_f : runO 0 (.sr 2 20) false = true := by kernel_rfl
theorem run_3_0_t : runO 3 (.sm 0 20) true = true := by kernel_rfl
theorem run_3_2_f : runO 3 (.sr 2 20) false = true := by kernel_rfl
theorem run_4_0_t : runO 4 (.sm 0 20) true = true := by kernel_rfl
theorem run_4_2_f : runO 4 (.sr 2 20) false = true := by kernel_rfl
theorem run_8_2_f : runO 8 (.sr 2 20) false = true := by kernel_rfl
theorem run_9_0_t : runO 9 (.sm 0 20) true = true := by kernel_rfl
end Go.Proofs.YtlpffldeogapmaaGreatDoor.Tg
