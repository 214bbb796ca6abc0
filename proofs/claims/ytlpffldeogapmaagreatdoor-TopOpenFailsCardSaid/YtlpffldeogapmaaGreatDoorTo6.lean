/- TopOpenFails: the kernel runs the evaluator. Own text. No condition of a claim. -/
import Derived.Test.YtlpffldeogapmaaGreatDoorTg
import Derived.KernelRfl
namespace Go.Proofs.YtlpffldeogapmaaGreatDoor.Tg
open Go Go.Proofs.YtlpffldeogapmaaGreatDoor.Ev
set_option maxRecDepth 1000000
theorem run_0_1_f : runO 0 (.sm 1 20) false = true := by kernel_rfl
theorem run_2_2_f : runO 2 (.sr 2 20) false = true := by kernel_rfl
theorem run_5_0_t : runO 5 (.sm 0 20) true = true := by kernel_rfl
theorem run_6_2_f : runO 6 (.sr 2 20) false = true := by kernel_rfl
theorem run_7_0_f : runO 7 (.sm 0 20) false = true := by kernel_rfl
theorem run_8_0_t : runO 8 (.sm 0 20) true = true := by kernel_rfl
theorem run_10_0_f : runO 10 (.sm 0 20) false = true := by kernel_rfl
end Go.Proofs.YtlpffldeogapmaaGreatDoor.Tg
