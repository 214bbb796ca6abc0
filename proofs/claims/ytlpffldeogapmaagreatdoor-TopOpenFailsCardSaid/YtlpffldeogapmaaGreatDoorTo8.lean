/- TopOpenFails: the kernel runs the evaluator. Own text. No condition of a claim. -/
import Derived.Test.YtlpffldeogapmaaGreatDoorTg
import Derived.KernelRfl
namespace Go.Proofs.YtlpffldeogapmaaGreatDoor.Tg
open Go Go.Proofs.YtlpffldeogapmaaGreatDoor.Ev
set_option maxRecDepth 1000000
theorem run_1_0_f : runO 1 (.sm 0 20) false = true := by kernel_rfl
theorem run_2_0_f : runO 2 (.sm 0 20) false = true := by kernel_rfl
theorem run_5_0_f : runO 5 (.sm 0 20) false = true := by kernel_rfl
theorem run_6_0_t : runO 6 (.sm 0 20) true = true := by kernel_rfl
theorem run_7_0_t : runO 7 (.sm 0 20) true = true := by kernel_rfl
theorem run_7_2_f : runO 7 (.sr 2 20) false = true := by kernel_rfl
theorem run_10_2_f : runO 10 (.sr 2 20) false = true := by kernel_rfl
end Go.Proofs.YtlpffldeogapmaaGreatDoor.Tg
