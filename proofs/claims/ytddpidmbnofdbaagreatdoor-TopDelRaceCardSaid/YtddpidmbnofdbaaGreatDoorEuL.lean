/- TopDelRace, seal or none: the kernel runs the evaluator. Own text. No condition of a claim. -/
import Derived.Test.YtddpidmbnofdbaaGreatDoorEuJ
import Derived.KernelRfl
namespace Go.Proofs.YtddpidmbnofdbaaGreatDoor.EuJ
set_option maxRecDepth 1000000
theorem run_t : prefixRun CHx true = true := by kernel_rfl
end Go.Proofs.YtddpidmbnofdbaaGreatDoor.EuJ
