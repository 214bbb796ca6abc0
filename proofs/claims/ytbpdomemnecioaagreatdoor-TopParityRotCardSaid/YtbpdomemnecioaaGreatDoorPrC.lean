/- The kernel runs the evaluator: TopParityRot. Own text. No condition of a claim. -/
import Derived.Test.YtbpdomemnecioaaGreatDoorTw
import Derived.KernelRfl
namespace Go.Proofs.YtbpdomemnecioaaGreatDoor.Tw
open Go.Proofs.YtbpdomemnecioaaGreatDoor.Ev
set_option maxRecDepth 1000000
theorem run_PrC : CHx 4 [.ui .i64, .i .u8 0] h1 isT = true := by kernel_rfl
end Go.Proofs.YtbpdomemnecioaaGreatDoor.Tw
