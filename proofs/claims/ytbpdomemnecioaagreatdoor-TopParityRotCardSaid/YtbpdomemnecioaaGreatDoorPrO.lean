/- Closed facts of the row of TopParityRot. No condition of a claim. -/
import Derived.Test.YtbpdomemnecioaaGreatDoorRows
import Derived.LaidMore
import Derived.Stop.Joined
import Derived.SevenTiedAt
import Derived.ProofKit
import Derived.KernelRfl
namespace Go.Proofs.YtbpdomemnecioaaGreatDoor.topParityRot
open Go
set_option maxRecDepth 1000000
theorem f_goes : Rows.topParityRotRow.goesBy Tryz.prog = false := by kernel_rfl
end Go.Proofs.YtbpdomemnecioaaGreatDoor.topParityRot

