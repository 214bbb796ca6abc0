/- Closed facts of the row of TopOpenFails. No condition of a claim. -/
import Derived.Test.YtlpffldeogapmaaGreatDoorRows
import Derived.LaidMore
import Derived.Stop.Joined
import Derived.SevenTiedAt
import Derived.ProofKit
import Derived.KernelRfl
namespace Go.Proofs.YtlpffldeogapmaaGreatDoor.topOpenFails
open Go
set_option maxRecDepth 1000000
theorem f_goes : Rows.topOpenFailsRow.goesBy Tryz.prog = false := by kernel_rfl
end Go.Proofs.YtlpffldeogapmaaGreatDoor.topOpenFails

