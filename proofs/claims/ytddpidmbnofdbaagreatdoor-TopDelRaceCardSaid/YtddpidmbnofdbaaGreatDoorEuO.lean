/- Closed facts of the row of TopDelRace. No condition of a claim. -/
import Derived.Test.YtddpidmbnofdbaaGreatDoorRows
import Derived.LaidMore
import Derived.Stop.Joined
import Derived.SevenTiedAt
import Derived.ProofKit
import Derived.KernelRfl
namespace Go.Proofs.YtddpidmbnofdbaaGreatDoor.topDelRace
open Go
set_option maxRecDepth 1000000
theorem f_goes : Rows.topDelRaceRow.goesBy Tryz.prog = false := by kernel_rfl
end Go.Proofs.YtddpidmbnofdbaaGreatDoor.topDelRace

