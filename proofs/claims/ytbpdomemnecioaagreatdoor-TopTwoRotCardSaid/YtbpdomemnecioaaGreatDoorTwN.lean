/- Closed facts of the row of TopTwoRot. No condition of a claim. -/
import Derived.Test.YtbpdomemnecioaaGreatDoorRows
import Derived.LaidMore
import Derived.Stop.Joined
import Derived.SevenTiedAt
import Derived.ProofKit
import Derived.KernelRfl
namespace Go.Proofs.YtbpdomemnecioaaGreatDoor.topTwoRot
open Go
set_option maxRecDepth 1000000
theorem f_laid : laidOutB Tryz.prog = true := by kernel_rfl
theorem f_maps : mapsRowed Tryz.prog = true := by kernel_rfl
theorem f_inpl : (Rows.topTwoRotRow.inPlace == Tryz.prog.inPlace 3) = true := by kernel_rfl
theorem f_unf : (Rows.topTwoRotRow.unfollowed == Tryz.prog.unfollowed 3) = true := by kernel_rfl
theorem f_rec : (Rows.topTwoRotRow.recurses == Tryz.prog.recurses 3) = true := by kernel_rfl
theorem f_named : (Rows.topTwoRotRow.named == Tryz.prog.varsNamed 3) = true := by kernel_rfl
theorem f_pk : (Rows.topTwoRotRow.plainKeys == Tryz.prog.plainKeys) = true := by kernel_rfl
theorem f_heard : Tryz.prog.stopsHeard = true := by kernel_rfl
theorem f_mayenter : Tryz.prog.mayEnter = true := by kernel_rfl
theorem f_lifted : (Rows.topTwoRotRow.lifted == Tryz.prog.liftsFinal) = true := by kernel_rfl
theorem f_fnm : Tryz.prog.funcNamed "folio/foliotop.TopTwoRot" = some 3 := by kernel_rfl
theorem closed : joinedFacts Tryz.prog 3 Tryz.f3 Rows.topTwoRotSpec Rows.topTwoRotRow = true := by
  unfold joinedFacts
  rw [f_laid, f_maps, f_inpl, f_unf, f_rec, f_named, f_pk, f_heard, f_mayenter, f_lifted]
  kernel_rfl
end Go.Proofs.YtbpdomemnecioaaGreatDoor.topTwoRot

