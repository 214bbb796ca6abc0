/- Closed facts of the row of TopRepair. No condition of a claim. -/
import Derived.Test.YtlpffldeogapmaaGreatDoorRows
import Derived.LaidMore
import Derived.Stop.Joined
import Derived.SevenTiedAt
import Derived.ProofKit
import Derived.KernelRfl
namespace Go.Proofs.YtlpffldeogapmaaGreatDoor.topRepair
open Go
set_option maxRecDepth 1000000
theorem f_laid : laidOutB Tryz.prog = true := by kernel_rfl
theorem f_maps : mapsRowed Tryz.prog = true := by kernel_rfl
theorem f_inpl : (Rows.topRepairRow.inPlace == Tryz.prog.inPlace 3) = true := by kernel_rfl
theorem f_unf : (Rows.topRepairRow.unfollowed == Tryz.prog.unfollowed 3) = true := by kernel_rfl
theorem f_rec : (Rows.topRepairRow.recurses == Tryz.prog.recurses 3) = true := by kernel_rfl
theorem f_named : (Rows.topRepairRow.named == Tryz.prog.varsNamed 3) = true := by kernel_rfl
theorem f_pk : (Rows.topRepairRow.plainKeys == Tryz.prog.plainKeys) = true := by kernel_rfl
theorem f_heard : Tryz.prog.stopsHeard = true := by kernel_rfl
theorem f_mayenter : Tryz.prog.mayEnter = true := by kernel_rfl
theorem f_lifted : (Rows.topRepairRow.lifted == Tryz.prog.liftsFinal) = true := by kernel_rfl
theorem f_fnm : Tryz.prog.funcNamed "folio/foliotop.TopRepair" = some 3 := by kernel_rfl
theorem closed : joinedFacts Tryz.prog 3 Tryz.f3 Rows.topRepairSpec Rows.topRepairRow = true := by
  unfold joinedFacts
  rw [f_laid, f_maps, f_inpl, f_unf, f_rec, f_named, f_pk, f_heard, f_mayenter, f_lifted]
  kernel_rfl
end Go.Proofs.YtlpffldeogapmaaGreatDoor.topRepair

