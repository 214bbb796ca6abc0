/- Closed facts of the row of TopBusy. No condition of a claim. -/
import Derived.Test.YtlpffldeogapmaaGreatDoorRows
import Derived.LaidMore
import Derived.Stop.Joined
import Derived.SevenTiedAt
import Derived.ProofKit
import Derived.KernelRfl
namespace Go.Proofs.YtlpffldeogapmaaGreatDoor.topBusy
open Go
set_option maxRecDepth 1000000
theorem f_laid : laidOutB Tryz.prog = true := by kernel_rfl
theorem f_maps : mapsRowed Tryz.prog = true := by kernel_rfl
theorem f_inpl : (Rows.topBusyRow.inPlace == Tryz.prog.inPlace 5) = true := by kernel_rfl
theorem f_unf : (Rows.topBusyRow.unfollowed == Tryz.prog.unfollowed 5) = true := by kernel_rfl
theorem f_rec : (Rows.topBusyRow.recurses == Tryz.prog.recurses 5) = true := by kernel_rfl
theorem f_named : (Rows.topBusyRow.named == Tryz.prog.varsNamed 5) = true := by kernel_rfl
theorem f_pk : (Rows.topBusyRow.plainKeys == Tryz.prog.plainKeys) = true := by kernel_rfl
theorem f_heard : Tryz.prog.stopsHeard = true := by kernel_rfl
theorem f_mayenter : Tryz.prog.mayEnter = true := by kernel_rfl
theorem f_lifted : (Rows.topBusyRow.lifted == Tryz.prog.liftsFinal) = true := by kernel_rfl
theorem f_fnm : Tryz.prog.funcNamed "folio/foliotop.TopBusy" = some 5 := by kernel_rfl
theorem closed : joinedFacts Tryz.prog 5 Tryz.f5 Rows.topBusySpec Rows.topBusyRow = true := by
  unfold joinedFacts
  rw [f_laid, f_maps, f_inpl, f_unf, f_rec, f_named, f_pk, f_heard, f_mayenter, f_lifted]
  kernel_rfl
end Go.Proofs.YtlpffldeogapmaaGreatDoor.topBusy

