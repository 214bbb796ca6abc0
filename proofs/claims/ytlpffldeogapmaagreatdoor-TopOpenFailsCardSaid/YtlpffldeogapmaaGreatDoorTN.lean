/- Closed facts of the row of TopOpenFails. No condition of a claim. -/
import Derived.Test.YtlpffldeogapmaaGreatDoorRows
import Derived.LaidMore
import Derived.Stop.Joined
import Derived.SevenTiedAt
import Derived.ProofKit
import Derived.KernelRfl
namespace Go.Proofs.YtlpffldeogapmaaGreatDoor.topOpenFails
open Go
set_option maxRecDepth 1000000
theorem f_laid : laidOutB Tryz.prog = true := by kernel_rfl
theorem f_maps : mapsRowed Tryz.prog = true := by kernel_rfl
theorem f_inpl : (Rows.topOpenFailsRow.inPlace == Tryz.prog.inPlace 6) = true := by kernel_rfl
theorem f_unf : (Rows.topOpenFailsRow.unfollowed == Tryz.prog.unfollowed 6) = true := by kernel_rfl
theorem f_rec : (Rows.topOpenFailsRow.recurses == Tryz.prog.recurses 6) = true := by kernel_rfl
theorem f_named : (Rows.topOpenFailsRow.named == Tryz.prog.varsNamed 6) = true := by kernel_rfl
theorem f_pk : (Rows.topOpenFailsRow.plainKeys == Tryz.prog.plainKeys) = true := by kernel_rfl
theorem f_heard : Tryz.prog.stopsHeard = true := by kernel_rfl
theorem f_mayenter : Tryz.prog.mayEnter = true := by kernel_rfl
theorem f_lifted : (Rows.topOpenFailsRow.lifted == Tryz.prog.liftsFinal) = true := by kernel_rfl
theorem f_fnm : Tryz.prog.funcNamed "folio/foliotop.TopOpenFails" = some 6 := by kernel_rfl
theorem closed : joinedFacts Tryz.prog 6 Tryz.f6 Rows.topOpenFailsSpec Rows.topOpenFailsRow = true := by
  unfold joinedFacts
  rw [f_laid, f_maps, f_inpl, f_unf, f_rec, f_named, f_pk, f_heard, f_mayenter, f_lifted]
  kernel_rfl
end Go.Proofs.YtlpffldeogapmaaGreatDoor.topOpenFails

