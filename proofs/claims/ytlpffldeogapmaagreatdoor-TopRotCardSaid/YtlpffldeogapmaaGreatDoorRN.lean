/- Closed facts of the row of TopRot. No condition of a claim. -/
import Derived.Test.YtlpffldeogapmaaGreatDoorRows
import Derived.LaidMore
import Derived.Stop.Joined
import Derived.SevenTiedAt
import Derived.ProofKit
import Derived.KernelRfl
namespace Go.Proofs.YtlpffldeogapmaaGreatDoor.topRot
open Go
set_option maxRecDepth 1000000
theorem f_laid : laidOutB Tryz.prog = true := by kernel_rfl
theorem f_maps : mapsRowed Tryz.prog = true := by kernel_rfl
theorem f_inpl : (Rows.topRotRow.inPlace == Tryz.prog.inPlace 4) = true := by kernel_rfl
theorem f_unf : (Rows.topRotRow.unfollowed == Tryz.prog.unfollowed 4) = true := by kernel_rfl
theorem f_rec : (Rows.topRotRow.recurses == Tryz.prog.recurses 4) = true := by kernel_rfl
theorem f_named : (Rows.topRotRow.named == Tryz.prog.varsNamed 4) = true := by kernel_rfl
theorem f_pk : (Rows.topRotRow.plainKeys == Tryz.prog.plainKeys) = true := by kernel_rfl
theorem f_heard : Tryz.prog.stopsHeard = true := by kernel_rfl
theorem f_mayenter : Tryz.prog.mayEnter = true := by kernel_rfl
theorem f_lifted : (Rows.topRotRow.lifted == Tryz.prog.liftsFinal) = true := by kernel_rfl
theorem f_fnm : Tryz.prog.funcNamed "folio/foliotop.TopRot" = some 4 := by kernel_rfl
theorem closed : joinedFacts Tryz.prog 4 Tryz.f4 Rows.topRotSpec Rows.topRotRow = true := by
  unfold joinedFacts
  rw [f_laid, f_maps, f_inpl, f_unf, f_rec, f_named, f_pk, f_heard, f_mayenter, f_lifted]
  kernel_rfl
end Go.Proofs.YtlpffldeogapmaaGreatDoor.topRot

