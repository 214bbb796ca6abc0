/- The printed Lean function of Names answers true: its two lists of numbers are equal, reckoned by the kernel. No condition. -/
import Derived.Test.YtpgbapbmikneiaaPNamesx1
namespace Go.Proofs.Ytpgbapbmikneiaa.Pure
open Go.RowKit Go.Proofs.Ytpgbapbmikneiaa.PNames Go.Proofs.YtpgbapbmikneiaaW.PrintWords Go.Proofs.YtpgbapbmikneiaaW.PrintLast

/-- YOURS: ∃ k, foliolaw0_Names.f k  = some true
What it reaches (each with k first where it has rounds; `.mono`: more rounds tell the same; `.l0`, ..: its loops, with `.mono_l`): foliolaw0_Names.f -/
theorem Names : foliolaw0_Names.Pure := by
  exact ⟨60, by decide +kernel⟩

end Go.Proofs.Ytpgbapbmikneiaa.Pure
