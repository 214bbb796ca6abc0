/- TopTwoRot: it answers true, whatever the byte. No condition. -/
import Derived.Test.YtbpdomemnecioaaGreatDoorTwB
import Derived.Test.YtbpdomemnecioaaGreatDoorTwC
namespace Go.Proofs.YtbpdomemnecioaaGreatDoor.Tw
open Go Go.RowKit Go.Proofs.YtbpdomemnecioaaGreatDoor.Ev
theorem walk2 (x : Int) (w : World) (hx : (Lit.int .u8 x).wf = true) : Calls Tryz.prog 3 #[.int .u8 x] w fun e w' => e = .returned (.bool true) ∧ Below w.heap.size w w' := by
  simp [Lit.wf, IntKind.min, IntKind.max, IntKind.bits, IntKind.signed] at hx
  by_cases h0 : x = 0
  · subst h0
    exact law_of (x := 0) run_TwC (by simp only [VRs]; exact ⟨_, _, rfl, VR_0, rfl⟩)
  · exact law_of (x := x.toNat) run_TwB (by simp only [VRs]; exact ⟨_, _, rfl, VR_x (by omega) (by omega), rfl⟩)
end Go.Proofs.YtbpdomemnecioaaGreatDoor.Tw
