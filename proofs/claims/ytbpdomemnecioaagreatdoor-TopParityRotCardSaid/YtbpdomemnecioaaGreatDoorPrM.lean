/- TopParityRot: it answers true, whatever the sector and the byte. No condition. -/
import Derived.Test.YtbpdomemnecioaaGreatDoorPrB
import Derived.Test.YtbpdomemnecioaaGreatDoorPrC
import Derived.Test.YtbpdomemnecioaaGreatDoorPrD
namespace Go.Proofs.YtbpdomemnecioaaGreatDoor.Tw
open Go Go.RowKit Go.Proofs.YtbpdomemnecioaaGreatDoor.Ev
theorem walkP (s x : Int) (w : World) (hs : (Lit.int .i64 s).wf = true) (hx : (Lit.int .u8 x).wf = true) : Calls Tryz.prog 4 #[.int .i64 s, .int .u8 x] w fun e w' => e = .returned (.bool true) ∧ Below w.heap.size w w' := by
  simp [Lit.wf, IntKind.min, IntKind.max, IntKind.bits, IntKind.signed] at hs hx
  by_cases h0 : x = 0
  · subst h0
    exact law_of (x := 0) run_PrC (by simp only [VRs]; exact ⟨_, _, rfl, VR_any (by omega) (by omega), _, _, rfl, VR_0, rfl⟩)
  · by_cases h1 : s < 0
    · exact law_of (x := x.toNat) run_PrD (by simp only [VRs]; exact ⟨_, _, rfl, VR_neg h1 (by omega), _, _, rfl, VR_x (by omega) (by omega), rfl⟩)
    · exact law_of (x := x.toNat) run_PrB (by simp only [VRs]; exact ⟨_, _, rfl, VR_nn (by omega) (by omega), _, _, rfl, VR_x (by omega) (by omega), rfl⟩)
end Go.Proofs.YtbpdomemnecioaaGreatDoor.Tw
