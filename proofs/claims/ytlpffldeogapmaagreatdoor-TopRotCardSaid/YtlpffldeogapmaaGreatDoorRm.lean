/- TopRot: it answers true, whatever the file, the sector and the byte. No condition. -/
import Derived.Test.YtlpffldeogapmaaGreatDoorRzA00t
import Derived.Test.YtlpffldeogapmaaGreatDoorRzA00f
import Derived.Test.YtlpffldeogapmaaGreatDoorRzA01t
import Derived.Test.YtlpffldeogapmaaGreatDoorRzA01f
import Derived.Test.YtlpffldeogapmaaGreatDoorRzA10t
import Derived.Test.YtlpffldeogapmaaGreatDoorRzA10f
import Derived.Test.YtlpffldeogapmaaGreatDoorRzA11t
import Derived.Test.YtlpffldeogapmaaGreatDoorRzA11f
import Derived.Test.YtlpffldeogapmaaGreatDoorRzA20t
import Derived.Test.YtlpffldeogapmaaGreatDoorRzA20f
import Derived.Test.YtlpffldeogapmaaGreatDoorRzA21t
import Derived.Test.YtlpffldeogapmaaGreatDoorRzA21f
import Derived.Test.YtlpffldeogapmaaGreatDoorRzB
import Derived.Test.YtlpffldeogapmaaGreatDoorRzC
namespace Go.Proofs.YtlpffldeogapmaaGreatDoor.Ry
open Go Go.RowKit Go.Proofs.YtlpffldeogapmaaGreatDoor.Ev Go.Proofs.YtlpffldeogapmaaGreatDoor.Rx
theorem VR_ubv {ρ : Ev.Ren} {b : Bool} : VR ρ .ub (.bool b) := by simp only [VR]; exact ⟨b, rfl⟩
theorem VR_b' {ρ : Ev.Ren} (b : Bool) : VR ρ (.b b) (.bool b) := by simp only [VR]
theorem VR_nm {ρ : Ev.Ren} {s : Int} (h0 : 0 ≤ s) (h1 : s < 9223372036854775808) {j n : Nat} (hj : s.toNat % n = j) : VR ρ (.nm j n) (.int .i64 s) := by
  simp only [VR]
  exact ⟨s.toNat, by rw [Int.toNat_of_nonneg h0], by omega, hj⟩
theorem walk (q s x : Int) (b : Bool) (w : World) (hq : (Lit.int .i64 q).wf = true) (hs : (Lit.int .i64 s).wf = true) (hx : (Lit.int .u8 x).wf = true) : Calls Tryz.prog 4 #[.int .i64 q, .int .i64 s, .int .u8 x, .bool b] w fun e w' => e = .returned (.bool true) ∧ Below w.heap.size w w' := by
  simp [Lit.wf, IntKind.min, IntKind.max, IntKind.bits, IntKind.signed] at hq hs hx
  by_cases h0 : x = 0
  · subst h0
    exact law_of chx_ok (x := 0) run_C (by simp only [VRs]; exact ⟨_, _, rfl, VR_any (by omega) (by omega), _, _, rfl, VR_any (by omega) (by omega), _, _, rfl, VR_0, _, _, rfl, VR_ubv, rfl⟩)
  · by_cases h1 : s < 0
    · exact law_of chx_ok (x := x.toNat) run_B (by simp only [VRs]; exact ⟨_, _, rfl, VR_any (by omega) (by omega), _, _, rfl, VR_neg h1 (by omega), _, _, rfl, VR_x (by omega) (by omega), _, _, rfl, VR_ubv, rfl⟩)
    · have hs0 : 0 ≤ s := by omega
      clear h1
      have k1 := Int.tmod_lt_of_pos q (show (0 : Int) < 3 by decide)
      have k2 := Int.lt_tmod_of_pos q (show (0 : Int) < 3 by decide)
      have go := fun (j r : Nat) (hj : (q.tmod 3).natAbs = j) (hr : s.toNat % 2 = r) (e : CHx 4 [.sm j 3, .nm r 2, .bx 0 0, .b b] h1 isT = true) =>
        law_of chx_ok (x := x.toNat) (vs := #[.int .i64 q, .int .i64 s, .int .u8 x, .bool b]) (w := w) e (by simp only [VRs]; exact ⟨_, _, rfl, VR_sm (by omega) (by omega) hj, _, _, rfl, VR_nm hs0 (by omega) hr, _, _, rfl, VR_x (by omega) (by omega), _, _, rfl, VR_b' b, rfl⟩)
      have hj : (q.tmod 3).natAbs = 0 ∨ (q.tmod 3).natAbs = 1 ∨ (q.tmod 3).natAbs = 2 := by omega
      have hr : s.toNat % 2 = 0 ∨ s.toNat % 2 = 1 := by omega
      rcases hj with hj | hj | hj <;> rcases hr with hr | hr <;> cases b
      · exact go 0 0 hj hr run_A00f
      · exact go 0 0 hj hr run_A00t
      · exact go 0 1 hj hr run_A01f
      · exact go 0 1 hj hr run_A01t
      · exact go 1 0 hj hr run_A10f
      · exact go 1 0 hj hr run_A10t
      · exact go 1 1 hj hr run_A11f
      · exact go 1 1 hj hr run_A11t
      · exact go 2 0 hj hr run_A20f
      · exact go 2 0 hj hr run_A20t
      · exact go 2 1 hj hr run_A21f
      · exact go 2 1 hj hr run_A21t
end Go.Proofs.YtlpffldeogapmaaGreatDoor.Ry
