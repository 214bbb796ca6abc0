/- TopRepair: it answers true, whatever the file, the sectors and the byte. No condition. -/
import Derived.Test.YtlpffldeogapmaaGreatDoorRqA0
import Derived.Test.YtlpffldeogapmaaGreatDoorRqA1
import Derived.Test.YtlpffldeogapmaaGreatDoorRqA2
import Derived.Test.YtlpffldeogapmaaGreatDoorRqB
namespace Go.Proofs.YtlpffldeogapmaaGreatDoor.Rq
open Go Go.RowKit Go.Proofs.YtlpffldeogapmaaGreatDoor.Ev Go.Proofs.YtlpffldeogapmaaGreatDoor.Rx Go.Proofs.YtlpffldeogapmaaGreatDoorW.PrintWords
theorem walk (q : Int) (A : Option Addr) (c : Nat) (l : List Int) (x : Int) (w : World) (hq : (Lit.int .i64 q).wf = true) (hR : (Kd.int .i64).C w A l.length l) (_hc : l.length ≤ c) (hy : l.length * 8 ≤ 140737488351232) (hwf : ∀ n ∈ l, (Lit.int .i64 n).wf = true) (hx : (Lit.int .u8 x).wf = true) :
    Calls Tryz.prog 3 #[.int .i64 q, .slice A l.length c, .int .u8 x] w fun e w' => e = .returned (.bool true) ∧ Below w.heap.size w w' := by
  simp [Lit.wf, IntKind.min, IntKind.max, IntKind.bits, IntKind.signed] at hq hx
  by_cases h0 : x = 0
  · subst h0
    exact law_of chx_ok (x := 0) run_B (by simp only [VRs]; exact ⟨_, _, rfl, VR_any (by omega) (by omega), _, _, rfl, (by simp only [VR]), _, _, rfl, VR_0, rfl⟩)
  · have k1 := Int.tmod_lt_of_pos q (show (0 : Int) < 3 by decide)
    have k2 := Int.lt_tmod_of_pos q (show (0 : Int) < 3 by decide)
    have hj : (q.tmod 3).natAbs = 0 ∨ (q.tmod 3).natAbs = 1 ∨ (q.tmod 3).natAbs = 2 := by omega
    rcases hj with hj | hj | hj
    · exact law_run q (by omega) 0 _ _ hj run_A0 A c l x (by omega) w hR (by omega) hwf
    · exact law_run q (by omega) 1 _ _ hj run_A1 A c l x (by omega) w hR (by omega) hwf
    · exact law_run q (by omega) 2 _ _ hj run_A2 A c l x (by omega) w hR (by omega) hwf
end Go.Proofs.YtlpffldeogapmaaGreatDoor.Rq
