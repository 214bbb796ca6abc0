/- TopOpenFails: it answers true, whatever the numbers, the tails, sealed or not. No condition. -/
import Derived.Test.YtlpffldeogapmaaGreatDoorTo0
import Derived.Test.YtlpffldeogapmaaGreatDoorTo1
import Derived.Test.YtlpffldeogapmaaGreatDoorTo2
import Derived.Test.YtlpffldeogapmaaGreatDoorTo3
import Derived.Test.YtlpffldeogapmaaGreatDoorTo4
import Derived.Test.YtlpffldeogapmaaGreatDoorTo5
import Derived.Test.YtlpffldeogapmaaGreatDoorTo6
import Derived.Test.YtlpffldeogapmaaGreatDoorTo7
import Derived.Test.YtlpffldeogapmaaGreatDoorTo8
import Derived.Test.YtlpffldeogapmaaGreatDoorTo9
namespace Go.Proofs.YtlpffldeogapmaaGreatDoor.Tg
open Go Go.RowKit Go.Proofs.YtlpffldeogapmaaGreatDoor.Ev Go.Proofs.YtlpffldeogapmaaGreatDoor.Tf Go.Proofs.YtlpffldeogapmaaGreatDoorW.PrintWords
theorem all_0 (j : Nat) (hj : j < 12) (b : Bool) : runO j (.sm 0 20) b = true := by
  match j, hj, b with
  | 0, _, false => exact run_0_0_f
  | 0, _, true => exact run_0_0_t
  | 1, _, false => exact run_1_0_f
  | 1, _, true => exact run_1_0_t
  | 2, _, false => exact run_2_0_f
  | 2, _, true => exact run_2_0_t
  | 3, _, false => exact run_3_0_f
  | 3, _, true => exact run_3_0_t
  | 4, _, false => exact run_4_0_f
  | 4, _, true => exact run_4_0_t
  | 5, _, false => exact run_5_0_f
  | 5, _, true => exact run_5_0_t
  | 6, _, false => exact run_6_0_f
  | 6, _, true => exact run_6_0_t
  | 7, _, false => exact run_7_0_f
  | 7, _, true => exact run_7_0_t
  | 8, _, false => exact run_8_0_f
  | 8, _, true => exact run_8_0_t
  | 9, _, false => exact run_9_0_f
  | 9, _, true => exact run_9_0_t
  | 10, _, false => exact run_10_0_f
  | 10, _, true => exact run_10_0_t
  | 11, _, false => exact run_11_0_f
  | 11, _, true => exact run_11_0_t
  | n + 12, h, _ => omega
theorem all_1 (j : Nat) (hj : j < 12) (b : Bool) : runO j (.sm 1 20) b = true := by
  match j, hj, b with
  | 0, _, false => exact run_0_1_f
  | 0, _, true => exact run_0_1_t
  | 1, _, false => exact run_1_1_f
  | 1, _, true => exact run_1_1_t
  | 2, _, false => exact run_2_1_f
  | 2, _, true => exact run_2_1_t
  | 3, _, false => exact run_3_1_f
  | 3, _, true => exact run_3_1_t
  | 4, _, false => exact run_4_1_f
  | 4, _, true => exact run_4_1_t
  | 5, _, false => exact run_5_1_f
  | 5, _, true => exact run_5_1_t
  | 6, _, false => exact run_6_1_f
  | 6, _, true => exact run_6_1_t
  | 7, _, false => exact run_7_1_f
  | 7, _, true => exact run_7_1_t
  | 8, _, false => exact run_8_1_f
  | 8, _, true => exact run_8_1_t
  | 9, _, false => exact run_9_1_f
  | 9, _, true => exact run_9_1_t
  | 10, _, false => exact run_10_1_f
  | 10, _, true => exact run_10_1_t
  | 11, _, false => exact run_11_1_f
  | 11, _, true => exact run_11_1_t
  | n + 12, h, _ => omega
theorem all_2 (j : Nat) (hj : j < 12) (b : Bool) : runO j (.sr 2 20) b = true := by
  match j, hj, b with
  | 0, _, false => exact run_0_2_f
  | 0, _, true => exact run_0_2_t
  | 1, _, false => exact run_1_2_f
  | 1, _, true => exact run_1_2_t
  | 2, _, false => exact run_2_2_f
  | 2, _, true => exact run_2_2_t
  | 3, _, false => exact run_3_2_f
  | 3, _, true => exact run_3_2_t
  | 4, _, false => exact run_4_2_f
  | 4, _, true => exact run_4_2_t
  | 5, _, false => exact run_5_2_f
  | 5, _, true => exact run_5_2_t
  | 6, _, false => exact run_6_2_f
  | 6, _, true => exact run_6_2_t
  | 7, _, false => exact run_7_2_f
  | 7, _, true => exact run_7_2_t
  | 8, _, false => exact run_8_2_f
  | 8, _, true => exact run_8_2_t
  | 9, _, false => exact run_9_2_f
  | 9, _, true => exact run_9_2_t
  | 10, _, false => exact run_10_2_f
  | 10, _, true => exact run_10_2_t
  | 11, _, false => exact run_11_2_f
  | 11, _, true => exact run_11_2_t
  | n + 12, h, _ => omega
theorem walk (n f d : Int) (A : Option Addr) (c : Nat) (l : List Int) (b : Bool) (w : World) (hn : (Lit.int .i64 n).wf = true) (hf : (Lit.int .i64 f).wf = true) (hd : (Lit.int .i64 d).wf = true) (hR : (Kd.int .i64).C w A l.length l) (hc : l.length ≤ c) (hy : l.length * 8 ≤ 140737488351232) (hwf : ∀ n ∈ l, (Lit.int .i64 n).wf = true) :
    Calls Tryz.prog 6 #[.int .i64 n, .int .i64 f, .int .i64 d, .slice A l.length c, .bool b] w fun e w' => e = .returned (.bool true) ∧ Below w.heap.size w w' := by
  simp [Lit.wf, IntKind.min, IntKind.max, IntKind.bits, IntKind.signed] at hn hf hd
  have k1 := Int.tmod_lt_of_pos n (show (0 : Int) < 12 by decide)
  have k2 := Int.lt_tmod_of_pos n (show (0 : Int) < 12 by decide)
  have hj : (n.tmod 12).natAbs < 12 := by omega
  have h3 : (f.tmod 20).natAbs = 0 ∨ (f.tmod 20).natAbs = 1 ∨ 2 ≤ (f.tmod 20).natAbs := by omega
  rcases h3 with h3 | h3 | h3
  · exact law_run (all_0 _ hj b) n f d (by omega) (by omega) rfl (fun ρ => VR_sm (by omega) (by omega) h3) A c l w hR hc (by omega) hwf
  · exact law_run (all_1 _ hj b) n f d (by omega) (by omega) rfl (fun ρ => VR_sm (by omega) (by omega) h3) A c l w hR hc (by omega) hwf
  · exact law_run (all_2 _ hj b) n f d (by omega) (by omega) rfl (fun ρ => VR_sr (by omega) (by omega) h3) A c l w hR hc (by omega) hwf
end Go.Proofs.YtlpffldeogapmaaGreatDoor.Tg
