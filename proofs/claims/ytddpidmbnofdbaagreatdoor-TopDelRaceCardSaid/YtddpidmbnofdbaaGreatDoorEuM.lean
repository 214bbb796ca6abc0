/- TopDelRace: it answers true, whatever the picks, seal or none. No condition. -/
import Derived.Test.YtddpidmbnofdbaaGreatDoorEuK
import Derived.Test.YtddpidmbnofdbaaGreatDoorEuL
namespace Go.Proofs.YtddpidmbnofdbaaGreatDoor.EuJ
open Go Go.RowKit Go.Proofs.YtddpidmbnofdbaaGreatDoorW.PrintWords
theorem walk (A : Option Addr) (c : Nat) (l : List Int) (sl : Bool) (w : World) (hR : (Kd.int .i64).C w A l.length l) (_hc : l.length ≤ c) (hy : l.length * 8 ≤ 140737488351232) (hwf : ∀ n ∈ l, (Lit.int .i64 n).wf = true) :
    Calls Tryz.prog 4 #[.slice A l.length c, .bool sl] w fun e w' => e = .returned (.bool true) ∧ Below w.heap.size w w' := by
  cases sl
  · exact race false run_f A c l w hR (by omega) hwf
  · exact race true run_t A c l w hR (by omega) hwf
end Go.Proofs.YtddpidmbnofdbaaGreatDoor.EuJ
