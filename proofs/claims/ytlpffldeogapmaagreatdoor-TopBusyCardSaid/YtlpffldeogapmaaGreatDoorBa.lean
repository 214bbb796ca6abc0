/- TopBusy: the laws of its functions that the evaluator takes as given; no table as yet. No condition. -/
import Derived.Test.YtlpffldeogapmaaGreatDoorProg
import Derived.Below
import Derived.Deep.Draws
import Derived.Deep.AppendLies
import Derived.Maps.AppendAt
import Derived.OwnWalk
import Derived.Laws.BytesArg
import Derived.Laws.MakeOwn
import Derived.Laws.OwnMore
import Derived.Deep.OwnRows
import Derived.Tactics
import Derived.Lib.ConvBytes
import Derived.Laws.Slices
import Derived.WalkKit
import Derived.KernelRfl
import Derived.RowKit3
import Derived.Deep.LoopGhost
import Derived.Deep.QuietTactic
import Derived.BigQuiet
import Derived.WideLaws
import Derived.Deep.DeepCutAuto
import Derived.Deep.CutBlock
import Derived.Deep.RegionHeld3
import Derived.Laws.Rows
import Derived.Lib.AppendStr
import Derived.ArgAppend
import Derived.Laws.IdiomCopy
import Derived.OrdersHeld
import Derived.Laws.BitsLemmas
import Derived.RowKit
import Derived.WalkSpells
import Derived.Outline
import Derived.Test.YtlpffldeogapmaaGreatDoorWWords
import Derived.Test.YtlpffldeogapmaaGreatDoorWLast
import Derived.Test.YtlpffldeogapmaaGreatDoorWMore
import Derived.Test.YtlpffldeogapmaaGreatDoorWArr
import Derived.Test.YtlpffldeogapmaaGreatDoorWTab
import Derived.Test.YtlpffldeogapmaaGreatDoorWZeros
import Derived.Test.YtlpffldeogapmaaGreatDoorWRepsOne
import Derived.Test.YtlpffldeogapmaaGreatDoorEvZ
import Derived.Test.YtlpffldeogapmaaGreatDoorEuC
import Derived.Test.YtlpffldeogapmaaGreatDoorEuE
import Derived.Test.YtlpffldeogapmaaGreatDoorSm
import Derived.Test.YtlpffldeogapmaaGreatDoorMe
namespace Go.Proofs.YtlpffldeogapmaaGreatDoor.Ba
open Go.RowKit Go.Proofs.YtlpffldeogapmaaGreatDoorW.PrintWords Go.Proofs.YtlpffldeogapmaaGreatDoorW.PrintLast Go.Proofs.YtlpffldeogapmaaGreatDoorW.PrintMore Go.Proofs.YtlpffldeogapmaaGreatDoor.Ev Go.Proofs.YtlpffldeogapmaaGreatDoor.EvZ Go.Proofs.YtlpffldeogapmaaGreatDoor.EuC Go.Proofs.YtlpffldeogapmaaGreatDoor.EuE Go.Proofs.YtlpffldeogapmaaGreatDoor.Sm Go.Proofs.YtlpffldeogapmaaGreatDoor.Me
set_option linter.unusedSimpArgs false
set_option linter.unusedVariables false
attribute [local go_sem] max2_int min2_int max_two min_two

open Go.MapKept
set_option maxRecDepth 1000000
noncomputable section
def sm0 : Sums := fun g => ([(13, smallS), (197, usedS), (17, sumS), (44, (sortFFN [58])), (286, (sortFF [300, 373] keyI))] : List (Nat × FF)).lookup g
theorem sums0 : SumsOk Tryz.prog sm0 := fun g x h => by
  unfold sm0 at h
  simp only [List.lookup] at h
  split at h
  · rename_i q
    cases h; rw [eq_of_beq q]; exact small_ok
  · split at h
    · rename_i q
      cases h; rw [eq_of_beq q]; exact used_ok
    · split at h
      · rename_i q
        cases h; rw [eq_of_beq q]; exact sum_ok
      · split at h
        · rename_i q
          cases h; rw [eq_of_beq q]; exact sortSN_ok
        · split at h
          · rename_i q
            cases h; rw [eq_of_beq q]; exact sortI_ok
          · cases h

abbrev CH0 : CH := run Tryz.prog pls sm0 200
theorem ch0_ok : CHok Tryz.prog CH0 := runs sums0 200
end
end Go.Proofs.YtlpffldeogapmaaGreatDoor.Ba
