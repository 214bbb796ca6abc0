/- TopRot: what the evaluator is asked. No condition. -/
import Derived.Test.YtlpffldeogapmaaGreatDoorProg
import Derived.Below
import Derived.Deep.Draws
import Derived.Deep.AppendLies
import Derived.Maps.AppendAt
import Derived.OwnWalk
import Derived.Laws.BytesArg
import Derived.Laws.MakeOwn
import Derived.Laws.OwnMore
import Derived.Deep.OwnRows
import Derived.Tactics
import Derived.Lib.ConvBytes
import Derived.Laws.Slices
import Derived.WalkKit
import Derived.KernelRfl
import Derived.RowKit3
import Derived.Deep.LoopGhost
import Derived.Deep.QuietTactic
import Derived.BigQuiet
import Derived.WideLaws
import Derived.Deep.DeepCutAuto
import Derived.Deep.CutBlock
import Derived.Deep.RegionHeld3
import Derived.Laws.Rows
import Derived.Lib.AppendStr
import Derived.ArgAppend
import Derived.Laws.IdiomCopy
import Derived.OrdersHeld
import Derived.Laws.BitsLemmas
import Derived.RowKit
import Derived.WalkSpells
import Derived.Outline
import Derived.Test.YtlpffldeogapmaaGreatDoorWWords
import Derived.Test.YtlpffldeogapmaaGreatDoorWLast
import Derived.Test.YtlpffldeogapmaaGreatDoorWMore
import Derived.Test.YtlpffldeogapmaaGreatDoorWArr
import Derived.Test.YtlpffldeogapmaaGreatDoorWTab
import Derived.Test.YtlpffldeogapmaaGreatDoorWZeros
import Derived.Test.YtlpffldeogapmaaGreatDoorWRepsOne
import Derived.Test.YtlpffldeogapmaaGreatDoorRt
namespace Go.Proofs.YtlpffldeogapmaaGreatDoor.Ry
open Go.RowKit Go.Proofs.YtlpffldeogapmaaGreatDoorW.PrintWords Go.Proofs.YtlpffldeogapmaaGreatDoorW.PrintLast Go.Proofs.YtlpffldeogapmaaGreatDoorW.PrintMore Go.Proofs.YtlpffldeogapmaaGreatDoor.Ev Go.Proofs.YtlpffldeogapmaaGreatDoor.EvZ Go.Proofs.YtlpffldeogapmaaGreatDoor.EuC Go.Proofs.YtlpffldeogapmaaGreatDoor.EuE Go.Proofs.YtlpffldeogapmaaGreatDoor.Sm Go.Proofs.YtlpffldeogapmaaGreatDoor.Fo Go.Proofs.YtlpffldeogapmaaGreatDoor.Me Go.Proofs.YtlpffldeogapmaaGreatDoor.Rx Go.Proofs.YtlpffldeogapmaaGreatDoor.Rt
set_option linter.unusedSimpArgs false
set_option linter.unusedVariables false
attribute [local go_sem] max2_int min2_int max_two min_two

open Go.MapKept
set_option maxRecDepth 1000000
/-- The changes of a sector's first 48 bytes turn the sum. -/
def tabX : List (List Nat) := [[1, 2, 3, 4, 5, 6, 7, 8, 9, 10, 11, 12, 13, 14, 15, 16, 17, 18, 19, 20, 21, 22, 23, 24, 25, 26, 27, 28, 29, 30, 31, 32, 33, 34, 35, 36, 37, 38, 39, 40, 41, 42, 43, 44, 45, 46, 47, 48]]
theorem tabX_all : (match tabX with | [t] => allX t 255 | _ => false) = true := by kernel_rfl
theorem tabX_ok : ∀ t ∈ tabX, allX t 255 = true := fun t h => by
  have h : t = _ := List.mem_singleton.1 h
  rw [h]; exact tabX_all
noncomputable section
def sm : Sums := fun g => ([(13, smallS), (197, usedS), (17, (sumS tabX)), (44, (sortFFN [58])), (286, (sortFF [300, 373] keyI)), (16, rotS), (198, fourS), (379, encT)] : List (Nat × FF)).lookup g
theorem sums : SumsOk Tryz.prog sm := fun g x h => by
  unfold sm at h
  simp only [List.lookup] at h
  split at h
  · rename_i q
    cases h; rw [eq_of_beq q]; exact small_ok
  · split at h
    · rename_i q
      cases h; rw [eq_of_beq q]; exact used_ok
    · split at h
      · rename_i q
        cases h; rw [eq_of_beq q]; exact (sum_ok tabX_ok)
      · split at h
        · rename_i q
          cases h; rw [eq_of_beq q]; exact sortSN_ok
        · split at h
          · rename_i q
            cases h; rw [eq_of_beq q]; exact sortI_ok
          · split at h
            · rename_i q
              cases h; rw [eq_of_beq q]; exact rot_ok
            · split at h
              · rename_i q
                cases h; rw [eq_of_beq q]; exact four_ok
              · split at h
                · rename_i q
                  cases h; rw [eq_of_beq q]; exact enc_ok
                · cases h

abbrev CHx : CH := run Tryz.prog pls sm 200
theorem chx_ok : CHok Tryz.prog CHx := runs sums 200
end
end Go.Proofs.YtlpffldeogapmaaGreatDoor.Ry
