/- TopOpenFails: what entropy.Encode answers at its texts: the kernel runs the evaluator, once for each. No condition. -/
import Derived.Test.YtlpffldeogapmaaGreatDoorProg
import Derived.Below
import Derived.Deep.Draws
import Derived.Deep.AppendLies
import Derived.Maps.AppendAt
import Derived.OwnWalk
import Derived.Laws.BytesArg
import Derived.Laws.MakeOwn
import Derived.Laws.OwnMore
import Derived.Deep.OwnRows
import Derived.Tactics
import Derived.Lib.ConvBytes
import Derived.Laws.Slices
import Derived.WalkKit
import Derived.KernelRfl
import Derived.RowKit3
import Derived.Deep.LoopGhost
import Derived.Deep.QuietTactic
import Derived.BigQuiet
import Derived.WideLaws
import Derived.Deep.DeepCutAuto
import Derived.Deep.CutBlock
import Derived.Deep.RegionHeld3
import Derived.Laws.Rows
import Derived.Lib.AppendStr
import Derived.ArgAppend
import Derived.Laws.IdiomCopy
import Derived.OrdersHeld
import Derived.Laws.BitsLemmas
import Derived.RowKit
import Derived.WalkSpells
import Derived.Outline
import Derived.Test.YtlpffldeogapmaaGreatDoorWWords
import Derived.Test.YtlpffldeogapmaaGreatDoorWLast
import Derived.Test.YtlpffldeogapmaaGreatDoorWMore
import Derived.Test.YtlpffldeogapmaaGreatDoorWArr
import Derived.Test.YtlpffldeogapmaaGreatDoorWTab
import Derived.Test.YtlpffldeogapmaaGreatDoorWZeros
import Derived.Test.YtlpffldeogapmaaGreatDoorWRepsOne
import Derived.Test.YtlpffldeogapmaaGreatDoorTf
namespace Go.Proofs.YtlpffldeogapmaaGreatDoor.Tt
open Go.RowKit Go.Proofs.YtlpffldeogapmaaGreatDoorW.PrintWords Go.Proofs.YtlpffldeogapmaaGreatDoorW.PrintLast Go.Proofs.YtlpffldeogapmaaGreatDoorW.PrintMore Go.Proofs.YtlpffldeogapmaaGreatDoor.Ev Go.Proofs.YtlpffldeogapmaaGreatDoor.Me Go.Proofs.YtlpffldeogapmaaGreatDoor.Tf
set_option linter.unusedSimpArgs false
set_option linter.unusedVariables false
attribute [local go_sem] max2_int min2_int max_two min_two

set_option maxRecDepth 1000000
theorem gd_tt (r : R) : gd true r = r := rfl
theorem ents_cons {cH : CH} {g : Nat} {e : Ent} {l : List Ent} (h1 : entOk cH g e = true) (h2 : entsOk cH g l = true) : entsOk cH g (e :: l) = true := by
  show gd (entOk cH g e) (entsOk cH g l) = true
  rw [h1, gd_tt]; exact h2
theorem ents_nil {cH : CH} {g : Nat} : entsOk cH g [] = true := rfl
def e0 : Ent := ⟨1, [118, 118, 118, 118], 0, 4, 4, 1, [4, 4, 16, 0, 0, 0, 0, 0, 0, 0, 0, 0, 0, 0, 0, 0, 0, 0, 0, 0, 0, 0, 0, 0, 0, 0, 0, 0, 0, 0, 0, 0, 0, 0, 0, 0, 0, 0, 0, 0, 0, 0, 0, 0, 0, 0, 0, 0, 0, 0, 0, 0, 0, 0, 0, 0, 0, 0, 0, 0, 0, 2, 0, 0, 0, 0, 0, 0, 0, 0, 0, 0, 0, 0, 0, 0, 0, 0, 0, 0, 0, 0, 0, 0, 0, 0, 0, 0, 0, 0, 0, 0, 0, 0, 0, 0, 0, 0, 0, 0, 0, 0, 0, 0, 0, 0, 0, 0, 0, 0, 0, 0, 0, 0, 0, 0, 0, 0, 0, 0, 0, 0, 0, 0, 0, 0, 0, 0, 0, 0, 2, 140], 0, 132, 132⟩
theorem ent0 : entOk CH0 379 e0 = true := by kernel_rfl
noncomputable section
def tab : List Ent := [e0]
theorem ents : entsOk CH0 379 tab = true := (ents_cons ent0 ents_nil)
def encT : FF := memoF (body Tryz.prog pls 379) tab
set_option linter.unusedSectionVars false
variable [GO]
theorem enc_ok : FnOk Tryz.prog 379 encT := memo_ok ch0_ok (body_ok mixed_ok clone_ok all_ok _) ents
end
end Go.Proofs.YtlpffldeogapmaaGreatDoor.Tt
