/- TopRepair: what entropy.Encode answers at its texts: the kernel runs the evaluator, once for each. No condition. -/
import Derived.Test.YtlpffldeogapmaaGreatDoorProg
import Derived.Below
import Derived.Deep.Draws
import Derived.Deep.AppendLies
import Derived.Maps.AppendAt
import Derived.OwnWalk
import Derived.Laws.BytesArg
import Derived.Laws.MakeOwn
import Derived.Laws.OwnMore
import Derived.Deep.OwnRows
import Derived.Tactics
import Derived.Lib.ConvBytes
import Derived.Laws.Slices
import Derived.WalkKit
import Derived.KernelRfl
import Derived.RowKit3
import Derived.Deep.LoopGhost
import Derived.Deep.QuietTactic
import Derived.BigQuiet
import Derived.WideLaws
import Derived.Deep.DeepCutAuto
import Derived.Deep.CutBlock
import Derived.Deep.RegionHeld3
import Derived.Laws.Rows
import Derived.Lib.AppendStr
import Derived.ArgAppend
import Derived.Laws.IdiomCopy
import Derived.OrdersHeld
import Derived.Laws.BitsLemmas
import Derived.RowKit
import Derived.WalkSpells
import Derived.Outline
import Derived.Test.YtlpffldeogapmaaGreatDoorWWords
import Derived.Test.YtlpffldeogapmaaGreatDoorWLast
import Derived.Test.YtlpffldeogapmaaGreatDoorWMore
import Derived.Test.YtlpffldeogapmaaGreatDoorWArr
import Derived.Test.YtlpffldeogapmaaGreatDoorWTab
import Derived.Test.YtlpffldeogapmaaGreatDoorWZeros
import Derived.Test.YtlpffldeogapmaaGreatDoorWRepsOne
import Derived.Test.YtlpffldeogapmaaGreatDoorRx
namespace Go.Proofs.YtlpffldeogapmaaGreatDoor.Ru
open Go.RowKit Go.Proofs.YtlpffldeogapmaaGreatDoorW.PrintWords Go.Proofs.YtlpffldeogapmaaGreatDoorW.PrintLast Go.Proofs.YtlpffldeogapmaaGreatDoorW.PrintMore Go.Proofs.YtlpffldeogapmaaGreatDoor.Ev Go.Proofs.YtlpffldeogapmaaGreatDoor.Me Go.Proofs.YtlpffldeogapmaaGreatDoor.Rx
set_option linter.unusedSimpArgs false
set_option linter.unusedVariables false
attribute [local go_sem] max2_int min2_int max_two min_two

set_option maxRecDepth 1000000
theorem gd_tt (r : R) : gd true r = r := rfl
theorem ents_cons {cH : CH} {g : Nat} {e : Ent} {l : List Ent} (h1 : entOk cH g e = true) (h2 : entsOk cH g l = true) : entsOk cH g (e :: l) = true := by
  show gd (entOk cH g e) (entsOk cH g l) = true
  rw [h1, gd_tt]; exact h2
theorem ents_nil {cH : CH} {g : Nat} : entsOk cH g [] = true := rfl
def e0 : Ent := ⟨1, [118, 97, 108, 117, 101, 32, 111, 102, 32, 48, 48, 48, 44, 32, 115, 111, 109, 101, 32, 98, 121, 116, 101, 115, 32, 109, 111, 114, 101, 32, 111, 102, 32, 105, 116, 118, 97, 108, 117, 101, 32, 111, 102, 32, 48, 48, 49, 44, 32, 115, 111, 109, 101, 32, 98, 121, 116, 101, 115, 32, 109, 111, 114, 101, 32, 111, 102, 32, 105, 116, 118, 97, 108, 117, 101, 32, 111, 102, 32, 48, 48, 50, 44, 32, 115, 111, 109, 101, 32, 98, 121, 116, 101, 115, 32, 109, 111, 114, 101, 32, 111, 102, 32, 105, 116], 0, 105, 105, 1, [105, 100, 50, 68, 102, 96, 96, 96, 6, 80, 0, 0, 0, 0, 0, 0, 0, 0, 0, 0, 0, 0, 6, 0, 0, 0, 6, 0, 0, 101, 0, 0, 0, 0, 0, 0, 0, 0, 0, 0, 0, 0, 0, 0, 0, 0, 0, 0, 0, 0, 0, 0, 0, 0, 80, 6, 0, 5, 5, 0, 4, 4, 0, 80, 0, 0, 0, 0, 0, 0, 0, 0, 0, 0, 0, 0, 0, 0, 0, 0, 0, 0, 0, 0, 0, 0, 0, 0, 0, 0, 0, 0, 0, 0, 0, 0, 0, 0, 0, 0, 0, 0, 0, 0, 0, 0, 0, 0, 0, 0, 0, 0, 0, 0, 0, 0, 0, 0, 0, 0, 0, 0, 0, 0, 0, 0, 0, 0, 0, 0, 5, 139, 22, 24, 129, 209, 233, 95, 170, 203, 193, 146, 145, 204, 18, 73, 217, 8, 224, 252, 113, 196, 168, 114, 108, 80, 220, 198, 70, 80, 116, 174, 104], 0, 163, 163⟩
theorem ent0 : entOk CH0 379 e0 = true := by kernel_rfl
def e1 : Ent := ⟨1, [118, 97, 108, 117, 101, 32, 111, 102, 32, 48, 48, 51, 44, 32, 115, 111, 109, 101, 32, 98, 121, 116, 101, 115, 32, 109, 111, 114, 101, 32, 111, 102, 32, 105, 116, 118, 97, 108, 117, 101, 32, 111, 102, 32, 48, 48, 52, 44, 32, 115, 111, 109, 101, 32, 98, 121, 116, 101, 115, 32, 109, 111, 114, 101, 32, 111, 102, 32, 105, 116, 118, 97, 108, 117, 101, 32, 111, 102, 32, 48, 48, 53, 44, 32, 115, 111, 109, 101, 32, 98, 121, 116, 101, 115, 32, 109, 111, 114, 101, 32, 111, 102, 32, 105, 116], 0, 105, 105, 1, [105, 100, 65, 101, 102, 96, 96, 96, 0, 102, 0, 0, 0, 0, 0, 0, 0, 0, 0, 0, 0, 0, 6, 0, 0, 0, 6, 0, 0, 0, 102, 80, 0, 0, 0, 0, 0, 0, 0, 0, 0, 0, 0, 0, 0, 0, 0, 0, 0, 0, 0, 0, 0, 0, 80, 6, 0, 6, 5, 0, 5, 5, 0, 96, 0, 0, 0, 0, 0, 0, 0, 0, 0, 0, 0, 0, 0, 0, 0, 0, 0, 0, 0, 0, 0, 0, 0, 0, 0, 0, 0, 0, 0, 0, 0, 0, 0, 0, 0, 0, 0, 0, 0, 0, 0, 0, 0, 0, 0, 0, 0, 0, 0, 0, 0, 0, 0, 0, 0, 0, 0, 0, 0, 0, 0, 0, 0, 0, 0, 0, 6, 181, 20, 96, 178, 80, 229, 62, 231, 195, 168, 93, 37, 87, 93, 178, 208, 205, 226, 73, 34, 55, 104, 197, 187, 37, 126, 97, 22, 107, 30, 191], 0, 162, 162⟩
theorem ent1 : entOk CH0 379 e1 = true := by kernel_rfl
def e2 : Ent := ⟨1, [118, 97, 108, 117, 101, 32, 111, 102, 32, 48, 48, 54, 44, 32, 115, 111, 109, 101, 32, 98, 121, 116, 101, 115, 32, 109, 111, 114, 101, 32, 111, 102, 32, 105, 116, 118, 97, 108, 117, 101, 32, 111, 102, 32, 48, 48, 55, 44, 32, 115, 111, 109, 101, 32, 98, 121, 116, 101, 115, 32, 109, 111, 114, 101, 32, 111, 102, 32, 105, 116, 118, 97, 108, 117, 101, 32, 111, 102, 32, 48, 48, 56, 44, 32, 115, 111, 109, 101, 32, 98, 121, 116, 101, 115, 32, 109, 111, 114, 101, 32, 111, 102, 32, 105, 116], 0, 105, 105, 1, [105, 100, 65, 101, 102, 96, 96, 96, 0, 102, 0, 0, 0, 0, 0, 0, 0, 0, 0, 0, 0, 0, 6, 0, 0, 0, 6, 0, 0, 0, 96, 0, 101, 0, 0, 0, 0, 0, 0, 0, 0, 0, 0, 0, 0, 0, 0, 0, 0, 0, 0, 0, 0, 0, 80, 6, 0, 6, 5, 0, 5, 5, 0, 96, 0, 0, 0, 0, 0, 0, 0, 0, 0, 0, 0, 0, 0, 0, 0, 0, 0, 0, 0, 0, 0, 0, 0, 0, 0, 0, 0, 0, 0, 0, 0, 0, 0, 0, 0, 0, 0, 0, 0, 0, 0, 0, 0, 0, 0, 0, 0, 0, 0, 0, 0, 0, 0, 0, 0, 0, 0, 0, 0, 0, 0, 0, 0, 0, 0, 0, 6, 181, 20, 96, 178, 80, 229, 62, 231, 195, 168, 93, 37, 87, 93, 178, 208, 205, 226, 73, 34, 55, 104, 197, 187, 37, 126, 97, 22, 107, 30, 191], 0, 162, 162⟩
theorem ent2 : entOk CH0 379 e2 = true := by kernel_rfl
noncomputable section
def tab : List Ent := [e0, e1, e2]
theorem ents : entsOk CH0 379 tab = true := (ents_cons ent0 (ents_cons ent1 (ents_cons ent2 ents_nil)))
def encT : FF := memoF (body Tryz.prog pls 379) tab
theorem enc_ok : FnOk Tryz.prog 379 encT := memo_ok ch0_ok (body_ok mixed_ok clone_ok all_ok _) ents
end
end Go.Proofs.YtlpffldeogapmaaGreatDoor.Ru
