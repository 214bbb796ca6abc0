/- maps.clone is the library's; the orders are mixed. Own text. No condition of a claim. -/
import Derived.Test.YtlpffldeogapmaaGreatDoorEvW
namespace Go.Proofs.YtlpffldeogapmaaGreatDoor.Ev
open Go
set_option maxRecDepth 1000000
set_option linter.unusedSectionVars false
variable [GO]
noncomputable section
def clB (l : List Func) : Bool := l.all fun fn => !(fn.body.isNone && fn.name == "maps.clone") || fn.origin == ""
theorem cl_run : clB Tryz.prog.funcs.toList = true := by kernel_rfl
theorem n1 : Extern.allNextRows.lookup "maps.clone" = none := by kernel_rfl
theorem n5 : Extern.allNextRows.lookup "" = none := by kernel_rfl
theorem n2 : Extern.allGenericRows.lookup "maps.clone" = none := by kernel_rfl
theorem n3 : Extern.allTypedRows.lookup "maps.clone" = none := by kernel_rfl
theorem n4 : Extern.allRows.lookup "maps.clone" = some Extern.MapsClone.clone := by kernel_rfl
theorem clone_ok : CloneOk Tryz.prog := fun g fn hf hc => by
  unfold isClone at hc
  simp only [hf, Bool.and_eq_true, beq_iff_eq] at hc
  have hm : fn ∈ Tryz.prog.funcs.toList := by
    obtain ⟨hi, he⟩ := Array.getElem?_eq_some_iff.1 hf
    rw [← he]; exact Array.mem_toList_iff.2 (Array.getElem_mem hi)
  have h1 := List.all_eq_true.1 cl_run fn hm
  simp only [hc.1, hc.2, Bool.and_true, Bool.not_true, Bool.false_or, beq_self_eq_true, beq_iff_eq] at h1
  refine ⟨by rw [hc.2]; decide, ?_, ?_⟩
  · simp [Extern.findNext, hc.2, h1, n1, n5]
  · simp [Extern.find, hc.2, h1, n2, n3, n4]
theorem mixed_ok : Tryz.prog.follows .mixedOrders = true := by kernel_rfl
/-- The evaluator's word holds. -/
theorem runs {sm : Sums} (hS : SumsOk Tryz.prog sm) (n : Nat) : CHok Tryz.prog (run Tryz.prog pls sm n) := run_ok mixed_ok clone_ok all_ok hS n
end
end Go.Proofs.YtlpffldeogapmaaGreatDoor.Ev
