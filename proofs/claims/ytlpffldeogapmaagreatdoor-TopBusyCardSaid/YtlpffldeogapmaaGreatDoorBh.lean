/- TopBusy: of two works at once the second is told to be busy. The walk: the evaluator, and the loop over picks by hand. No condition. -/
import Derived.Test.YtlpffldeogapmaaGreatDoorProg
import Derived.Below
import Derived.Deep.Draws
import Derived.Deep.AppendLies
import Derived.Maps.AppendAt
import Derived.OwnWalk
import Derived.Laws.BytesArg
import Derived.Laws.MakeOwn
import Derived.Laws.OwnMore
import Derived.Deep.OwnRows
import Derived.Tactics
import Derived.Lib.ConvBytes
import Derived.Laws.Slices
import Derived.WalkKit
import Derived.KernelRfl
import Derived.RowKit3
import Derived.Deep.LoopGhost
import Derived.Deep.QuietTactic
import Derived.BigQuiet
import Derived.WideLaws
import Derived.Deep.DeepCutAuto
import Derived.Deep.CutBlock
import Derived.Deep.RegionHeld3
import Derived.Laws.Rows
import Derived.Lib.AppendStr
import Derived.ArgAppend
import Derived.Laws.IdiomCopy
import Derived.OrdersHeld
import Derived.Laws.BitsLemmas
import Derived.RowKit
import Derived.WalkSpells
import Derived.Outline
import Derived.Test.YtlpffldeogapmaaGreatDoorWWords
import Derived.Test.YtlpffldeogapmaaGreatDoorWLast
import Derived.Test.YtlpffldeogapmaaGreatDoorWMore
import Derived.Test.YtlpffldeogapmaaGreatDoorWArr
import Derived.Test.YtlpffldeogapmaaGreatDoorWTab
import Derived.Test.YtlpffldeogapmaaGreatDoorWZeros
import Derived.Test.YtlpffldeogapmaaGreatDoorWRepsOne
import Derived.Test.YtlpffldeogapmaaGreatDoorEuF
import Derived.Test.YtlpffldeogapmaaGreatDoorEuG
namespace Go.Proofs.YtlpffldeogapmaaGreatDoor.Bh
open Go.RowKit Go.Proofs.YtlpffldeogapmaaGreatDoorW.PrintWords Go.Proofs.YtlpffldeogapmaaGreatDoorW.PrintLast Go.Proofs.YtlpffldeogapmaaGreatDoorW.PrintMore Go.Proofs.YtlpffldeogapmaaGreatDoor.Ev Go.Proofs.YtlpffldeogapmaaGreatDoor.EuF Go.Proofs.YtlpffldeogapmaaGreatDoor.EuG
set_option linter.unusedSimpArgs false
set_option linter.unusedVariables false
attribute [local go_sem] max2_int min2_int max_two min_two

open Go.MapKept
noncomputable section
/-! ### The code, in its parts -/
noncomputable def bodyOf (fn : Func) : Code := match fn.body with | some c => c | none => .skip
noncomputable def cl : Code → Code
  | .seq x _ => x
  | .loop x => x
  | .block _ x => x
  | c => c
noncomputable def cr : Code → Code
  | .seq _ y => y
  | c => c
noncomputable def cB : Code := bodyOf Tryz.f5
noncomputable def cT : Code := tailC 8 cB
noncomputable def cS : Code := cr cT
noncomputable def cI : Code := cl (cl cT)
noncomputable def cLp : Code := cl (cl (cr (cl cT)))
theorem cB_eq : Tryz.f5.body = some cB := by kernel_rfl
theorem cT_eq : cT = .seq (.seq cI (.block 2 (.loop cLp))) cS := by kernel_rfl
theorem keep_run : keepN 2 8 cB = true := by kernel_rfl
theorem keep_cI : keepB 2 cI = true := by kernel_rfl
end
set_option maxRecDepth 1000000
set_option maxHeartbeats 4000000

theorem roundL (x0 x1 x2 x3 x4 x5 x6 x7 x8 x9 x10 x11 x12 x13 x14 x15 x16 x17 x18 x19 x20 x21 x22 x23 x24 x25 x26 x27 x28 x29 x30 x31 x32 x33 x34 x35 x36 x37 x38 x39 x40 x41 x42 x43 x44 x45 x46 x47 x48 x49 x50 x51 x52 x53 x54 x55 x56 x57 x58 x59 x60 x61 x62 x63 x64 x65 x66 x67 x68 x69 x70 x71 x72 x73 x74 x75 x76 x77 x78 x79 x80 x81 x82 x83 x84 x85 x86 x87 x88 x89 x90 x91 x92 x93 x94 x95 x96 x97 : Value) (A : Option Addr) (L c i : Nat) (l : List Int) (w0 w : World) (hx0 : x2 = .slice A L c) (hx9 : x12 = .int .i64 (i : Int)) (hR : (Kd.int .i64).C w0 A L l) (hlen : L = l.length) (hb : Below w0.heap.size w0 w) (hL : L ≤ 9223372036854775807) (Q : Exit → Act → World → Prop)
    (hexit : ∀ a' : Act, (a'.tmps.size = 98 ∧ a'.defers = [] ∧ a'.tmps.getD 2 undef = x2 ∧ a'.tmps.getD 8 undef = x8 ∧ a'.tmps.getD 10 undef = x10 ∧ a'.tmps.getD 11 undef = x11) → ¬ (i < L ∧ i < 50) → Q (.exit 2) a' w)
    (hcall : i < L → i < 50 → Calls Tryz.prog 22 #[x8, .int .i64 (rd l (i : Int))] w (fun e w' => (∃ v, e = .returned v) ∧ ∀ a' : Act, (a'.tmps.size = 98 ∧ a'.defers = [] ∧ a'.tmps.getD 2 undef = x2 ∧ a'.tmps.getD 8 undef = x8 ∧ a'.tmps.getD 10 undef = x10 ∧ a'.tmps.getD 11 undef = x11 ∧ a'.tmps.getD 12 undef = .int .i64 ((i + 1 : Nat) : Int)) → Q .normal a' w')) :
    cLp.wp Tryz.prog Q ⟨#[x0, x1, x2, x3, x4, x5, x6, x7, x8, x9, x10, x11, x12, x13, x14, x15, x16, x17, x18, x19, x20, x21, x22, x23, x24, x25, x26, x27, x28, x29, x30, x31, x32, x33, x34, x35, x36, x37, x38, x39, x40, x41, x42, x43, x44, x45, x46, x47, x48, x49, x50, x51, x52, x53, x54, x55, x56, x57, x58, x59, x60, x61, x62, x63, x64, x65, x66, x67, x68, x69, x70, x71, x72, x73, x74, x75, x76, x77, x78, x79, x80, x81, x82, x83, x84, x85, x86, x87, x88, x89, x90, x91, x92, x93, x94, x95, x96, x97], []⟩ w := by
  dsimp only [cLp, cT, cB, bodyOf, tailC, cl, cr, Tryz.f5]
  subst hx0; subst hx9; subst hlen
  have HEX := Aside0.mk hexit
  have HCA := Aside0.mk hcall
  have HR := Aside0.mk hR
  have HB := Aside0.mk hb
  clear hexit hcall hR hb
  by_cases hlt : i < l.length
  · obtain ⟨ad, e1, q1⟩ := Kd.at_int (Kd.C_below HR.out HB.out) (i : Int) (by omega) (by omega)
    simp only [Int.toNat_natCast] at q1
    subst e1
    by_cases h100 : i < 50
    · have kw : IntKind.i64.wrap ((i : Int) + 1) = ((i + 1 : Nat) : Int) := by rw [IntKind.wrap_i64]; omega
      have hc := HCA.out hlt h100
      have HC := Aside0.mk hc
      clear hc HCA
      go_wp2_with fail
      refine HC.out.mono ?_
      rintro e_ w2 ⟨⟨v, rfl⟩, hq⟩
      have HQ := Aside0.mk hq
      clear hq
      go_wp2_with fail
      exact HQ.out _ (by simp)
    · go_wp2_with fail
      exact HEX.out _ (by simp) (by omega)
  · go_wp2_with fail
    exact HEX.out _ (by simp) (by omega)

end Go.Proofs.YtlpffldeogapmaaGreatDoor.Bh
