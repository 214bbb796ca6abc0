/- Words: rows that are read. -/
import Derived.Test.YtfojeegepfjbiaaProg
import Derived.Below
import Derived.Deep.Draws
import Derived.Deep.AppendLies
import Derived.Maps.AppendAt
import Derived.OwnWalk
import Derived.Laws.BytesArg
import Derived.Laws.MakeOwn
import Derived.Laws.OwnMore
import Derived.Deep.OwnRows
import Derived.Tactics
import Derived.Lib.ConvBytes
import Derived.Laws.Slices
import Derived.WalkKit
import Derived.KernelRfl
import Derived.RowKit3
import Derived.Deep.LoopGhost
import Derived.Deep.QuietTactic
import Derived.BigQuiet
import Derived.WideLaws
import Derived.Deep.DeepCutAuto
import Derived.Deep.CutBlock
import Derived.Deep.RegionHeld3
import Derived.Laws.Rows
import Derived.Lib.AppendStr
import Derived.ArgAppend
import Derived.Laws.IdiomCopy
import Derived.OrdersHeld
import Derived.Laws.BitsLemmas
import Derived.RowKit
import Derived.WalkSpells
import Derived.Outline
import Derived.Test.YtfojeegepfjbiaaWWords
import Derived.Test.YtfojeegepfjbiaaWLast
import Derived.Test.YtfojeegepfjbiaaWMore
import Derived.Test.YtfojeegepfjbiaaWArr
import Derived.Test.YtfojeegepfjbiaaWTab
import Derived.Test.YtfojeegepfjbiaaWZeros
import Derived.Test.YtfojeegepfjbiaaWRepsOne
import Derived.Test.YtfojeegepfjbiaaNmA
namespace Go.Proofs.Ytfojeegepfjbiaa.NmH
open Go.RowKit Go.Proofs.YtfojeegepfjbiaaW.PrintWords Go.Proofs.YtfojeegepfjbiaaW.PrintLast Go.Proofs.YtfojeegepfjbiaaW.PrintMore Go.Proofs.Ytfojeegepfjbiaa.Nm Go.Proofs.Ytfojeegepfjbiaa.NmA
set_option linter.unusedSimpArgs false
set_option linter.unusedVariables false
attribute [local go_sem] max2_int min2_int max_two min_two

theorem bys_wf {l : List Int} (h : ∀ x ∈ l, (Lit.int .u8 x).wf = true) : Bys l := by
  intro c hc
  have := h c hc
  simp [Lit.wf, IntKind.min, IntKind.max, IntKind.bits, IntKind.signed] at this
  omega
/-- A front of a row that is read. -/
theorem C_take {k : IntKind} {w : World} {A : Option Addr} {l : List Int} (n : Nat) (h : (Kd.int k).C w A l.length l) : (Kd.int k).C w A (l.take n).length (l.take n) := by
  by_cases hn : n ≤ l.length
  · have h1 := ReadsOf.take_ (Kd.reads_of_C (d := (0 : Int)) h) n hn
    have e : (l.take n).length = n := by rw [List.length_take]; omega
    rw [e]
    rw [← e] at h1
    have := Kd.C_of_reads (h1 := fun _ => rfl) h1
    rw [e] at this
    exact this
  · rw [List.take_of_length_le (by omega)]; exact h
end Go.Proofs.Ytfojeegepfjbiaa.NmH
