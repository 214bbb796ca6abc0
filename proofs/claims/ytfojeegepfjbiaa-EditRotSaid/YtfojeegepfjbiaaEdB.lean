/- Contracts of seg and par. -/
import Derived.Test.YtfojeegepfjbiaaProg
import Derived.Below
import Derived.Deep.Draws
import Derived.Deep.AppendLies
import Derived.Maps.AppendAt
import Derived.OwnWalk
import Derived.Laws.BytesArg
import Derived.Laws.MakeOwn
import Derived.Laws.OwnMore
import Derived.Deep.OwnRows
import Derived.Tactics
import Derived.Lib.ConvBytes
import Derived.Laws.Slices
import Derived.WalkKit
import Derived.KernelRfl
import Derived.RowKit3
import Derived.Deep.LoopGhost
import Derived.Deep.QuietTactic
import Derived.BigQuiet
import Derived.WideLaws
import Derived.Deep.DeepCutAuto
import Derived.Deep.CutBlock
import Derived.Deep.RegionHeld3
import Derived.Laws.Rows
import Derived.Lib.AppendStr
import Derived.ArgAppend
import Derived.Laws.IdiomCopy
import Derived.OrdersHeld
import Derived.Laws.BitsLemmas
import Derived.RowKit
import Derived.WalkSpells
import Derived.Outline
import Derived.Test.YtfojeegepfjbiaaWWords
import Derived.Test.YtfojeegepfjbiaaWLast
import Derived.Test.YtfojeegepfjbiaaWMore
import Derived.Test.YtfojeegepfjbiaaWArr
import Derived.Test.YtfojeegepfjbiaaWTab
import Derived.Test.YtfojeegepfjbiaaWZeros
import Derived.Test.YtfojeegepfjbiaaWRepsOne
import Derived.Test.YtfojeegepfjbiaaEdA
namespace Go.Proofs.Ytfojeegepfjbiaa.EdB
open Go.RowKit Go.Proofs.YtfojeegepfjbiaaW.PrintWords Go.Proofs.YtfojeegepfjbiaaW.PrintLast Go.Proofs.YtfojeegepfjbiaaW.PrintMore Go.Proofs.Ytfojeegepfjbiaa.Mix Go.Proofs.Ytfojeegepfjbiaa.MixB Go.Proofs.Ytfojeegepfjbiaa.Nm Go.Proofs.Ytfojeegepfjbiaa.NmA Go.Proofs.Ytfojeegepfjbiaa.CrA Go.Proofs.Ytfojeegepfjbiaa.EdZ Go.Proofs.Ytfojeegepfjbiaa.EdA
set_option linter.unusedSimpArgs false
set_option linter.unusedVariables false
attribute [local go_sem] max2_int min2_int max_two min_two

def segOk (s : SegT) : Bool := inL 1 1125899906842624 [s.1] && (inL 0 1125899906842624 [s.2.2.1] && (inL 0 3 [s.2.2.2.1] && inL 0 4194304 [s.2.2.2.2.1]))
set_option maxRecDepth 100000 in
set_option maxHeartbeats 2000000 in
theorem seg_calls (s : SegT) (w : World) :
    Calls Try.prog 66 #[segV s] w fun e w' => e = .returned (.bool (segOk s)) ∧ Below w.heap.size w w' := by
  obtain ⟨n, sl, g, m, z, u⟩ := s
  have hE : segOk (n, sl, g, m, z, u) = (inL 1 1125899906842624 [n] && (inL 0 1125899906842624 [g] && (inL 0 3 [m] && inL 0 4194304 [z]))) := rfl
  obtain ⟨E, he⟩ : ∃ E, segOk (n, sl, g, m, z, u) = E := ⟨_, rfl⟩
  rw [he] at hE ⊢
  have HE := Aside0.mk hE
  show Calls _ _ #[.agg #[.int .i64 n, .bool sl, .int .i64 g, .int .i64 m, .int .i64 z, .int .u32 u]] _ _
  have HB := Aside0.mk ((Below.refl w.heap.size w).alloc (Nat.le_refl _) (.cells #[.int .i64 n, .bool sl, .int .i64 g, .int .i64 m, .int .i64 z, .int .u32 u] 77 (0, 0)))
  have hb0 := blk_new w (.cells #[.int .i64 n, .bool sl, .int .i64 g, .int .i64 m, .int .i64 z, .int .u32 u] 77 (0, 0))
  have HB0 := Aside0.mk hb0
  obtain ⟨w0, hw0⟩ : ∃ q, w.alloc (.cells #[.int .i64 n, .bool sl, .int .i64 g, .int .i64 m, .int .i64 z, .int .u32 u] 77 (0, 0)) = q := ⟨_, rfl⟩
  rw [hw0] at HB HB0
  have c0 : w0.cell? ⟨w.heap.size, 0, none⟩ = some (.int .i64 n) := blk_cell HB0.out 0
  clear hb0 he hE
  have hc1 := in1_calls 1 1125899906842624 n w0
  have HC2 := Aside0.mk (fun w => in1_calls 0 1125899906842624 g w)
  have HC3 := Aside0.mk (fun w => in1_calls 0 3 m w)
  have HC4 := Aside0.mk (fun w => in1_calls 0 4194304 z w)
  generalize inL 1 1125899906842624 [n] = b1 at *
  generalize inL 0 1125899906842624 [g] = b2 at *
  generalize inL 0 3 [m] = b3 at *
  generalize inL 0 4194304 [z] = b4 at *
  go_enter Try.func66, Try.ntmps66
  go_wp2_with fail
  refine hc1.mono ?_
  rintro e_ w1 ⟨rfl, hb⟩
  have HB1 := Aside0.mk (below_step HB.out hb)
  have HP1 := Aside0.mk (blk_below HB0.out hb)
  clear hb hc1 c0
  cases b1 with
  | false =>
    go_wp2
    go_ret
    exact ⟨by rw [HE.out]; rfl, HB1.out⟩
  | true =>
    have c0 : w1.cell? ⟨w.heap.size, 2, none⟩ = some (.int .i64 g) := blk_cell HP1.out 2
    go_wp2_with fail
    refine (HC2.out w1).mono ?_
    rintro e_ w2 ⟨rfl, hb⟩
    have HB2 := Aside0.mk (below_step HB1.out hb)
    have HP2 := Aside0.mk (blk_below HP1.out hb)
    clear hb c0
    cases b2 with
    | false =>
      go_wp2
      go_ret
      exact ⟨by rw [HE.out]; rfl, HB2.out⟩
    | true =>
      have c0 : w2.cell? ⟨w.heap.size, 3, none⟩ = some (.int .i64 m) := blk_cell HP2.out 3
      go_wp2_with fail
      refine (HC3.out w2).mono ?_
      rintro e_ w3 ⟨rfl, hb⟩
      have HB3 := Aside0.mk (below_step HB2.out hb)
      have HP3 := Aside0.mk (blk_below HP2.out hb)
      clear hb c0
      cases b3 with
      | false =>
        go_wp2
        go_ret
        exact ⟨by rw [HE.out]; rfl, HB3.out⟩
      | true =>
        have c0 : w3.cell? ⟨w.heap.size, 4, none⟩ = some (.int .i64 z) := blk_cell HP3.out 4
        go_wp2_with fail
        refine (HC4.out w3).mono ?_
        rintro e_ w4 ⟨rfl, hb⟩
        have HB4 := Aside0.mk (below_step HB3.out hb)
        clear hb c0
        go_wp2
        go_ret
        exact ⟨by rw [HE.out]; rfl, HB4.out⟩
end Go.Proofs.Ytfojeegepfjbiaa.EdB
