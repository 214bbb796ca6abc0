/- begun of the statements on moving to the front: it answers true. -/
import Derived.Test.YtpgbapbmikneiaaProg
import Derived.Below
import Derived.Deep.Draws
import Derived.Deep.AppendLies
import Derived.Maps.AppendAt
import Derived.OwnWalk
import Derived.Laws.BytesArg
import Derived.Laws.MakeOwn
import Derived.Laws.OwnMore
import Derived.Deep.OwnRows
import Derived.Tactics
import Derived.Lib.ConvBytes
import Derived.Laws.Slices
import Derived.WalkKit
import Derived.KernelRfl
import Derived.RowKit3
import Derived.Deep.LoopGhost
import Derived.Deep.QuietTactic
import Derived.BigQuiet
import Derived.WideLaws
import Derived.Deep.DeepCutAuto
import Derived.Deep.CutBlock
import Derived.Deep.RegionHeld3
import Derived.Laws.Rows
import Derived.Lib.AppendStr
import Derived.ArgAppend
import Derived.Laws.IdiomCopy
import Derived.OrdersHeld
import Derived.Laws.BitsLemmas
import Derived.RowKit
import Derived.Lib.SlBytesConst
import Derived.WalkSpells
import Derived.Outline
import Derived.Test.YtpgbapbmikneiaaWWords
import Derived.Test.YtpgbapbmikneiaaWLast
import Derived.Test.YtpgbapbmikneiaaWMore
import Derived.Test.YtpgbapbmikneiaaWArr
import Derived.Test.YtpgbapbmikneiaaWTab
import Derived.Test.YtpgbapbmikneiaaWZeros
import Derived.Test.YtpgbapbmikneiaaWRepsOne
import Derived.Test.YtpgbapbmikneiaaMtB
namespace Go.Proofs.Ytpgbapbmikneiaa.MtC
open Go.RowKit Go.Proofs.YtpgbapbmikneiaaW.PrintWords Go.Proofs.YtpgbapbmikneiaaW.PrintLast Go.Proofs.YtpgbapbmikneiaaW.PrintMore Go.Proofs.Ytpgbapbmikneiaa.Nm Go.Proofs.Ytpgbapbmikneiaa.NmA Go.Proofs.Ytpgbapbmikneiaa.NmB Go.Proofs.Ytpgbapbmikneiaa.NmC Go.Proofs.Ytpgbapbmikneiaa.Mt Go.Proofs.Ytpgbapbmikneiaa.Mix Go.Proofs.Ytpgbapbmikneiaa.MtA Go.Proofs.Ytpgbapbmikneiaa.MtB
set_option linter.unusedSimpArgs false
set_option linter.unusedVariables false
attribute [local go_sem] max2_int min2_int max_two min_two

theorem enc_aab : encM initL [97, 97, 98] = [97, 0, 98] := by decide +kernel
theorem dec_aab : decM initL [97, 0, 98] = [97, 97, 98] := by decide +kernel
theorem reads_const (w : World) (t : TypeId) (fr : Nat × Nat) (a b c : Int) : (Kd.int .u8).C (w.alloc (.cells #[.int .u8 a, .int .u8 b, .int .u8 c] t fr)) (some ⟨w.heap.size, 0, none⟩) 3 [a, b, c] := by
  refine Kd.C_of_reads (d := 0) (h1 := fun _ => rfl) ⟨rfl, by decide, fun _ => ⟨_, rfl, fun j hj => ?_⟩⟩
  have hh : (w.alloc (.cells #[.int .u8 a, .int .u8 b, .int .u8 c] t fr)).heap[w.heap.size]? = some (.cells #[.int .u8 a, .int .u8 b, .int .u8 c] t fr) := by
    show (w.heap.push _)[w.heap.size]? = _
    simp
  rw [add_plain]
  unfold World.cell?
  simp only [hh]
  match j, hj with
  | 0, _ => rfl
  | 1, _ => rfl
  | 2, _ => rfl
set_option maxRecDepth 100000 in
theorem begun_calls (w : World) : Calls Try.prog 12 #[] w fun e w' => e = .returned (.bool true) ∧ Below w.heap.size w w' := by
  have kc := fun (w : World) (C : Array Value) (n c : Nat) => Lib.run_convert_bytes_const (P := Try.prog) w 24 5 C n c Try.underlying24 Try.underlying5
  go_enter Try.func12, Try.ntmps12
  go_wp2_with fail
  have HB0 := Aside0.mk ((Below.refl w.heap.size w).alloc (Nat.le_refl _) (.cells #[.int .u8 97, .int .u8 97, .int .u8 98] 5 (3, 4)))
  have hc := encode_calls (some ⟨w.heap.size, 0, none⟩) 3 [97, 97, 98] (bys_of rfl) _ (reads_const w 5 (3, 4) 97 97 98) (by decide)
  rw [enc_aab] at hc
  refine hc.mono ?_
  clear hc
  rintro e_ w1 ⟨v1, rfl, ho, hb⟩
  obtain ⟨g, cap, e1, hgb, hgl, _⟩ := Kd.R_form ho (by decide)
  subst e1
  have HO1 := Aside0.mk (Kd.R_reads' ho)
  have HB1 := Aside0.mk (below_step HB0.out hb)
  have hx0 := (Kd.R_cell 0 ho 0 (by decide) (by decide)).1
  have hx1 := (Kd.R_cell 0 ho 1 (by decide) (by decide)).1
  have hx2 := (Kd.R_cell 0 ho 2 (by decide) (by decide)).1
  simp only [rdOf, show (0 : Int).toNat = 0 from rfl, show (1 : Int).toNat = 1 from rfl, show (2 : Int).toNat = 2 from rfl] at hx0 hx1 hx2
  clear ho hb HB0 hgb hgl
  go_wp2_with fail
  have hc := decode_calls (some ⟨g, 0, none⟩) cap [97, 0, 98] (bys_of rfl) w1 HO1.out.2.2 (by decide)
  rw [dec_aab] at hc
  refine hc.mono ?_
  clear hc
  rintro e_ w2 ⟨v2, rfl, ho, hb⟩
  obtain ⟨A2, c2, rfl⟩ := Kd.R_slice ho
  have hcv := Kd.C_string (P := Try.prog) (A := A2) (c := c2) Try.underlying24 Try.underlying5 Try.underlying9 (Kd.R_reads' ho).2.2
  rw [show strOfNums [97, 97, 98] = ⟨#[97, 97, 98]⟩ by decide +kernel] at hcv
  replace hcv : (convert 24 9 (.slice A2 3 c2)).run Try.prog w2 = .ok (.string ⟨#[97, 97, 98]⟩) w2 := hcv
  have HB2 := Aside0.mk (below_step HB1.out hb)
  clear ho hb HB1 HO1
  go_wp2_with fail
  have hc := encode_calls none 0 [] (bys_of rfl) w2 (Kd.C_nil _ _) (by decide)
  refine hc.mono ?_
  clear hc
  rintro e_ w3 ⟨v3, rfl, ho, hb⟩
  obtain ⟨A3, c3, rfl⟩ := Kd.R_slice ho
  have HB3 := Aside0.mk (below_step HB2.out hb)
  clear ho hb HB2
  go_wp2_with fail
  go_ret
  exact ⟨rfl, HB3.out⟩
end Go.Proofs.Ytpgbapbmikneiaa.MtC
