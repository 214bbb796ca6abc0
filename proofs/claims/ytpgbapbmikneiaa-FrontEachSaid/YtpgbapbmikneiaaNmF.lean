/- begun of the statements on numbers: it answers true. -/
import Derived.Test.YtpgbapbmikneiaaProg
import Derived.Below
import Derived.Deep.Draws
import Derived.Deep.AppendLies
import Derived.Maps.AppendAt
import Derived.OwnWalk
import Derived.Laws.BytesArg
import Derived.Laws.MakeOwn
import Derived.Laws.OwnMore
import Derived.Deep.OwnRows
import Derived.Tactics
import Derived.Lib.ConvBytes
import Derived.Laws.Slices
import Derived.WalkKit
import Derived.KernelRfl
import Derived.RowKit3
import Derived.Deep.LoopGhost
import Derived.Deep.QuietTactic
import Derived.BigQuiet
import Derived.WideLaws
import Derived.Deep.DeepCutAuto
import Derived.Deep.CutBlock
import Derived.Deep.RegionHeld3
import Derived.Laws.Rows
import Derived.Lib.AppendStr
import Derived.ArgAppend
import Derived.Laws.IdiomCopy
import Derived.OrdersHeld
import Derived.Laws.BitsLemmas
import Derived.RowKit
import Derived.WalkSpells
import Derived.Outline
import Derived.Test.YtpgbapbmikneiaaWWords
import Derived.Test.YtpgbapbmikneiaaWLast
import Derived.Test.YtpgbapbmikneiaaWMore
import Derived.Test.YtpgbapbmikneiaaWArr
import Derived.Test.YtpgbapbmikneiaaWTab
import Derived.Test.YtpgbapbmikneiaaWZeros
import Derived.Test.YtpgbapbmikneiaaWRepsOne
import Derived.Test.YtpgbapbmikneiaaNmD
namespace Go.Proofs.Ytpgbapbmikneiaa.NmF
open Go.RowKit Go.Proofs.YtpgbapbmikneiaaW.PrintWords Go.Proofs.YtpgbapbmikneiaaW.PrintLast Go.Proofs.YtpgbapbmikneiaaW.PrintMore Go.Proofs.Ytpgbapbmikneiaa.Nm Go.Proofs.Ytpgbapbmikneiaa.NmA Go.Proofs.Ytpgbapbmikneiaa.NmB Go.Proofs.Ytpgbapbmikneiaa.NmC Go.Proofs.Ytpgbapbmikneiaa.NmE Go.Proofs.Ytpgbapbmikneiaa.NmD
attribute [local go_sem] max2_int min2_int max_two min_two

theorem enc300 : enc 300 = [172, 2] := by
  rw [enc_large (by decide), enc_small (by decide)]; rfl
theorem text_ab : enc (⟨#[97, 98]⟩ : ByteArray).size ++ bytesOf ⟨#[97, 98]⟩ = [2, 97, 98] := by
  rw [show (⟨#[97, 98]⟩ : ByteArray).size = 2 from rfl, enc_small (by decide)]; rfl
theorem textV_ab : textV [2, 97, 98] = (⟨#[97, 98]⟩, 3) := by decide +kernel

theorem begun_calls (w : World) : Calls Try.prog 18 #[] w fun e w' => e = .returned (.bool true) ∧ Below w.heap.size w w' := by
  have HB := Aside0.mk (Below.refl w.heap.size w)
  go_enter Try.func18, Try.ntmps18
  go_wp2_with fail
  refine (put_calls 300 (by decide) _).mono ?_
  rintro e_ w1 ⟨v1, rfl, ho, hb⟩
  rw [enc300] at ho
  obtain ⟨A1, c1, rfl⟩ := Kd.R_slice ho
  have HO1 := Aside0.mk (Kd.R_reads' ho)
  have HB1 := Aside0.mk hb
  clear ho hb HB
  go_wp2_with fail
  have hc := get_calls A1 c1 [172, 2] (bys_of rfl) _ HO1.out.2.2 HO1.out.2.1
  rw [show getS [172, 2] = (300, 2) by decide +kernel] at hc
  refine hc.mono ?_
  clear hc
  rintro e_ w2 ⟨rfl, hb⟩
  have HB2 := Aside0.mk (below_step HB1.out hb)
  clear hb HB1 HO1
  go_wp2_with fail
  have hc := text_calls (⟨#[97, 98]⟩ : ByteArray) (by decide) w2
  rw [text_ab] at hc
  refine hc.mono ?_
  clear hc
  rintro e_ w3 ⟨v2, rfl, ho, hb⟩
  obtain ⟨A2, c2, rfl⟩ := Kd.R_slice ho
  have HO2 := Aside0.mk (Kd.R_reads' ho)
  have HB3 := Aside0.mk (below_step HB2.out hb)
  clear ho hb HB2
  go_wp2_with fail
  have hc := gettext_calls A2 c2 [2, 97, 98] (bys_of rfl) w3 HO2.out.2.2 HO2.out.2.1 (by decide)
  rw [textV_ab] at hc
  refine hc.mono ?_
  clear hc
  rintro e_ w4 ⟨rfl, hb⟩
  have HB4 := Aside0.mk (below_step HB3.out hb)
  clear hb HB3 HO2
  go_wp2_with fail
  refine (four_calls 7 w4).mono ?_
  rintro e_ w5 ⟨v3, rfl, ho, hb⟩
  obtain ⟨A3, c3, rfl⟩ := Kd.R_slice ho
  have HO3 := Aside0.mk (Kd.R_reads' ho)
  have HB5 := Aside0.mk (below_step HB4.out hb)
  clear ho hb HB4
  go_wp2_with fail
  have hc := getfour_calls A3 c3 (fourL 7) (bys_of rfl) w5 HO3.out.2.2
  rw [show fourV (fourL 7) = 7 by decide +kernel] at hc
  refine hc.mono ?_
  clear hc
  rintro e_ w6 ⟨rfl, hb⟩
  have HB6 := Aside0.mk (below_step HB5.out hb.below)
  clear hb HB5 HO3
  go_wp2_with fail
  have hc := getfour_calls none 0 [] (bys_of rfl) w6 (Kd.C_nil _ _)
  rw [show fourV [] = 0 by decide +kernel] at hc
  refine hc.mono ?_
  clear hc
  rintro e_ w7 ⟨rfl, hb⟩
  have HB7 := Aside0.mk (below_step HB6.out hb.below)
  clear hb HB6
  go_wp2_with fail
  go_ret
  exact ⟨rfl, HB7.out⟩
end Go.Proofs.Ytpgbapbmikneiaa.NmF
