/- begun of the statements on sums: it answers true. -/
import Derived.Test.YtfojeegepfjbiaaProg
import Derived.Below
import Derived.Deep.Draws
import Derived.Deep.AppendLies
import Derived.Maps.AppendAt
import Derived.OwnWalk
import Derived.Laws.BytesArg
import Derived.Laws.MakeOwn
import Derived.Laws.OwnMore
import Derived.Deep.OwnRows
import Derived.Tactics
import Derived.Lib.ConvBytes
import Derived.Laws.Slices
import Derived.WalkKit
import Derived.KernelRfl
import Derived.RowKit3
import Derived.Deep.LoopGhost
import Derived.Deep.QuietTactic
import Derived.BigQuiet
import Derived.WideLaws
import Derived.Deep.DeepCutAuto
import Derived.Deep.CutBlock
import Derived.Deep.RegionHeld3
import Derived.Laws.Rows
import Derived.Lib.AppendStr
import Derived.ArgAppend
import Derived.Laws.IdiomCopy
import Derived.OrdersHeld
import Derived.Laws.BitsLemmas
import Derived.RowKit
import Derived.Lib.SlBytesConst
import Derived.WalkSpells
import Derived.Outline
import Derived.Test.YtfojeegepfjbiaaWWords
import Derived.Test.YtfojeegepfjbiaaWLast
import Derived.Test.YtfojeegepfjbiaaWMore
import Derived.Test.YtfojeegepfjbiaaWArr
import Derived.Test.YtfojeegepfjbiaaWTab
import Derived.Test.YtfojeegepfjbiaaWZeros
import Derived.Test.YtfojeegepfjbiaaWRepsOne
import Derived.Test.YtfojeegepfjbiaaCrE
namespace Go.Proofs.Ytfojeegepfjbiaa.CrF
open Go.RowKit Go.Proofs.YtfojeegepfjbiaaW.PrintWords Go.Proofs.YtfojeegepfjbiaaW.PrintLast Go.Proofs.YtfojeegepfjbiaaW.PrintMore Go.Proofs.Ytfojeegepfjbiaa.Nm Go.Proofs.Ytfojeegepfjbiaa.NmA Go.Proofs.Ytfojeegepfjbiaa.NmB Go.Proofs.Ytfojeegepfjbiaa.NmC Go.Proofs.Ytfojeegepfjbiaa.NmH Go.Proofs.Ytfojeegepfjbiaa.CrP Go.Proofs.Ytfojeegepfjbiaa.CrA Go.Proofs.Ytfojeegepfjbiaa.CrB Go.Proofs.Ytfojeegepfjbiaa.CrC Go.Proofs.Ytfojeegepfjbiaa.CrD Go.Proofs.Ytfojeegepfjbiaa.CrE Go.Proofs.Ytfojeegepfjbiaa.Mix
set_option linter.unusedSimpArgs false
set_option linter.unusedVariables false
attribute [local go_sem] max2_int min2_int max_two min_two

theorem reads_const (w : World) (t : TypeId) (fr : Nat × Nat) (L : List Int) (hl : L.length ≤ 100) : (Kd.int .u8).C (w.alloc (.cells (L.map (Value.int .u8)).toArray t fr)) (some ⟨w.heap.size, 0, none⟩) L.length L := by
  refine Kd.C_of_reads (d := 0) (h1 := fun _ => rfl) ⟨rfl, by omega, fun _ => ⟨_, rfl, fun j hj => ?_⟩⟩
  have hh : (w.alloc (.cells (L.map (Value.int .u8)).toArray t fr)).heap[w.heap.size]? = some (.cells (L.map (Value.int .u8)).toArray t fr) := by
    show (w.heap.push _)[w.heap.size]? = _
    simp
  rw [add_plain]
  unfold World.cell?
  simp only [hh]
  simp [List.getD_eq_getElem?_getD, List.getElem?_eq_getElem hj]
theorem seal_x : openL (sealL [120]) = ([120], true) := by decide +kernel
theorem scan_x : scanL (sealL [120]) = ([[120]], 13, true) := by decide +kernel
theorem crc_nine : crc [49, 50, 51, 52, 53, 54, 55, 56, 57] = 3421780262 := by decide +kernel
theorem bys_x : Bys (sealL [120]) := by unfold Bys; decide +kernel
theorem len_x : (sealL [120]).length = 13 := by decide +kernel
set_option maxRecDepth 100000 in
theorem begun_calls (w : World) : Calls Try.prog 19 #[] w fun e w' => e = .returned (.bool true) ∧ Below w.heap.size w w' := by
  have kc := fun (w : World) (C : Array Value) (n c : Nat) => Lib.run_convert_bytes_const (P := Try.prog) w 22 5 C n c Try.underlying22 Try.underlying5
  obtain ⟨sx, hsx⟩ : ∃ sx, sealL [120] = sx := ⟨_, rfl⟩
  have HSX := Aside0.mk hsx
  have HOP : Aside0 (openL sx = ([120], true)) := ⟨by rw [← hsx]; exact seal_x⟩
  have HSC : Aside0 (scanL sx = ([[120]], 13, true)) := ⟨by rw [← hsx]; exact scan_x⟩
  have HBX : Aside0 (Bys sx) := ⟨by rw [← hsx]; exact bys_x⟩
  have HLX : Aside0 (sx.length = 13) := ⟨by rw [← hsx]; exact len_x⟩
  clear hsx
  go_enter Try.func19, Try.ntmps19
  go_wp2_with fail
  have HA1 := Aside0.mk ((Below.refl w.heap.size w).alloc (Nat.le_refl _) (.cells #[.int .u8 120] 5 (1, 2)))
  have hc := seal_calls (some ⟨w.heap.size, 0, none⟩) 1 [120] (bys_of rfl) _ (reads_const w 5 (1, 2) [120] (by decide)) (by decide)
  refine hc.mono ?_
  clear hc
  rintro e_ x1 ⟨y1, rfl, ho, hb⟩
  obtain ⟨A1, c1, rfl⟩ := Kd.R_slice ho
  have HO1 := Aside0.mk (Kd.R_reads' ho)
  have HB1 := Aside0.mk ((below_step HA1.out hb))
  clear ho hb HA1
  rw [HSX.out] at HO1 ⊢
  go_wp2_with fail
  have hc := open_calls A1 c1 sx HBX.out x1 HO1.out.2.2 HO1.out.2.1 (by rw [HLX.out]; decide)
  rw [HOP.out] at hc
  refine hc.mono ?_
  clear hc
  rintro e_ x2 ⟨y2, rfl, ho, hb⟩
  obtain ⟨A2, c2, rfl⟩ := Kd.R_slice ho
  have HO2 := Aside0.mk (Kd.R_reads' ho).2.2
  have HB2 := Aside0.mk (below_step HB1.out hb)
  clear ho hb HB1 HO1
  go_wp2_with fail
  have HA3 := Aside0.mk ((Below.refl x2.heap.size x2).alloc (Nat.le_refl _) (.cells #[.int .u8 120] 5 (1, 2)))
  have hc := seal_calls (some ⟨x2.heap.size, 0, none⟩) 1 [120] (bys_of rfl) _ (reads_const x2 5 (1, 2) [120] (by decide)) (by decide)
  refine hc.mono ?_
  clear hc
  rintro e_ x3 ⟨y3, rfl, ho, hb⟩
  obtain ⟨A3, c3, rfl⟩ := Kd.R_slice ho
  have HO3 := Aside0.mk (Kd.R_reads' ho)
  have HB3 := Aside0.mk (below_step HB2.out (below_step HA3.out hb))
  have HC3 := Aside0.mk (Kd.C_below HO2.out (below_step HA3.out hb))
  clear ho hb HA3 HB2 HO2
  rw [HSX.out] at HO3 ⊢
  go_wp2_with fail
  have hc := scan_calls A3 c3 sx HBX.out x3 HO3.out.2.2 HO3.out.2.1 (by rw [HLX.out]; decide)
  rw [HSC.out] at hc
  refine hc.mono ?_
  clear hc
  rintro e_ x4 ⟨y4, rfl, ho, hb⟩
  obtain ⟨A4, c4, rfl⟩ := Kd.R_slice ho
  have HB4 := Aside0.mk (below_step HB3.out hb)
  have HC4 := Aside0.mk (Kd.C_below HC3.out hb)
  clear ho hb HB3 HO3 HC3
  go_wp2_with fail
  have HA5 := Aside0.mk ((Below.refl x4.heap.size x4).alloc (Nat.le_refl _) (.cells ([49, 50, 51, 52, 53, 54, 55, 56, 57].map (Value.int .u8)).toArray 5 (9, 10)))
  have hc := sum_calls (some ⟨x4.heap.size, 0, none⟩) 9 [49, 50, 51, 52, 53, 54, 55, 56, 57] (bys_of rfl) _ (reads_const x4 5 (9, 10) [49, 50, 51, 52, 53, 54, 55, 56, 57] (by decide)) (by decide)
  rw [crc_nine] at hc
  refine hc.mono ?_
  clear hc
  rintro e_ x5 ⟨rfl, hb⟩
  have HB5 := Aside0.mk (below_step HB4.out (below_step HA5.out hb))
  have hcv := Kd.C_string (P := Try.prog) (A := A2) (c := c2) Try.underlying22 Try.underlying5 Try.underlying9 (Kd.C_below HC4.out (below_step HA5.out hb))
  rw [show strOfNums [120] = ⟨#[120]⟩ by decide +kernel] at hcv
  replace hcv : (convert 22 9 (.slice A2 1 c2)).run Try.prog x5 = .ok (.string ⟨#[120]⟩) x5 := hcv
  clear hb HB4 HC4 HA5
  go_wp2_with fail
  go_ret
  exact ⟨rfl, HB5.out⟩
end Go.Proofs.Ytfojeegepfjbiaa.CrF
