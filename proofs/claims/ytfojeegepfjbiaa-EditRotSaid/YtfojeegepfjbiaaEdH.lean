/- Contract of edit.Encode. -/
import Derived.Test.YtfojeegepfjbiaaProg
import Derived.Below
import Derived.Deep.Draws
import Derived.Deep.AppendLies
import Derived.Maps.AppendAt
import Derived.OwnWalk
import Derived.Laws.BytesArg
import Derived.Laws.MakeOwn
import Derived.Laws.OwnMore
import Derived.Deep.OwnRows
import Derived.Tactics
import Derived.Lib.ConvBytes
import Derived.Laws.Slices
import Derived.WalkKit
import Derived.KernelRfl
import Derived.RowKit3
import Derived.Deep.LoopGhost
import Derived.Deep.QuietTactic
import Derived.BigQuiet
import Derived.WideLaws
import Derived.Deep.DeepCutAuto
import Derived.Deep.CutBlock
import Derived.Deep.RegionHeld3
import Derived.Laws.Rows
import Derived.Lib.AppendStr
import Derived.ArgAppend
import Derived.Laws.IdiomCopy
import Derived.OrdersHeld
import Derived.Laws.BitsLemmas
import Derived.RowKit
import Derived.WalkSpells
import Derived.Outline
import Derived.Test.YtfojeegepfjbiaaWWords
import Derived.Test.YtfojeegepfjbiaaWLast
import Derived.Test.YtfojeegepfjbiaaWMore
import Derived.Test.YtfojeegepfjbiaaWArr
import Derived.Test.YtfojeegepfjbiaaWTab
import Derived.Test.YtfojeegepfjbiaaWZeros
import Derived.Test.YtfojeegepfjbiaaWRepsOne
import Derived.Test.YtfojeegepfjbiaaEdG
namespace Go.Proofs.Ytfojeegepfjbiaa.EdH
open Go.RowKit Go.Proofs.YtfojeegepfjbiaaW.PrintWords Go.Proofs.YtfojeegepfjbiaaW.PrintLast Go.Proofs.YtfojeegepfjbiaaW.PrintMore Go.Proofs.Ytfojeegepfjbiaa.Mix Go.Proofs.Ytfojeegepfjbiaa.MixB Go.Proofs.Ytfojeegepfjbiaa.MixT Go.Proofs.Ytfojeegepfjbiaa.Nm Go.Proofs.Ytfojeegepfjbiaa.NmA Go.Proofs.Ytfojeegepfjbiaa.NmH Go.Proofs.Ytfojeegepfjbiaa.CrP Go.Proofs.Ytfojeegepfjbiaa.CrA Go.Proofs.Ytfojeegepfjbiaa.CrB Go.Proofs.Ytfojeegepfjbiaa.EdZ Go.Proofs.Ytfojeegepfjbiaa.EdA Go.Proofs.Ytfojeegepfjbiaa.EdB Go.Proofs.Ytfojeegepfjbiaa.EdC Go.Proofs.Ytfojeegepfjbiaa.EdD Go.Proofs.Ytfojeegepfjbiaa.EdE Go.Proofs.Ytfojeegepfjbiaa.EdF Go.Proofs.Ytfojeegepfjbiaa.EdG
set_option linter.unusedSimpArgs false
set_option linter.unusedVariables false
attribute [local go_sem] max2_int min2_int max_two min_two

theorem edC_ok {e : EdT} (h : edOk e = true) : edC e = 0 := by unfold edC; rw [h]; rfl
theorem edC_bad {e : EdT} (h : edOk e = false) : edC e = 10 := by unfold edC; rw [h]; rfl
set_option maxRecDepth 100000 in
theorem encode_bad (e : EdT) (v : Value) (w : World) (h : EdAt w v e) (hok : edOk e = false) :
    Calls Try.prog 44 #[v] w fun x w' => x = .returned (.tuple #[.slice none 0 0, .int .i64 10]) ∧ Below w.heap.size w w' := by
  have HE := Aside0.mk (fun wx hb => check_calls e v wx (ed_below (w' := wx) h hb))
  rw [edC_bad hok] at HE
  obtain ⟨A1, c1, A2, c2, A3, c3, A4, c4, rfl, hl, r1, r2, r3, r4⟩ := h
  have HB := Aside0.mk ((Below.refl w.heap.size w).alloc (Nat.le_refl _) (.cells #[.int .i64 e.1, .int .i64 e.2.1, .slice A1 e.2.2.1.length c1, .slice A2 e.2.2.2.1.length c2, .slice A3 e.2.2.2.2.1.length c3, .slice A4 e.2.2.2.2.2.length c4] 66 (0, 0)))
  have hc := HE.out _ HB.out
  clear hl r1 r2 r3 r4 hok HE
  generalize e.2.2.1.length = m1 at *
  generalize e.2.2.2.1.length = m2 at *
  generalize e.2.2.2.2.1.length = m3 at *
  generalize e.2.2.2.2.2.length = m4 at *
  generalize e.2.1 = sq at *
  generalize e.1 = nx at *
  go_enter Try.func44, Try.ntmps44
  go_wp2_with fail
  refine hc.mono ?_
  rintro e_ w1 ⟨rfl, hb⟩
  have HB1 := Aside0.mk (below_step HB.out hb)
  clear hb hc
  go_wp2
  go_ret2
  exact ⟨rfl, HB1.out⟩
set_option maxRecDepth 100000 in
theorem encode_ok (e : EdT) (v : Value) (w : World) (h : EdAt w v e) (hok : edOk e = true) (hg : edGood e) :
    Calls Try.prog 44 #[v] w fun x w' => ∃ y : Value, x = .returned (.tuple #[y, .int .i64 0]) ∧ Kd.R (Kd.int .u8) 5 w' w.heap.size (fun _ => True) y (sealL (textL e)) ∧ Below w.heap.size w w' := by
  have HE := Aside0.mk (fun wx hb => check_calls e v wx (ed_below (w' := wx) h hb))
  rw [edC_ok hok] at HE
  have HTX := Aside0.mk (fun wx hb => text_calls e v wx (ed_below (w' := wx) h hb) hok hg)
  have HSE := Aside0.mk (fun A c w h => seal_calls A c (textL e) (bys_text hok hg).1 w h (by have := (bys_text hok hg).2; omega))
  obtain ⟨A1, c1, A2, c2, A3, c3, A4, c4, rfl, hl, r1, r2, r3, r4⟩ := h
  have HB := Aside0.mk ((Below.refl w.heap.size w).alloc (Nat.le_refl _) (.cells #[.int .i64 e.1, .int .i64 e.2.1, .slice A1 e.2.2.1.length c1, .slice A2 e.2.2.2.1.length c2, .slice A3 e.2.2.2.2.1.length c3, .slice A4 e.2.2.2.2.2.length c4] 66 (0, 0)))
  have HP := Aside0.mk (blk_new w (.cells #[.int .i64 e.1, .int .i64 e.2.1, .slice A1 e.2.2.1.length c1, .slice A2 e.2.2.2.1.length c2, .slice A3 e.2.2.2.2.1.length c3, .slice A4 e.2.2.2.2.2.length c4] 66 (0, 0)))
  have hc := HE.out _ HB.out
  clear hl r1 r2 r3 r4 HE hok hg
  generalize textL e = t at *
  generalize e.2.2.1.length = m1 at *
  generalize e.2.2.2.1.length = m2 at *
  generalize e.2.2.2.2.1.length = m3 at *
  generalize e.2.2.2.2.2.length = m4 at *
  generalize e.2.1 = sq at *
  generalize e.1 = nx at *
  go_enter Try.func44, Try.ntmps44
  go_wp2_with fail
  refine hc.mono ?_
  rintro e_ w1 ⟨rfl, hb⟩
  have HB1 := Aside0.mk (below_step HB.out hb)
  have hp := blk_below HP.out hb
  have q0 : w1.cell? ⟨w.heap.size, 0, none⟩ = some (.int .i64 nx) := blk_cell hp 0
  have q1 : w1.cell? ⟨w.heap.size, 1, none⟩ = some (.int .i64 sq) := blk_cell hp 1
  have q2 : w1.cell? ⟨w.heap.size, 2, none⟩ = some (.slice A1 m1 c1) := blk_cell hp 2
  have q3 : w1.cell? ⟨w.heap.size, 3, none⟩ = some (.slice A2 m2 c2) := blk_cell hp 3
  have q4 : w1.cell? ⟨w.heap.size, 4, none⟩ = some (.slice A3 m3 c3) := blk_cell hp 4
  have q5 : w1.cell? ⟨w.heap.size, 5, none⟩ = some (.slice A4 m4 c4) := blk_cell hp 5
  have hc := HTX.out w1 HB1.out
  clear hb hp HTX
  go_wp2_with fail
  refine hc.mono ?_
  rintro e_ w2 ⟨y2, rfl, ho, hb⟩
  obtain ⟨A5, c5, rfl⟩ := Kd.R_slice ho
  have hr := (Kd.R_reads' ho).2.2
  have HB2 := Aside0.mk (below_step HB1.out hb)
  have hc := HSE.out A5 c5 w2 hr
  clear ho hb hr q0 q1 q2 q3 q4 q5 HSE
  go_wp2_with fail
  refine hc.mono ?_
  rintro e_ w3 ⟨y3, rfl, ho, hb⟩
  have HO := Aside0.mk (Kd.R_lower ho HB2.out.size)
  have HB3 := Aside0.mk (below_step HB2.out hb)
  clear ho hb hc
  go_wp2
  go_ret2
  exact ⟨y3, rfl, HO.out, HB3.out⟩
end Go.Proofs.Ytfojeegepfjbiaa.EdH
