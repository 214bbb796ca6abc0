/- Contracts of bytes.Clone, crc.Seal and the reference. -/
import Derived.Test.YtfojeegepfjbiaaProg
import Derived.Below
import Derived.Deep.Draws
import Derived.Deep.AppendLies
import Derived.Maps.AppendAt
import Derived.OwnWalk
import Derived.Laws.BytesArg
import Derived.Laws.MakeOwn
import Derived.Laws.OwnMore
import Derived.Deep.OwnRows
import Derived.Tactics
import Derived.Lib.ConvBytes
import Derived.Laws.Slices
import Derived.WalkKit
import Derived.KernelRfl
import Derived.RowKit3
import Derived.Deep.LoopGhost
import Derived.Deep.QuietTactic
import Derived.BigQuiet
import Derived.WideLaws
import Derived.Deep.DeepCutAuto
import Derived.Deep.CutBlock
import Derived.Deep.RegionHeld3
import Derived.Laws.Rows
import Derived.Lib.AppendStr
import Derived.ArgAppend
import Derived.Laws.IdiomCopy
import Derived.OrdersHeld
import Derived.Laws.BitsLemmas
import Derived.RowKit
import Derived.Lib.BufferMore
import Derived.WalkSpells
import Derived.Outline
import Derived.Test.YtfojeegepfjbiaaWWords
import Derived.Test.YtfojeegepfjbiaaWLast
import Derived.Test.YtfojeegepfjbiaaWMore
import Derived.Test.YtfojeegepfjbiaaWArr
import Derived.Test.YtfojeegepfjbiaaWTab
import Derived.Test.YtfojeegepfjbiaaWZeros
import Derived.Test.YtfojeegepfjbiaaWRepsOne
import Derived.Test.YtfojeegepfjbiaaCrA
import Derived.Test.YtfojeegepfjbiaaNmC
import Derived.Test.YtfojeegepfjbiaaMix
namespace Go.Proofs.Ytfojeegepfjbiaa.CrB
open Go.RowKit Go.Proofs.YtfojeegepfjbiaaW.PrintWords Go.Proofs.YtfojeegepfjbiaaW.PrintLast Go.Proofs.YtfojeegepfjbiaaW.PrintMore Go.Proofs.Ytfojeegepfjbiaa.Nm Go.Proofs.Ytfojeegepfjbiaa.NmA Go.Proofs.Ytfojeegepfjbiaa.NmB Go.Proofs.Ytfojeegepfjbiaa.NmC Go.Proofs.Ytfojeegepfjbiaa.NmH Go.Proofs.Ytfojeegepfjbiaa.CrP Go.Proofs.Ytfojeegepfjbiaa.CrA Go.Proofs.Ytfojeegepfjbiaa.Mix
set_option linter.unusedSimpArgs false
set_option linter.unusedVariables false
attribute [local go_sem] max2_int min2_int max_two min_two

set_option maxRecDepth 100000 in
theorem clone_calls (ad : Addr) (c : Nat) (l : List Int) (w : World) (hr : Kd.C (Kd.int .u8) w (some ad) l.length l) (hl : l.length ≤ 140737488351232) :
    Calls Try.prog 50 #[.slice (some ad) l.length c] w fun e w' => ∃ v : Value, e = .returned v ∧ Kd.R (Kd.int .u8) 5 w' w.heap.size (fun _ => True) v l ∧ Below w.heap.size w w' := by
  have HR := Aside0.mk hr
  have HB := Aside0.mk (Below.refl w.heap.size w)
  have HL := Aside0.mk hl
  clear hr hl
  have hnil := Go.Lib.run_eql_slice_some_nil (P := Try.prog) w ad l.length c Try.underlying22
  go_enter Try.func50, Try.ntmps50
  go_wp2_with (first | ((with_reducible refine gate_dst (N := 5) rfl ?_); go_must (refine Kd.R_lit (Kd.int .u8) (w0 := w) (w.heap.size) 5 ?hg (N := 5) ?hd (xs := ([] : List Int)) (inner := []) (ok := fun _ => True) (okp := fun _ => True) ?hr ?hp (fun _ hk => hk) trivial (HB.out) (Below.size (HB.out)) (by simp) ?_; (case hd => rfl); (case hg => rfl); (case hr => first | (go_simp; done) | (go_simp; rfl)); (case hp => exact Reps.none _ _); intro v119 w2 ho3 hb hg_ hnew_; have HO := Aside0.mk ho3; have HB2 := Aside0.mk hb; have HCB := Aside0.mk (Kd.C_below HR.out hb); clear ho3 hb hg_ hnew_)) | ((with_reducible refine gate_builtin (b := .append) (xs := #[.tmp 5, .tmp 6]) rfl ?_); at_builtin; go_must (refine Kd.R_append_row (Value.int .u8) (0) (h1 := fun _ => rfl) (w0 := w) (w.heap.size) rfl (.tmp 5) (.tmp 6) 22 5 (.int .u8 0) 1 rfl Try.underlying22 info5 rfl (by decide) v119 ([] : List Int) l (some ad) (l.length) c (fun _ => True) rfl rfl (fun _ _ => trivial) (HO.out) (HCB.out) (HB2.out) (Below.size (HB2.out)) ?aL_ ?_; (case aL_ => have := HL.out; simp only [List.length_nil]; omega); intro v102 w4 ho hb hg hat; have HO4 := Aside0.mk ho; have HB4 := Aside0.mk hb; clear ho hb hg hat)))
  go_ret
  exact ⟨_, rfl, by have := HO4.out; rw [List.nil_append] at this; exact this, HB4.out⟩

/-- The seal of bytes. -/
def sealL (l : List Int) : List Int := fourL (l.length : Int) ++ fourL (crc (fourL (l.length : Int)) : Int) ++ fourL (crc l : Int) ++ l
theorem bys_fourL (n : Int) : Bys (fourL n) := by
  intro c hc; simp [fourL] at hc; omega
theorem fourL_len (n : Int) : (fourL n).length = 4 := rfl

set_option maxRecDepth 100000 in
theorem seal_calls (A : Option Addr) (c : Nat) (l : List Int) (hby : Bys l) (w : World) (hr : Kd.C (Kd.int .u8) w A l.length l) (hl : l.length < 4294967296) :
    Calls Try.prog 23 #[.slice A l.length c] w fun e w' => ∃ v : Value, e = .returned v ∧ Kd.R (Kd.int .u8) 5 w' w.heap.size (fun _ => True) v (sealL l) ∧ Below w.heap.size w w' := by
  have HR := Aside0.mk hr
  have hw : IntKind.u32.wrap (l.length : Int) = (l.length : Int) := by rw [IntKind.wrap_u32]; omega
  have hb1 := bys_fourL (l.length : Int)
  have hl1 := fourL_len (l.length : Int)
  have HF1 := Aside0.mk (fun w => four_calls (l.length : Int) w)
  have HSL : Aside0 (sealL l = fourL (l.length : Int) ++ fourL (crc (fourL (l.length : Int)) : Int) ++ fourL (crc l : Int) ++ l) := ⟨rfl⟩
  generalize fourL (l.length : Int) = f1 at *
  have HS1 := Aside0.mk (fun A c w h => sum_calls A c f1 hb1 w h (by rw [hl1]; decide))
  have HS2 := Aside0.mk (fun w h => sum_calls A c l hby w h (by omega))
  have HF2 := Aside0.mk (fun w => four_calls (crc f1 : Int) w)
  have HF3 := Aside0.mk (fun w => four_calls (crc l : Int) w)
  have hl2 := fourL_len (crc f1 : Int)
  have hl3 := fourL_len (crc l : Int)
  generalize fourL (crc f1 : Int) = f2 at *
  generalize fourL (crc l : Int) = f3 at *
  have HN := Aside0.mk (And.intro hl1 (And.intro hl2 (And.intro hl3 hl)))
  have HCL := Aside0.mk (fun ad c w h => clone_calls ad c f1 w h (by rw [hl1]; decide))
  clear hl1 hl2 hl3 hl hb1 hby hr
  go_enter Try.func23, Try.ntmps23
  go_wp2_with fail
  refine (HF1.out w).mono ?_
  rintro e_ w1 ⟨v1, rfl, ho, hb⟩
  obtain ⟨g1, c1, e1, _⟩ := Kd.R_form ho (by rw [HN.out.1]; decide)
  subst e1
  have HC1 := Aside0.mk (Kd.R_reads' ho).2.2
  have HB1 := Aside0.mk hb
  clear ho hb
  go_wp2_with fail
  refine (HCL.out ⟨g1, 0, none⟩ c1 w1 HC1.out).mono ?_
  rintro e_ w2 ⟨v2, rfl, ho, hb⟩
  have HO2 := Aside0.mk (Kd.R_lower ho HB1.out.size)
  have HB2 := Aside0.mk (below_step HB1.out hb)
  have HC2 := Aside0.mk (Kd.C_below HC1.out hb)
  clear ho hb
  go_wp2_with fail
  refine (HS1.out _ c1 w2 HC2.out).mono ?_
  rintro e_ w3 ⟨rfl, hb⟩
  have HO3 := Aside0.mk (Kd.R_below HO2.out hb)
  have HB3 := Aside0.mk (below_step HB2.out hb)
  clear hb HO2 HB2 HC2 HC1 HB1
  go_wp2_with fail
  refine (HF2.out w3).mono ?_
  rintro e_ w4 ⟨v4, rfl, ho, hb⟩
  obtain ⟨A4, c4, rfl⟩ := Kd.R_slice ho
  have HC4 := Aside0.mk (Kd.R_reads' ho).2.2
  have HO4 := Aside0.mk (Kd.R_below HO3.out hb)
  have HB4 := Aside0.mk (below_step HB3.out hb)
  clear hb ho HO3 HB3
  go_wp2_with ((with_reducible refine gate_builtin (b := .append) (xs := #[.tmp 10, .tmp 13]) rfl ?_); at_builtin; go_must (refine Kd.R_append_row (Value.int .u8) (0) (h1 := fun _ => rfl) (w0 := w) (w.heap.size) rfl (.tmp 10) (.tmp 13) 22 5 (.int .u8 0) 1 rfl Try.underlying22 info5 rfl (by decide) v2 f1 f2 A4 (f2.length) c4 (fun _ => True) rfl rfl (fun _ _ => trivial) (HO4.out) (HC4.out) (HB4.out) (Below.size (HB4.out)) ?aL_ ?_; (case aL_ => have := HN.out; omega); intro v5 w5 ho hb hg hat; have HO5 := Aside0.mk ho; have HB5 := Aside0.mk hb; clear ho hb hg hat))
  refine (HS2.out w5 (Kd.C_below HR.out HB5.out)).mono ?_
  rintro e_ w6 ⟨rfl, hb⟩
  have HO6 := Aside0.mk (Kd.R_below HO5.out hb)
  have HB6 := Aside0.mk (below_step HB5.out hb)
  clear hb HO5 HB5 HO4 HB4 HC4
  go_wp2_with fail
  refine (HF3.out w6).mono ?_
  rintro e_ w7 ⟨v7, rfl, ho, hb⟩
  obtain ⟨A7, c7, rfl⟩ := Kd.R_slice ho
  have HC7 := Aside0.mk (Kd.R_reads' ho).2.2
  have HO7 := Aside0.mk (Kd.R_below HO6.out hb)
  have HB7 := Aside0.mk (below_step HB6.out hb)
  clear hb ho HO6 HB6
  have h12 : (f1 ++ f2).length = 8 := by rw [List.length_append, HN.out.1, HN.out.2.1]
  have HN2 := Aside0.mk h12
  clear h12
  generalize f1 ++ f2 = f12 at *
  go_wp2_with (first | ((with_reducible refine gate_builtin (b := .append) (xs := #[.tmp 15, .tmp 18]) rfl ?_); at_builtin; go_must (refine Kd.R_append_row (Value.int .u8) (0) (h1 := fun _ => rfl) (w0 := w) (w.heap.size) rfl (.tmp 15) (.tmp 18) 22 5 (.int .u8 0) 1 rfl Try.underlying22 info5 rfl (by decide) v5 f12 f3 A7 (f3.length) c7 (fun _ => True) rfl rfl (fun _ _ => trivial) (HO7.out) (HC7.out) (HB7.out) (Below.size (HB7.out)) ?aL_ ?_; (case aL_ => have := HN.out; have := HN2.out; omega); intro v8 w8 ho hb hg hat; have HO8 := Aside0.mk ho; have HB8 := Aside0.mk hb; have HCL8 := Aside0.mk (Kd.C_below HR.out hb); have HN3 := Aside0.mk (@List.length_append _ f12 f3); generalize f12 ++ f3 = f123 at *; clear ho hb hg hat)) | ((with_reducible refine gate_builtin (b := .append) (xs := #[.tmp 19, .tmp 20]) rfl ?_); at_builtin; go_must (refine Kd.R_append_row (Value.int .u8) (0) (h1 := fun _ => rfl) (w0 := w) (w.heap.size) rfl (.tmp 19) (.tmp 20) 22 5 (.int .u8 0) 1 rfl Try.underlying22 info5 rfl (by decide) v8 f123 l A (l.length) c (fun _ => True) rfl rfl (fun _ _ => trivial) (HO8.out) (HCL8.out) (HB8.out) (Below.size (HB8.out)) ?aL_ ?_; (case aL_ => have := HN.out; have := HN2.out; have := HN3.out; omega); intro v9 w9 ho hb hg hat; have HO9 := Aside0.mk ho; have HB9 := Aside0.mk hb; clear ho hb hg hat)))
  go_ret
  exact ⟨_, rfl, by rw [HSL.out]; exact HO9.out, HB9.out⟩
set_option maxRecDepth 100000 in
theorem rseal_calls (A : Option Addr) (c : Nat) (l : List Int) (hby : Bys l) (w : World) (hr : Kd.C (Kd.int .u8) w A l.length l) (hl : l.length < 4294967296) :
    Calls Try.prog 25 #[.slice A l.length c] w fun e w' => ∃ v : Value, e = .returned v ∧ Kd.R (Kd.int .u8) 5 w' w.heap.size (fun _ => True) v (sealL l) ∧ Below w.heap.size w w' := by
  have HR := Aside0.mk hr
  have hw : IntKind.u32.wrap (l.length : Int) = (l.length : Int) := by rw [IntKind.wrap_u32]; omega
  have hb1 := bys_fourL (l.length : Int)
  have hl1 := fourL_len (l.length : Int)
  have HF1 := Aside0.mk (fun w => rfour_calls (l.length : Int) w)
  have HSL : Aside0 (sealL l = fourL (l.length : Int) ++ fourL (crc (fourL (l.length : Int)) : Int) ++ fourL (crc l : Int) ++ l) := ⟨rfl⟩
  generalize fourL (l.length : Int) = f1 at *
  have HS1 := Aside0.mk (fun A c w h => rsum_calls A c f1 hb1 w h (by rw [hl1]; decide))
  have HS2 := Aside0.mk (fun w h => rsum_calls A c l hby w h (by omega))
  have HF2 := Aside0.mk (fun w => rfour_calls (crc f1 : Int) w)
  have HF3 := Aside0.mk (fun w => rfour_calls (crc l : Int) w)
  have hl2 := fourL_len (crc f1 : Int)
  have hl3 := fourL_len (crc l : Int)
  generalize fourL (crc f1 : Int) = f2 at *
  generalize fourL (crc l : Int) = f3 at *
  have HN := Aside0.mk (And.intro hl1 (And.intro hl2 (And.intro hl3 hl)))
  clear hl1 hl2 hl3 hl hb1 hby hr
  go_enter Try.func25, Try.ntmps25
  go_wp2_with fail
  refine (HF1.out w).mono ?_
  rintro e_ w1 ⟨v1, rfl, ho, hb⟩
  obtain ⟨g1, c1, e1, _⟩ := Kd.R_form ho (by rw [HN.out.1]; decide)
  subst e1
  have HC1 := Aside0.mk (Kd.R_reads' ho).2.2
  have HB1 := Aside0.mk hb
  clear ho hb
  have hb0 := Kd.R_nil (Kd.int .u8) 5 w1 w.heap.size (fun _ => True)
  have HO0 := Aside0.mk hb0
  clear hb0
  go_wp2_with ((with_reducible refine gate_builtin (b := .append) (xs := #[.const (.slice none 0 0), .tmp 9]) rfl ?_); at_builtin; go_must (refine Kd.R_append_row (Value.int .u8) (0) (h1 := fun _ => rfl) (w0 := w) (w.heap.size) rfl (.const (.slice none 0 0)) (.tmp 9) 22 5 (.int .u8 0) 1 rfl Try.underlying22 info5 rfl (by decide) (.slice none 0 0) ([] : List Int) f1 (some ⟨g1, 0, none⟩) (f1.length) c1 (fun _ => True) rfl rfl (fun _ _ => trivial) (HO0.out) (HC1.out) (HB1.out) (Below.size (HB1.out)) ?aL_ ?_; (case aL_ => have := HN.out; simp only [List.length_nil]; omega); intro v2 w2 ho hb hg hat; have HO2 := Aside0.mk ho; have HB2 := Aside0.mk hb; have HC2 := Aside0.mk (Kd.C_below HC1.out ⟨hg.os, hg.tape, hg.output, hg.size, fun j hj => hg.block j hj (by simp [Value.ownBlock])⟩); clear ho hb hg hat))
  rw [List.nil_append] at HO2
  refine (HS1.out _ c1 w2 HC2.out).mono ?_
  rintro e_ w3 ⟨rfl, hb⟩
  have HO3 := Aside0.mk (Kd.R_below HO2.out hb)
  have HB3 := Aside0.mk (below_step HB2.out hb)
  clear hb HO2 HB2 HC2 HC1 HB1
  go_wp2_with fail
  refine (HF2.out w3).mono ?_
  rintro e_ w4 ⟨v4, rfl, ho, hb⟩
  obtain ⟨A4, c4, rfl⟩ := Kd.R_slice ho
  have HC4 := Aside0.mk (Kd.R_reads' ho).2.2
  have HO4 := Aside0.mk (Kd.R_below HO3.out hb)
  have HB4 := Aside0.mk (below_step HB3.out hb)
  clear hb ho HO3 HB3
  go_wp2_with ((with_reducible refine gate_builtin (b := .append) (xs := #[.tmp 10, .tmp 13]) rfl ?_); at_builtin; go_must (refine Kd.R_append_row (Value.int .u8) (0) (h1 := fun _ => rfl) (w0 := w) (w.heap.size) rfl (.tmp 10) (.tmp 13) 22 5 (.int .u8 0) 1 rfl Try.underlying22 info5 rfl (by decide) v2 f1 f2 A4 (f2.length) c4 (fun _ => True) rfl rfl (fun _ _ => trivial) (HO4.out) (HC4.out) (HB4.out) (Below.size (HB4.out)) ?aL_ ?_; (case aL_ => have := HN.out; omega); intro v5 w5 ho hb hg hat; have HO5 := Aside0.mk ho; have HB5 := Aside0.mk hb; clear ho hb hg hat))
  refine (HS2.out w5 (Kd.C_below HR.out HB5.out)).mono ?_
  rintro e_ w6 ⟨rfl, hb⟩
  have HO6 := Aside0.mk (Kd.R_below HO5.out hb)
  have HB6 := Aside0.mk (below_step HB5.out hb)
  clear hb HO5 HB5 HO4 HB4 HC4
  go_wp2_with fail
  refine (HF3.out w6).mono ?_
  rintro e_ w7 ⟨v7, rfl, ho, hb⟩
  obtain ⟨A7, c7, rfl⟩ := Kd.R_slice ho
  have HC7 := Aside0.mk (Kd.R_reads' ho).2.2
  have HO7 := Aside0.mk (Kd.R_below HO6.out hb)
  have HB7 := Aside0.mk (below_step HB6.out hb)
  clear hb ho HO6 HB6
  have h12 : (f1 ++ f2).length = 8 := by rw [List.length_append, HN.out.1, HN.out.2.1]
  have HN2 := Aside0.mk h12
  clear h12
  generalize f1 ++ f2 = f12 at *
  go_wp2_with (first | ((with_reducible refine gate_builtin (b := .append) (xs := #[.tmp 15, .tmp 18]) rfl ?_); at_builtin; go_must (refine Kd.R_append_row (Value.int .u8) (0) (h1 := fun _ => rfl) (w0 := w) (w.heap.size) rfl (.tmp 15) (.tmp 18) 22 5 (.int .u8 0) 1 rfl Try.underlying22 info5 rfl (by decide) v5 f12 f3 A7 (f3.length) c7 (fun _ => True) rfl rfl (fun _ _ => trivial) (HO7.out) (HC7.out) (HB7.out) (Below.size (HB7.out)) ?aL_ ?_; (case aL_ => have := HN.out; have := HN2.out; omega); intro v8 w8 ho hb hg hat; have HO8 := Aside0.mk ho; have HB8 := Aside0.mk hb; have HCL8 := Aside0.mk (Kd.C_below HR.out hb); have HN3 := Aside0.mk (@List.length_append _ f12 f3); generalize f12 ++ f3 = f123 at *; clear ho hb hg hat)) | ((with_reducible refine gate_builtin (b := .append) (xs := #[.tmp 19, .tmp 20]) rfl ?_); at_builtin; go_must (refine Kd.R_append_row (Value.int .u8) (0) (h1 := fun _ => rfl) (w0 := w) (w.heap.size) rfl (.tmp 19) (.tmp 20) 22 5 (.int .u8 0) 1 rfl Try.underlying22 info5 rfl (by decide) v8 f123 l A (l.length) c (fun _ => True) rfl rfl (fun _ _ => trivial) (HO8.out) (HCL8.out) (HB8.out) (Below.size (HB8.out)) ?aL_ ?_; (case aL_ => have := HN.out; have := HN2.out; have := HN3.out; omega); intro v9 w9 ho hb hg hat; have HO9 := Aside0.mk ho; have HB9 := Aside0.mk hb; clear ho hb hg hat)))
  go_ret
  exact ⟨_, rfl, by rw [HSL.out]; exact HO9.out, HB9.out⟩
end Go.Proofs.Ytfojeegepfjbiaa.CrB
