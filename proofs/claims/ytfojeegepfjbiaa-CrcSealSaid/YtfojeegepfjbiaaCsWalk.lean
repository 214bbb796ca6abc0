/- CrcSeal: any bytes are sealed and opened: it answers true. No condition. -/
import Derived.Test.YtfojeegepfjbiaaProg
import Derived.Below
import Derived.Deep.Draws
import Derived.Deep.AppendLies
import Derived.Maps.AppendAt
import Derived.OwnWalk
import Derived.Laws.BytesArg
import Derived.Laws.MakeOwn
import Derived.Laws.OwnMore
import Derived.Deep.OwnRows
import Derived.Tactics
import Derived.Lib.ConvBytes
import Derived.Laws.Slices
import Derived.WalkKit
import Derived.KernelRfl
import Derived.RowKit3
import Derived.Deep.LoopGhost
import Derived.Deep.QuietTactic
import Derived.BigQuiet
import Derived.WideLaws
import Derived.Deep.DeepCutAuto
import Derived.Deep.CutBlock
import Derived.Deep.RegionHeld3
import Derived.Laws.Rows
import Derived.Lib.AppendStr
import Derived.ArgAppend
import Derived.Laws.IdiomCopy
import Derived.OrdersHeld
import Derived.Laws.BitsLemmas
import Derived.RowKit
import Derived.Deep.RegionWith
import Derived.WalkSpells
import Derived.Outline
import Derived.Test.YtfojeegepfjbiaaWWords
import Derived.Test.YtfojeegepfjbiaaWLast
import Derived.Test.YtfojeegepfjbiaaWMore
import Derived.Test.YtfojeegepfjbiaaWArr
import Derived.Test.YtfojeegepfjbiaaWTab
import Derived.Test.YtfojeegepfjbiaaWZeros
import Derived.Test.YtfojeegepfjbiaaWRepsOne
import Derived.Test.YtfojeegepfjbiaaCrF
import Derived.Test.YtfojeegepfjbiaaCrG
namespace Go.Proofs.Ytfojeegepfjbiaa.CsWalk
open Go.RowKit Go.Proofs.YtfojeegepfjbiaaW.PrintWords Go.Proofs.YtfojeegepfjbiaaW.PrintLast Go.Proofs.YtfojeegepfjbiaaW.PrintMore Go.Proofs.Ytfojeegepfjbiaa.Nm Go.Proofs.Ytfojeegepfjbiaa.NmA Go.Proofs.Ytfojeegepfjbiaa.NmB Go.Proofs.Ytfojeegepfjbiaa.NmC Go.Proofs.Ytfojeegepfjbiaa.NmH Go.Proofs.Ytfojeegepfjbiaa.CrP Go.Proofs.Ytfojeegepfjbiaa.CrA Go.Proofs.Ytfojeegepfjbiaa.CrB Go.Proofs.Ytfojeegepfjbiaa.CrC Go.Proofs.Ytfojeegepfjbiaa.CrD Go.Proofs.Ytfojeegepfjbiaa.CrE Go.Proofs.Ytfojeegepfjbiaa.CrF Go.Proofs.Ytfojeegepfjbiaa.CrG Go.Proofs.Ytfojeegepfjbiaa.Mix
set_option linter.unusedSimpArgs false
set_option linter.unusedVariables false
attribute [local go_sem] max2_int min2_int max_two min_two

set_option maxRecDepth 100000 in
set_option maxHeartbeats 1000000 in
theorem walk (A : Option Addr) (c : Nat) (l : List Int) (w : World) (hr : (Kd.int .u8).C w A l.length l) (hc : l.length ≤ c) (hm : l.length * 1 ≤ 140737488351232) (hw : ∀ x ∈ l, (Lit.int .u8 x).wf = true) :
    Calls Try.prog 4 #[.slice A l.length c] w fun e w' => e = .returned (.bool true) ∧ Below w.heap.size w w' := by
  have hby := bys_take (bys_wf hw) 300
  have hr2 := C_take 300 hr
  have hl2 : (l.take 300).length < 4294967296 := by rw [List.length_take]; omega
  have hl3 : (l.take 300).length ≤ 300 := by rw [List.length_take]; omega
  have HS := Aside0.mk (fun w => short_calls A c l 300 hc w)
  generalize l.take 300 = t at *
  have hsl := sealL_len t
  have hbs := bys_sealL hby
  have ho1 := fun A' c' w h hc => open_calls A' c' (sealL t) hbs w h hc (by omega)
  have ho2 := fun A' c' w h hc => open_calls A' c' (sealL t ++ [0]) (bys_append hbs (bys_of rfl)) w h hc (by rw [List.length_append, hsl]; simp; omega)
  rw [open_seal hby hl2] at ho1
  rw [open_seal_more hby hl2] at ho2
  have HO1 := Aside0.mk ho1
  have HO2 := Aside0.mk ho2
  have HR := Aside0.mk hr2
  have HSE := Aside0.mk (fun w h => seal_calls A c t hby w h hl2)
  have HRS := Aside0.mk (fun w h => rseal_calls A c t hby w h hl2)
  have HSL : Aside0 ((sealL t).length ≤ 400) := ⟨by omega⟩
  clear ho1 ho2 hsl hbs hby hl2 hl3 hr hr2 hc hm hw
  generalize sealL t = sx at *
  obtain ⟨s0, hs0⟩ : ∃ s0, sx ++ [0] = s0 := ⟨_, rfl⟩
  rw [hs0] at HO2
  have HS0 := Aside0.mk hs0
  clear hs0
  go_enter Try.func4, Try.ntmps4
  go_wp2_with fail
  refine (begun_calls w).mono ?_
  rintro e_ w1 ⟨rfl, hb⟩
  have HB1 := Aside0.mk hb
  clear hb
  go_wp2_with fail
  refine (HS.out w1).mono ?_
  rintro e_ w2 ⟨rfl, rfl⟩
  go_wp2_with fail
  refine (HSE.out w1 (Kd.C_below HR.out HB1.out)).mono ?_
  rintro e_ w2 ⟨v1, rfl, ho, hb⟩
  obtain ⟨A2, c2, rfl⟩ := Kd.R_slice ho
  have HV2 := Aside0.mk (Kd.R_reads' ho)
  have HB2 := Aside0.mk (below_step HB1.out hb)
  clear ho hb HB1
  go_wp2_with fail
  refine (HO1.out A2 c2 w2 HV2.out.2.2 HV2.out.2.1).mono ?_
  rintro e_ w3 ⟨v3, rfl, ho, hb⟩
  obtain ⟨A3, c3, rfl⟩ := Kd.R_slice ho
  have HV3 := Aside0.mk (Kd.R_reads' ho).2.2
  have HB3 := Aside0.mk (below_step HB2.out hb)
  have HS3 := Aside0.mk (Kd.C_below HV2.out.2.2 hb)
  have HBW := Aside0.mk (Below.refl w3.heap.size w3)
  have HN0 := Aside0.mk (Kd.R_nil (Kd.int .u8) 5 w3 w3.heap.size (fun _ => True))
  clear ho hb HB2 HV2
  go_wp2_with (first | ((with_reducible refine gate_builtin (b := .append) (xs := #[.const (.slice none 0 0), .tmp 22]) rfl ?_); at_builtin; go_must (refine Kd.R_append_row (Value.int .u8) (0) (h1 := fun _ => rfl) (w0 := w3) (w3.heap.size) rfl (.const (.slice none 0 0)) (.tmp 22) 22 5 (.int .u8 0) 1 rfl Try.underlying22 info5 rfl (by decide) (.slice none 0 0) ([] : List Int) sx A2 (sx.length) c2 (fun _ => True) rfl rfl (fun _ _ => trivial) (HN0.out) (HS3.out) (HBW.out) (Below.size (HBW.out)) ?aL_ ?_; (case aL_ => have := HSL.out; simp only [List.length_nil]; omega); intro v4 w4 ho hb hg hat; have HO4 := Aside0.mk ho; have HB4 := Aside0.mk hb; clear ho hb hg hat)) | ((with_reducible refine gate_builtin (b := .append) (xs := #[.tmp 23, .tmp 24]) rfl ?_); at_builtin; go_must (refine Kd.R_append (Kd.int .u8) (w0 := w3) (w3.heap.size) rfl (.tmp 23) (.tmp 24) 22 5 (.int .u8 0) 1 rfl Try.underlying22 info5 rfl (by decide) (by omega) v4 ([] ++ sx) (0 : Int) [.int .u8 (0 : Int)] (fun _ => True) (fun _ => False) rfl rfl rfl (fun _ hk => hk.elim) (fun _ _ => trivial) HO4.out HB4.out HB4.out.size (by have := HSL.out; simp only [List.nil_append]; omega) ?_; intro v5 w5 ho hb hg hat; have HO5 := Aside0.mk ho; have HB5 := Aside0.mk hb; clear ho hb hg hat)))
  have ho := HO5.out
  rw [List.nil_append, HS0.out] at ho
  obtain ⟨A5, c5, e5⟩ := Kd.R_slice ho
  subst e5
  have HV5 := Aside0.mk (Kd.R_reads' ho)
  have HD := Aside0.mk HB5.out
  clear ho HO5 HO4 HB4 HN0 HBW
  refine (HO2.out A5 c5 w5 HV5.out.2.2 HV5.out.2.1).mono ?_
  rintro e_ w6 ⟨v6, rfl, ho, hb⟩
  have HB6 := Aside0.mk (below_step HB3.out (below_step HD.out hb))
  have HT6 := Aside0.mk (Kd.C_below HS3.out (below_step HD.out hb))
  have HX6 := Aside0.mk (Kd.C_below HV3.out (below_step HD.out hb))
  clear ho hb HB5 HD HV5 HS3 HV3 HB3
  go_wp2_with fail
  refine wp_region_mix (fun w_ w1_ => Below w_.heap.size w_ w1_) [(false, 0), (false, 1), (false, 2), (true, 3), (false, 4), (false, 5), (false, 6), (false, 7), (false, 8), (false, 9), (false, 10), (false, 11), (false, 12), (false, 13), (false, 14), (false, 15), (false, 16), (false, 17), (false, 18), (false, 19), (false, 20)] (by kernel_rfl) (by kernel_rfl) (fun _ => Below.refl _ _) (fun h h' => below_step h h') (fun wd hhp_ hbw_ => ?_)
  have HZ0 := Aside0.mk (below_step HB6.out hbw_)
  have cv0 := fun (wx : World) (h : Below wd.heap.size wd wx) => Kd.C_string (P := Try.prog) (A := A2) (c := c2) Try.underlying22 Try.underlying5 Try.underlying9 (Kd.C_below HT6.out (below_step hbw_ h))
  have cx0 := fun (wx : World) (h : Below wd.heap.size wd wx) => Kd.C_string (P := Try.prog) (A := A3) (c := c3) Try.underlying22 Try.underlying5 Try.underlying9 (Kd.C_below HX6.out (below_step hbw_ h))
  have ct0 := fun (wx : World) (h : Below wd.heap.size wd wx) => Kd.C_string (P := Try.prog) (A := A) (c := c) Try.underlying22 Try.underlying5 Try.underlying9 (Kd.C_below HR.out (below_step HZ0.out h))
  clear hhp_ hbw_
  (refine mix_read (o := { dst := some 29, op := Op.move (Operand.tmp 4), type := 22, pos := "law.go:45", after := #[], guard := none }) rfl (by first | rfl | (simp [Region.wanted, yielded]; done)) (by intro w_ hE_; (try dsimp only at hE_); first | (go_simp; done) | (go_simp; rfl)) ?_)
  (try simp only [Act.put, List.setIfInBounds_toArray, List.set_cons_zero, List.set_cons_succ])
  (refine mix_read (o := { dst := some 30, op := Op.convert 22 9 (Operand.tmp 29), type := 9, pos := "law.go:45", after := #[{ on := 0, ground := Ground.data }], guard := none }) rfl (by first | rfl | (simp [Region.wanted, yielded]; done)) (by intro w_ hE_; (try dsimp only at hE_); first | (go_simp; done) | (go_simp; rfl)) ?_)
  (try simp only [Act.put, List.setIfInBounds_toArray, List.set_cons_zero, List.set_cons_succ])
  (refine mix_read (o := { dst := some 31, op := Op.move (Operand.tmp 0), type := 22, pos := "law.go:45", after := #[], guard := none }) rfl (by first | rfl | (simp [Region.wanted, yielded]; done)) (by intro w_ hE_; (try dsimp only at hE_); first | (go_simp; done) | (go_simp; rfl)) ?_)
  (try simp only [Act.put, List.setIfInBounds_toArray, List.set_cons_zero, List.set_cons_succ])
  refine mix_call (o := { dst := some 32, op := Op.call { callee := Callee.value (Operand.func 25), args := #[Operand.tmp 31], argTypes := #[22] }, type := 22, pos := "law.go:45", after := #[{ on := 2, ground := Ground.data }], guard := none }) rfl (by first | rfl | (simp [Region.wanted, yielded]; done)) (by first | (go_simp; done) | (go_simp; exact ⟨rfl, rfl⟩) | (go_simp; rfl)) ?_
  refine (HRS.out _ (Kd.C_below HR.out HZ0.out)).mono ?_
  rintro e_ x1 ⟨y1, rfl, ho, hb⟩
  obtain ⟨B1, d1, rfl⟩ := Kd.R_slice ho
  have HR1 := Aside0.mk (Kd.R_reads' ho)
  have HZ1 := Aside0.mk (below_step HZ0.out hb)
  have cv1 := fun (wx : World) (h : Below x1.heap.size x1 wx) => Kd.C_string (P := Try.prog) (A := B1) (c := d1) Try.underlying22 Try.underlying5 Try.underlying9 (Kd.C_below HR1.out.2.2 h)
  have cx1 := fun (wx : World) (h : Below x1.heap.size x1 wx) => cx0 wx (below_step hb h)
  have ct1 := fun (wx : World) (h : Below x1.heap.size x1 wx) => ct0 wx (below_step hb h)
  refine ⟨_, rfl, hb, ?_⟩
  clear ho hb cx0 ct0 cv0
  (try simp only [Act.put, List.setIfInBounds_toArray, List.set_cons_zero, List.set_cons_succ])
  (refine mix_read (o := { dst := some 33, op := Op.convert 22 9 (Operand.tmp 32), type := 9, pos := "law.go:45", after := #[{ on := 3, ground := Ground.data }], guard := none }) rfl (by first | rfl | (simp [Region.wanted, yielded]; done)) (by intro w_ hE_; (try dsimp only at hE_); first | (go_simp; done) | (go_simp; rfl)) ?_)
  (try simp only [Act.put, List.setIfInBounds_toArray, List.set_cons_zero, List.set_cons_succ])
  (refine mix_read (o := { dst := some 34, op := Op.binOp BinOp.eql 9 (Operand.tmp 30) (Operand.tmp 33) 9, type := 4, pos := "law.go:45", after := #[{ on := 1, ground := Ground.data }, { on := 4, ground := Ground.data }], guard := none }) rfl (by first | rfl | (simp [Region.wanted, yielded]; done)) (by intro w_ hE_; (try dsimp only at hE_); first | (go_simp; done) | (go_simp; rfl)) ?_)
  (try simp only [Act.put, List.setIfInBounds_toArray, List.set_cons_zero, List.set_cons_succ])
  (refine mix_read (o := { dst := some 35, op := Op.move (Operand.tmp 34), type := 4, pos := "law.go:45", after := #[{ on := 5, ground := Ground.data }, { on := 3, ground := Ground.chain }], guard := none }) rfl (by first | rfl | (simp [Region.wanted, yielded]; done)) (by intro w_ hE_; (try dsimp only at hE_); first | (go_simp; done) | (go_simp; rfl)) ?_)
  (try simp only [Act.put, List.setIfInBounds_toArray, List.set_cons_zero, List.set_cons_succ])
  first | (refine mix_read (o := { dst := some 36, op := Op.move (Operand.tmp 6), type := 4, pos := "law.go:45", after := #[{ on := 6, ground := Ground.guard }], guard := some (6, true) }) rfl (by first | rfl | (simp [Region.wanted, yielded]; done)) (by intro w_ hE_; (try dsimp only at hE_); first | (go_simp; done) | (go_simp; rfl)) ?_) | (refine mix_skip (o := { dst := some 36, op := Op.move (Operand.tmp 6), type := 4, pos := "law.go:45", after := #[{ on := 6, ground := Ground.guard }], guard := some (6, true) }) rfl (by first | rfl | (simp [Region.wanted, yielded]; done)) ?_)
  (try simp only [Act.put, List.setIfInBounds_toArray, List.set_cons_zero, List.set_cons_succ])
  (refine mix_read (o := { dst := some 37, op := Op.pick (Operand.tmp 35) (Operand.tmp 36) (Operand.const (Value.bool false)), type := 4, pos := "law.go:45", after := #[{ on := 6, ground := Ground.data }, { on := 7, ground := Ground.data }], guard := none }) rfl (by first | rfl | (simp [Region.wanted, yielded]; done)) (by intro w_ hE_; (try dsimp only at hE_); first | (go_simp; done) | (go_simp; rfl)) ?_)
  (try simp only [Act.put, List.setIfInBounds_toArray, List.set_cons_zero, List.set_cons_succ])
  (refine mix_read (o := { dst := some 38, op := Op.move (Operand.tmp 37), type := 4, pos := "law.go:45", after := #[{ on := 8, ground := Ground.data }, { on := 6, ground := Ground.chain }], guard := none }) rfl (by first | rfl | (simp [Region.wanted, yielded]; done)) (by intro w_ hE_; (try dsimp only at hE_); first | (go_simp; done) | (go_simp; rfl)) ?_)
  (try simp only [Act.put, List.setIfInBounds_toArray, List.set_cons_zero, List.set_cons_succ])
  first | (refine mix_read (o := { dst := some 39, op := Op.move (Operand.tmp 5), type := 22, pos := "law.go:45", after := #[{ on := 9, ground := Ground.guard }], guard := some (9, true) }) rfl (by first | rfl | (simp [Region.wanted, yielded]; done)) (by intro w_ hE_; (try dsimp only at hE_); first | (go_simp; done) | (go_simp; rfl)) ?_) | (refine mix_skip (o := { dst := some 39, op := Op.move (Operand.tmp 5), type := 22, pos := "law.go:45", after := #[{ on := 9, ground := Ground.guard }], guard := some (9, true) }) rfl (by first | rfl | (simp [Region.wanted, yielded]; done)) ?_)
  (try simp only [Act.put, List.setIfInBounds_toArray, List.set_cons_zero, List.set_cons_succ])
  first | (refine mix_read (o := { dst := some 40, op := Op.convert 22 9 (Operand.tmp 39), type := 9, pos := "law.go:45", after := #[{ on := 10, ground := Ground.data }, { on := 9, ground := Ground.guard }], guard := some (9, true) }) rfl (by first | rfl | (simp [Region.wanted, yielded]; done)) (by intro w_ hE_; (try dsimp only at hE_); first | (go_simp; done) | (go_simp; rfl)) ?_) | (refine mix_skip (o := { dst := some 40, op := Op.convert 22 9 (Operand.tmp 39), type := 9, pos := "law.go:45", after := #[{ on := 10, ground := Ground.data }, { on := 9, ground := Ground.guard }], guard := some (9, true) }) rfl (by first | rfl | (simp [Region.wanted, yielded]; done)) ?_)
  (try simp only [Act.put, List.setIfInBounds_toArray, List.set_cons_zero, List.set_cons_succ])
  first | (refine mix_read (o := { dst := some 41, op := Op.move (Operand.tmp 0), type := 22, pos := "law.go:45", after := #[{ on := 9, ground := Ground.guard }], guard := some (9, true) }) rfl (by first | rfl | (simp [Region.wanted, yielded]; done)) (by intro w_ hE_; (try dsimp only at hE_); first | (go_simp; done) | (go_simp; rfl)) ?_) | (refine mix_skip (o := { dst := some 41, op := Op.move (Operand.tmp 0), type := 22, pos := "law.go:45", after := #[{ on := 9, ground := Ground.guard }], guard := some (9, true) }) rfl (by first | rfl | (simp [Region.wanted, yielded]; done)) ?_)
  (try simp only [Act.put, List.setIfInBounds_toArray, List.set_cons_zero, List.set_cons_succ])
  first | (refine mix_read (o := { dst := some 42, op := Op.convert 22 9 (Operand.tmp 41), type := 9, pos := "law.go:45", after := #[{ on := 12, ground := Ground.data }, { on := 9, ground := Ground.guard }], guard := some (9, true) }) rfl (by first | rfl | (simp [Region.wanted, yielded]; done)) (by intro w_ hE_; (try dsimp only at hE_); first | (go_simp; done) | (go_simp; rfl)) ?_) | (refine mix_skip (o := { dst := some 42, op := Op.convert 22 9 (Operand.tmp 41), type := 9, pos := "law.go:45", after := #[{ on := 12, ground := Ground.data }, { on := 9, ground := Ground.guard }], guard := some (9, true) }) rfl (by first | rfl | (simp [Region.wanted, yielded]; done)) ?_)
  (try simp only [Act.put, List.setIfInBounds_toArray, List.set_cons_zero, List.set_cons_succ])
  first | (refine mix_read (o := { dst := some 43, op := Op.binOp BinOp.eql 9 (Operand.tmp 40) (Operand.tmp 42) 9, type := 4, pos := "law.go:45", after := #[{ on := 11, ground := Ground.data }, { on := 13, ground := Ground.data }, { on := 9, ground := Ground.guard }], guard := some (9, true) }) rfl (by first | rfl | (simp [Region.wanted, yielded]; done)) (by intro w_ hE_; (try dsimp only at hE_); first | (go_simp; done) | (go_simp; rfl)) ?_) | (refine mix_skip (o := { dst := some 43, op := Op.binOp BinOp.eql 9 (Operand.tmp 40) (Operand.tmp 42) 9, type := 4, pos := "law.go:45", after := #[{ on := 11, ground := Ground.data }, { on := 13, ground := Ground.data }, { on := 9, ground := Ground.guard }], guard := some (9, true) }) rfl (by first | rfl | (simp [Region.wanted, yielded]; done)) ?_)
  (try simp only [Act.put, List.setIfInBounds_toArray, List.set_cons_zero, List.set_cons_succ])
  (refine mix_read (o := { dst := some 44, op := Op.pick (Operand.tmp 38) (Operand.tmp 43) (Operand.const (Value.bool false)), type := 4, pos := "law.go:45", after := #[{ on := 9, ground := Ground.data }, { on := 14, ground := Ground.data }], guard := none }) rfl (by first | rfl | (simp [Region.wanted, yielded]; done)) (by intro w_ hE_; (try dsimp only at hE_); first | (go_simp; done) | (go_simp; rfl)) ?_)
  (try simp only [Act.put, List.setIfInBounds_toArray, List.set_cons_zero, List.set_cons_succ])
  (refine mix_read (o := { dst := some 45, op := Op.move (Operand.tmp 44), type := 4, pos := "law.go:45", after := #[{ on := 15, ground := Ground.data }, { on := 9, ground := Ground.chain }], guard := none }) rfl (by first | rfl | (simp [Region.wanted, yielded]; done)) (by intro w_ hE_; (try dsimp only at hE_); first | (go_simp; done) | (go_simp; rfl)) ?_)
  (try simp only [Act.put, List.setIfInBounds_toArray, List.set_cons_zero, List.set_cons_succ])
  first | (refine mix_read (o := { dst := some 46, op := Op.move (Operand.tmp 8), type := 4, pos := "law.go:45", after := #[{ on := 16, ground := Ground.guard }], guard := some (16, true) }) rfl (by first | rfl | (simp [Region.wanted, yielded]; done)) (by intro w_ hE_; (try dsimp only at hE_); first | (go_simp; done) | (go_simp; rfl)) ?_) | (refine mix_skip (o := { dst := some 46, op := Op.move (Operand.tmp 8), type := 4, pos := "law.go:45", after := #[{ on := 16, ground := Ground.guard }], guard := some (16, true) }) rfl (by first | rfl | (simp [Region.wanted, yielded]; done)) ?_)
  (try simp only [Act.put, List.setIfInBounds_toArray, List.set_cons_zero, List.set_cons_succ])
  first | (refine mix_read (o := { dst := some 47, op := Op.unOp UnOp.not 4 (Operand.tmp 46), type := 4, pos := "law.go:45", after := #[{ on := 17, ground := Ground.data }, { on := 16, ground := Ground.guard }], guard := some (16, true) }) rfl (by first | rfl | (simp [Region.wanted, yielded]; done)) (by intro w_ hE_; (try dsimp only at hE_); first | (go_simp; done) | (go_simp; rfl)) ?_) | (refine mix_skip (o := { dst := some 47, op := Op.unOp UnOp.not 4 (Operand.tmp 46), type := 4, pos := "law.go:45", after := #[{ on := 17, ground := Ground.data }, { on := 16, ground := Ground.guard }], guard := some (16, true) }) rfl (by first | rfl | (simp [Region.wanted, yielded]; done)) ?_)
  (try simp only [Act.put, List.setIfInBounds_toArray, List.set_cons_zero, List.set_cons_succ])
  (refine mix_read (o := { dst := some 48, op := Op.pick (Operand.tmp 45) (Operand.tmp 47) (Operand.const (Value.bool false)), type := 4, pos := "law.go:45", after := #[{ on := 16, ground := Ground.data }, { on := 18, ground := Ground.data }], guard := none }) rfl (by first | rfl | (simp [Region.wanted, yielded]; done)) (by intro w_ hE_; (try dsimp only at hE_); first | (go_simp; done) | (go_simp; rfl)) ?_)
  (try simp only [Act.put, List.setIfInBounds_toArray, List.set_cons_zero, List.set_cons_succ])
  (refine mix_read (o := { dst := some 2, op := Op.assign (Operand.tmp 48), type := 4, pos := "law.go:45", after := #[{ on := 19, ground := Ground.data }, { on := 16, ground := Ground.chain }, { on := 0, ground := Ground.phase }, { on := 1, ground := Ground.phase }, { on := 2, ground := Ground.phase }, { on := 3, ground := Ground.phase }, { on := 4, ground := Ground.phase }, { on := 5, ground := Ground.phase }, { on := 6, ground := Ground.phase }, { on := 7, ground := Ground.phase }, { on := 8, ground := Ground.phase }, { on := 9, ground := Ground.phase }, { on := 10, ground := Ground.phase }, { on := 11, ground := Ground.phase }, { on := 12, ground := Ground.phase }, { on := 13, ground := Ground.phase }, { on := 14, ground := Ground.phase }, { on := 15, ground := Ground.phase }, { on := 16, ground := Ground.phase }, { on := 17, ground := Ground.phase }, { on := 18, ground := Ground.phase }, { on := 19, ground := Ground.phase }], guard := none }) rfl (by first | rfl | (simp [Region.wanted, yielded]; done)) (by intro w_ hE_; (try dsimp only at hE_); first | (go_simp; done) | (go_simp; rfl)) ?_)
  (try simp only [Act.put, List.setIfInBounds_toArray, List.set_cons_zero, List.set_cons_succ])
  refine mix_nil ?_
  go_wp2_with fail
  go_ret
  exact ⟨by simp, HZ1.out⟩
end Go.Proofs.Ytfojeegepfjbiaa.CsWalk
