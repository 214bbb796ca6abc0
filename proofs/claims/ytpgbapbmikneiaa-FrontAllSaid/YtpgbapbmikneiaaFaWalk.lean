/- FrontAll: any bytes come to places, and back: it answers true. No condition. -/
import Derived.Test.YtpgbapbmikneiaaProg
import Derived.Below
import Derived.Deep.Draws
import Derived.Deep.AppendLies
import Derived.Maps.AppendAt
import Derived.OwnWalk
import Derived.Laws.BytesArg
import Derived.Laws.MakeOwn
import Derived.Laws.OwnMore
import Derived.Deep.OwnRows
import Derived.Tactics
import Derived.Lib.ConvBytes
import Derived.Laws.Slices
import Derived.WalkKit
import Derived.KernelRfl
import Derived.RowKit3
import Derived.Deep.LoopGhost
import Derived.Deep.QuietTactic
import Derived.BigQuiet
import Derived.WideLaws
import Derived.Deep.DeepCutAuto
import Derived.Deep.CutBlock
import Derived.Deep.RegionHeld3
import Derived.Laws.Rows
import Derived.Lib.AppendStr
import Derived.ArgAppend
import Derived.Laws.IdiomCopy
import Derived.OrdersHeld
import Derived.Laws.BitsLemmas
import Derived.RowKit
import Derived.Deep.RegionWith
import Derived.WalkSpells
import Derived.Outline
import Derived.Test.YtpgbapbmikneiaaWWords
import Derived.Test.YtpgbapbmikneiaaWLast
import Derived.Test.YtpgbapbmikneiaaWMore
import Derived.Test.YtpgbapbmikneiaaWArr
import Derived.Test.YtpgbapbmikneiaaWTab
import Derived.Test.YtpgbapbmikneiaaWZeros
import Derived.Test.YtpgbapbmikneiaaWRepsOne
import Derived.Test.YtpgbapbmikneiaaMtC
import Derived.Test.YtpgbapbmikneiaaNbWalk
import Derived.Test.YtpgbapbmikneiaaMtR
namespace Go.Proofs.Ytpgbapbmikneiaa.FaWalk
open Go.RowKit Go.Proofs.YtpgbapbmikneiaaW.PrintWords Go.Proofs.YtpgbapbmikneiaaW.PrintLast Go.Proofs.YtpgbapbmikneiaaW.PrintMore Go.Proofs.Ytpgbapbmikneiaa.Nm Go.Proofs.Ytpgbapbmikneiaa.NmA Go.Proofs.Ytpgbapbmikneiaa.NmB Go.Proofs.Ytpgbapbmikneiaa.NmC Go.Proofs.Ytpgbapbmikneiaa.Mt Go.Proofs.Ytpgbapbmikneiaa.Mix Go.Proofs.Ytpgbapbmikneiaa.MtA Go.Proofs.Ytpgbapbmikneiaa.MtB Go.Proofs.Ytpgbapbmikneiaa.MtC Go.Proofs.Ytpgbapbmikneiaa.NbWalk
set_option linter.unusedSimpArgs false
set_option linter.unusedVariables false
attribute [local go_sem] max2_int min2_int max_two min_two

set_option maxRecDepth 100000 in
set_option maxHeartbeats 4000000 in
theorem walk (A : Option Addr) (c : Nat) (l : List Int) (w : World) (hr : (Kd.int .u8).C w A l.length l) (hc : l.length ≤ c) (hm : l.length * 1 ≤ 140737488351232) (hw : ∀ x ∈ l, (Lit.int .u8 x).wf = true) :
    Calls Try.prog 4 #[.slice A l.length c] w fun e w' => e = .returned (.bool true) ∧ Below w.heap.size w w' := by
  have hby := bys_take (bys_wf hw) 400
  have hr2 := C_take 400 hr
  have hl2 : (l.take 400).length ≤ 140737488351232 := by rw [List.length_take]; omega
  have HS := Aside0.mk (fun w => short_calls A c l 400 hc w)
  generalize l.take 400 = t at *
  have hpl : (encM initL t).length ≤ 140737488351232 := by rw [encM_len]; exact hl2
  have hql : (decM initL t).length ≤ 140737488351232 := by rw [decM_len]; exact hl2
  have hdp := fun A' c' w h => decode_calls A' c' (encM initL t) (bys_encM ok_initL hby) w h hpl
  have heq := fun A' c' w h => encode_calls A' c' (decM initL t) (bys_decM ok_initL hby) w h hql
  rw [decM_encM ok_initL hby] at hdp
  rw [encM_decM ok_initL hby] at heq
  have HDP := Aside0.mk hdp
  have HEQ := Aside0.mk heq
  have HR := Aside0.mk hr2
  have HE := Aside0.mk (fun w h => encode_calls A c t hby w h hl2)
  have HF := Aside0.mk (fun w h => MtR.front_calls A c t hby w h hl2)
  have HDT := Aside0.mk (fun w h => decode_calls A c t hby w h hl2)
  have HBT := Aside0.mk (fun w h => MtR.back_calls A c t hby w h hl2)
  clear hdp heq hpl hql
  generalize encM initL t = p at *
  generalize decM initL t = q at *
  clear hby hr2 hl2 hr hc hw hm
  go_enter Try.func4, Try.ntmps4
  go_wp2_with fail
  refine (begun_calls w).mono ?_
  rintro e_ w1 ⟨rfl, hb⟩
  have HB1 := Aside0.mk hb
  clear hb
  go_wp2_with fail
  refine (HS.out w1).mono ?_
  rintro e_ w2 ⟨rfl, rfl⟩
  go_wp2_with fail
  refine (HE.out w1 (Kd.C_below HR.out HB1.out)).mono ?_
  rintro e_ w2 ⟨v1, rfl, ho, hb⟩
  obtain ⟨A2, c2, rfl⟩ := Kd.R_slice ho
  have HO := Aside0.mk (Kd.R_reads' ho).2.2
  have HB2 := Aside0.mk (below_step HB1.out hb)
  clear ho hb HB1
  go_wp2_with fail
  refine wp_region_mix (fun w_ w1_ => Below w_.heap.size w_ w1_) [(false, 0), (false, 1), (false, 2), (true, 3), (false, 4), (false, 5), (false, 6), (false, 7), (false, 10), (false, 11), (true, 8), (false, 9), (false, 12), (false, 13), (false, 14), (false, 15), (false, 18), (true, 16), (false, 17), (true, 19), (false, 20), (false, 21), (false, 22), (false, 23), (false, 24), (false, 28), (false, 29), (true, 25), (true, 26), (false, 27), (false, 30), (false, 31), (false, 32)] (by kernel_rfl) (by kernel_rfl) (fun _ => Below.refl _ _) (fun h h' => below_step h h') (fun wd hhp_ hbw_ => ?_)
  have HZ0 := Aside0.mk (below_step HB2.out hbw_)
  have HP0 := Aside0.mk (Kd.C_below HO.out hbw_)
  have cv0 := fun (wx : World) (h : Below wd.heap.size wd wx) => Kd.C_string (P := Try.prog) (A := A2) (c := c2) Try.underlying24 Try.underlying5 Try.underlying9 (Kd.C_below HP0.out h)
  have tc0 := fun (wx : World) (h : Below wd.heap.size wd wx) => Kd.C_string (P := Try.prog) (A := A) (c := c) Try.underlying24 Try.underlying5 Try.underlying9 (Kd.C_below HR.out (below_step HZ0.out h))
  clear hhp_ hbw_
  (refine mix_read (o := { dst := some 12, op := Op.move (Operand.tmp 4), type := 24, pos := "law.go:24", after := #[], guard := none }) rfl (by first | rfl | (simp [Region.wanted, yielded]; done)) (by intro w_ hE_; (try dsimp only at hE_); first | (go_simp; done) | (go_simp; rfl)) ?_)
  (try simp only [Act.put, List.setIfInBounds_toArray, List.set_cons_zero, List.set_cons_succ])
  (refine mix_read (o := { dst := some 13, op := Op.convert 24 9 (Operand.tmp 12), type := 9, pos := "law.go:24", after := #[{ on := 0, ground := Ground.data }], guard := none }) rfl (by first | rfl | (simp [Region.wanted, yielded]; done)) (by intro w_ hE_; (try dsimp only at hE_); first | (go_simp; done) | (go_simp; rfl)) ?_)
  (try simp only [Act.put, List.setIfInBounds_toArray, List.set_cons_zero, List.set_cons_succ])
  (refine mix_read (o := { dst := some 14, op := Op.move (Operand.tmp 0), type := 24, pos := "law.go:24", after := #[], guard := none }) rfl (by first | rfl | (simp [Region.wanted, yielded]; done)) (by intro w_ hE_; (try dsimp only at hE_); first | (go_simp; done) | (go_simp; rfl)) ?_)
  (try simp only [Act.put, List.setIfInBounds_toArray, List.set_cons_zero, List.set_cons_succ])
  refine mix_call (o := { dst := some 15, op := Op.call { callee := Callee.value (Operand.func 15), args := #[Operand.tmp 14], argTypes := #[24] }, type := 24, pos := "law.go:24", after := #[{ on := 2, ground := Ground.data }], guard := none }) rfl (by first | rfl | (simp [Region.wanted, yielded]; done)) (by first | (go_simp; done) | (go_simp; exact ⟨rfl, rfl⟩) | (go_simp; rfl)) ?_
  refine (HF.out _ (Kd.C_below HR.out HZ0.out)).mono ?_
  rintro e_ x1 ⟨y1, rfl, ho, hb⟩
  obtain ⟨B1, d1, rfl⟩ := Kd.R_slice ho
  have HR1 := Aside0.mk (Kd.R_reads' ho)
  have HZ1 := Aside0.mk (below_step HZ0.out hb)
  have cv1 := fun (wx : World) (h : Below x1.heap.size x1 wx) => Kd.C_string (P := Try.prog) (A := B1) (c := d1) Try.underlying24 Try.underlying5 Try.underlying9 (Kd.C_below HR1.out.2.2 h)
  have tc1 := fun (wx : World) (h : Below x1.heap.size x1 wx) => tc0 wx (below_step hb h)
  have HP1 := Aside0.mk (Kd.C_below HP0.out hb)
  refine ⟨_, rfl, hb, ?_⟩
  clear ho hb tc0 cv0
  (try simp only [Act.put, List.setIfInBounds_toArray, List.set_cons_zero, List.set_cons_succ])
  (refine mix_read (o := { dst := some 16, op := Op.convert 24 9 (Operand.tmp 15), type := 9, pos := "law.go:24", after := #[{ on := 3, ground := Ground.data }], guard := none }) rfl (by first | rfl | (simp [Region.wanted, yielded]; done)) (by intro w_ hE_; (try dsimp only at hE_); first | (go_simp; done) | (go_simp; rfl)) ?_)
  (try simp only [Act.put, List.setIfInBounds_toArray, List.set_cons_zero, List.set_cons_succ])
  (refine mix_read (o := { dst := some 17, op := Op.binOp BinOp.eql 9 (Operand.tmp 13) (Operand.tmp 16) 9, type := 4, pos := "law.go:24", after := #[{ on := 1, ground := Ground.data }, { on := 4, ground := Ground.data }], guard := none }) rfl (by first | rfl | (simp [Region.wanted, yielded]; done)) (by intro w_ hE_; (try dsimp only at hE_); first | (go_simp; done) | (go_simp; rfl)) ?_)
  (try simp only [Act.put, List.setIfInBounds_toArray, List.set_cons_zero, List.set_cons_succ])
  (refine mix_read (o := { dst := some 18, op := Op.move (Operand.tmp 17), type := 4, pos := "law.go:24", after := #[{ on := 5, ground := Ground.data }, { on := 3, ground := Ground.chain }], guard := none }) rfl (by first | rfl | (simp [Region.wanted, yielded]; done)) (by intro w_ hE_; (try dsimp only at hE_); first | (go_simp; done) | (go_simp; rfl)) ?_)
  (try simp only [Act.put, List.setIfInBounds_toArray, List.set_cons_zero, List.set_cons_succ])
  first | (refine mix_read (o := { dst := some 19, op := Op.move (Operand.tmp 4), type := 24, pos := "law.go:24", after := #[{ on := 6, ground := Ground.guard }], guard := some (6, true) }) rfl (by first | rfl | (simp [Region.wanted, yielded]; done)) (by intro w_ hE_; (try dsimp only at hE_); first | (go_simp; done) | (go_simp; rfl)) ?_) | (refine mix_skip (o := { dst := some 19, op := Op.move (Operand.tmp 4), type := 24, pos := "law.go:24", after := #[{ on := 6, ground := Ground.guard }], guard := some (6, true) }) rfl (by first | rfl | (simp [Region.wanted, yielded]; done)) ?_)
  (try simp only [Act.put, List.setIfInBounds_toArray, List.set_cons_zero, List.set_cons_succ])
  first | (refine mix_read (o := { dst := some 22, op := Op.move (Operand.tmp 0), type := 24, pos := "law.go:24", after := #[{ on := 6, ground := Ground.guard }], guard := some (6, true) }) rfl (by first | rfl | (simp [Region.wanted, yielded]; done)) (by intro w_ hE_; (try dsimp only at hE_); first | (go_simp; done) | (go_simp; rfl)) ?_) | (refine mix_skip (o := { dst := some 22, op := Op.move (Operand.tmp 0), type := 24, pos := "law.go:24", after := #[{ on := 6, ground := Ground.guard }], guard := some (6, true) }) rfl (by first | rfl | (simp [Region.wanted, yielded]; done)) ?_)
  (try simp only [Act.put, List.setIfInBounds_toArray, List.set_cons_zero, List.set_cons_succ])
  first | (refine mix_read (o := { dst := some 23, op := Op.convert 24 9 (Operand.tmp 22), type := 9, pos := "law.go:24", after := #[{ on := 10, ground := Ground.data }, { on := 6, ground := Ground.guard }], guard := some (6, true) }) rfl (by first | rfl | (simp [Region.wanted, yielded]; done)) (by intro w_ hE_; (try dsimp only at hE_); first | (go_simp; done) | (go_simp; rfl)) ?_) | (refine mix_skip (o := { dst := some 23, op := Op.convert 24 9 (Operand.tmp 22), type := 9, pos := "law.go:24", after := #[{ on := 10, ground := Ground.data }, { on := 6, ground := Ground.guard }], guard := some (6, true) }) rfl (by first | rfl | (simp [Region.wanted, yielded]; done)) ?_)
  (try simp only [Act.put, List.setIfInBounds_toArray, List.set_cons_zero, List.set_cons_succ])
  refine mix_call (o := { dst := some 20, op := Op.call { callee := Callee.value (Operand.func 16), args := #[Operand.tmp 19], argTypes := #[24] }, type := 24, pos := "law.go:24", after := #[{ on := 7, ground := Ground.data }, { on := 6, ground := Ground.chain }, { on := 6, ground := Ground.guard }], guard := some (6, true) }) rfl (by first | rfl | (simp [Region.wanted, yielded]; done)) (by first | (go_simp; done) | (go_simp; exact ⟨rfl, rfl⟩) | (go_simp; rfl)) ?_
  refine (HDP.out A2 c2 _ HP1.out).mono ?_
  rintro e_ x2 ⟨y2, rfl, ho, hb⟩
  obtain ⟨B2, d2, rfl⟩ := Kd.R_slice ho
  have HR2 := Aside0.mk (Kd.R_reads' ho)
  have HZ2 := Aside0.mk (below_step HZ1.out hb)
  have cv2 := fun (wx : World) (h : Below x2.heap.size x2 wx) => Kd.C_string (P := Try.prog) (A := B2) (c := d2) Try.underlying24 Try.underlying5 Try.underlying9 (Kd.C_below HR2.out.2.2 h)
  have tc2 := fun (wx : World) (h : Below x2.heap.size x2 wx) => tc1 wx (below_step hb h)
  refine ⟨_, rfl, hb, ?_⟩
  clear ho hb tc1 cv1
  (try simp only [Act.put, List.setIfInBounds_toArray, List.set_cons_zero, List.set_cons_succ])
  first | (refine mix_read (o := { dst := some 21, op := Op.convert 24 9 (Operand.tmp 20), type := 9, pos := "law.go:24", after := #[{ on := 8, ground := Ground.data }, { on := 6, ground := Ground.guard }], guard := some (6, true) }) rfl (by first | rfl | (simp [Region.wanted, yielded]; done)) (by intro w_ hE_; (try dsimp only at hE_); first | (go_simp; done) | (go_simp; rfl)) ?_) | (refine mix_skip (o := { dst := some 21, op := Op.convert 24 9 (Operand.tmp 20), type := 9, pos := "law.go:24", after := #[{ on := 8, ground := Ground.data }, { on := 6, ground := Ground.guard }], guard := some (6, true) }) rfl (by first | rfl | (simp [Region.wanted, yielded]; done)) ?_)
  (try simp only [Act.put, List.setIfInBounds_toArray, List.set_cons_zero, List.set_cons_succ])
  first | (refine mix_read (o := { dst := some 24, op := Op.binOp BinOp.eql 9 (Operand.tmp 21) (Operand.tmp 23) 9, type := 4, pos := "law.go:24", after := #[{ on := 9, ground := Ground.data }, { on := 11, ground := Ground.data }, { on := 6, ground := Ground.guard }], guard := some (6, true) }) rfl (by first | rfl | (simp [Region.wanted, yielded]; done)) (by intro w_ hE_; (try dsimp only at hE_); first | (go_simp; done) | (go_simp; rfl)) ?_) | (refine mix_skip (o := { dst := some 24, op := Op.binOp BinOp.eql 9 (Operand.tmp 21) (Operand.tmp 23) 9, type := 4, pos := "law.go:24", after := #[{ on := 9, ground := Ground.data }, { on := 11, ground := Ground.data }, { on := 6, ground := Ground.guard }], guard := some (6, true) }) rfl (by first | rfl | (simp [Region.wanted, yielded]; done)) ?_)
  (try simp only [Act.put, List.setIfInBounds_toArray, List.set_cons_zero, List.set_cons_succ])
  (refine mix_read (o := { dst := some 25, op := Op.pick (Operand.tmp 18) (Operand.tmp 24) (Operand.const (Value.bool false)), type := 4, pos := "law.go:24", after := #[{ on := 6, ground := Ground.data }, { on := 12, ground := Ground.data }], guard := none }) rfl (by first | rfl | (simp [Region.wanted, yielded]; done)) (by intro w_ hE_; (try dsimp only at hE_); first | (go_simp; done) | (go_simp; rfl)) ?_)
  (try simp only [Act.put, List.setIfInBounds_toArray, List.set_cons_zero, List.set_cons_succ])
  (refine mix_read (o := { dst := some 26, op := Op.move (Operand.tmp 25), type := 4, pos := "law.go:24", after := #[{ on := 13, ground := Ground.data }, { on := 8, ground := Ground.chain }], guard := none }) rfl (by first | rfl | (simp [Region.wanted, yielded]; done)) (by intro w_ hE_; (try dsimp only at hE_); first | (go_simp; done) | (go_simp; rfl)) ?_)
  (try simp only [Act.put, List.setIfInBounds_toArray, List.set_cons_zero, List.set_cons_succ])
  first | (refine mix_read (o := { dst := some 27, op := Op.move (Operand.tmp 0), type := 24, pos := "law.go:24", after := #[{ on := 14, ground := Ground.guard }], guard := some (14, true) }) rfl (by first | rfl | (simp [Region.wanted, yielded]; done)) (by intro w_ hE_; (try dsimp only at hE_); first | (go_simp; done) | (go_simp; rfl)) ?_) | (refine mix_skip (o := { dst := some 27, op := Op.move (Operand.tmp 0), type := 24, pos := "law.go:24", after := #[{ on := 14, ground := Ground.guard }], guard := some (14, true) }) rfl (by first | rfl | (simp [Region.wanted, yielded]; done)) ?_)
  (try simp only [Act.put, List.setIfInBounds_toArray, List.set_cons_zero, List.set_cons_succ])
  first | (refine mix_read (o := { dst := some 30, op := Op.move (Operand.tmp 0), type := 24, pos := "law.go:24", after := #[{ on := 14, ground := Ground.guard }], guard := some (14, true) }) rfl (by first | rfl | (simp [Region.wanted, yielded]; done)) (by intro w_ hE_; (try dsimp only at hE_); first | (go_simp; done) | (go_simp; rfl)) ?_) | (refine mix_skip (o := { dst := some 30, op := Op.move (Operand.tmp 0), type := 24, pos := "law.go:24", after := #[{ on := 14, ground := Ground.guard }], guard := some (14, true) }) rfl (by first | rfl | (simp [Region.wanted, yielded]; done)) ?_)
  (try simp only [Act.put, List.setIfInBounds_toArray, List.set_cons_zero, List.set_cons_succ])
  refine mix_call (o := { dst := some 28, op := Op.call { callee := Callee.value (Operand.func 16), args := #[Operand.tmp 27], argTypes := #[24] }, type := 24, pos := "law.go:24", after := #[{ on := 15, ground := Ground.data }, { on := 14, ground := Ground.chain }, { on := 14, ground := Ground.guard }], guard := some (14, true) }) rfl (by first | rfl | (simp [Region.wanted, yielded]; done)) (by first | (go_simp; done) | (go_simp; exact ⟨rfl, rfl⟩) | (go_simp; rfl)) ?_
  refine (HDT.out _ (Kd.C_below HR.out HZ2.out)).mono ?_
  rintro e_ x3 ⟨y3, rfl, ho, hb⟩
  obtain ⟨B3, d3, rfl⟩ := Kd.R_slice ho
  have HR3 := Aside0.mk (Kd.R_reads' ho)
  have HZ3 := Aside0.mk (below_step HZ2.out hb)
  have cv3 := fun (wx : World) (h : Below x3.heap.size x3 wx) => Kd.C_string (P := Try.prog) (A := B3) (c := d3) Try.underlying24 Try.underlying5 Try.underlying9 (Kd.C_below HR3.out.2.2 h)
  have tc3 := fun (wx : World) (h : Below x3.heap.size x3 wx) => tc2 wx (below_step hb h)
  refine ⟨_, rfl, hb, ?_⟩
  clear ho hb tc2 cv2
  (try simp only [Act.put, List.setIfInBounds_toArray, List.set_cons_zero, List.set_cons_succ])
  first | (refine mix_read (o := { dst := some 29, op := Op.convert 24 9 (Operand.tmp 28), type := 9, pos := "law.go:24", after := #[{ on := 16, ground := Ground.data }, { on := 14, ground := Ground.guard }], guard := some (14, true) }) rfl (by first | rfl | (simp [Region.wanted, yielded]; done)) (by intro w_ hE_; (try dsimp only at hE_); first | (go_simp; done) | (go_simp; rfl)) ?_) | (refine mix_skip (o := { dst := some 29, op := Op.convert 24 9 (Operand.tmp 28), type := 9, pos := "law.go:24", after := #[{ on := 16, ground := Ground.data }, { on := 14, ground := Ground.guard }], guard := some (14, true) }) rfl (by first | rfl | (simp [Region.wanted, yielded]; done)) ?_)
  (try simp only [Act.put, List.setIfInBounds_toArray, List.set_cons_zero, List.set_cons_succ])
  refine mix_call (o := { dst := some 31, op := Op.call { callee := Callee.value (Operand.func 17), args := #[Operand.tmp 30], argTypes := #[24] }, type := 24, pos := "law.go:24", after := #[{ on := 18, ground := Ground.data }, { on := 16, ground := Ground.chain }, { on := 14, ground := Ground.guard }], guard := some (14, true) }) rfl (by first | rfl | (simp [Region.wanted, yielded]; done)) (by first | (go_simp; done) | (go_simp; exact ⟨rfl, rfl⟩) | (go_simp; rfl)) ?_
  refine (HBT.out _ (Kd.C_below HR.out HZ3.out)).mono ?_
  rintro e_ x4 ⟨y4, rfl, ho, hb⟩
  obtain ⟨B4, d4, rfl⟩ := Kd.R_slice ho
  have HR4 := Aside0.mk (Kd.R_reads' ho)
  have HZ4 := Aside0.mk (below_step HZ3.out hb)
  have cv4 := fun (wx : World) (h : Below x4.heap.size x4 wx) => Kd.C_string (P := Try.prog) (A := B4) (c := d4) Try.underlying24 Try.underlying5 Try.underlying9 (Kd.C_below HR4.out.2.2 h)
  have tc4 := fun (wx : World) (h : Below x4.heap.size x4 wx) => tc3 wx (below_step hb h)
  have cw3 := fun (wx : World) (h : Below x4.heap.size x4 wx) => cv3 wx (below_step hb h)
  refine ⟨_, rfl, hb, ?_⟩
  clear ho hb tc3 cv3
  (try simp only [Act.put, List.setIfInBounds_toArray, List.set_cons_zero, List.set_cons_succ])
  first | (refine mix_read (o := { dst := some 32, op := Op.convert 24 9 (Operand.tmp 31), type := 9, pos := "law.go:24", after := #[{ on := 19, ground := Ground.data }, { on := 14, ground := Ground.guard }], guard := some (14, true) }) rfl (by first | rfl | (simp [Region.wanted, yielded]; done)) (by intro w_ hE_; (try dsimp only at hE_); first | (go_simp; done) | (go_simp; rfl)) ?_) | (refine mix_skip (o := { dst := some 32, op := Op.convert 24 9 (Operand.tmp 31), type := 9, pos := "law.go:24", after := #[{ on := 19, ground := Ground.data }, { on := 14, ground := Ground.guard }], guard := some (14, true) }) rfl (by first | rfl | (simp [Region.wanted, yielded]; done)) ?_)
  (try simp only [Act.put, List.setIfInBounds_toArray, List.set_cons_zero, List.set_cons_succ])
  first | (refine mix_read (o := { dst := some 33, op := Op.binOp BinOp.eql 9 (Operand.tmp 29) (Operand.tmp 32) 9, type := 4, pos := "law.go:24", after := #[{ on := 17, ground := Ground.data }, { on := 20, ground := Ground.data }, { on := 14, ground := Ground.guard }], guard := some (14, true) }) rfl (by first | rfl | (simp [Region.wanted, yielded]; done)) (by intro w_ hE_; (try dsimp only at hE_); first | (go_simp; done) | (go_simp; rfl)) ?_) | (refine mix_skip (o := { dst := some 33, op := Op.binOp BinOp.eql 9 (Operand.tmp 29) (Operand.tmp 32) 9, type := 4, pos := "law.go:24", after := #[{ on := 17, ground := Ground.data }, { on := 20, ground := Ground.data }, { on := 14, ground := Ground.guard }], guard := some (14, true) }) rfl (by first | rfl | (simp [Region.wanted, yielded]; done)) ?_)
  (try simp only [Act.put, List.setIfInBounds_toArray, List.set_cons_zero, List.set_cons_succ])
  (refine mix_read (o := { dst := some 34, op := Op.pick (Operand.tmp 26) (Operand.tmp 33) (Operand.const (Value.bool false)), type := 4, pos := "law.go:24", after := #[{ on := 14, ground := Ground.data }, { on := 21, ground := Ground.data }], guard := none }) rfl (by first | rfl | (simp [Region.wanted, yielded]; done)) (by intro w_ hE_; (try dsimp only at hE_); first | (go_simp; done) | (go_simp; rfl)) ?_)
  (try simp only [Act.put, List.setIfInBounds_toArray, List.set_cons_zero, List.set_cons_succ])
  (refine mix_read (o := { dst := some 35, op := Op.move (Operand.tmp 34), type := 4, pos := "law.go:24", after := #[{ on := 22, ground := Ground.data }, { on := 19, ground := Ground.chain }], guard := none }) rfl (by first | rfl | (simp [Region.wanted, yielded]; done)) (by intro w_ hE_; (try dsimp only at hE_); first | (go_simp; done) | (go_simp; rfl)) ?_)
  (try simp only [Act.put, List.setIfInBounds_toArray, List.set_cons_zero, List.set_cons_succ])
  first | (refine mix_read (o := { dst := some 36, op := Op.move (Operand.tmp 0), type := 24, pos := "law.go:24", after := #[{ on := 23, ground := Ground.guard }], guard := some (23, true) }) rfl (by first | rfl | (simp [Region.wanted, yielded]; done)) (by intro w_ hE_; (try dsimp only at hE_); first | (go_simp; done) | (go_simp; rfl)) ?_) | (refine mix_skip (o := { dst := some 36, op := Op.move (Operand.tmp 0), type := 24, pos := "law.go:24", after := #[{ on := 23, ground := Ground.guard }], guard := some (23, true) }) rfl (by first | rfl | (simp [Region.wanted, yielded]; done)) ?_)
  (try simp only [Act.put, List.setIfInBounds_toArray, List.set_cons_zero, List.set_cons_succ])
  first | (refine mix_read (o := { dst := some 40, op := Op.move (Operand.tmp 0), type := 24, pos := "law.go:24", after := #[{ on := 23, ground := Ground.guard }], guard := some (23, true) }) rfl (by first | rfl | (simp [Region.wanted, yielded]; done)) (by intro w_ hE_; (try dsimp only at hE_); first | (go_simp; done) | (go_simp; rfl)) ?_) | (refine mix_skip (o := { dst := some 40, op := Op.move (Operand.tmp 0), type := 24, pos := "law.go:24", after := #[{ on := 23, ground := Ground.guard }], guard := some (23, true) }) rfl (by first | rfl | (simp [Region.wanted, yielded]; done)) ?_)
  (try simp only [Act.put, List.setIfInBounds_toArray, List.set_cons_zero, List.set_cons_succ])
  first | (refine mix_read (o := { dst := some 41, op := Op.convert 24 9 (Operand.tmp 40), type := 9, pos := "law.go:24", after := #[{ on := 28, ground := Ground.data }, { on := 23, ground := Ground.guard }], guard := some (23, true) }) rfl (by first | rfl | (simp [Region.wanted, yielded]; done)) (by intro w_ hE_; (try dsimp only at hE_); first | (go_simp; done) | (go_simp; rfl)) ?_) | (refine mix_skip (o := { dst := some 41, op := Op.convert 24 9 (Operand.tmp 40), type := 9, pos := "law.go:24", after := #[{ on := 28, ground := Ground.data }, { on := 23, ground := Ground.guard }], guard := some (23, true) }) rfl (by first | rfl | (simp [Region.wanted, yielded]; done)) ?_)
  (try simp only [Act.put, List.setIfInBounds_toArray, List.set_cons_zero, List.set_cons_succ])
  refine mix_call (o := { dst := some 37, op := Op.call { callee := Callee.value (Operand.func 16), args := #[Operand.tmp 36], argTypes := #[24] }, type := 24, pos := "law.go:24", after := #[{ on := 24, ground := Ground.data }, { on := 23, ground := Ground.chain }, { on := 23, ground := Ground.guard }], guard := some (23, true) }) rfl (by first | rfl | (simp [Region.wanted, yielded]; done)) (by first | (go_simp; done) | (go_simp; exact ⟨rfl, rfl⟩) | (go_simp; rfl)) ?_
  refine (HDT.out _ (Kd.C_below HR.out HZ4.out)).mono ?_
  rintro e_ x5 ⟨y5, rfl, ho, hb⟩
  obtain ⟨B5, d5, rfl⟩ := Kd.R_slice ho
  have HR5 := Aside0.mk (Kd.R_reads' ho)
  have HZ5 := Aside0.mk (below_step HZ4.out hb)
  have cv5 := fun (wx : World) (h : Below x5.heap.size x5 wx) => Kd.C_string (P := Try.prog) (A := B5) (c := d5) Try.underlying24 Try.underlying5 Try.underlying9 (Kd.C_below HR5.out.2.2 h)
  have tc5 := fun (wx : World) (h : Below x5.heap.size x5 wx) => tc4 wx (below_step hb h)
  refine ⟨_, rfl, hb, ?_⟩
  clear ho hb tc4 cv4
  (try simp only [Act.put, List.setIfInBounds_toArray, List.set_cons_zero, List.set_cons_succ])
  refine mix_call (o := { dst := some 38, op := Op.call { callee := Callee.value (Operand.func 14), args := #[Operand.tmp 37], argTypes := #[24] }, type := 24, pos := "law.go:24", after := #[{ on := 25, ground := Ground.data }, { on := 25, ground := Ground.chain }, { on := 23, ground := Ground.guard }], guard := some (23, true) }) rfl (by first | rfl | (simp [Region.wanted, yielded]; done)) (by first | (go_simp; done) | (go_simp; exact ⟨rfl, rfl⟩) | (go_simp; rfl)) ?_
  refine (HEQ.out B5 d5 _ HR5.out.2.2).mono ?_
  rintro e_ x6 ⟨y6, rfl, ho, hb⟩
  obtain ⟨B6, d6, rfl⟩ := Kd.R_slice ho
  have HR6 := Aside0.mk (Kd.R_reads' ho)
  have HZ6 := Aside0.mk (below_step HZ5.out hb)
  have cv6 := fun (wx : World) (h : Below x6.heap.size x6 wx) => Kd.C_string (P := Try.prog) (A := B6) (c := d6) Try.underlying24 Try.underlying5 Try.underlying9 (Kd.C_below HR6.out.2.2 h)
  have tc6 := fun (wx : World) (h : Below x6.heap.size x6 wx) => tc5 wx (below_step hb h)
  refine ⟨_, rfl, hb, ?_⟩
  clear ho hb tc5 cv5
  (try simp only [Act.put, List.setIfInBounds_toArray, List.set_cons_zero, List.set_cons_succ])
  first | (refine mix_read (o := { dst := some 39, op := Op.convert 24 9 (Operand.tmp 38), type := 9, pos := "law.go:24", after := #[{ on := 26, ground := Ground.data }, { on := 23, ground := Ground.guard }], guard := some (23, true) }) rfl (by first | rfl | (simp [Region.wanted, yielded]; done)) (by intro w_ hE_; (try dsimp only at hE_); first | (go_simp; done) | (go_simp; rfl)) ?_) | (refine mix_skip (o := { dst := some 39, op := Op.convert 24 9 (Operand.tmp 38), type := 9, pos := "law.go:24", after := #[{ on := 26, ground := Ground.data }, { on := 23, ground := Ground.guard }], guard := some (23, true) }) rfl (by first | rfl | (simp [Region.wanted, yielded]; done)) ?_)
  (try simp only [Act.put, List.setIfInBounds_toArray, List.set_cons_zero, List.set_cons_succ])
  first | (refine mix_read (o := { dst := some 42, op := Op.binOp BinOp.eql 9 (Operand.tmp 39) (Operand.tmp 41) 9, type := 4, pos := "law.go:24", after := #[{ on := 27, ground := Ground.data }, { on := 29, ground := Ground.data }, { on := 23, ground := Ground.guard }], guard := some (23, true) }) rfl (by first | rfl | (simp [Region.wanted, yielded]; done)) (by intro w_ hE_; (try dsimp only at hE_); first | (go_simp; done) | (go_simp; rfl)) ?_) | (refine mix_skip (o := { dst := some 42, op := Op.binOp BinOp.eql 9 (Operand.tmp 39) (Operand.tmp 41) 9, type := 4, pos := "law.go:24", after := #[{ on := 27, ground := Ground.data }, { on := 29, ground := Ground.data }, { on := 23, ground := Ground.guard }], guard := some (23, true) }) rfl (by first | rfl | (simp [Region.wanted, yielded]; done)) ?_)
  (try simp only [Act.put, List.setIfInBounds_toArray, List.set_cons_zero, List.set_cons_succ])
  (refine mix_read (o := { dst := some 43, op := Op.pick (Operand.tmp 35) (Operand.tmp 42) (Operand.const (Value.bool false)), type := 4, pos := "law.go:24", after := #[{ on := 23, ground := Ground.data }, { on := 30, ground := Ground.data }], guard := none }) rfl (by first | rfl | (simp [Region.wanted, yielded]; done)) (by intro w_ hE_; (try dsimp only at hE_); first | (go_simp; done) | (go_simp; rfl)) ?_)
  (try simp only [Act.put, List.setIfInBounds_toArray, List.set_cons_zero, List.set_cons_succ])
  (refine mix_read (o := { dst := some 2, op := Op.assign (Operand.tmp 43), type := 4, pos := "law.go:24", after := #[{ on := 31, ground := Ground.data }, { on := 26, ground := Ground.chain }, { on := 0, ground := Ground.phase }, { on := 1, ground := Ground.phase }, { on := 2, ground := Ground.phase }, { on := 3, ground := Ground.phase }, { on := 4, ground := Ground.phase }, { on := 5, ground := Ground.phase }, { on := 6, ground := Ground.phase }, { on := 7, ground := Ground.phase }, { on := 8, ground := Ground.phase }, { on := 9, ground := Ground.phase }, { on := 10, ground := Ground.phase }, { on := 11, ground := Ground.phase }, { on := 12, ground := Ground.phase }, { on := 13, ground := Ground.phase }, { on := 14, ground := Ground.phase }, { on := 15, ground := Ground.phase }, { on := 16, ground := Ground.phase }, { on := 17, ground := Ground.phase }, { on := 18, ground := Ground.phase }, { on := 19, ground := Ground.phase }, { on := 20, ground := Ground.phase }, { on := 21, ground := Ground.phase }, { on := 22, ground := Ground.phase }, { on := 23, ground := Ground.phase }, { on := 24, ground := Ground.phase }, { on := 25, ground := Ground.phase }, { on := 26, ground := Ground.phase }, { on := 27, ground := Ground.phase }, { on := 28, ground := Ground.phase }, { on := 29, ground := Ground.phase }, { on := 30, ground := Ground.phase }, { on := 31, ground := Ground.phase }], guard := none }) rfl (by first | rfl | (simp [Region.wanted, yielded]; done)) (by intro w_ hE_; (try dsimp only at hE_); first | (go_simp; done) | (go_simp; rfl)) ?_)
  (try simp only [Act.put, List.setIfInBounds_toArray, List.set_cons_zero, List.set_cons_succ])
  refine mix_nil ?_
  go_wp2_with fail
  go_ret
  exact ⟨by simp, HZ6.out⟩
end Go.Proofs.Ytpgbapbmikneiaa.FaWalk
