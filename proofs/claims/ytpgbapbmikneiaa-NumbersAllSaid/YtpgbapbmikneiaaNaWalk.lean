/- NumbersAll: any number, any text goes to bytes and back: it answers true. No condition. -/
import Derived.Test.YtpgbapbmikneiaaProg
import Derived.Below
import Derived.Deep.Draws
import Derived.Deep.AppendLies
import Derived.Maps.AppendAt
import Derived.OwnWalk
import Derived.Laws.BytesArg
import Derived.Laws.MakeOwn
import Derived.Laws.OwnMore
import Derived.Deep.OwnRows
import Derived.Tactics
import Derived.Lib.ConvBytes
import Derived.Laws.Slices
import Derived.WalkKit
import Derived.KernelRfl
import Derived.RowKit3
import Derived.Deep.LoopGhost
import Derived.Deep.QuietTactic
import Derived.BigQuiet
import Derived.WideLaws
import Derived.Deep.DeepCutAuto
import Derived.Deep.CutBlock
import Derived.Deep.RegionHeld3
import Derived.Laws.Rows
import Derived.Lib.AppendStr
import Derived.ArgAppend
import Derived.Laws.IdiomCopy
import Derived.OrdersHeld
import Derived.Laws.BitsLemmas
import Derived.RowKit
import Derived.Deep.RegionWith
import Derived.WalkSpells
import Derived.Outline
import Derived.Test.YtpgbapbmikneiaaWWords
import Derived.Test.YtpgbapbmikneiaaWLast
import Derived.Test.YtpgbapbmikneiaaWMore
import Derived.Test.YtpgbapbmikneiaaWArr
import Derived.Test.YtpgbapbmikneiaaWTab
import Derived.Test.YtpgbapbmikneiaaWZeros
import Derived.Test.YtpgbapbmikneiaaWRepsOne
import Derived.Test.YtpgbapbmikneiaaNmG
import Derived.Test.YtpgbapbmikneiaaMix
namespace Go.Proofs.Ytpgbapbmikneiaa.NaWalk
open Go.RowKit Go.Proofs.YtpgbapbmikneiaaW.PrintWords Go.Proofs.YtpgbapbmikneiaaW.PrintLast Go.Proofs.YtpgbapbmikneiaaW.PrintMore Go.Proofs.Ytpgbapbmikneiaa.Nm Go.Proofs.Ytpgbapbmikneiaa.NmA Go.Proofs.Ytpgbapbmikneiaa.NmB Go.Proofs.Ytpgbapbmikneiaa.NmC Go.Proofs.Ytpgbapbmikneiaa.NmE Go.Proofs.Ytpgbapbmikneiaa.NmD Go.Proofs.Ytpgbapbmikneiaa.NmF Go.Proofs.Ytpgbapbmikneiaa.NbWalk Go.Proofs.Ytpgbapbmikneiaa.NtWalk Go.Proofs.Ytpgbapbmikneiaa.NmG Go.Proofs.Ytpgbapbmikneiaa.Mix
set_option linter.unusedSimpArgs false
set_option linter.unusedVariables false
attribute [local go_sem] max2_int min2_int max_two min_two

theorem cutB_size (s : ByteArray) (h : s.size ≤ 140737488351232) : (cutB s 200).size ≤ 200 := by
  unfold cutB
  split
  · simp [ByteArray.size_extract]; omega
  · omega
theorem fourV_fourL {n : Int} (h0 : 0 ≤ n) (h1 : n < 4294967296) : fourV (fourL n) = n := by
  simp [fourV, fourL, rd]; omega
theorem bys_fourL (n : Int) : Bys (fourL n) := by
  intro c hc; simp [fourL] at hc; omega
set_option maxRecDepth 100000 in
set_option maxHeartbeats 4000000 in
theorem walk (a0 : Int) (s0 : ByteArray) (w : World) (w0 : (Lit.int .u64 a0).wf = true) (w1 : s0.size ≤ 140737488351232) :
    Calls Try.prog 8 #[.int .u64 a0, .string s0] w fun e w' => e = .returned (.bool true) ∧ Below w.heap.size w w' := by
  obtain ⟨n, rfl, hn⟩ : ∃ n : Nat, a0 = (n : Int) ∧ n < 18446744073709551616 := by
    simp [Lit.wf, IntKind.min, IntKind.max, IntKind.bits, IntKind.signed] at w0
    exact ⟨a0.toNat, by omega, by omega⟩
  have HN := Aside0.mk hn
  have HC := Aside0.mk (fun w => cut_calls s0 200 w1 w)
  have hs := cutB_size s0 w1
  generalize cutB s0 200 = s at *
  have HSZ := Aside0.mk hs
  have HE := Aside0.mk (enc_len 9 n (Nat.lt_of_lt_of_le hn (by decide)))
  have HE2 := Aside0.mk (enc_len 9 s.size (by omega))
  have htx := fun w => text_calls s (by have := HSZ.out; omega) w
  have hrx := fun w => rtext_calls s (by have := HSZ.out; omega) w
  have htv := textV_text (s := s) (by have := HSZ.out; omega) [7]
  have hbt := bys_append (bys_enc (n := s.size) (by have := HSZ.out; omega)) (bys_bytesOf s)
  have hlt : (enc s.size ++ bytesOf s).length ≤ 220 := by have := HE2.out; have := HSZ.out; rw [List.length_append, bytesOf_length]; omega
  generalize enc s.size ++ bytesOf s = t at *
  have HTX := Aside0.mk htx
  have HRX := Aside0.mk hrx
  have HTV := Aside0.mk htv
  have HBT := Aside0.mk hbt
  have HL := Aside0.mk hlt
  clear w0 hn hs htx hrx htv hbt hlt
  go_enter Try.func8, Try.ntmps8
  go_wp2_with fail
  refine (begun_calls w).mono ?_
  rintro e_ w1 ⟨rfl, hb⟩
  have HB1 := Aside0.mk hb
  clear hb
  go_wp2_with fail
  refine (HC.out w1).mono ?_
  rintro e_ w2 ⟨rfl, rfl⟩
  go_wp2_with fail
  refine (put_calls n HN.out w1).mono ?_
  rintro e_ w2 ⟨v1, rfl, ho, hb⟩
  obtain ⟨A1, c1, rfl⟩ := Kd.R_slice ho
  have HO1 := Aside0.mk (Kd.R_reads' ho)
  have HB2 := Aside0.mk (below_step HB1.out hb)
  clear hb HB1 ho
  go_wp2_with fail
  have hc := get_calls A1 c1 (enc n) (bys_enc HN.out) w2 HO1.out.2.2 HO1.out.2.1
  have hg := getS_enc HN.out []
  rw [List.append_nil] at hg
  rw [hg] at hc
  refine hc.mono ?_
  clear hc hg
  rintro e_ w3 ⟨rfl, hb⟩
  have HO3 := Aside0.mk (Kd.C_below HO1.out.2.2 hb)
  have HB3 := Aside0.mk (below_step HB2.out hb)
  clear hb HB2
  go_wp2_with fail
  refine (HTX.out w3).mono ?_
  rintro e_ w4 ⟨v2, rfl, ho, hb⟩
  have HT4 := Aside0.mk ho
  have HB4 := Aside0.mk hb
  clear hb ho
  go_wp2_with ((with_reducible refine gate_builtin (b := .append) (xs := #[.tmp 25, .tmp 26]) rfl ?_); at_builtin; go_must (refine Kd.R_append (Kd.int .u8) (w0 := w3) (w3.heap.size) rfl (.tmp 25) (.tmp 26) 24 5 (.int .u8 0) 1 rfl Try.underlying24 info5 rfl (by decide) (by omega) v2 t 7 [.int .u8 7] (fun _ => True) (fun _ => False) rfl rfl rfl (fun _ hk => hk.elim) (fun _ _ => trivial) HT4.out HB4.out HB4.out.size (by have := HL.out; omega) ?_; intro v3 w5 ho hb hg hat; have HT5 := Aside0.mk ho; have HB5 := Aside0.mk hb; clear ho hb hg hat))
  obtain ⟨A3, c3, e3⟩ := Kd.R_slice HT5.out
  subst e3
  have HT6 := Aside0.mk (Kd.R_reads' HT5.out)
  have hc := gettext_calls A3 c3 _ (bys_append HBT.out (bys_of rfl)) w5 HT6.out.2.2 HT6.out.2.1 (by have := HL.out; simp at this ⊢; omega)
  rw [HTV.out] at hc
  refine hc.mono ?_
  clear hc
  rintro e_ w6 ⟨rfl, hb⟩
  have HB6 := Aside0.mk (below_step HB3.out (below_step HB5.out hb))
  have HO6 := Aside0.mk (Kd.C_below HO3.out (below_step HB5.out hb))
  clear hb HB4 HB5 HT4 HT5 HT6 HB3 HO3
  go_wp2_with fail
  refine wp_region_mix (fun w_ w1_ => Below w_.heap.size w_ w1_) [(false, 0), (false, 1), (false, 2), (true, 3), (false, 4), (false, 5), (false, 6), (false, 7), (false, 8), (false, 9), (false, 10), (false, 11), (false, 12), (false, 13), (false, 14), (false, 15), (false, 16), (false, 17), (false, 18), (false, 21), (true, 19), (false, 20), (true, 22), (false, 23), (false, 24), (false, 25), (false, 26), (false, 27), (false, 28), (false, 29), (false, 30), (false, 31), (false, 32), (false, 33), (true, 34), (false, 35), (false, 36), (false, 37), (false, 38), (false, 39), (false, 40), (false, 43), (false, 44), (true, 41), (false, 42), (true, 45), (false, 46), (false, 47), (false, 48), (false, 49), (false, 50), (false, 51), (false, 54), (false, 55), (true, 52), (true, 53), (false, 56), (false, 57), (false, 58)] (by kernel_rfl) (by kernel_rfl) (fun _ => Below.refl _ _) (fun h h' => below_step h h') (fun wd hhp_ hbw_ => ?_)
  have HB6' := Aside0.mk (below_step HB6.out hbw_)
  have cv0 := fun (wx : World) (h : Below wd.heap.size wd wx) => Kd.C_string (P := Try.prog) (A := A1) (c := c1) Try.underlying24 Try.underlying5 Try.underlying9 (Kd.C_below HO6.out (below_step hbw_ h))
  clear hhp_ hbw_
  (refine mix_read (o := { dst := some 31, op := Op.move (Operand.tmp 6), type := 24, pos := "law.go:27", after := #[], guard := none }) rfl (by first | rfl | (simp [Region.wanted, yielded]; done)) (by intro w_ hE_; (try dsimp only at hE_); first | (go_simp; done) | (go_simp; rfl)) ?_)
  (try simp only [Act.put, List.setIfInBounds_toArray, List.set_cons_zero, List.set_cons_succ])
  (refine mix_read (o := { dst := some 32, op := Op.convert 24 9 (Operand.tmp 31), type := 9, pos := "law.go:27", after := #[{ on := 0, ground := Ground.data }], guard := none }) rfl (by first | rfl | (simp [Region.wanted, yielded]; done)) (by intro w_ hE_; (try dsimp only at hE_); first | (go_simp; done) | (go_simp; rfl)) ?_)
  (try simp only [Act.put, List.setIfInBounds_toArray, List.set_cons_zero, List.set_cons_succ])
  (refine mix_read (o := { dst := some 33, op := Op.move (Operand.tmp 0), type := 30, pos := "law.go:27", after := #[], guard := none }) rfl (by first | rfl | (simp [Region.wanted, yielded]; done)) (by intro w_ hE_; (try dsimp only at hE_); first | (go_simp; done) | (go_simp; rfl)) ?_)
  (try simp only [Act.put, List.setIfInBounds_toArray, List.set_cons_zero, List.set_cons_succ])
  refine mix_call (o := { dst := some 34, op := Op.call { callee := Callee.value (Operand.func 24), args := #[Operand.tmp 33], argTypes := #[30] }, type := 24, pos := "law.go:27", after := #[{ on := 2, ground := Ground.data }], guard := none }) rfl (by first | rfl | (simp [Region.wanted, yielded]; done)) (by first | (go_simp; done) | (go_simp; exact ⟨rfl, rfl⟩) | (go_simp; rfl)) ?_
  refine (rput_calls n HN.out _).mono ?_
  rintro e_ x1 ⟨y1, rfl, ho, hb⟩
  obtain ⟨B1, d1, rfl⟩ := Kd.R_slice ho
  have HR1 := Aside0.mk (Kd.R_reads' ho)
  have HZ1 := Aside0.mk (below_step HB6'.out hb)
  have cv1 := fun (wx : World) (h : Below x1.heap.size x1 wx) => Kd.C_string (P := Try.prog) (A := B1) (c := d1) Try.underlying24 Try.underlying5 Try.underlying9 (Kd.C_below HR1.out.2.2 h)
  refine ⟨_, rfl, hb, ?_⟩
  clear ho hb
  (try simp only [Act.put, List.setIfInBounds_toArray, List.set_cons_zero, List.set_cons_succ])
  (refine mix_read (o := { dst := some 35, op := Op.convert 24 9 (Operand.tmp 34), type := 9, pos := "law.go:27", after := #[{ on := 3, ground := Ground.data }], guard := none }) rfl (by first | rfl | (simp [Region.wanted, yielded]; done)) (by intro w_ hE_; (try dsimp only at hE_); first | (go_simp; done) | (go_simp; rfl)) ?_)
  (try simp only [Act.put, List.setIfInBounds_toArray, List.set_cons_zero, List.set_cons_succ])
  (refine mix_read (o := { dst := some 36, op := Op.binOp BinOp.eql 9 (Operand.tmp 32) (Operand.tmp 35) 9, type := 4, pos := "law.go:27", after := #[{ on := 1, ground := Ground.data }, { on := 4, ground := Ground.data }], guard := none }) rfl (by first | rfl | (simp [Region.wanted, yielded]; done)) (by intro w_ hE_; (try dsimp only at hE_); first | (go_simp; done) | (go_simp; rfl)) ?_)
  (try simp only [Act.put, List.setIfInBounds_toArray, List.set_cons_zero, List.set_cons_succ])
  (refine mix_read (o := { dst := some 37, op := Op.move (Operand.tmp 36), type := 4, pos := "law.go:27", after := #[{ on := 5, ground := Ground.data }, { on := 3, ground := Ground.chain }], guard := none }) rfl (by first | rfl | (simp [Region.wanted, yielded]; done)) (by intro w_ hE_; (try dsimp only at hE_); first | (go_simp; done) | (go_simp; rfl)) ?_)
  (try simp only [Act.put, List.setIfInBounds_toArray, List.set_cons_zero, List.set_cons_succ])
  first | (refine mix_read (o := { dst := some 38, op := Op.move (Operand.tmp 7), type := 30, pos := "law.go:27", after := #[{ on := 6, ground := Ground.guard }], guard := some (6, true) }) rfl (by first | rfl | (simp [Region.wanted, yielded]; done)) (by intro w_ hE_; (try dsimp only at hE_); first | (go_simp; done) | (go_simp; rfl)) ?_) | (refine mix_skip (o := { dst := some 38, op := Op.move (Operand.tmp 7), type := 30, pos := "law.go:27", after := #[{ on := 6, ground := Ground.guard }], guard := some (6, true) }) rfl (by first | rfl | (simp [Region.wanted, yielded]; done)) ?_)
  (try simp only [Act.put, List.setIfInBounds_toArray, List.set_cons_zero, List.set_cons_succ])
  first | (refine mix_read (o := { dst := some 39, op := Op.move (Operand.tmp 0), type := 30, pos := "law.go:27", after := #[{ on := 6, ground := Ground.guard }], guard := some (6, true) }) rfl (by first | rfl | (simp [Region.wanted, yielded]; done)) (by intro w_ hE_; (try dsimp only at hE_); first | (go_simp; done) | (go_simp; rfl)) ?_) | (refine mix_skip (o := { dst := some 39, op := Op.move (Operand.tmp 0), type := 30, pos := "law.go:27", after := #[{ on := 6, ground := Ground.guard }], guard := some (6, true) }) rfl (by first | rfl | (simp [Region.wanted, yielded]; done)) ?_)
  (try simp only [Act.put, List.setIfInBounds_toArray, List.set_cons_zero, List.set_cons_succ])
  first | (refine mix_read (o := { dst := some 40, op := Op.binOp BinOp.eql 30 (Operand.tmp 38) (Operand.tmp 39) 30, type := 4, pos := "law.go:27", after := #[{ on := 7, ground := Ground.data }, { on := 8, ground := Ground.data }, { on := 6, ground := Ground.guard }], guard := some (6, true) }) rfl (by first | rfl | (simp [Region.wanted, yielded]; done)) (by intro w_ hE_; (try dsimp only at hE_); first | (go_simp; done) | (go_simp; rfl)) ?_) | (refine mix_skip (o := { dst := some 40, op := Op.binOp BinOp.eql 30 (Operand.tmp 38) (Operand.tmp 39) 30, type := 4, pos := "law.go:27", after := #[{ on := 7, ground := Ground.data }, { on := 8, ground := Ground.data }, { on := 6, ground := Ground.guard }], guard := some (6, true) }) rfl (by first | rfl | (simp [Region.wanted, yielded]; done)) ?_)
  (try simp only [Act.put, List.setIfInBounds_toArray, List.set_cons_zero, List.set_cons_succ])
  (refine mix_read (o := { dst := some 41, op := Op.pick (Operand.tmp 37) (Operand.tmp 40) (Operand.const (Value.bool false)), type := 4, pos := "law.go:27", after := #[{ on := 6, ground := Ground.data }, { on := 9, ground := Ground.data }], guard := none }) rfl (by first | rfl | (simp [Region.wanted, yielded]; done)) (by intro w_ hE_; (try dsimp only at hE_); first | (go_simp; done) | (go_simp; rfl)) ?_)
  (try simp only [Act.put, List.setIfInBounds_toArray, List.set_cons_zero, List.set_cons_succ])
  (refine mix_read (o := { dst := some 42, op := Op.move (Operand.tmp 41), type := 4, pos := "law.go:27", after := #[{ on := 10, ground := Ground.data }, { on := 6, ground := Ground.chain }], guard := none }) rfl (by first | rfl | (simp [Region.wanted, yielded]; done)) (by intro w_ hE_; (try dsimp only at hE_); first | (go_simp; done) | (go_simp; rfl)) ?_)
  (try simp only [Act.put, List.setIfInBounds_toArray, List.set_cons_zero, List.set_cons_succ])
  first | (refine mix_read (o := { dst := some 43, op := Op.move (Operand.tmp 8), type := 3, pos := "law.go:27", after := #[{ on := 11, ground := Ground.guard }], guard := some (11, true) }) rfl (by first | rfl | (simp [Region.wanted, yielded]; done)) (by intro w_ hE_; (try dsimp only at hE_); first | (go_simp; done) | (go_simp; rfl)) ?_) | (refine mix_skip (o := { dst := some 43, op := Op.move (Operand.tmp 8), type := 3, pos := "law.go:27", after := #[{ on := 11, ground := Ground.guard }], guard := some (11, true) }) rfl (by first | rfl | (simp [Region.wanted, yielded]; done)) ?_)
  (try simp only [Act.put, List.setIfInBounds_toArray, List.set_cons_zero, List.set_cons_succ])
  first | (refine mix_read (o := { dst := some 44, op := Op.move (Operand.tmp 6), type := 24, pos := "law.go:27", after := #[{ on := 11, ground := Ground.guard }], guard := some (11, true) }) rfl (by first | rfl | (simp [Region.wanted, yielded]; done)) (by intro w_ hE_; (try dsimp only at hE_); first | (go_simp; done) | (go_simp; rfl)) ?_) | (refine mix_skip (o := { dst := some 44, op := Op.move (Operand.tmp 6), type := 24, pos := "law.go:27", after := #[{ on := 11, ground := Ground.guard }], guard := some (11, true) }) rfl (by first | rfl | (simp [Region.wanted, yielded]; done)) ?_)
  (try simp only [Act.put, List.setIfInBounds_toArray, List.set_cons_zero, List.set_cons_succ])
  first | (refine mix_read (o := { dst := some 45, op := Op.call { callee := Callee.builtin Builtin.len, args := #[Operand.tmp 44], argTypes := #[24] }, type := 3, pos := "law.go:27", after := #[{ on := 13, ground := Ground.data }, { on := 11, ground := Ground.guard }], guard := some (11, true) }) rfl (by first | rfl | (simp [Region.wanted, yielded]; done)) (by intro w_ hE_; (try dsimp only at hE_); first | (go_simp; done) | (go_simp; rfl)) ?_) | (refine mix_skip (o := { dst := some 45, op := Op.call { callee := Callee.builtin Builtin.len, args := #[Operand.tmp 44], argTypes := #[24] }, type := 3, pos := "law.go:27", after := #[{ on := 13, ground := Ground.data }, { on := 11, ground := Ground.guard }], guard := some (11, true) }) rfl (by first | rfl | (simp [Region.wanted, yielded]; done)) ?_)
  (try simp only [Act.put, List.setIfInBounds_toArray, List.set_cons_zero, List.set_cons_succ])
  first | (refine mix_read (o := { dst := some 46, op := Op.binOp BinOp.eql 3 (Operand.tmp 43) (Operand.tmp 45) 3, type := 4, pos := "law.go:27", after := #[{ on := 12, ground := Ground.data }, { on := 14, ground := Ground.data }, { on := 11, ground := Ground.guard }], guard := some (11, true) }) rfl (by first | rfl | (simp [Region.wanted, yielded]; done)) (by intro w_ hE_; (try dsimp only at hE_); first | (go_simp; done) | (go_simp; rfl)) ?_) | (refine mix_skip (o := { dst := some 46, op := Op.binOp BinOp.eql 3 (Operand.tmp 43) (Operand.tmp 45) 3, type := 4, pos := "law.go:27", after := #[{ on := 12, ground := Ground.data }, { on := 14, ground := Ground.data }, { on := 11, ground := Ground.guard }], guard := some (11, true) }) rfl (by first | rfl | (simp [Region.wanted, yielded]; done)) ?_)
  (try simp only [Act.put, List.setIfInBounds_toArray, List.set_cons_zero, List.set_cons_succ])
  (refine mix_read (o := { dst := some 47, op := Op.pick (Operand.tmp 42) (Operand.tmp 46) (Operand.const (Value.bool false)), type := 4, pos := "law.go:27", after := #[{ on := 11, ground := Ground.data }, { on := 15, ground := Ground.data }], guard := none }) rfl (by first | rfl | (simp [Region.wanted, yielded]; done)) (by intro w_ hE_; (try dsimp only at hE_); first | (go_simp; done) | (go_simp; rfl)) ?_)
  (try simp only [Act.put, List.setIfInBounds_toArray, List.set_cons_zero, List.set_cons_succ])
  (refine mix_read (o := { dst := some 48, op := Op.move (Operand.tmp 47), type := 4, pos := "law.go:27", after := #[{ on := 16, ground := Ground.data }, { on := 11, ground := Ground.chain }], guard := none }) rfl (by first | rfl | (simp [Region.wanted, yielded]; done)) (by intro w_ hE_; (try dsimp only at hE_); first | (go_simp; done) | (go_simp; rfl)) ?_)
  (try simp only [Act.put, List.setIfInBounds_toArray, List.set_cons_zero, List.set_cons_succ])
  first | (refine mix_read (o := { dst := some 49, op := Op.move (Operand.tmp 1), type := 9, pos := "law.go:27", after := #[{ on := 17, ground := Ground.guard }], guard := some (17, true) }) rfl (by first | rfl | (simp [Region.wanted, yielded]; done)) (by intro w_ hE_; (try dsimp only at hE_); first | (go_simp; done) | (go_simp; rfl)) ?_) | (refine mix_skip (o := { dst := some 49, op := Op.move (Operand.tmp 1), type := 9, pos := "law.go:27", after := #[{ on := 17, ground := Ground.guard }], guard := some (17, true) }) rfl (by first | rfl | (simp [Region.wanted, yielded]; done)) ?_)
  (try simp only [Act.put, List.setIfInBounds_toArray, List.set_cons_zero, List.set_cons_succ])
  first | (refine mix_read (o := { dst := some 52, op := Op.move (Operand.tmp 1), type := 9, pos := "law.go:27", after := #[{ on := 17, ground := Ground.guard }], guard := some (17, true) }) rfl (by first | rfl | (simp [Region.wanted, yielded]; done)) (by intro w_ hE_; (try dsimp only at hE_); first | (go_simp; done) | (go_simp; rfl)) ?_) | (refine mix_skip (o := { dst := some 52, op := Op.move (Operand.tmp 1), type := 9, pos := "law.go:27", after := #[{ on := 17, ground := Ground.guard }], guard := some (17, true) }) rfl (by first | rfl | (simp [Region.wanted, yielded]; done)) ?_)
  (try simp only [Act.put, List.setIfInBounds_toArray, List.set_cons_zero, List.set_cons_succ])
  refine mix_call (o := { dst := some 50, op := Op.call { callee := Callee.value (Operand.func 23), args := #[Operand.tmp 49], argTypes := #[9] }, type := 24, pos := "law.go:27", after := #[{ on := 18, ground := Ground.data }, { on := 17, ground := Ground.chain }, { on := 17, ground := Ground.guard }], guard := some (17, true) }) rfl (by first | rfl | (simp [Region.wanted, yielded]; done)) (by first | (go_simp; done) | (go_simp; exact ⟨rfl, rfl⟩) | (go_simp; rfl)) ?_
  refine (HTX.out _).mono ?_
  rintro e_ x2 ⟨y2, rfl, ho, hb⟩
  obtain ⟨B2, d2, rfl⟩ := Kd.R_slice ho
  have HR2 := Aside0.mk (Kd.R_reads' ho)
  have HZ2 := Aside0.mk (below_step HZ1.out hb)
  have cv2 := fun (wx : World) (h : Below x2.heap.size x2 wx) => Kd.C_string (P := Try.prog) (A := B2) (c := d2) Try.underlying24 Try.underlying5 Try.underlying9 (Kd.C_below HR2.out.2.2 h)
  refine ⟨_, rfl, hb, ?_⟩
  clear ho hb
  (try simp only [Act.put, List.setIfInBounds_toArray, List.set_cons_zero, List.set_cons_succ])
  first | (refine mix_read (o := { dst := some 51, op := Op.convert 24 9 (Operand.tmp 50), type := 9, pos := "law.go:27", after := #[{ on := 19, ground := Ground.data }, { on := 17, ground := Ground.guard }], guard := some (17, true) }) rfl (by first | rfl | (simp [Region.wanted, yielded]; done)) (by intro w_ hE_; (try dsimp only at hE_); first | (go_simp; done) | (go_simp; rfl)) ?_) | (refine mix_skip (o := { dst := some 51, op := Op.convert 24 9 (Operand.tmp 50), type := 9, pos := "law.go:27", after := #[{ on := 19, ground := Ground.data }, { on := 17, ground := Ground.guard }], guard := some (17, true) }) rfl (by first | rfl | (simp [Region.wanted, yielded]; done)) ?_)
  (try simp only [Act.put, List.setIfInBounds_toArray, List.set_cons_zero, List.set_cons_succ])
  refine mix_call (o := { dst := some 53, op := Op.call { callee := Callee.value (Operand.func 25), args := #[Operand.tmp 52], argTypes := #[9] }, type := 24, pos := "law.go:27", after := #[{ on := 21, ground := Ground.data }, { on := 19, ground := Ground.chain }, { on := 17, ground := Ground.guard }], guard := some (17, true) }) rfl (by first | rfl | (simp [Region.wanted, yielded]; done)) (by first | (go_simp; done) | (go_simp; exact ⟨rfl, rfl⟩) | (go_simp; rfl)) ?_
  refine (HRX.out _).mono ?_
  rintro e_ x3 ⟨y3, rfl, ho, hb⟩
  obtain ⟨B3, d3, rfl⟩ := Kd.R_slice ho
  have HR3 := Aside0.mk (Kd.R_reads' ho)
  have HZ3 := Aside0.mk (below_step HZ2.out hb)
  have cv3 := fun (wx : World) (h : Below x3.heap.size x3 wx) => Kd.C_string (P := Try.prog) (A := B3) (c := d3) Try.underlying24 Try.underlying5 Try.underlying9 (Kd.C_below HR3.out.2.2 h)
  have cw3_2 := fun (wx : World) (h : Below x3.heap.size x3 wx) => cv2 wx (below_step hb h)
  refine ⟨_, rfl, hb, ?_⟩
  clear ho hb
  (try simp only [Act.put, List.setIfInBounds_toArray, List.set_cons_zero, List.set_cons_succ])
  first | (refine mix_read (o := { dst := some 54, op := Op.convert 24 9 (Operand.tmp 53), type := 9, pos := "law.go:27", after := #[{ on := 22, ground := Ground.data }, { on := 17, ground := Ground.guard }], guard := some (17, true) }) rfl (by first | rfl | (simp [Region.wanted, yielded]; done)) (by intro w_ hE_; (try dsimp only at hE_); first | (go_simp; done) | (go_simp; rfl)) ?_) | (refine mix_skip (o := { dst := some 54, op := Op.convert 24 9 (Operand.tmp 53), type := 9, pos := "law.go:27", after := #[{ on := 22, ground := Ground.data }, { on := 17, ground := Ground.guard }], guard := some (17, true) }) rfl (by first | rfl | (simp [Region.wanted, yielded]; done)) ?_)
  (try simp only [Act.put, List.setIfInBounds_toArray, List.set_cons_zero, List.set_cons_succ])
  first | (refine mix_read (o := { dst := some 55, op := Op.binOp BinOp.eql 9 (Operand.tmp 51) (Operand.tmp 54) 9, type := 4, pos := "law.go:27", after := #[{ on := 20, ground := Ground.data }, { on := 23, ground := Ground.data }, { on := 17, ground := Ground.guard }], guard := some (17, true) }) rfl (by first | rfl | (simp [Region.wanted, yielded]; done)) (by intro w_ hE_; (try dsimp only at hE_); first | (go_simp; done) | (go_simp; rfl)) ?_) | (refine mix_skip (o := { dst := some 55, op := Op.binOp BinOp.eql 9 (Operand.tmp 51) (Operand.tmp 54) 9, type := 4, pos := "law.go:27", after := #[{ on := 20, ground := Ground.data }, { on := 23, ground := Ground.data }, { on := 17, ground := Ground.guard }], guard := some (17, true) }) rfl (by first | rfl | (simp [Region.wanted, yielded]; done)) ?_)
  (try simp only [Act.put, List.setIfInBounds_toArray, List.set_cons_zero, List.set_cons_succ])
  (refine mix_read (o := { dst := some 56, op := Op.pick (Operand.tmp 48) (Operand.tmp 55) (Operand.const (Value.bool false)), type := 4, pos := "law.go:27", after := #[{ on := 17, ground := Ground.data }, { on := 24, ground := Ground.data }], guard := none }) rfl (by first | rfl | (simp [Region.wanted, yielded]; done)) (by intro w_ hE_; (try dsimp only at hE_); first | (go_simp; done) | (go_simp; rfl)) ?_)
  (try simp only [Act.put, List.setIfInBounds_toArray, List.set_cons_zero, List.set_cons_succ])
  (refine mix_read (o := { dst := some 57, op := Op.move (Operand.tmp 56), type := 4, pos := "law.go:27", after := #[{ on := 25, ground := Ground.data }, { on := 22, ground := Ground.chain }], guard := none }) rfl (by first | rfl | (simp [Region.wanted, yielded]; done)) (by intro w_ hE_; (try dsimp only at hE_); first | (go_simp; done) | (go_simp; rfl)) ?_)
  (try simp only [Act.put, List.setIfInBounds_toArray, List.set_cons_zero, List.set_cons_succ])
  first | (refine mix_read (o := { dst := some 58, op := Op.move (Operand.tmp 9), type := 9, pos := "law.go:27", after := #[{ on := 26, ground := Ground.guard }], guard := some (26, true) }) rfl (by first | rfl | (simp [Region.wanted, yielded]; done)) (by intro w_ hE_; (try dsimp only at hE_); first | (go_simp; done) | (go_simp; rfl)) ?_) | (refine mix_skip (o := { dst := some 58, op := Op.move (Operand.tmp 9), type := 9, pos := "law.go:27", after := #[{ on := 26, ground := Ground.guard }], guard := some (26, true) }) rfl (by first | rfl | (simp [Region.wanted, yielded]; done)) ?_)
  (try simp only [Act.put, List.setIfInBounds_toArray, List.set_cons_zero, List.set_cons_succ])
  first | (refine mix_read (o := { dst := some 59, op := Op.move (Operand.tmp 1), type := 9, pos := "law.go:27", after := #[{ on := 26, ground := Ground.guard }], guard := some (26, true) }) rfl (by first | rfl | (simp [Region.wanted, yielded]; done)) (by intro w_ hE_; (try dsimp only at hE_); first | (go_simp; done) | (go_simp; rfl)) ?_) | (refine mix_skip (o := { dst := some 59, op := Op.move (Operand.tmp 1), type := 9, pos := "law.go:27", after := #[{ on := 26, ground := Ground.guard }], guard := some (26, true) }) rfl (by first | rfl | (simp [Region.wanted, yielded]; done)) ?_)
  (try simp only [Act.put, List.setIfInBounds_toArray, List.set_cons_zero, List.set_cons_succ])
  first | (refine mix_read (o := { dst := some 60, op := Op.binOp BinOp.eql 9 (Operand.tmp 58) (Operand.tmp 59) 9, type := 4, pos := "law.go:27", after := #[{ on := 27, ground := Ground.data }, { on := 28, ground := Ground.data }, { on := 26, ground := Ground.guard }], guard := some (26, true) }) rfl (by first | rfl | (simp [Region.wanted, yielded]; done)) (by intro w_ hE_; (try dsimp only at hE_); first | (go_simp; done) | (go_simp; rfl)) ?_) | (refine mix_skip (o := { dst := some 60, op := Op.binOp BinOp.eql 9 (Operand.tmp 58) (Operand.tmp 59) 9, type := 4, pos := "law.go:27", after := #[{ on := 27, ground := Ground.data }, { on := 28, ground := Ground.data }, { on := 26, ground := Ground.guard }], guard := some (26, true) }) rfl (by first | rfl | (simp [Region.wanted, yielded]; done)) ?_)
  (try simp only [Act.put, List.setIfInBounds_toArray, List.set_cons_zero, List.set_cons_succ])
  (refine mix_read (o := { dst := some 61, op := Op.pick (Operand.tmp 57) (Operand.tmp 60) (Operand.const (Value.bool false)), type := 4, pos := "law.go:27", after := #[{ on := 26, ground := Ground.data }, { on := 29, ground := Ground.data }], guard := none }) rfl (by first | rfl | (simp [Region.wanted, yielded]; done)) (by intro w_ hE_; (try dsimp only at hE_); first | (go_simp; done) | (go_simp; rfl)) ?_)
  (try simp only [Act.put, List.setIfInBounds_toArray, List.set_cons_zero, List.set_cons_succ])
  (refine mix_read (o := { dst := some 62, op := Op.move (Operand.tmp 61), type := 4, pos := "law.go:27", after := #[{ on := 30, ground := Ground.data }, { on := 26, ground := Ground.chain }], guard := none }) rfl (by first | rfl | (simp [Region.wanted, yielded]; done)) (by intro w_ hE_; (try dsimp only at hE_); first | (go_simp; done) | (go_simp; rfl)) ?_)
  (try simp only [Act.put, List.setIfInBounds_toArray, List.set_cons_zero, List.set_cons_succ])
  first | (refine mix_read (o := { dst := some 63, op := Op.move (Operand.tmp 10), type := 3, pos := "law.go:27", after := #[{ on := 31, ground := Ground.guard }], guard := some (31, true) }) rfl (by first | rfl | (simp [Region.wanted, yielded]; done)) (by intro w_ hE_; (try dsimp only at hE_); first | (go_simp; done) | (go_simp; rfl)) ?_) | (refine mix_skip (o := { dst := some 63, op := Op.move (Operand.tmp 10), type := 3, pos := "law.go:27", after := #[{ on := 31, ground := Ground.guard }], guard := some (31, true) }) rfl (by first | rfl | (simp [Region.wanted, yielded]; done)) ?_)
  (try simp only [Act.put, List.setIfInBounds_toArray, List.set_cons_zero, List.set_cons_succ])
  first | (refine mix_read (o := { dst := some 64, op := Op.move (Operand.tmp 1), type := 9, pos := "law.go:27", after := #[{ on := 31, ground := Ground.guard }], guard := some (31, true) }) rfl (by first | rfl | (simp [Region.wanted, yielded]; done)) (by intro w_ hE_; (try dsimp only at hE_); first | (go_simp; done) | (go_simp; rfl)) ?_) | (refine mix_skip (o := { dst := some 64, op := Op.move (Operand.tmp 1), type := 9, pos := "law.go:27", after := #[{ on := 31, ground := Ground.guard }], guard := some (31, true) }) rfl (by first | rfl | (simp [Region.wanted, yielded]; done)) ?_)
  (try simp only [Act.put, List.setIfInBounds_toArray, List.set_cons_zero, List.set_cons_succ])
  refine mix_call (o := { dst := some 65, op := Op.call { callee := Callee.value (Operand.func 23), args := #[Operand.tmp 64], argTypes := #[9] }, type := 24, pos := "law.go:27", after := #[{ on := 33, ground := Ground.data }, { on := 31, ground := Ground.chain }, { on := 31, ground := Ground.guard }], guard := some (31, true) }) rfl (by first | rfl | (simp [Region.wanted, yielded]; done)) (by first | (go_simp; done) | (go_simp; exact ⟨rfl, rfl⟩) | (go_simp; rfl)) ?_
  refine (HTX.out _).mono ?_
  rintro e_ x4 ⟨y4, rfl, ho, hb⟩
  obtain ⟨B4, d4, rfl⟩ := Kd.R_slice ho
  have HR4 := Aside0.mk (Kd.R_reads' ho)
  have HZ4 := Aside0.mk (below_step HZ3.out hb)
  have cv4 := fun (wx : World) (h : Below x4.heap.size x4 wx) => Kd.C_string (P := Try.prog) (A := B4) (c := d4) Try.underlying24 Try.underlying5 Try.underlying9 (Kd.C_below HR4.out.2.2 h)
  refine ⟨_, rfl, hb, ?_⟩
  clear ho hb
  (try simp only [Act.put, List.setIfInBounds_toArray, List.set_cons_zero, List.set_cons_succ])
  first | (refine mix_read (o := { dst := some 66, op := Op.call { callee := Callee.builtin Builtin.len, args := #[Operand.tmp 65], argTypes := #[24] }, type := 3, pos := "law.go:27", after := #[{ on := 34, ground := Ground.data }, { on := 31, ground := Ground.guard }], guard := some (31, true) }) rfl (by first | rfl | (simp [Region.wanted, yielded]; done)) (by intro w_ hE_; (try dsimp only at hE_); first | (go_simp; done) | (go_simp; rfl)) ?_) | (refine mix_skip (o := { dst := some 66, op := Op.call { callee := Callee.builtin Builtin.len, args := #[Operand.tmp 65], argTypes := #[24] }, type := 3, pos := "law.go:27", after := #[{ on := 34, ground := Ground.data }, { on := 31, ground := Ground.guard }], guard := some (31, true) }) rfl (by first | rfl | (simp [Region.wanted, yielded]; done)) ?_)
  (try simp only [Act.put, List.setIfInBounds_toArray, List.set_cons_zero, List.set_cons_succ])
  first | (refine mix_read (o := { dst := some 67, op := Op.binOp BinOp.eql 3 (Operand.tmp 63) (Operand.tmp 66) 3, type := 4, pos := "law.go:27", after := #[{ on := 32, ground := Ground.data }, { on := 35, ground := Ground.data }, { on := 31, ground := Ground.guard }], guard := some (31, true) }) rfl (by first | rfl | (simp [Region.wanted, yielded]; done)) (by intro w_ hE_; (try dsimp only at hE_); first | (go_simp; done) | (go_simp; rfl)) ?_) | (refine mix_skip (o := { dst := some 67, op := Op.binOp BinOp.eql 3 (Operand.tmp 63) (Operand.tmp 66) 3, type := 4, pos := "law.go:27", after := #[{ on := 32, ground := Ground.data }, { on := 35, ground := Ground.data }, { on := 31, ground := Ground.guard }], guard := some (31, true) }) rfl (by first | rfl | (simp [Region.wanted, yielded]; done)) ?_)
  (try simp only [Act.put, List.setIfInBounds_toArray, List.set_cons_zero, List.set_cons_succ])
  (refine mix_read (o := { dst := some 68, op := Op.pick (Operand.tmp 62) (Operand.tmp 67) (Operand.const (Value.bool false)), type := 4, pos := "law.go:27", after := #[{ on := 31, ground := Ground.data }, { on := 36, ground := Ground.data }], guard := none }) rfl (by first | rfl | (simp [Region.wanted, yielded]; done)) (by intro w_ hE_; (try dsimp only at hE_); first | (go_simp; done) | (go_simp; rfl)) ?_)
  (try simp only [Act.put, List.setIfInBounds_toArray, List.set_cons_zero, List.set_cons_succ])
  (refine mix_read (o := { dst := some 69, op := Op.move (Operand.tmp 68), type := 4, pos := "law.go:27", after := #[{ on := 37, ground := Ground.data }, { on := 34, ground := Ground.chain }], guard := none }) rfl (by first | rfl | (simp [Region.wanted, yielded]; done)) (by intro w_ hE_; (try dsimp only at hE_); first | (go_simp; done) | (go_simp; rfl)) ?_)
  (try simp only [Act.put, List.setIfInBounds_toArray, List.set_cons_zero, List.set_cons_succ])
  first | (refine mix_read (o := { dst := some 70, op := Op.move (Operand.tmp 0), type := 30, pos := "law.go:27", after := #[{ on := 38, ground := Ground.guard }], guard := some (38, true) }) rfl (by first | rfl | (simp [Region.wanted, yielded]; done)) (by intro w_ hE_; (try dsimp only at hE_); first | (go_simp; done) | (go_simp; rfl)) ?_) | (refine mix_skip (o := { dst := some 70, op := Op.move (Operand.tmp 0), type := 30, pos := "law.go:27", after := #[{ on := 38, ground := Ground.guard }], guard := some (38, true) }) rfl (by first | rfl | (simp [Region.wanted, yielded]; done)) ?_)
  (try simp only [Act.put, List.setIfInBounds_toArray, List.set_cons_zero, List.set_cons_succ])
  first | (refine mix_read (o := { dst := some 71, op := Op.convert 30 39 (Operand.tmp 70), type := 39, pos := "law.go:27", after := #[{ on := 39, ground := Ground.data }, { on := 38, ground := Ground.guard }], guard := some (38, true) }) rfl (by first | rfl | (simp [Region.wanted, yielded]; done)) (by intro w_ hE_; (try dsimp only at hE_); first | (go_simp; done) | (go_simp; rfl)) ?_) | (refine mix_skip (o := { dst := some 71, op := Op.convert 30 39 (Operand.tmp 70), type := 39, pos := "law.go:27", after := #[{ on := 39, ground := Ground.data }, { on := 38, ground := Ground.guard }], guard := some (38, true) }) rfl (by first | rfl | (simp [Region.wanted, yielded]; done)) ?_)
  (try simp only [Act.put, List.setIfInBounds_toArray, List.set_cons_zero, List.set_cons_succ])
  first | (refine mix_read (o := { dst := some 74, op := Op.move (Operand.tmp 0), type := 30, pos := "law.go:27", after := #[{ on := 38, ground := Ground.guard }], guard := some (38, true) }) rfl (by first | rfl | (simp [Region.wanted, yielded]; done)) (by intro w_ hE_; (try dsimp only at hE_); first | (go_simp; done) | (go_simp; rfl)) ?_) | (refine mix_skip (o := { dst := some 74, op := Op.move (Operand.tmp 0), type := 30, pos := "law.go:27", after := #[{ on := 38, ground := Ground.guard }], guard := some (38, true) }) rfl (by first | rfl | (simp [Region.wanted, yielded]; done)) ?_)
  (try simp only [Act.put, List.setIfInBounds_toArray, List.set_cons_zero, List.set_cons_succ])
  first | (refine mix_read (o := { dst := some 75, op := Op.convert 30 39 (Operand.tmp 74), type := 39, pos := "law.go:27", after := #[{ on := 43, ground := Ground.data }, { on := 38, ground := Ground.guard }], guard := some (38, true) }) rfl (by first | rfl | (simp [Region.wanted, yielded]; done)) (by intro w_ hE_; (try dsimp only at hE_); first | (go_simp; done) | (go_simp; rfl)) ?_) | (refine mix_skip (o := { dst := some 75, op := Op.convert 30 39 (Operand.tmp 74), type := 39, pos := "law.go:27", after := #[{ on := 43, ground := Ground.data }, { on := 38, ground := Ground.guard }], guard := some (38, true) }) rfl (by first | rfl | (simp [Region.wanted, yielded]; done)) ?_)
  (try simp only [Act.put, List.setIfInBounds_toArray, List.set_cons_zero, List.set_cons_succ])
  refine mix_call (o := { dst := some 72, op := Op.call { callee := Callee.value (Operand.func 26), args := #[Operand.tmp 71], argTypes := #[39] }, type := 24, pos := "law.go:27", after := #[{ on := 40, ground := Ground.data }, { on := 38, ground := Ground.chain }, { on := 38, ground := Ground.guard }], guard := some (38, true) }) rfl (by first | rfl | (simp [Region.wanted, yielded]; done)) (by first | (go_simp; done) | (go_simp; exact ⟨rfl, rfl⟩) | (go_simp; rfl)) ?_
  refine (four_calls _ _).mono ?_
  rintro e_ x5 ⟨y5, rfl, ho, hb⟩
  obtain ⟨B5, d5, rfl⟩ := Kd.R_slice ho
  have HR5 := Aside0.mk (Kd.R_reads' ho)
  have HZ5 := Aside0.mk (below_step HZ4.out hb)
  have cv5 := fun (wx : World) (h : Below x5.heap.size x5 wx) => Kd.C_string (P := Try.prog) (A := B5) (c := d5) Try.underlying24 Try.underlying5 Try.underlying9 (Kd.C_below HR5.out.2.2 h)
  refine ⟨_, rfl, hb, ?_⟩
  clear ho hb
  (try simp only [Act.put, List.setIfInBounds_toArray, List.set_cons_zero, List.set_cons_succ])
  first | (refine mix_read (o := { dst := some 73, op := Op.convert 24 9 (Operand.tmp 72), type := 9, pos := "law.go:27", after := #[{ on := 41, ground := Ground.data }, { on := 38, ground := Ground.guard }], guard := some (38, true) }) rfl (by first | rfl | (simp [Region.wanted, yielded]; done)) (by intro w_ hE_; (try dsimp only at hE_); first | (go_simp; done) | (go_simp; rfl)) ?_) | (refine mix_skip (o := { dst := some 73, op := Op.convert 24 9 (Operand.tmp 72), type := 9, pos := "law.go:27", after := #[{ on := 41, ground := Ground.data }, { on := 38, ground := Ground.guard }], guard := some (38, true) }) rfl (by first | rfl | (simp [Region.wanted, yielded]; done)) ?_)
  (try simp only [Act.put, List.setIfInBounds_toArray, List.set_cons_zero, List.set_cons_succ])
  refine mix_call (o := { dst := some 76, op := Op.call { callee := Callee.value (Operand.func 27), args := #[Operand.tmp 75], argTypes := #[39] }, type := 24, pos := "law.go:27", after := #[{ on := 44, ground := Ground.data }, { on := 41, ground := Ground.chain }, { on := 38, ground := Ground.guard }], guard := some (38, true) }) rfl (by first | rfl | (simp [Region.wanted, yielded]; done)) (by first | (go_simp; done) | (go_simp; exact ⟨rfl, rfl⟩) | (go_simp; rfl)) ?_
  refine (rfour_calls _ _).mono ?_
  rintro e_ x6 ⟨y6, rfl, ho, hb⟩
  obtain ⟨B6, d6, rfl⟩ := Kd.R_slice ho
  have HR6 := Aside0.mk (Kd.R_reads' ho)
  have HZ6 := Aside0.mk (below_step HZ5.out hb)
  have cv6 := fun (wx : World) (h : Below x6.heap.size x6 wx) => Kd.C_string (P := Try.prog) (A := B6) (c := d6) Try.underlying24 Try.underlying5 Try.underlying9 (Kd.C_below HR6.out.2.2 h)
  have cw6_5 := fun (wx : World) (h : Below x6.heap.size x6 wx) => cv5 wx (below_step hb h)
  refine ⟨_, rfl, hb, ?_⟩
  clear ho hb
  (try simp only [Act.put, List.setIfInBounds_toArray, List.set_cons_zero, List.set_cons_succ])
  first | (refine mix_read (o := { dst := some 77, op := Op.convert 24 9 (Operand.tmp 76), type := 9, pos := "law.go:27", after := #[{ on := 45, ground := Ground.data }, { on := 38, ground := Ground.guard }], guard := some (38, true) }) rfl (by first | rfl | (simp [Region.wanted, yielded]; done)) (by intro w_ hE_; (try dsimp only at hE_); first | (go_simp; done) | (go_simp; rfl)) ?_) | (refine mix_skip (o := { dst := some 77, op := Op.convert 24 9 (Operand.tmp 76), type := 9, pos := "law.go:27", after := #[{ on := 45, ground := Ground.data }, { on := 38, ground := Ground.guard }], guard := some (38, true) }) rfl (by first | rfl | (simp [Region.wanted, yielded]; done)) ?_)
  (try simp only [Act.put, List.setIfInBounds_toArray, List.set_cons_zero, List.set_cons_succ])
  first | (refine mix_read (o := { dst := some 78, op := Op.binOp BinOp.eql 9 (Operand.tmp 73) (Operand.tmp 77) 9, type := 4, pos := "law.go:27", after := #[{ on := 42, ground := Ground.data }, { on := 46, ground := Ground.data }, { on := 38, ground := Ground.guard }], guard := some (38, true) }) rfl (by first | rfl | (simp [Region.wanted, yielded]; done)) (by intro w_ hE_; (try dsimp only at hE_); first | (go_simp; done) | (go_simp; rfl)) ?_) | (refine mix_skip (o := { dst := some 78, op := Op.binOp BinOp.eql 9 (Operand.tmp 73) (Operand.tmp 77) 9, type := 4, pos := "law.go:27", after := #[{ on := 42, ground := Ground.data }, { on := 46, ground := Ground.data }, { on := 38, ground := Ground.guard }], guard := some (38, true) }) rfl (by first | rfl | (simp [Region.wanted, yielded]; done)) ?_)
  (try simp only [Act.put, List.setIfInBounds_toArray, List.set_cons_zero, List.set_cons_succ])
  (refine mix_read (o := { dst := some 79, op := Op.pick (Operand.tmp 69) (Operand.tmp 78) (Operand.const (Value.bool false)), type := 4, pos := "law.go:27", after := #[{ on := 38, ground := Ground.data }, { on := 47, ground := Ground.data }], guard := none }) rfl (by first | rfl | (simp [Region.wanted, yielded]; done)) (by intro w_ hE_; (try dsimp only at hE_); first | (go_simp; done) | (go_simp; rfl)) ?_)
  (try simp only [Act.put, List.setIfInBounds_toArray, List.set_cons_zero, List.set_cons_succ])
  (refine mix_read (o := { dst := some 80, op := Op.move (Operand.tmp 79), type := 4, pos := "law.go:27", after := #[{ on := 48, ground := Ground.data }, { on := 45, ground := Ground.chain }], guard := none }) rfl (by first | rfl | (simp [Region.wanted, yielded]; done)) (by intro w_ hE_; (try dsimp only at hE_); first | (go_simp; done) | (go_simp; rfl)) ?_)
  (try simp only [Act.put, List.setIfInBounds_toArray, List.set_cons_zero, List.set_cons_succ])
  first | (refine mix_read (o := { dst := some 81, op := Op.move (Operand.tmp 0), type := 30, pos := "law.go:27", after := #[{ on := 49, ground := Ground.guard }], guard := some (49, true) }) rfl (by first | rfl | (simp [Region.wanted, yielded]; done)) (by intro w_ hE_; (try dsimp only at hE_); first | (go_simp; done) | (go_simp; rfl)) ?_) | (refine mix_skip (o := { dst := some 81, op := Op.move (Operand.tmp 0), type := 30, pos := "law.go:27", after := #[{ on := 49, ground := Ground.guard }], guard := some (49, true) }) rfl (by first | rfl | (simp [Region.wanted, yielded]; done)) ?_)
  (try simp only [Act.put, List.setIfInBounds_toArray, List.set_cons_zero, List.set_cons_succ])
  first | (refine mix_read (o := { dst := some 82, op := Op.convert 30 39 (Operand.tmp 81), type := 39, pos := "law.go:27", after := #[{ on := 50, ground := Ground.data }, { on := 49, ground := Ground.guard }], guard := some (49, true) }) rfl (by first | rfl | (simp [Region.wanted, yielded]; done)) (by intro w_ hE_; (try dsimp only at hE_); first | (go_simp; done) | (go_simp; rfl)) ?_) | (refine mix_skip (o := { dst := some 82, op := Op.convert 30 39 (Operand.tmp 81), type := 39, pos := "law.go:27", after := #[{ on := 50, ground := Ground.data }, { on := 49, ground := Ground.guard }], guard := some (49, true) }) rfl (by first | rfl | (simp [Region.wanted, yielded]; done)) ?_)
  (try simp only [Act.put, List.setIfInBounds_toArray, List.set_cons_zero, List.set_cons_succ])
  first | (refine mix_read (o := { dst := some 85, op := Op.move (Operand.tmp 0), type := 30, pos := "law.go:27", after := #[{ on := 49, ground := Ground.guard }], guard := some (49, true) }) rfl (by first | rfl | (simp [Region.wanted, yielded]; done)) (by intro w_ hE_; (try dsimp only at hE_); first | (go_simp; done) | (go_simp; rfl)) ?_) | (refine mix_skip (o := { dst := some 85, op := Op.move (Operand.tmp 0), type := 30, pos := "law.go:27", after := #[{ on := 49, ground := Ground.guard }], guard := some (49, true) }) rfl (by first | rfl | (simp [Region.wanted, yielded]; done)) ?_)
  (try simp only [Act.put, List.setIfInBounds_toArray, List.set_cons_zero, List.set_cons_succ])
  first | (refine mix_read (o := { dst := some 86, op := Op.convert 30 39 (Operand.tmp 85), type := 39, pos := "law.go:27", after := #[{ on := 54, ground := Ground.data }, { on := 49, ground := Ground.guard }], guard := some (49, true) }) rfl (by first | rfl | (simp [Region.wanted, yielded]; done)) (by intro w_ hE_; (try dsimp only at hE_); first | (go_simp; done) | (go_simp; rfl)) ?_) | (refine mix_skip (o := { dst := some 86, op := Op.convert 30 39 (Operand.tmp 85), type := 39, pos := "law.go:27", after := #[{ on := 54, ground := Ground.data }, { on := 49, ground := Ground.guard }], guard := some (49, true) }) rfl (by first | rfl | (simp [Region.wanted, yielded]; done)) ?_)
  (try simp only [Act.put, List.setIfInBounds_toArray, List.set_cons_zero, List.set_cons_succ])
  refine mix_call (o := { dst := some 83, op := Op.call { callee := Callee.value (Operand.func 26), args := #[Operand.tmp 82], argTypes := #[39] }, type := 24, pos := "law.go:27", after := #[{ on := 51, ground := Ground.data }, { on := 49, ground := Ground.chain }, { on := 49, ground := Ground.guard }], guard := some (49, true) }) rfl (by first | rfl | (simp [Region.wanted, yielded]; done)) (by first | (go_simp; done) | (go_simp; exact ⟨rfl, rfl⟩) | (go_simp; rfl)) ?_
  refine (four_calls _ _).mono ?_
  rintro e_ x7 ⟨y7, rfl, ho, hb⟩
  obtain ⟨B7, d7, rfl⟩ := Kd.R_slice ho
  have HR7 := Aside0.mk (Kd.R_reads' ho)
  have HZ7 := Aside0.mk (below_step HZ6.out hb)
  have cv7 := fun (wx : World) (h : Below x7.heap.size x7 wx) => Kd.C_string (P := Try.prog) (A := B7) (c := d7) Try.underlying24 Try.underlying5 Try.underlying9 (Kd.C_below HR7.out.2.2 h)
  refine ⟨_, rfl, hb, ?_⟩
  clear ho hb
  (try simp only [Act.put, List.setIfInBounds_toArray, List.set_cons_zero, List.set_cons_succ])
  refine mix_call (o := { dst := some 84, op := Op.call { callee := Callee.value (Operand.func 28), args := #[Operand.tmp 83], argTypes := #[24] }, type := 39, pos := "law.go:27", after := #[{ on := 52, ground := Ground.data }, { on := 52, ground := Ground.chain }, { on := 49, ground := Ground.guard }], guard := some (49, true) }) rfl (by first | rfl | (simp [Region.wanted, yielded]; done)) (by first | (go_simp; done) | (go_simp; exact ⟨rfl, rfl⟩) | (go_simp; rfl)) ?_
  have hc := getfour_calls B7 d7 (fourL (IntKind.u32.wrap (n : Int))) (bys_fourL _) _ HR7.out.2.2
  rw [fourV_fourL (by rw [IntKind.wrap_u32]; omega) (by rw [IntKind.wrap_u32]; omega)] at hc
  refine hc.mono ?_
  clear hc
  rintro e_ x8 ⟨rfl, hb⟩
  have HZ8 := Aside0.mk (below_step HZ7.out hb.below)
  refine ⟨_, rfl, hb.below, ?_⟩
  clear hb
  (try simp only [Act.put, List.setIfInBounds_toArray, List.set_cons_zero, List.set_cons_succ])
  first | (refine mix_read (o := { dst := some 87, op := Op.binOp BinOp.eql 39 (Operand.tmp 84) (Operand.tmp 86) 39, type := 4, pos := "law.go:27", after := #[{ on := 53, ground := Ground.data }, { on := 55, ground := Ground.data }, { on := 49, ground := Ground.guard }], guard := some (49, true) }) rfl (by first | rfl | (simp [Region.wanted, yielded]; done)) (by intro w_ hE_; (try dsimp only at hE_); first | (go_simp; done) | (go_simp; rfl)) ?_) | (refine mix_skip (o := { dst := some 87, op := Op.binOp BinOp.eql 39 (Operand.tmp 84) (Operand.tmp 86) 39, type := 4, pos := "law.go:27", after := #[{ on := 53, ground := Ground.data }, { on := 55, ground := Ground.data }, { on := 49, ground := Ground.guard }], guard := some (49, true) }) rfl (by first | rfl | (simp [Region.wanted, yielded]; done)) ?_)
  (try simp only [Act.put, List.setIfInBounds_toArray, List.set_cons_zero, List.set_cons_succ])
  (refine mix_read (o := { dst := some 88, op := Op.pick (Operand.tmp 80) (Operand.tmp 87) (Operand.const (Value.bool false)), type := 4, pos := "law.go:27", after := #[{ on := 49, ground := Ground.data }, { on := 56, ground := Ground.data }], guard := none }) rfl (by first | rfl | (simp [Region.wanted, yielded]; done)) (by intro w_ hE_; (try dsimp only at hE_); first | (go_simp; done) | (go_simp; rfl)) ?_)
  (try simp only [Act.put, List.setIfInBounds_toArray, List.set_cons_zero, List.set_cons_succ])
  (refine mix_read (o := { dst := some 4, op := Op.assign (Operand.tmp 88), type := 4, pos := "law.go:27", after := #[{ on := 57, ground := Ground.data }, { on := 53, ground := Ground.chain }, { on := 0, ground := Ground.phase }, { on := 1, ground := Ground.phase }, { on := 2, ground := Ground.phase }, { on := 3, ground := Ground.phase }, { on := 4, ground := Ground.phase }, { on := 5, ground := Ground.phase }, { on := 6, ground := Ground.phase }, { on := 7, ground := Ground.phase }, { on := 8, ground := Ground.phase }, { on := 9, ground := Ground.phase }, { on := 10, ground := Ground.phase }, { on := 11, ground := Ground.phase }, { on := 12, ground := Ground.phase }, { on := 13, ground := Ground.phase }, { on := 14, ground := Ground.phase }, { on := 15, ground := Ground.phase }, { on := 16, ground := Ground.phase }, { on := 17, ground := Ground.phase }, { on := 18, ground := Ground.phase }, { on := 19, ground := Ground.phase }, { on := 20, ground := Ground.phase }, { on := 21, ground := Ground.phase }, { on := 22, ground := Ground.phase }, { on := 23, ground := Ground.phase }, { on := 24, ground := Ground.phase }, { on := 25, ground := Ground.phase }, { on := 26, ground := Ground.phase }, { on := 27, ground := Ground.phase }, { on := 28, ground := Ground.phase }, { on := 29, ground := Ground.phase }, { on := 30, ground := Ground.phase }, { on := 31, ground := Ground.phase }, { on := 32, ground := Ground.phase }, { on := 33, ground := Ground.phase }, { on := 34, ground := Ground.phase }, { on := 35, ground := Ground.phase }, { on := 36, ground := Ground.phase }, { on := 37, ground := Ground.phase }, { on := 38, ground := Ground.phase }, { on := 39, ground := Ground.phase }, { on := 40, ground := Ground.phase }, { on := 41, ground := Ground.phase }, { on := 42, ground := Ground.phase }, { on := 43, ground := Ground.phase }, { on := 44, ground := Ground.phase }, { on := 45, ground := Ground.phase }, { on := 46, ground := Ground.phase }, { on := 47, ground := Ground.phase }, { on := 48, ground := Ground.phase }, { on := 49, ground := Ground.phase }, { on := 50, ground := Ground.phase }, { on := 51, ground := Ground.phase }, { on := 52, ground := Ground.phase }, { on := 53, ground := Ground.phase }, { on := 54, ground := Ground.phase }, { on := 55, ground := Ground.phase }, { on := 56, ground := Ground.phase }, { on := 57, ground := Ground.phase }], guard := none }) rfl (by first | rfl | (simp [Region.wanted, yielded]; done)) (by intro w_ hE_; (try dsimp only at hE_); first | (go_simp; done) | (go_simp; rfl)) ?_)
  (try simp only [Act.put, List.setIfInBounds_toArray, List.set_cons_zero, List.set_cons_succ])
  refine mix_nil ?_
  go_wp2_with fail
  go_ret
  exact ⟨by simp, HZ8.out⟩
end Go.Proofs.Ytpgbapbmikneiaa.NaWalk
