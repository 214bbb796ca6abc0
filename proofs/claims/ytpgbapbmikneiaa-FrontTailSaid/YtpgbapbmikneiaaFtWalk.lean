/- FrontTail: what stands ahead is coded alike, whatever stands behind: it answers true. No condition. -/
import Derived.Test.YtpgbapbmikneiaaProg
import Derived.Below
import Derived.Deep.Draws
import Derived.Deep.AppendLies
import Derived.Maps.AppendAt
import Derived.OwnWalk
import Derived.Laws.BytesArg
import Derived.Laws.MakeOwn
import Derived.Laws.OwnMore
import Derived.Deep.OwnRows
import Derived.Tactics
import Derived.Lib.ConvBytes
import Derived.Laws.Slices
import Derived.WalkKit
import Derived.KernelRfl
import Derived.RowKit3
import Derived.Deep.LoopGhost
import Derived.Deep.QuietTactic
import Derived.BigQuiet
import Derived.WideLaws
import Derived.Deep.DeepCutAuto
import Derived.Deep.CutBlock
import Derived.Deep.RegionHeld3
import Derived.Laws.Rows
import Derived.Lib.AppendStr
import Derived.ArgAppend
import Derived.Laws.IdiomCopy
import Derived.OrdersHeld
import Derived.Laws.BitsLemmas
import Derived.RowKit
import Derived.WalkSpells
import Derived.Outline
import Derived.Test.YtpgbapbmikneiaaWWords
import Derived.Test.YtpgbapbmikneiaaWLast
import Derived.Test.YtpgbapbmikneiaaWMore
import Derived.Test.YtpgbapbmikneiaaWArr
import Derived.Test.YtpgbapbmikneiaaWTab
import Derived.Test.YtpgbapbmikneiaaWZeros
import Derived.Test.YtpgbapbmikneiaaWRepsOne
import Derived.Test.YtpgbapbmikneiaaFrWalk
import Derived.Test.YtpgbapbmikneiaaNyWalk
namespace Go.Proofs.Ytpgbapbmikneiaa.FtWalk
open Go.RowKit Go.Proofs.YtpgbapbmikneiaaW.PrintWords Go.Proofs.YtpgbapbmikneiaaW.PrintLast Go.Proofs.YtpgbapbmikneiaaW.PrintMore Go.Proofs.Ytpgbapbmikneiaa.Nm Go.Proofs.Ytpgbapbmikneiaa.NmA Go.Proofs.Ytpgbapbmikneiaa.NmB Go.Proofs.Ytpgbapbmikneiaa.NmC Go.Proofs.Ytpgbapbmikneiaa.Mt Go.Proofs.Ytpgbapbmikneiaa.Mix Go.Proofs.Ytpgbapbmikneiaa.MtA Go.Proofs.Ytpgbapbmikneiaa.MtB Go.Proofs.Ytpgbapbmikneiaa.MtC Go.Proofs.Ytpgbapbmikneiaa.NbWalk Go.Proofs.Ytpgbapbmikneiaa.FrWalk
set_option linter.unusedSimpArgs false
set_option linter.unusedVariables false
attribute [local go_sem] max2_int min2_int max_two min_two


set_option maxRecDepth 100000 in
set_option maxHeartbeats 2000000 in
theorem walk11 (A1 : Option Addr) (c1 : Nat) (l1 : List Int) (A2 : Option Addr) (c2 : Nat) (l2 : List Int) (w : World) (hr1 : (Kd.int .u8).C w A1 l1.length l1) (hc1 : l1.length ≤ c1) (hm1 : l1.length * 1 ≤ 140737488351232) (hw1 : ∀ x ∈ l1, (Lit.int .u8 x).wf = true)
    (hr2 : (Kd.int .u8).C w A2 l2.length l2) (hc2 : l2.length ≤ c2) (hm2 : l2.length * 1 ≤ 140737488351232) (hw2 : ∀ x ∈ l2, (Lit.int .u8 x).wf = true) (h1 : 100 < l1.length) (h2 : 100 < l2.length) :
    Calls Try.prog 7 #[.slice A1 l1.length c1, .slice A2 l2.length c2] w fun e w' => e = .returned (.bool true) ∧ Below w.heap.size w w' := by
  obtain ⟨i05, hi05, _, hsz5, _⟩ := info_parts info5
  obtain ⟨t1, n1, ht1, hn1, hb1, hC1, hl1⟩ : ∃ (t1 : List Int) (n1 : Nat), n1 = 100 ∧ t1.length = n1 ∧ Bys t1 ∧ (Kd.int .u8).C w A1 n1 t1 ∧ n1 ≤ 100 := ⟨l1.take 100, _, rfl, by rw [List.length_take]; omega, bys_take (bys_wf hw1) 100, by have := C_take 100 hr1; rw [List.length_take] at this; rw [show min 100 l1.length = 100 by omega] at this; exact this, by omega⟩
  obtain ⟨t2, n2, ht2, hn2, hb2, hC2, hl2⟩ : ∃ (t2 : List Int) (n2 : Nat), n2 = 100 ∧ t2.length = n2 ∧ Bys t2 ∧ (Kd.int .u8).C w A2 n2 t2 ∧ n2 ≤ 100 := ⟨l2.take 100, _, rfl, by rw [List.length_take]; omega, bys_take (bys_wf hw2) 100, by have := C_take 100 hr2; rw [List.length_take] at this; rw [show min 100 l2.length = 100 by omega] at this; exact this, by omega⟩
  have hcut1 := cut_to (P := Try.prog) 24 5 .i64 Try.underlying24 hi05 A1 l1.length c1 100
  have hcut2 := cut_to (P := Try.prog) 24 5 .i64 Try.underlying24 hi05 A2 l2.length c2 100
  replace hcut1 := hcut1 (by omega) (by omega) hc1
  replace hcut2 := hcut2 (by omega) (by omega) hc2
  have hE := fun w h => encode_calls A1 c1 t1 hb1 w h (by omega)
  rw [hn1] at hE
  have HE := Aside0.mk hE
  have HC1 := Aside0.mk hC1
  have HC2 := Aside0.mk hC2
  have HN : Aside0 (t1.length = n1 ∧ t2.length = n2 ∧ n1 ≤ 100 ∧ n2 ≤ 100) := ⟨hn1, hn2, hl1, hl2⟩
  have HBY := Aside0.mk (bys_append hb1 hb2)
  subst ht1
  subst ht2
  have g1 : decide ((100 : Int) < (l1.length : Int)) = true := by exact decide_eq_true (by omega)
  have g2 : decide ((100 : Int) < (l2.length : Int)) = true := by exact decide_eq_true (by omega)
  clear hE hC1 hC2 hr1 hc1 hw1 hr2 hc2 hw2 hn1 hn2 hb1 hb2 hl1 hl2 hsz5
  go_enter Try.func7, Try.ntmps7
  go_wp2_with fail
  refine (begun_calls w).mono ?_
  rintro e_ w1 ⟨rfl, hb⟩
  have HB1 := Aside0.mk hb
  clear hb
  go_wp2_with fail
  refine (HE.out w1 (Kd.C_below HC1.out HB1.out)).mono ?_
  rintro e_ w2 ⟨v1, rfl, ho, hb⟩
  obtain ⟨A3, c3, rfl⟩ := Kd.R_slice ho
  have HO1 := Aside0.mk (Kd.R_reads' ho).2.2
  have HB2 := Aside0.mk (below_step HB1.out hb)
  rw [encM_len, HN.out.1] at HO1
  rw [encM_len, HN.out.1]
  clear ho hb HB1
  have HRN : Aside0 (Kd.R (Kd.int .u8) 5 w2 w2.heap.size (fun _ => True) (.slice none 0 0) ([] : List Int)) := ⟨Kd.R_nil _ _ _ _ _⟩
  have HCB1 := Aside0.mk (Kd.C_below HC1.out HB2.out)
  have HBR := Aside0.mk (Below.refl w2.heap.size w2)
  go_wp2_with (first | ((with_reducible refine gate_builtin (b := .append) (xs := #[.const (.slice none 0 0), .tmp 23]) rfl ?_); at_builtin; go_must (refine Kd.R_append_row (Value.int .u8) (0) (h1 := fun _ => rfl) (w0 := w2) (w2.heap.size) rfl (.const (.slice none 0 0)) (.tmp 23) 24 5 (.int .u8 0) 1 rfl Try.underlying24 info5 rfl (by decide) (.slice none 0 0) ([] : List Int) t1 A1 (100) c1 (fun _ => True) rfl rfl (fun _ _ => trivial) (HRN.out) (HCB1.out) (HBR.out) (Below.size (HBR.out)) ?aL_ ?_; (case aL_ => have := HN.out; simp only [List.length_nil, List.length_append]; omega); intro v2 w4 ho hb hg hat; have HO4 := Aside0.mk ho; have HB4 := Aside0.mk hb; have HCB2 := Aside0.mk (Kd.C_below HC2.out (below_step HB2.out hb)); clear ho hb hg hat)) | ((with_reducible refine gate_builtin (b := .append) (xs := #[.tmp 24, .tmp 25]) rfl ?_); at_builtin; go_must (refine Kd.R_append_row (Value.int .u8) (0) (h1 := fun _ => rfl) (w0 := w2) (w2.heap.size) rfl (.tmp 24) (.tmp 25) 24 5 (.int .u8 0) 1 rfl Try.underlying24 info5 rfl (by decide) v2 ([] ++ t1) t2 A2 (100) c2 (fun _ => True) rfl rfl (fun _ _ => trivial) (HO4.out) (HCB2.out) (HB4.out) (Below.size (HB4.out)) ?aL_ ?_; (case aL_ => have := HN.out; simp only [List.length_nil, List.length_append]; omega); intro v5 w5 ho hb hg hat; have HO5 := Aside0.mk ho; have HB5 := Aside0.mk hb; clear ho hb hg hat)))
  have hlen : (([] ++ t1) ++ t2).length = 100 + 100 := by rw [List.nil_append, List.length_append, HN.out.1, HN.out.2.1]
  obtain ⟨A4, c4, e_⟩ := Kd.R_slice HO5.out
  rw [hlen] at e_
  subst e_
  have hrr := Kd.R_reads' HO5.out
  have hc := encode_calls A4 c4 ([] ++ t1 ++ t2) HBY.out w5 hrr.2.2 (by rw [hlen]; have := HN.out; omega)
  rw [hlen] at hc
  refine hc.mono ?_
  clear hc hrr
  rintro e_ w6 ⟨v3, rfl, ho, hb⟩
  obtain ⟨A5, c5, rfl⟩ := Kd.R_slice ho
  have hrr := Kd.R_reads' ho
  have HB6 := Aside0.mk (below_step HB2.out (below_step HB5.out hb))
  have HO6 := Aside0.mk (Kd.C_below HO1.out (below_step HB5.out hb))
  obtain ⟨L', hL'⟩ := encM_append initL t1 t2
  rw [List.nil_append, hL'] at hrr
  have hq : (encM initL t1 ++ encM L' t2).length = 100 + 100 := by rw [List.length_append, encM_len, encM_len, HN.out.1, HN.out.2.1]
  rw [List.nil_append, hL', hq]
  rw [hq] at hrr
  have hcl : 100 + 100 ≤ c5 := hrr.2.1
  have hcy := C_take 100 (by rw [hq]; exact hrr.2.2 : (Kd.int .u8).C w6 A5 (encM initL t1 ++ encM L' t2).length (encM initL t1 ++ encM L' t2))
  rw [List.take_left' (by rw [encM_len, HN.out.1]), encM_len, HN.out.1] at hcy
  have hcut : ∀ W : World, (Instr.slice 24 (.slice A5 (200) c5) none (some (.int .i64 (100))) none).run Try.prog W = .ok (.slice A5 (100) c5) W := fun W => by
    have h := cut_to (P := Try.prog) 24 5 .i64 Try.underlying24 hi05 A5 (200) c5 ((100 : Nat) : Int) (by omega) (by omega) (by omega) W
    rw [Int.toNat_natCast] at h
    exact h
  have HCY := Aside0.mk hcy
  have hsum : IntKind.i64.wrap (200) = 200 := by rw [IntKind.wrap_i64]; have := HN.out; omega
  clear ho hb hL' hrr hq hcy hlen hm1 hm2 HO5 HB5
  go_wp2_with fail
  refine wp_region_mix (fun w_ w1_ => w_ = w1_) [(false, 0), (false, 1), (false, 2), (false, 3), (false, 4), (false, 5), (false, 6), (false, 7), (false, 8), (false, 9), (false, 10), (false, 11), (false, 12), (false, 13), (false, 14), (false, 15), (false, 16), (false, 17), (false, 18)] (by kernel_rfl) (by kernel_rfl) (fun _ => rfl) (fun h h' => h.trans h') (fun wd hhp_ hbw_ => ?_)
  have cv1 := Kd.C_string (P := Try.prog) (A := A5) (c := c5) Try.underlying24 Try.underlying5 Try.underlying9 (Kd.C_below HCY.out hbw_)
  have cv2 := Kd.C_string (P := Try.prog) (A := A3) (c := c3) Try.underlying24 Try.underlying5 Try.underlying9 (Kd.C_below HO6.out hbw_)
  have HBw := Aside0.mk (below_step HB6.out hbw_)
  clear hhp_ hbw_
  (refine mix_read (o := { dst := some 28, op := Op.move (Operand.tmp 7), type := 24, pos := "wide.go:49", after := #[], guard := none }) rfl (by first | rfl | (simp [Region.wanted, yielded]; done)) (by intro w_ hE_; (try dsimp only at hE_); subst hE_; first | (go_simp; done) | (go_simp; rfl)) ?_)
  (try simp only [Act.put, List.setIfInBounds_toArray, List.set_cons_zero, List.set_cons_succ])
  (refine mix_read (o := { dst := some 29, op := Op.call { callee := Callee.builtin Builtin.len, args := #[Operand.tmp 28], argTypes := #[24] }, type := 3, pos := "wide.go:49", after := #[{ on := 0, ground := Ground.data }], guard := none }) rfl (by first | rfl | (simp [Region.wanted, yielded]; done)) (by intro w_ hE_; (try dsimp only at hE_); subst hE_; first | (go_simp; done) | (go_simp; rfl)) ?_)
  (try simp only [Act.put, List.setIfInBounds_toArray, List.set_cons_zero, List.set_cons_succ])
  (refine mix_read (o := { dst := some 30, op := Op.move (Operand.tmp 0), type := 24, pos := "wide.go:49", after := #[], guard := none }) rfl (by first | rfl | (simp [Region.wanted, yielded]; done)) (by intro w_ hE_; (try dsimp only at hE_); subst hE_; first | (go_simp; done) | (go_simp; rfl)) ?_)
  (try simp only [Act.put, List.setIfInBounds_toArray, List.set_cons_zero, List.set_cons_succ])
  (refine mix_read (o := { dst := some 31, op := Op.call { callee := Callee.builtin Builtin.len, args := #[Operand.tmp 30], argTypes := #[24] }, type := 3, pos := "wide.go:49", after := #[{ on := 2, ground := Ground.data }], guard := none }) rfl (by first | rfl | (simp [Region.wanted, yielded]; done)) (by intro w_ hE_; (try dsimp only at hE_); subst hE_; first | (go_simp; done) | (go_simp; rfl)) ?_)
  (try simp only [Act.put, List.setIfInBounds_toArray, List.set_cons_zero, List.set_cons_succ])
  (refine mix_read (o := { dst := some 32, op := Op.move (Operand.tmp 1), type := 24, pos := "wide.go:49", after := #[], guard := none }) rfl (by first | rfl | (simp [Region.wanted, yielded]; done)) (by intro w_ hE_; (try dsimp only at hE_); subst hE_; first | (go_simp; done) | (go_simp; rfl)) ?_)
  (try simp only [Act.put, List.setIfInBounds_toArray, List.set_cons_zero, List.set_cons_succ])
  (refine mix_read (o := { dst := some 33, op := Op.call { callee := Callee.builtin Builtin.len, args := #[Operand.tmp 32], argTypes := #[24] }, type := 3, pos := "wide.go:49", after := #[{ on := 4, ground := Ground.data }], guard := none }) rfl (by first | rfl | (simp [Region.wanted, yielded]; done)) (by intro w_ hE_; (try dsimp only at hE_); subst hE_; first | (go_simp; done) | (go_simp; rfl)) ?_)
  (try simp only [Act.put, List.setIfInBounds_toArray, List.set_cons_zero, List.set_cons_succ])
  (refine mix_read (o := { dst := some 34, op := Op.binOp BinOp.add 3 (Operand.tmp 31) (Operand.tmp 33) 3, type := 3, pos := "wide.go:49", after := #[{ on := 3, ground := Ground.data }, { on := 5, ground := Ground.data }], guard := none }) rfl (by first | rfl | (simp [Region.wanted, yielded]; done)) (by intro w_ hE_; (try dsimp only at hE_); subst hE_; first | (go_simp; done) | (go_simp; rfl)) ?_)
  (try simp only [Act.put, List.setIfInBounds_toArray, List.set_cons_zero, List.set_cons_succ])
  (refine mix_read (o := { dst := some 35, op := Op.binOp BinOp.eql 3 (Operand.tmp 29) (Operand.tmp 34) 3, type := 4, pos := "wide.go:49", after := #[{ on := 1, ground := Ground.data }, { on := 6, ground := Ground.data }], guard := none }) rfl (by first | rfl | (simp [Region.wanted, yielded]; done)) (by intro w_ hE_; (try dsimp only at hE_); subst hE_; first | (go_simp; done) | (go_simp; rfl)) ?_)
  (try simp only [Act.put, List.setIfInBounds_toArray, List.set_cons_zero, List.set_cons_succ])
  (refine mix_read (o := { dst := some 36, op := Op.move (Operand.tmp 35), type := 4, pos := "wide.go:49", after := #[{ on := 7, ground := Ground.data }], guard := none }) rfl (by first | rfl | (simp [Region.wanted, yielded]; done)) (by intro w_ hE_; (try dsimp only at hE_); subst hE_; first | (go_simp; done) | (go_simp; rfl)) ?_)
  (try simp only [Act.put, List.setIfInBounds_toArray, List.set_cons_zero, List.set_cons_succ])
  first | (refine mix_read (o := { dst := some 37, op := Op.move (Operand.tmp 7), type := 24, pos := "wide.go:49", after := #[{ on := 8, ground := Ground.guard }], guard := some (8, true) }) rfl (by first | rfl | (simp [Region.wanted, yielded]; done)) (by intro w_ hE_; (try dsimp only at hE_); subst hE_; first | (go_simp; done) | (go_simp; rfl)) ?_) | (refine mix_skip (o := { dst := some 37, op := Op.move (Operand.tmp 7), type := 24, pos := "wide.go:49", after := #[{ on := 8, ground := Ground.guard }], guard := some (8, true) }) rfl (by first | rfl | (simp [Region.wanted, yielded]; done)) ?_)
  (try simp only [Act.put, List.setIfInBounds_toArray, List.set_cons_zero, List.set_cons_succ])
  first | (refine mix_read (o := { dst := some 38, op := Op.move (Operand.tmp 0), type := 24, pos := "wide.go:49", after := #[{ on := 8, ground := Ground.guard }], guard := some (8, true) }) rfl (by first | rfl | (simp [Region.wanted, yielded]; done)) (by intro w_ hE_; (try dsimp only at hE_); subst hE_; first | (go_simp; done) | (go_simp; rfl)) ?_) | (refine mix_skip (o := { dst := some 38, op := Op.move (Operand.tmp 0), type := 24, pos := "wide.go:49", after := #[{ on := 8, ground := Ground.guard }], guard := some (8, true) }) rfl (by first | rfl | (simp [Region.wanted, yielded]; done)) ?_)
  (try simp only [Act.put, List.setIfInBounds_toArray, List.set_cons_zero, List.set_cons_succ])
  first | (refine mix_read (o := { dst := some 39, op := Op.call { callee := Callee.builtin Builtin.len, args := #[Operand.tmp 38], argTypes := #[24] }, type := 3, pos := "wide.go:49", after := #[{ on := 10, ground := Ground.data }, { on := 8, ground := Ground.guard }], guard := some (8, true) }) rfl (by first | rfl | (simp [Region.wanted, yielded]; done)) (by intro w_ hE_; (try dsimp only at hE_); subst hE_; first | (go_simp; done) | (go_simp; rfl)) ?_) | (refine mix_skip (o := { dst := some 39, op := Op.call { callee := Callee.builtin Builtin.len, args := #[Operand.tmp 38], argTypes := #[24] }, type := 3, pos := "wide.go:49", after := #[{ on := 10, ground := Ground.data }, { on := 8, ground := Ground.guard }], guard := some (8, true) }) rfl (by first | rfl | (simp [Region.wanted, yielded]; done)) ?_)
  (try simp only [Act.put, List.setIfInBounds_toArray, List.set_cons_zero, List.set_cons_succ])
  first | (refine mix_read (o := { dst := some 40, op := Op.slice 24 (Operand.tmp 37) none (some (Operand.tmp 39)) none, type := 24, pos := "wide.go:49", after := #[{ on := 9, ground := Ground.data }, { on := 11, ground := Ground.data }, { on := 8, ground := Ground.guard }], guard := some (8, true) }) rfl (by first | rfl | (simp [Region.wanted, yielded]; done)) (by intro w_ hE_; (try dsimp only at hE_); subst hE_; first | (go_simp; done) | (go_simp; rfl)) ?_) | (refine mix_skip (o := { dst := some 40, op := Op.slice 24 (Operand.tmp 37) none (some (Operand.tmp 39)) none, type := 24, pos := "wide.go:49", after := #[{ on := 9, ground := Ground.data }, { on := 11, ground := Ground.data }, { on := 8, ground := Ground.guard }], guard := some (8, true) }) rfl (by first | rfl | (simp [Region.wanted, yielded]; done)) ?_)
  (try simp only [Act.put, List.setIfInBounds_toArray, List.set_cons_zero, List.set_cons_succ])
  first | (refine mix_read (o := { dst := some 41, op := Op.convert 24 9 (Operand.tmp 40), type := 9, pos := "wide.go:49", after := #[{ on := 12, ground := Ground.data }, { on := 8, ground := Ground.guard }], guard := some (8, true) }) rfl (by first | rfl | (simp [Region.wanted, yielded]; done)) (by intro w_ hE_; (try dsimp only at hE_); subst hE_; first | (go_simp; done) | (go_simp; rfl)) ?_) | (refine mix_skip (o := { dst := some 41, op := Op.convert 24 9 (Operand.tmp 40), type := 9, pos := "wide.go:49", after := #[{ on := 12, ground := Ground.data }, { on := 8, ground := Ground.guard }], guard := some (8, true) }) rfl (by first | rfl | (simp [Region.wanted, yielded]; done)) ?_)
  (try simp only [Act.put, List.setIfInBounds_toArray, List.set_cons_zero, List.set_cons_succ])
  first | (refine mix_read (o := { dst := some 42, op := Op.move (Operand.tmp 6), type := 24, pos := "wide.go:49", after := #[{ on := 8, ground := Ground.guard }], guard := some (8, true) }) rfl (by first | rfl | (simp [Region.wanted, yielded]; done)) (by intro w_ hE_; (try dsimp only at hE_); subst hE_; first | (go_simp; done) | (go_simp; rfl)) ?_) | (refine mix_skip (o := { dst := some 42, op := Op.move (Operand.tmp 6), type := 24, pos := "wide.go:49", after := #[{ on := 8, ground := Ground.guard }], guard := some (8, true) }) rfl (by first | rfl | (simp [Region.wanted, yielded]; done)) ?_)
  (try simp only [Act.put, List.setIfInBounds_toArray, List.set_cons_zero, List.set_cons_succ])
  first | (refine mix_read (o := { dst := some 43, op := Op.convert 24 9 (Operand.tmp 42), type := 9, pos := "wide.go:49", after := #[{ on := 14, ground := Ground.data }, { on := 8, ground := Ground.guard }], guard := some (8, true) }) rfl (by first | rfl | (simp [Region.wanted, yielded]; done)) (by intro w_ hE_; (try dsimp only at hE_); subst hE_; first | (go_simp; done) | (go_simp; rfl)) ?_) | (refine mix_skip (o := { dst := some 43, op := Op.convert 24 9 (Operand.tmp 42), type := 9, pos := "wide.go:49", after := #[{ on := 14, ground := Ground.data }, { on := 8, ground := Ground.guard }], guard := some (8, true) }) rfl (by first | rfl | (simp [Region.wanted, yielded]; done)) ?_)
  (try simp only [Act.put, List.setIfInBounds_toArray, List.set_cons_zero, List.set_cons_succ])
  first | (refine mix_read (o := { dst := some 44, op := Op.binOp BinOp.eql 9 (Operand.tmp 41) (Operand.tmp 43) 9, type := 4, pos := "wide.go:49", after := #[{ on := 13, ground := Ground.data }, { on := 15, ground := Ground.data }, { on := 8, ground := Ground.guard }], guard := some (8, true) }) rfl (by first | rfl | (simp [Region.wanted, yielded]; done)) (by intro w_ hE_; (try dsimp only at hE_); subst hE_; first | (go_simp; done) | (go_simp; rfl)) ?_) | (refine mix_skip (o := { dst := some 44, op := Op.binOp BinOp.eql 9 (Operand.tmp 41) (Operand.tmp 43) 9, type := 4, pos := "wide.go:49", after := #[{ on := 13, ground := Ground.data }, { on := 15, ground := Ground.data }, { on := 8, ground := Ground.guard }], guard := some (8, true) }) rfl (by first | rfl | (simp [Region.wanted, yielded]; done)) ?_)
  (try simp only [Act.put, List.setIfInBounds_toArray, List.set_cons_zero, List.set_cons_succ])
  (refine mix_read (o := { dst := some 45, op := Op.pick (Operand.tmp 36) (Operand.tmp 44) (Operand.const (Value.bool false)), type := 4, pos := "wide.go:49", after := #[{ on := 8, ground := Ground.data }, { on := 16, ground := Ground.data }], guard := none }) rfl (by first | rfl | (simp [Region.wanted, yielded]; done)) (by intro w_ hE_; (try dsimp only at hE_); subst hE_; first | (go_simp; done) | (go_simp; rfl)) ?_)
  (try simp only [Act.put, List.setIfInBounds_toArray, List.set_cons_zero, List.set_cons_succ])
  (refine mix_read (o := { dst := some 4, op := Op.assign (Operand.tmp 45), type := 4, pos := "wide.go:49", after := #[{ on := 17, ground := Ground.data }, { on := 8, ground := Ground.chain }, { on := 0, ground := Ground.phase }, { on := 1, ground := Ground.phase }, { on := 2, ground := Ground.phase }, { on := 3, ground := Ground.phase }, { on := 4, ground := Ground.phase }, { on := 5, ground := Ground.phase }, { on := 6, ground := Ground.phase }, { on := 7, ground := Ground.phase }, { on := 8, ground := Ground.phase }, { on := 9, ground := Ground.phase }, { on := 10, ground := Ground.phase }, { on := 11, ground := Ground.phase }, { on := 12, ground := Ground.phase }, { on := 13, ground := Ground.phase }, { on := 14, ground := Ground.phase }, { on := 15, ground := Ground.phase }, { on := 16, ground := Ground.phase }, { on := 17, ground := Ground.phase }], guard := none }) rfl (by first | rfl | (simp [Region.wanted, yielded]; done)) (by intro w_ hE_; (try dsimp only at hE_); subst hE_; first | (go_simp; done) | (go_simp; rfl)) ?_)
  (try simp only [Act.put, List.setIfInBounds_toArray, List.set_cons_zero, List.set_cons_succ])
  refine mix_nil ?_
  go_wp2_with fail
  go_ret
  exact ⟨by simp, HBw.out⟩

set_option maxRecDepth 100000 in
set_option maxHeartbeats 2000000 in
theorem walk10 (A1 : Option Addr) (c1 : Nat) (l1 : List Int) (A2 : Option Addr) (c2 : Nat) (l2 : List Int) (w : World) (hr1 : (Kd.int .u8).C w A1 l1.length l1) (hc1 : l1.length ≤ c1) (hm1 : l1.length * 1 ≤ 140737488351232) (hw1 : ∀ x ∈ l1, (Lit.int .u8 x).wf = true)
    (hr2 : (Kd.int .u8).C w A2 l2.length l2) (hc2 : l2.length ≤ c2) (hm2 : l2.length * 1 ≤ 140737488351232) (hw2 : ∀ x ∈ l2, (Lit.int .u8 x).wf = true) (h1 : 100 < l1.length) (h2 : ¬ 100 < l2.length) :
    Calls Try.prog 7 #[.slice A1 l1.length c1, .slice A2 l2.length c2] w fun e w' => e = .returned (.bool true) ∧ Below w.heap.size w w' := by
  obtain ⟨i05, hi05, _, hsz5, _⟩ := info_parts info5
  obtain ⟨t1, n1, ht1, hn1, hb1, hC1, hl1⟩ : ∃ (t1 : List Int) (n1 : Nat), n1 = 100 ∧ t1.length = n1 ∧ Bys t1 ∧ (Kd.int .u8).C w A1 n1 t1 ∧ n1 ≤ 100 := ⟨l1.take 100, _, rfl, by rw [List.length_take]; omega, bys_take (bys_wf hw1) 100, by have := C_take 100 hr1; rw [List.length_take] at this; rw [show min 100 l1.length = 100 by omega] at this; exact this, by omega⟩
  obtain ⟨t2, n2, ht2, hn2, hb2, hC2, hl2⟩ : ∃ (t2 : List Int) (n2 : Nat), n2 = l2.length ∧ t2.length = n2 ∧ Bys t2 ∧ (Kd.int .u8).C w A2 n2 t2 ∧ n2 ≤ 100 := ⟨l2.take 100, _, rfl, by rw [List.length_take]; omega, bys_take (bys_wf hw2) 100, by have := C_take 100 hr2; rw [List.length_take] at this; rw [show min 100 l2.length = l2.length by omega] at this; exact this, by omega⟩
  have hcut1 := cut_to (P := Try.prog) 24 5 .i64 Try.underlying24 hi05 A1 l1.length c1 100
  have hcut2 := cut_to (P := Try.prog) 24 5 .i64 Try.underlying24 hi05 A2 l2.length c2 100
  replace hcut1 := hcut1 (by omega) (by omega) hc1
  clear hcut2
  have hE := fun w h => encode_calls A1 c1 t1 hb1 w h (by omega)
  rw [hn1] at hE
  have HE := Aside0.mk hE
  have HC1 := Aside0.mk hC1
  have HC2 := Aside0.mk hC2
  have HN : Aside0 (t1.length = n1 ∧ t2.length = n2 ∧ n1 ≤ 100 ∧ n2 ≤ 100) := ⟨hn1, hn2, hl1, hl2⟩
  have HBY := Aside0.mk (bys_append hb1 hb2)
  subst ht1
  subst ht2
  have g1 : decide ((100 : Int) < (l1.length : Int)) = true := by exact decide_eq_true (by omega)
  have g2 : decide ((100 : Int) < (l2.length : Int)) = false := by exact decide_eq_false (by omega)
  clear hE hC1 hC2 hr1 hc1 hw1 hr2 hc2 hw2 hn1 hn2 hb1 hb2 hl1 hl2 hsz5
  go_enter Try.func7, Try.ntmps7
  go_wp2_with fail
  refine (begun_calls w).mono ?_
  rintro e_ w1 ⟨rfl, hb⟩
  have HB1 := Aside0.mk hb
  clear hb
  go_wp2_with fail
  refine (HE.out w1 (Kd.C_below HC1.out HB1.out)).mono ?_
  rintro e_ w2 ⟨v1, rfl, ho, hb⟩
  obtain ⟨A3, c3, rfl⟩ := Kd.R_slice ho
  have HO1 := Aside0.mk (Kd.R_reads' ho).2.2
  have HB2 := Aside0.mk (below_step HB1.out hb)
  rw [encM_len, HN.out.1] at HO1
  rw [encM_len, HN.out.1]
  clear ho hb HB1
  have HRN : Aside0 (Kd.R (Kd.int .u8) 5 w2 w2.heap.size (fun _ => True) (.slice none 0 0) ([] : List Int)) := ⟨Kd.R_nil _ _ _ _ _⟩
  have HCB1 := Aside0.mk (Kd.C_below HC1.out HB2.out)
  have HBR := Aside0.mk (Below.refl w2.heap.size w2)
  go_wp2_with (first | ((with_reducible refine gate_builtin (b := .append) (xs := #[.const (.slice none 0 0), .tmp 23]) rfl ?_); at_builtin; go_must (refine Kd.R_append_row (Value.int .u8) (0) (h1 := fun _ => rfl) (w0 := w2) (w2.heap.size) rfl (.const (.slice none 0 0)) (.tmp 23) 24 5 (.int .u8 0) 1 rfl Try.underlying24 info5 rfl (by decide) (.slice none 0 0) ([] : List Int) t1 A1 (100) c1 (fun _ => True) rfl rfl (fun _ _ => trivial) (HRN.out) (HCB1.out) (HBR.out) (Below.size (HBR.out)) ?aL_ ?_; (case aL_ => have := HN.out; simp only [List.length_nil, List.length_append]; omega); intro v2 w4 ho hb hg hat; have HO4 := Aside0.mk ho; have HB4 := Aside0.mk hb; have HCB2 := Aside0.mk (Kd.C_below HC2.out (below_step HB2.out hb)); clear ho hb hg hat)) | ((with_reducible refine gate_builtin (b := .append) (xs := #[.tmp 24, .tmp 25]) rfl ?_); at_builtin; go_must (refine Kd.R_append_row (Value.int .u8) (0) (h1 := fun _ => rfl) (w0 := w2) (w2.heap.size) rfl (.tmp 24) (.tmp 25) 24 5 (.int .u8 0) 1 rfl Try.underlying24 info5 rfl (by decide) v2 ([] ++ t1) t2 A2 (l2.length) c2 (fun _ => True) rfl rfl (fun _ _ => trivial) (HO4.out) (HCB2.out) (HB4.out) (Below.size (HB4.out)) ?aL_ ?_; (case aL_ => have := HN.out; simp only [List.length_nil, List.length_append]; omega); intro v5 w5 ho hb hg hat; have HO5 := Aside0.mk ho; have HB5 := Aside0.mk hb; clear ho hb hg hat)))
  have hlen : (([] ++ t1) ++ t2).length = 100 + l2.length := by rw [List.nil_append, List.length_append, HN.out.1, HN.out.2.1]
  obtain ⟨A4, c4, e_⟩ := Kd.R_slice HO5.out
  rw [hlen] at e_
  subst e_
  have hrr := Kd.R_reads' HO5.out
  have hc := encode_calls A4 c4 ([] ++ t1 ++ t2) HBY.out w5 hrr.2.2 (by rw [hlen]; have := HN.out; omega)
  rw [hlen] at hc
  refine hc.mono ?_
  clear hc hrr
  rintro e_ w6 ⟨v3, rfl, ho, hb⟩
  obtain ⟨A5, c5, rfl⟩ := Kd.R_slice ho
  have hrr := Kd.R_reads' ho
  have HB6 := Aside0.mk (below_step HB2.out (below_step HB5.out hb))
  have HO6 := Aside0.mk (Kd.C_below HO1.out (below_step HB5.out hb))
  obtain ⟨L', hL'⟩ := encM_append initL t1 t2
  rw [List.nil_append, hL'] at hrr
  have hq : (encM initL t1 ++ encM L' t2).length = 100 + l2.length := by rw [List.length_append, encM_len, encM_len, HN.out.1, HN.out.2.1]
  rw [List.nil_append, hL', hq]
  rw [hq] at hrr
  have hcl : 100 + l2.length ≤ c5 := hrr.2.1
  have hcy := C_take 100 (by rw [hq]; exact hrr.2.2 : (Kd.int .u8).C w6 A5 (encM initL t1 ++ encM L' t2).length (encM initL t1 ++ encM L' t2))
  rw [List.take_left' (by rw [encM_len, HN.out.1]), encM_len, HN.out.1] at hcy
  have hcut : ∀ W : World, (Instr.slice 24 (.slice A5 (100 + l2.length) c5) none (some (.int .i64 (100))) none).run Try.prog W = .ok (.slice A5 (100) c5) W := fun W => by
    have h := cut_to (P := Try.prog) 24 5 .i64 Try.underlying24 hi05 A5 (100 + l2.length) c5 ((100 : Nat) : Int) (by omega) (by omega) (by omega) W
    rw [Int.toNat_natCast] at h
    exact h
  have HCY := Aside0.mk hcy
  have hsum : IntKind.i64.wrap (100 + (l2.length : Int)) = 100 + (l2.length : Int) := by rw [IntKind.wrap_i64]; have := HN.out; omega
  clear ho hb hL' hrr hq hcy hlen hm1 hm2 HO5 HB5
  go_wp2_with fail
  refine wp_region_mix (fun w_ w1_ => w_ = w1_) [(false, 0), (false, 1), (false, 2), (false, 3), (false, 4), (false, 5), (false, 6), (false, 7), (false, 8), (false, 9), (false, 10), (false, 11), (false, 12), (false, 13), (false, 14), (false, 15), (false, 16), (false, 17), (false, 18)] (by kernel_rfl) (by kernel_rfl) (fun _ => rfl) (fun h h' => h.trans h') (fun wd hhp_ hbw_ => ?_)
  have cv1 := Kd.C_string (P := Try.prog) (A := A5) (c := c5) Try.underlying24 Try.underlying5 Try.underlying9 (Kd.C_below HCY.out hbw_)
  have cv2 := Kd.C_string (P := Try.prog) (A := A3) (c := c3) Try.underlying24 Try.underlying5 Try.underlying9 (Kd.C_below HO6.out hbw_)
  have HBw := Aside0.mk (below_step HB6.out hbw_)
  clear hhp_ hbw_
  (refine mix_read (o := { dst := some 28, op := Op.move (Operand.tmp 7), type := 24, pos := "wide.go:49", after := #[], guard := none }) rfl (by first | rfl | (simp [Region.wanted, yielded]; done)) (by intro w_ hE_; (try dsimp only at hE_); subst hE_; first | (go_simp; done) | (go_simp; rfl)) ?_)
  (try simp only [Act.put, List.setIfInBounds_toArray, List.set_cons_zero, List.set_cons_succ])
  (refine mix_read (o := { dst := some 29, op := Op.call { callee := Callee.builtin Builtin.len, args := #[Operand.tmp 28], argTypes := #[24] }, type := 3, pos := "wide.go:49", after := #[{ on := 0, ground := Ground.data }], guard := none }) rfl (by first | rfl | (simp [Region.wanted, yielded]; done)) (by intro w_ hE_; (try dsimp only at hE_); subst hE_; first | (go_simp; done) | (go_simp; rfl)) ?_)
  (try simp only [Act.put, List.setIfInBounds_toArray, List.set_cons_zero, List.set_cons_succ])
  (refine mix_read (o := { dst := some 30, op := Op.move (Operand.tmp 0), type := 24, pos := "wide.go:49", after := #[], guard := none }) rfl (by first | rfl | (simp [Region.wanted, yielded]; done)) (by intro w_ hE_; (try dsimp only at hE_); subst hE_; first | (go_simp; done) | (go_simp; rfl)) ?_)
  (try simp only [Act.put, List.setIfInBounds_toArray, List.set_cons_zero, List.set_cons_succ])
  (refine mix_read (o := { dst := some 31, op := Op.call { callee := Callee.builtin Builtin.len, args := #[Operand.tmp 30], argTypes := #[24] }, type := 3, pos := "wide.go:49", after := #[{ on := 2, ground := Ground.data }], guard := none }) rfl (by first | rfl | (simp [Region.wanted, yielded]; done)) (by intro w_ hE_; (try dsimp only at hE_); subst hE_; first | (go_simp; done) | (go_simp; rfl)) ?_)
  (try simp only [Act.put, List.setIfInBounds_toArray, List.set_cons_zero, List.set_cons_succ])
  (refine mix_read (o := { dst := some 32, op := Op.move (Operand.tmp 1), type := 24, pos := "wide.go:49", after := #[], guard := none }) rfl (by first | rfl | (simp [Region.wanted, yielded]; done)) (by intro w_ hE_; (try dsimp only at hE_); subst hE_; first | (go_simp; done) | (go_simp; rfl)) ?_)
  (try simp only [Act.put, List.setIfInBounds_toArray, List.set_cons_zero, List.set_cons_succ])
  (refine mix_read (o := { dst := some 33, op := Op.call { callee := Callee.builtin Builtin.len, args := #[Operand.tmp 32], argTypes := #[24] }, type := 3, pos := "wide.go:49", after := #[{ on := 4, ground := Ground.data }], guard := none }) rfl (by first | rfl | (simp [Region.wanted, yielded]; done)) (by intro w_ hE_; (try dsimp only at hE_); subst hE_; first | (go_simp; done) | (go_simp; rfl)) ?_)
  (try simp only [Act.put, List.setIfInBounds_toArray, List.set_cons_zero, List.set_cons_succ])
  (refine mix_read (o := { dst := some 34, op := Op.binOp BinOp.add 3 (Operand.tmp 31) (Operand.tmp 33) 3, type := 3, pos := "wide.go:49", after := #[{ on := 3, ground := Ground.data }, { on := 5, ground := Ground.data }], guard := none }) rfl (by first | rfl | (simp [Region.wanted, yielded]; done)) (by intro w_ hE_; (try dsimp only at hE_); subst hE_; first | (go_simp; done) | (go_simp; rfl)) ?_)
  (try simp only [Act.put, List.setIfInBounds_toArray, List.set_cons_zero, List.set_cons_succ])
  (refine mix_read (o := { dst := some 35, op := Op.binOp BinOp.eql 3 (Operand.tmp 29) (Operand.tmp 34) 3, type := 4, pos := "wide.go:49", after := #[{ on := 1, ground := Ground.data }, { on := 6, ground := Ground.data }], guard := none }) rfl (by first | rfl | (simp [Region.wanted, yielded]; done)) (by intro w_ hE_; (try dsimp only at hE_); subst hE_; first | (go_simp; done) | (go_simp; rfl)) ?_)
  (try simp only [Act.put, List.setIfInBounds_toArray, List.set_cons_zero, List.set_cons_succ])
  (refine mix_read (o := { dst := some 36, op := Op.move (Operand.tmp 35), type := 4, pos := "wide.go:49", after := #[{ on := 7, ground := Ground.data }], guard := none }) rfl (by first | rfl | (simp [Region.wanted, yielded]; done)) (by intro w_ hE_; (try dsimp only at hE_); subst hE_; first | (go_simp; done) | (go_simp; rfl)) ?_)
  (try simp only [Act.put, List.setIfInBounds_toArray, List.set_cons_zero, List.set_cons_succ])
  first | (refine mix_read (o := { dst := some 37, op := Op.move (Operand.tmp 7), type := 24, pos := "wide.go:49", after := #[{ on := 8, ground := Ground.guard }], guard := some (8, true) }) rfl (by first | rfl | (simp [Region.wanted, yielded]; done)) (by intro w_ hE_; (try dsimp only at hE_); subst hE_; first | (go_simp; done) | (go_simp; rfl)) ?_) | (refine mix_skip (o := { dst := some 37, op := Op.move (Operand.tmp 7), type := 24, pos := "wide.go:49", after := #[{ on := 8, ground := Ground.guard }], guard := some (8, true) }) rfl (by first | rfl | (simp [Region.wanted, yielded]; done)) ?_)
  (try simp only [Act.put, List.setIfInBounds_toArray, List.set_cons_zero, List.set_cons_succ])
  first | (refine mix_read (o := { dst := some 38, op := Op.move (Operand.tmp 0), type := 24, pos := "wide.go:49", after := #[{ on := 8, ground := Ground.guard }], guard := some (8, true) }) rfl (by first | rfl | (simp [Region.wanted, yielded]; done)) (by intro w_ hE_; (try dsimp only at hE_); subst hE_; first | (go_simp; done) | (go_simp; rfl)) ?_) | (refine mix_skip (o := { dst := some 38, op := Op.move (Operand.tmp 0), type := 24, pos := "wide.go:49", after := #[{ on := 8, ground := Ground.guard }], guard := some (8, true) }) rfl (by first | rfl | (simp [Region.wanted, yielded]; done)) ?_)
  (try simp only [Act.put, List.setIfInBounds_toArray, List.set_cons_zero, List.set_cons_succ])
  first | (refine mix_read (o := { dst := some 39, op := Op.call { callee := Callee.builtin Builtin.len, args := #[Operand.tmp 38], argTypes := #[24] }, type := 3, pos := "wide.go:49", after := #[{ on := 10, ground := Ground.data }, { on := 8, ground := Ground.guard }], guard := some (8, true) }) rfl (by first | rfl | (simp [Region.wanted, yielded]; done)) (by intro w_ hE_; (try dsimp only at hE_); subst hE_; first | (go_simp; done) | (go_simp; rfl)) ?_) | (refine mix_skip (o := { dst := some 39, op := Op.call { callee := Callee.builtin Builtin.len, args := #[Operand.tmp 38], argTypes := #[24] }, type := 3, pos := "wide.go:49", after := #[{ on := 10, ground := Ground.data }, { on := 8, ground := Ground.guard }], guard := some (8, true) }) rfl (by first | rfl | (simp [Region.wanted, yielded]; done)) ?_)
  (try simp only [Act.put, List.setIfInBounds_toArray, List.set_cons_zero, List.set_cons_succ])
  first | (refine mix_read (o := { dst := some 40, op := Op.slice 24 (Operand.tmp 37) none (some (Operand.tmp 39)) none, type := 24, pos := "wide.go:49", after := #[{ on := 9, ground := Ground.data }, { on := 11, ground := Ground.data }, { on := 8, ground := Ground.guard }], guard := some (8, true) }) rfl (by first | rfl | (simp [Region.wanted, yielded]; done)) (by intro w_ hE_; (try dsimp only at hE_); subst hE_; first | (go_simp; done) | (go_simp; rfl)) ?_) | (refine mix_skip (o := { dst := some 40, op := Op.slice 24 (Operand.tmp 37) none (some (Operand.tmp 39)) none, type := 24, pos := "wide.go:49", after := #[{ on := 9, ground := Ground.data }, { on := 11, ground := Ground.data }, { on := 8, ground := Ground.guard }], guard := some (8, true) }) rfl (by first | rfl | (simp [Region.wanted, yielded]; done)) ?_)
  (try simp only [Act.put, List.setIfInBounds_toArray, List.set_cons_zero, List.set_cons_succ])
  first | (refine mix_read (o := { dst := some 41, op := Op.convert 24 9 (Operand.tmp 40), type := 9, pos := "wide.go:49", after := #[{ on := 12, ground := Ground.data }, { on := 8, ground := Ground.guard }], guard := some (8, true) }) rfl (by first | rfl | (simp [Region.wanted, yielded]; done)) (by intro w_ hE_; (try dsimp only at hE_); subst hE_; first | (go_simp; done) | (go_simp; rfl)) ?_) | (refine mix_skip (o := { dst := some 41, op := Op.convert 24 9 (Operand.tmp 40), type := 9, pos := "wide.go:49", after := #[{ on := 12, ground := Ground.data }, { on := 8, ground := Ground.guard }], guard := some (8, true) }) rfl (by first | rfl | (simp [Region.wanted, yielded]; done)) ?_)
  (try simp only [Act.put, List.setIfInBounds_toArray, List.set_cons_zero, List.set_cons_succ])
  first | (refine mix_read (o := { dst := some 42, op := Op.move (Operand.tmp 6), type := 24, pos := "wide.go:49", after := #[{ on := 8, ground := Ground.guard }], guard := some (8, true) }) rfl (by first | rfl | (simp [Region.wanted, yielded]; done)) (by intro w_ hE_; (try dsimp only at hE_); subst hE_; first | (go_simp; done) | (go_simp; rfl)) ?_) | (refine mix_skip (o := { dst := some 42, op := Op.move (Operand.tmp 6), type := 24, pos := "wide.go:49", after := #[{ on := 8, ground := Ground.guard }], guard := some (8, true) }) rfl (by first | rfl | (simp [Region.wanted, yielded]; done)) ?_)
  (try simp only [Act.put, List.setIfInBounds_toArray, List.set_cons_zero, List.set_cons_succ])
  first | (refine mix_read (o := { dst := some 43, op := Op.convert 24 9 (Operand.tmp 42), type := 9, pos := "wide.go:49", after := #[{ on := 14, ground := Ground.data }, { on := 8, ground := Ground.guard }], guard := some (8, true) }) rfl (by first | rfl | (simp [Region.wanted, yielded]; done)) (by intro w_ hE_; (try dsimp only at hE_); subst hE_; first | (go_simp; done) | (go_simp; rfl)) ?_) | (refine mix_skip (o := { dst := some 43, op := Op.convert 24 9 (Operand.tmp 42), type := 9, pos := "wide.go:49", after := #[{ on := 14, ground := Ground.data }, { on := 8, ground := Ground.guard }], guard := some (8, true) }) rfl (by first | rfl | (simp [Region.wanted, yielded]; done)) ?_)
  (try simp only [Act.put, List.setIfInBounds_toArray, List.set_cons_zero, List.set_cons_succ])
  first | (refine mix_read (o := { dst := some 44, op := Op.binOp BinOp.eql 9 (Operand.tmp 41) (Operand.tmp 43) 9, type := 4, pos := "wide.go:49", after := #[{ on := 13, ground := Ground.data }, { on := 15, ground := Ground.data }, { on := 8, ground := Ground.guard }], guard := some (8, true) }) rfl (by first | rfl | (simp [Region.wanted, yielded]; done)) (by intro w_ hE_; (try dsimp only at hE_); subst hE_; first | (go_simp; done) | (go_simp; rfl)) ?_) | (refine mix_skip (o := { dst := some 44, op := Op.binOp BinOp.eql 9 (Operand.tmp 41) (Operand.tmp 43) 9, type := 4, pos := "wide.go:49", after := #[{ on := 13, ground := Ground.data }, { on := 15, ground := Ground.data }, { on := 8, ground := Ground.guard }], guard := some (8, true) }) rfl (by first | rfl | (simp [Region.wanted, yielded]; done)) ?_)
  (try simp only [Act.put, List.setIfInBounds_toArray, List.set_cons_zero, List.set_cons_succ])
  (refine mix_read (o := { dst := some 45, op := Op.pick (Operand.tmp 36) (Operand.tmp 44) (Operand.const (Value.bool false)), type := 4, pos := "wide.go:49", after := #[{ on := 8, ground := Ground.data }, { on := 16, ground := Ground.data }], guard := none }) rfl (by first | rfl | (simp [Region.wanted, yielded]; done)) (by intro w_ hE_; (try dsimp only at hE_); subst hE_; first | (go_simp; done) | (go_simp; rfl)) ?_)
  (try simp only [Act.put, List.setIfInBounds_toArray, List.set_cons_zero, List.set_cons_succ])
  (refine mix_read (o := { dst := some 4, op := Op.assign (Operand.tmp 45), type := 4, pos := "wide.go:49", after := #[{ on := 17, ground := Ground.data }, { on := 8, ground := Ground.chain }, { on := 0, ground := Ground.phase }, { on := 1, ground := Ground.phase }, { on := 2, ground := Ground.phase }, { on := 3, ground := Ground.phase }, { on := 4, ground := Ground.phase }, { on := 5, ground := Ground.phase }, { on := 6, ground := Ground.phase }, { on := 7, ground := Ground.phase }, { on := 8, ground := Ground.phase }, { on := 9, ground := Ground.phase }, { on := 10, ground := Ground.phase }, { on := 11, ground := Ground.phase }, { on := 12, ground := Ground.phase }, { on := 13, ground := Ground.phase }, { on := 14, ground := Ground.phase }, { on := 15, ground := Ground.phase }, { on := 16, ground := Ground.phase }, { on := 17, ground := Ground.phase }], guard := none }) rfl (by first | rfl | (simp [Region.wanted, yielded]; done)) (by intro w_ hE_; (try dsimp only at hE_); subst hE_; first | (go_simp; done) | (go_simp; rfl)) ?_)
  (try simp only [Act.put, List.setIfInBounds_toArray, List.set_cons_zero, List.set_cons_succ])
  refine mix_nil ?_
  go_wp2_with fail
  go_ret
  exact ⟨by simp, HBw.out⟩

set_option maxRecDepth 100000 in
set_option maxHeartbeats 2000000 in
theorem walk01 (A1 : Option Addr) (c1 : Nat) (l1 : List Int) (A2 : Option Addr) (c2 : Nat) (l2 : List Int) (w : World) (hr1 : (Kd.int .u8).C w A1 l1.length l1) (hc1 : l1.length ≤ c1) (hm1 : l1.length * 1 ≤ 140737488351232) (hw1 : ∀ x ∈ l1, (Lit.int .u8 x).wf = true)
    (hr2 : (Kd.int .u8).C w A2 l2.length l2) (hc2 : l2.length ≤ c2) (hm2 : l2.length * 1 ≤ 140737488351232) (hw2 : ∀ x ∈ l2, (Lit.int .u8 x).wf = true) (h1 : ¬ 100 < l1.length) (h2 : 100 < l2.length) :
    Calls Try.prog 7 #[.slice A1 l1.length c1, .slice A2 l2.length c2] w fun e w' => e = .returned (.bool true) ∧ Below w.heap.size w w' := by
  obtain ⟨i05, hi05, _, hsz5, _⟩ := info_parts info5
  obtain ⟨t1, n1, ht1, hn1, hb1, hC1, hl1⟩ : ∃ (t1 : List Int) (n1 : Nat), n1 = l1.length ∧ t1.length = n1 ∧ Bys t1 ∧ (Kd.int .u8).C w A1 n1 t1 ∧ n1 ≤ 100 := ⟨l1.take 100, _, rfl, by rw [List.length_take]; omega, bys_take (bys_wf hw1) 100, by have := C_take 100 hr1; rw [List.length_take] at this; rw [show min 100 l1.length = l1.length by omega] at this; exact this, by omega⟩
  obtain ⟨t2, n2, ht2, hn2, hb2, hC2, hl2⟩ : ∃ (t2 : List Int) (n2 : Nat), n2 = 100 ∧ t2.length = n2 ∧ Bys t2 ∧ (Kd.int .u8).C w A2 n2 t2 ∧ n2 ≤ 100 := ⟨l2.take 100, _, rfl, by rw [List.length_take]; omega, bys_take (bys_wf hw2) 100, by have := C_take 100 hr2; rw [List.length_take] at this; rw [show min 100 l2.length = 100 by omega] at this; exact this, by omega⟩
  have hcut1 := cut_to (P := Try.prog) 24 5 .i64 Try.underlying24 hi05 A1 l1.length c1 100
  have hcut2 := cut_to (P := Try.prog) 24 5 .i64 Try.underlying24 hi05 A2 l2.length c2 100
  clear hcut1
  replace hcut2 := hcut2 (by omega) (by omega) hc2
  have hE := fun w h => encode_calls A1 c1 t1 hb1 w h (by omega)
  rw [hn1] at hE
  have HE := Aside0.mk hE
  have HC1 := Aside0.mk hC1
  have HC2 := Aside0.mk hC2
  have HN : Aside0 (t1.length = n1 ∧ t2.length = n2 ∧ n1 ≤ 100 ∧ n2 ≤ 100) := ⟨hn1, hn2, hl1, hl2⟩
  have HBY := Aside0.mk (bys_append hb1 hb2)
  subst ht1
  subst ht2
  have g1 : decide ((100 : Int) < (l1.length : Int)) = false := by exact decide_eq_false (by omega)
  have g2 : decide ((100 : Int) < (l2.length : Int)) = true := by exact decide_eq_true (by omega)
  clear hE hC1 hC2 hr1 hc1 hw1 hr2 hc2 hw2 hn1 hn2 hb1 hb2 hl1 hl2 hsz5
  go_enter Try.func7, Try.ntmps7
  go_wp2_with fail
  refine (begun_calls w).mono ?_
  rintro e_ w1 ⟨rfl, hb⟩
  have HB1 := Aside0.mk hb
  clear hb
  go_wp2_with fail
  refine (HE.out w1 (Kd.C_below HC1.out HB1.out)).mono ?_
  rintro e_ w2 ⟨v1, rfl, ho, hb⟩
  obtain ⟨A3, c3, rfl⟩ := Kd.R_slice ho
  have HO1 := Aside0.mk (Kd.R_reads' ho).2.2
  have HB2 := Aside0.mk (below_step HB1.out hb)
  rw [encM_len, HN.out.1] at HO1
  rw [encM_len, HN.out.1]
  clear ho hb HB1
  have HRN : Aside0 (Kd.R (Kd.int .u8) 5 w2 w2.heap.size (fun _ => True) (.slice none 0 0) ([] : List Int)) := ⟨Kd.R_nil _ _ _ _ _⟩
  have HCB1 := Aside0.mk (Kd.C_below HC1.out HB2.out)
  have HBR := Aside0.mk (Below.refl w2.heap.size w2)
  go_wp2_with (first | ((with_reducible refine gate_builtin (b := .append) (xs := #[.const (.slice none 0 0), .tmp 23]) rfl ?_); at_builtin; go_must (refine Kd.R_append_row (Value.int .u8) (0) (h1 := fun _ => rfl) (w0 := w2) (w2.heap.size) rfl (.const (.slice none 0 0)) (.tmp 23) 24 5 (.int .u8 0) 1 rfl Try.underlying24 info5 rfl (by decide) (.slice none 0 0) ([] : List Int) t1 A1 (l1.length) c1 (fun _ => True) rfl rfl (fun _ _ => trivial) (HRN.out) (HCB1.out) (HBR.out) (Below.size (HBR.out)) ?aL_ ?_; (case aL_ => have := HN.out; simp only [List.length_nil, List.length_append]; omega); intro v2 w4 ho hb hg hat; have HO4 := Aside0.mk ho; have HB4 := Aside0.mk hb; have HCB2 := Aside0.mk (Kd.C_below HC2.out (below_step HB2.out hb)); clear ho hb hg hat)) | ((with_reducible refine gate_builtin (b := .append) (xs := #[.tmp 24, .tmp 25]) rfl ?_); at_builtin; go_must (refine Kd.R_append_row (Value.int .u8) (0) (h1 := fun _ => rfl) (w0 := w2) (w2.heap.size) rfl (.tmp 24) (.tmp 25) 24 5 (.int .u8 0) 1 rfl Try.underlying24 info5 rfl (by decide) v2 ([] ++ t1) t2 A2 (100) c2 (fun _ => True) rfl rfl (fun _ _ => trivial) (HO4.out) (HCB2.out) (HB4.out) (Below.size (HB4.out)) ?aL_ ?_; (case aL_ => have := HN.out; simp only [List.length_nil, List.length_append]; omega); intro v5 w5 ho hb hg hat; have HO5 := Aside0.mk ho; have HB5 := Aside0.mk hb; clear ho hb hg hat)))
  have hlen : (([] ++ t1) ++ t2).length = l1.length + 100 := by rw [List.nil_append, List.length_append, HN.out.1, HN.out.2.1]
  obtain ⟨A4, c4, e_⟩ := Kd.R_slice HO5.out
  rw [hlen] at e_
  subst e_
  have hrr := Kd.R_reads' HO5.out
  have hc := encode_calls A4 c4 ([] ++ t1 ++ t2) HBY.out w5 hrr.2.2 (by rw [hlen]; have := HN.out; omega)
  rw [hlen] at hc
  refine hc.mono ?_
  clear hc hrr
  rintro e_ w6 ⟨v3, rfl, ho, hb⟩
  obtain ⟨A5, c5, rfl⟩ := Kd.R_slice ho
  have hrr := Kd.R_reads' ho
  have HB6 := Aside0.mk (below_step HB2.out (below_step HB5.out hb))
  have HO6 := Aside0.mk (Kd.C_below HO1.out (below_step HB5.out hb))
  obtain ⟨L', hL'⟩ := encM_append initL t1 t2
  rw [List.nil_append, hL'] at hrr
  have hq : (encM initL t1 ++ encM L' t2).length = l1.length + 100 := by rw [List.length_append, encM_len, encM_len, HN.out.1, HN.out.2.1]
  rw [List.nil_append, hL', hq]
  rw [hq] at hrr
  have hcl : l1.length + 100 ≤ c5 := hrr.2.1
  have hcy := C_take l1.length (by rw [hq]; exact hrr.2.2 : (Kd.int .u8).C w6 A5 (encM initL t1 ++ encM L' t2).length (encM initL t1 ++ encM L' t2))
  rw [List.take_left' (by rw [encM_len, HN.out.1]), encM_len, HN.out.1] at hcy
  have hcut : ∀ W : World, (Instr.slice 24 (.slice A5 (l1.length + 100) c5) none (some (.int .i64 ((l1.length : Int)))) none).run Try.prog W = .ok (.slice A5 (l1.length) c5) W := fun W => by
    have h := cut_to (P := Try.prog) 24 5 .i64 Try.underlying24 hi05 A5 (l1.length + 100) c5 ((l1.length : Nat) : Int) (by omega) (by omega) (by omega) W
    rw [Int.toNat_natCast] at h
    exact h
  have HCY := Aside0.mk hcy
  have hsum : IntKind.i64.wrap ((l1.length : Int) + 100) = (l1.length : Int) + 100 := by rw [IntKind.wrap_i64]; have := HN.out; omega
  clear ho hb hL' hrr hq hcy hlen hm1 hm2 HO5 HB5
  go_wp2_with fail
  refine wp_region_mix (fun w_ w1_ => w_ = w1_) [(false, 0), (false, 1), (false, 2), (false, 3), (false, 4), (false, 5), (false, 6), (false, 7), (false, 8), (false, 9), (false, 10), (false, 11), (false, 12), (false, 13), (false, 14), (false, 15), (false, 16), (false, 17), (false, 18)] (by kernel_rfl) (by kernel_rfl) (fun _ => rfl) (fun h h' => h.trans h') (fun wd hhp_ hbw_ => ?_)
  have cv1 := Kd.C_string (P := Try.prog) (A := A5) (c := c5) Try.underlying24 Try.underlying5 Try.underlying9 (Kd.C_below HCY.out hbw_)
  have cv2 := Kd.C_string (P := Try.prog) (A := A3) (c := c3) Try.underlying24 Try.underlying5 Try.underlying9 (Kd.C_below HO6.out hbw_)
  have HBw := Aside0.mk (below_step HB6.out hbw_)
  clear hhp_ hbw_
  (refine mix_read (o := { dst := some 28, op := Op.move (Operand.tmp 7), type := 24, pos := "wide.go:49", after := #[], guard := none }) rfl (by first | rfl | (simp [Region.wanted, yielded]; done)) (by intro w_ hE_; (try dsimp only at hE_); subst hE_; first | (go_simp; done) | (go_simp; rfl)) ?_)
  (try simp only [Act.put, List.setIfInBounds_toArray, List.set_cons_zero, List.set_cons_succ])
  (refine mix_read (o := { dst := some 29, op := Op.call { callee := Callee.builtin Builtin.len, args := #[Operand.tmp 28], argTypes := #[24] }, type := 3, pos := "wide.go:49", after := #[{ on := 0, ground := Ground.data }], guard := none }) rfl (by first | rfl | (simp [Region.wanted, yielded]; done)) (by intro w_ hE_; (try dsimp only at hE_); subst hE_; first | (go_simp; done) | (go_simp; rfl)) ?_)
  (try simp only [Act.put, List.setIfInBounds_toArray, List.set_cons_zero, List.set_cons_succ])
  (refine mix_read (o := { dst := some 30, op := Op.move (Operand.tmp 0), type := 24, pos := "wide.go:49", after := #[], guard := none }) rfl (by first | rfl | (simp [Region.wanted, yielded]; done)) (by intro w_ hE_; (try dsimp only at hE_); subst hE_; first | (go_simp; done) | (go_simp; rfl)) ?_)
  (try simp only [Act.put, List.setIfInBounds_toArray, List.set_cons_zero, List.set_cons_succ])
  (refine mix_read (o := { dst := some 31, op := Op.call { callee := Callee.builtin Builtin.len, args := #[Operand.tmp 30], argTypes := #[24] }, type := 3, pos := "wide.go:49", after := #[{ on := 2, ground := Ground.data }], guard := none }) rfl (by first | rfl | (simp [Region.wanted, yielded]; done)) (by intro w_ hE_; (try dsimp only at hE_); subst hE_; first | (go_simp; done) | (go_simp; rfl)) ?_)
  (try simp only [Act.put, List.setIfInBounds_toArray, List.set_cons_zero, List.set_cons_succ])
  (refine mix_read (o := { dst := some 32, op := Op.move (Operand.tmp 1), type := 24, pos := "wide.go:49", after := #[], guard := none }) rfl (by first | rfl | (simp [Region.wanted, yielded]; done)) (by intro w_ hE_; (try dsimp only at hE_); subst hE_; first | (go_simp; done) | (go_simp; rfl)) ?_)
  (try simp only [Act.put, List.setIfInBounds_toArray, List.set_cons_zero, List.set_cons_succ])
  (refine mix_read (o := { dst := some 33, op := Op.call { callee := Callee.builtin Builtin.len, args := #[Operand.tmp 32], argTypes := #[24] }, type := 3, pos := "wide.go:49", after := #[{ on := 4, ground := Ground.data }], guard := none }) rfl (by first | rfl | (simp [Region.wanted, yielded]; done)) (by intro w_ hE_; (try dsimp only at hE_); subst hE_; first | (go_simp; done) | (go_simp; rfl)) ?_)
  (try simp only [Act.put, List.setIfInBounds_toArray, List.set_cons_zero, List.set_cons_succ])
  (refine mix_read (o := { dst := some 34, op := Op.binOp BinOp.add 3 (Operand.tmp 31) (Operand.tmp 33) 3, type := 3, pos := "wide.go:49", after := #[{ on := 3, ground := Ground.data }, { on := 5, ground := Ground.data }], guard := none }) rfl (by first | rfl | (simp [Region.wanted, yielded]; done)) (by intro w_ hE_; (try dsimp only at hE_); subst hE_; first | (go_simp; done) | (go_simp; rfl)) ?_)
  (try simp only [Act.put, List.setIfInBounds_toArray, List.set_cons_zero, List.set_cons_succ])
  (refine mix_read (o := { dst := some 35, op := Op.binOp BinOp.eql 3 (Operand.tmp 29) (Operand.tmp 34) 3, type := 4, pos := "wide.go:49", after := #[{ on := 1, ground := Ground.data }, { on := 6, ground := Ground.data }], guard := none }) rfl (by first | rfl | (simp [Region.wanted, yielded]; done)) (by intro w_ hE_; (try dsimp only at hE_); subst hE_; first | (go_simp; done) | (go_simp; rfl)) ?_)
  (try simp only [Act.put, List.setIfInBounds_toArray, List.set_cons_zero, List.set_cons_succ])
  (refine mix_read (o := { dst := some 36, op := Op.move (Operand.tmp 35), type := 4, pos := "wide.go:49", after := #[{ on := 7, ground := Ground.data }], guard := none }) rfl (by first | rfl | (simp [Region.wanted, yielded]; done)) (by intro w_ hE_; (try dsimp only at hE_); subst hE_; first | (go_simp; done) | (go_simp; rfl)) ?_)
  (try simp only [Act.put, List.setIfInBounds_toArray, List.set_cons_zero, List.set_cons_succ])
  first | (refine mix_read (o := { dst := some 37, op := Op.move (Operand.tmp 7), type := 24, pos := "wide.go:49", after := #[{ on := 8, ground := Ground.guard }], guard := some (8, true) }) rfl (by first | rfl | (simp [Region.wanted, yielded]; done)) (by intro w_ hE_; (try dsimp only at hE_); subst hE_; first | (go_simp; done) | (go_simp; rfl)) ?_) | (refine mix_skip (o := { dst := some 37, op := Op.move (Operand.tmp 7), type := 24, pos := "wide.go:49", after := #[{ on := 8, ground := Ground.guard }], guard := some (8, true) }) rfl (by first | rfl | (simp [Region.wanted, yielded]; done)) ?_)
  (try simp only [Act.put, List.setIfInBounds_toArray, List.set_cons_zero, List.set_cons_succ])
  first | (refine mix_read (o := { dst := some 38, op := Op.move (Operand.tmp 0), type := 24, pos := "wide.go:49", after := #[{ on := 8, ground := Ground.guard }], guard := some (8, true) }) rfl (by first | rfl | (simp [Region.wanted, yielded]; done)) (by intro w_ hE_; (try dsimp only at hE_); subst hE_; first | (go_simp; done) | (go_simp; rfl)) ?_) | (refine mix_skip (o := { dst := some 38, op := Op.move (Operand.tmp 0), type := 24, pos := "wide.go:49", after := #[{ on := 8, ground := Ground.guard }], guard := some (8, true) }) rfl (by first | rfl | (simp [Region.wanted, yielded]; done)) ?_)
  (try simp only [Act.put, List.setIfInBounds_toArray, List.set_cons_zero, List.set_cons_succ])
  first | (refine mix_read (o := { dst := some 39, op := Op.call { callee := Callee.builtin Builtin.len, args := #[Operand.tmp 38], argTypes := #[24] }, type := 3, pos := "wide.go:49", after := #[{ on := 10, ground := Ground.data }, { on := 8, ground := Ground.guard }], guard := some (8, true) }) rfl (by first | rfl | (simp [Region.wanted, yielded]; done)) (by intro w_ hE_; (try dsimp only at hE_); subst hE_; first | (go_simp; done) | (go_simp; rfl)) ?_) | (refine mix_skip (o := { dst := some 39, op := Op.call { callee := Callee.builtin Builtin.len, args := #[Operand.tmp 38], argTypes := #[24] }, type := 3, pos := "wide.go:49", after := #[{ on := 10, ground := Ground.data }, { on := 8, ground := Ground.guard }], guard := some (8, true) }) rfl (by first | rfl | (simp [Region.wanted, yielded]; done)) ?_)
  (try simp only [Act.put, List.setIfInBounds_toArray, List.set_cons_zero, List.set_cons_succ])
  first | (refine mix_read (o := { dst := some 40, op := Op.slice 24 (Operand.tmp 37) none (some (Operand.tmp 39)) none, type := 24, pos := "wide.go:49", after := #[{ on := 9, ground := Ground.data }, { on := 11, ground := Ground.data }, { on := 8, ground := Ground.guard }], guard := some (8, true) }) rfl (by first | rfl | (simp [Region.wanted, yielded]; done)) (by intro w_ hE_; (try dsimp only at hE_); subst hE_; first | (go_simp; done) | (go_simp; rfl)) ?_) | (refine mix_skip (o := { dst := some 40, op := Op.slice 24 (Operand.tmp 37) none (some (Operand.tmp 39)) none, type := 24, pos := "wide.go:49", after := #[{ on := 9, ground := Ground.data }, { on := 11, ground := Ground.data }, { on := 8, ground := Ground.guard }], guard := some (8, true) }) rfl (by first | rfl | (simp [Region.wanted, yielded]; done)) ?_)
  (try simp only [Act.put, List.setIfInBounds_toArray, List.set_cons_zero, List.set_cons_succ])
  first | (refine mix_read (o := { dst := some 41, op := Op.convert 24 9 (Operand.tmp 40), type := 9, pos := "wide.go:49", after := #[{ on := 12, ground := Ground.data }, { on := 8, ground := Ground.guard }], guard := some (8, true) }) rfl (by first | rfl | (simp [Region.wanted, yielded]; done)) (by intro w_ hE_; (try dsimp only at hE_); subst hE_; first | (go_simp; done) | (go_simp; rfl)) ?_) | (refine mix_skip (o := { dst := some 41, op := Op.convert 24 9 (Operand.tmp 40), type := 9, pos := "wide.go:49", after := #[{ on := 12, ground := Ground.data }, { on := 8, ground := Ground.guard }], guard := some (8, true) }) rfl (by first | rfl | (simp [Region.wanted, yielded]; done)) ?_)
  (try simp only [Act.put, List.setIfInBounds_toArray, List.set_cons_zero, List.set_cons_succ])
  first | (refine mix_read (o := { dst := some 42, op := Op.move (Operand.tmp 6), type := 24, pos := "wide.go:49", after := #[{ on := 8, ground := Ground.guard }], guard := some (8, true) }) rfl (by first | rfl | (simp [Region.wanted, yielded]; done)) (by intro w_ hE_; (try dsimp only at hE_); subst hE_; first | (go_simp; done) | (go_simp; rfl)) ?_) | (refine mix_skip (o := { dst := some 42, op := Op.move (Operand.tmp 6), type := 24, pos := "wide.go:49", after := #[{ on := 8, ground := Ground.guard }], guard := some (8, true) }) rfl (by first | rfl | (simp [Region.wanted, yielded]; done)) ?_)
  (try simp only [Act.put, List.setIfInBounds_toArray, List.set_cons_zero, List.set_cons_succ])
  first | (refine mix_read (o := { dst := some 43, op := Op.convert 24 9 (Operand.tmp 42), type := 9, pos := "wide.go:49", after := #[{ on := 14, ground := Ground.data }, { on := 8, ground := Ground.guard }], guard := some (8, true) }) rfl (by first | rfl | (simp [Region.wanted, yielded]; done)) (by intro w_ hE_; (try dsimp only at hE_); subst hE_; first | (go_simp; done) | (go_simp; rfl)) ?_) | (refine mix_skip (o := { dst := some 43, op := Op.convert 24 9 (Operand.tmp 42), type := 9, pos := "wide.go:49", after := #[{ on := 14, ground := Ground.data }, { on := 8, ground := Ground.guard }], guard := some (8, true) }) rfl (by first | rfl | (simp [Region.wanted, yielded]; done)) ?_)
  (try simp only [Act.put, List.setIfInBounds_toArray, List.set_cons_zero, List.set_cons_succ])
  first | (refine mix_read (o := { dst := some 44, op := Op.binOp BinOp.eql 9 (Operand.tmp 41) (Operand.tmp 43) 9, type := 4, pos := "wide.go:49", after := #[{ on := 13, ground := Ground.data }, { on := 15, ground := Ground.data }, { on := 8, ground := Ground.guard }], guard := some (8, true) }) rfl (by first | rfl | (simp [Region.wanted, yielded]; done)) (by intro w_ hE_; (try dsimp only at hE_); subst hE_; first | (go_simp; done) | (go_simp; rfl)) ?_) | (refine mix_skip (o := { dst := some 44, op := Op.binOp BinOp.eql 9 (Operand.tmp 41) (Operand.tmp 43) 9, type := 4, pos := "wide.go:49", after := #[{ on := 13, ground := Ground.data }, { on := 15, ground := Ground.data }, { on := 8, ground := Ground.guard }], guard := some (8, true) }) rfl (by first | rfl | (simp [Region.wanted, yielded]; done)) ?_)
  (try simp only [Act.put, List.setIfInBounds_toArray, List.set_cons_zero, List.set_cons_succ])
  (refine mix_read (o := { dst := some 45, op := Op.pick (Operand.tmp 36) (Operand.tmp 44) (Operand.const (Value.bool false)), type := 4, pos := "wide.go:49", after := #[{ on := 8, ground := Ground.data }, { on := 16, ground := Ground.data }], guard := none }) rfl (by first | rfl | (simp [Region.wanted, yielded]; done)) (by intro w_ hE_; (try dsimp only at hE_); subst hE_; first | (go_simp; done) | (go_simp; rfl)) ?_)
  (try simp only [Act.put, List.setIfInBounds_toArray, List.set_cons_zero, List.set_cons_succ])
  (refine mix_read (o := { dst := some 4, op := Op.assign (Operand.tmp 45), type := 4, pos := "wide.go:49", after := #[{ on := 17, ground := Ground.data }, { on := 8, ground := Ground.chain }, { on := 0, ground := Ground.phase }, { on := 1, ground := Ground.phase }, { on := 2, ground := Ground.phase }, { on := 3, ground := Ground.phase }, { on := 4, ground := Ground.phase }, { on := 5, ground := Ground.phase }, { on := 6, ground := Ground.phase }, { on := 7, ground := Ground.phase }, { on := 8, ground := Ground.phase }, { on := 9, ground := Ground.phase }, { on := 10, ground := Ground.phase }, { on := 11, ground := Ground.phase }, { on := 12, ground := Ground.phase }, { on := 13, ground := Ground.phase }, { on := 14, ground := Ground.phase }, { on := 15, ground := Ground.phase }, { on := 16, ground := Ground.phase }, { on := 17, ground := Ground.phase }], guard := none }) rfl (by first | rfl | (simp [Region.wanted, yielded]; done)) (by intro w_ hE_; (try dsimp only at hE_); subst hE_; first | (go_simp; done) | (go_simp; rfl)) ?_)
  (try simp only [Act.put, List.setIfInBounds_toArray, List.set_cons_zero, List.set_cons_succ])
  refine mix_nil ?_
  go_wp2_with fail
  go_ret
  exact ⟨by simp, HBw.out⟩

set_option maxRecDepth 100000 in
set_option maxHeartbeats 2000000 in
theorem walk00 (A1 : Option Addr) (c1 : Nat) (l1 : List Int) (A2 : Option Addr) (c2 : Nat) (l2 : List Int) (w : World) (hr1 : (Kd.int .u8).C w A1 l1.length l1) (hc1 : l1.length ≤ c1) (hm1 : l1.length * 1 ≤ 140737488351232) (hw1 : ∀ x ∈ l1, (Lit.int .u8 x).wf = true)
    (hr2 : (Kd.int .u8).C w A2 l2.length l2) (hc2 : l2.length ≤ c2) (hm2 : l2.length * 1 ≤ 140737488351232) (hw2 : ∀ x ∈ l2, (Lit.int .u8 x).wf = true) (h1 : ¬ 100 < l1.length) (h2 : ¬ 100 < l2.length) :
    Calls Try.prog 7 #[.slice A1 l1.length c1, .slice A2 l2.length c2] w fun e w' => e = .returned (.bool true) ∧ Below w.heap.size w w' := by
  obtain ⟨i05, hi05, _, hsz5, _⟩ := info_parts info5
  obtain ⟨t1, n1, ht1, hn1, hb1, hC1, hl1⟩ : ∃ (t1 : List Int) (n1 : Nat), n1 = l1.length ∧ t1.length = n1 ∧ Bys t1 ∧ (Kd.int .u8).C w A1 n1 t1 ∧ n1 ≤ 100 := ⟨l1.take 100, _, rfl, by rw [List.length_take]; omega, bys_take (bys_wf hw1) 100, by have := C_take 100 hr1; rw [List.length_take] at this; rw [show min 100 l1.length = l1.length by omega] at this; exact this, by omega⟩
  obtain ⟨t2, n2, ht2, hn2, hb2, hC2, hl2⟩ : ∃ (t2 : List Int) (n2 : Nat), n2 = l2.length ∧ t2.length = n2 ∧ Bys t2 ∧ (Kd.int .u8).C w A2 n2 t2 ∧ n2 ≤ 100 := ⟨l2.take 100, _, rfl, by rw [List.length_take]; omega, bys_take (bys_wf hw2) 100, by have := C_take 100 hr2; rw [List.length_take] at this; rw [show min 100 l2.length = l2.length by omega] at this; exact this, by omega⟩
  have hcut1 := cut_to (P := Try.prog) 24 5 .i64 Try.underlying24 hi05 A1 l1.length c1 100
  have hcut2 := cut_to (P := Try.prog) 24 5 .i64 Try.underlying24 hi05 A2 l2.length c2 100
  clear hcut1
  clear hcut2
  have hE := fun w h => encode_calls A1 c1 t1 hb1 w h (by omega)
  rw [hn1] at hE
  have HE := Aside0.mk hE
  have HC1 := Aside0.mk hC1
  have HC2 := Aside0.mk hC2
  have HN : Aside0 (t1.length = n1 ∧ t2.length = n2 ∧ n1 ≤ 100 ∧ n2 ≤ 100) := ⟨hn1, hn2, hl1, hl2⟩
  have HBY := Aside0.mk (bys_append hb1 hb2)
  subst ht1
  subst ht2
  have g1 : decide ((100 : Int) < (l1.length : Int)) = false := by exact decide_eq_false (by omega)
  have g2 : decide ((100 : Int) < (l2.length : Int)) = false := by exact decide_eq_false (by omega)
  clear hE hC1 hC2 hr1 hc1 hw1 hr2 hc2 hw2 hn1 hn2 hb1 hb2 hl1 hl2 hsz5
  go_enter Try.func7, Try.ntmps7
  go_wp2_with fail
  refine (begun_calls w).mono ?_
  rintro e_ w1 ⟨rfl, hb⟩
  have HB1 := Aside0.mk hb
  clear hb
  go_wp2_with fail
  refine (HE.out w1 (Kd.C_below HC1.out HB1.out)).mono ?_
  rintro e_ w2 ⟨v1, rfl, ho, hb⟩
  obtain ⟨A3, c3, rfl⟩ := Kd.R_slice ho
  have HO1 := Aside0.mk (Kd.R_reads' ho).2.2
  have HB2 := Aside0.mk (below_step HB1.out hb)
  rw [encM_len, HN.out.1] at HO1
  rw [encM_len, HN.out.1]
  clear ho hb HB1
  have HRN : Aside0 (Kd.R (Kd.int .u8) 5 w2 w2.heap.size (fun _ => True) (.slice none 0 0) ([] : List Int)) := ⟨Kd.R_nil _ _ _ _ _⟩
  have HCB1 := Aside0.mk (Kd.C_below HC1.out HB2.out)
  have HBR := Aside0.mk (Below.refl w2.heap.size w2)
  go_wp2_with (first | ((with_reducible refine gate_builtin (b := .append) (xs := #[.const (.slice none 0 0), .tmp 23]) rfl ?_); at_builtin; go_must (refine Kd.R_append_row (Value.int .u8) (0) (h1 := fun _ => rfl) (w0 := w2) (w2.heap.size) rfl (.const (.slice none 0 0)) (.tmp 23) 24 5 (.int .u8 0) 1 rfl Try.underlying24 info5 rfl (by decide) (.slice none 0 0) ([] : List Int) t1 A1 (l1.length) c1 (fun _ => True) rfl rfl (fun _ _ => trivial) (HRN.out) (HCB1.out) (HBR.out) (Below.size (HBR.out)) ?aL_ ?_; (case aL_ => have := HN.out; simp only [List.length_nil, List.length_append]; omega); intro v2 w4 ho hb hg hat; have HO4 := Aside0.mk ho; have HB4 := Aside0.mk hb; have HCB2 := Aside0.mk (Kd.C_below HC2.out (below_step HB2.out hb)); clear ho hb hg hat)) | ((with_reducible refine gate_builtin (b := .append) (xs := #[.tmp 24, .tmp 25]) rfl ?_); at_builtin; go_must (refine Kd.R_append_row (Value.int .u8) (0) (h1 := fun _ => rfl) (w0 := w2) (w2.heap.size) rfl (.tmp 24) (.tmp 25) 24 5 (.int .u8 0) 1 rfl Try.underlying24 info5 rfl (by decide) v2 ([] ++ t1) t2 A2 (l2.length) c2 (fun _ => True) rfl rfl (fun _ _ => trivial) (HO4.out) (HCB2.out) (HB4.out) (Below.size (HB4.out)) ?aL_ ?_; (case aL_ => have := HN.out; simp only [List.length_nil, List.length_append]; omega); intro v5 w5 ho hb hg hat; have HO5 := Aside0.mk ho; have HB5 := Aside0.mk hb; clear ho hb hg hat)))
  have hlen : (([] ++ t1) ++ t2).length = l1.length + l2.length := by rw [List.nil_append, List.length_append, HN.out.1, HN.out.2.1]
  obtain ⟨A4, c4, e_⟩ := Kd.R_slice HO5.out
  rw [hlen] at e_
  subst e_
  have hrr := Kd.R_reads' HO5.out
  have hc := encode_calls A4 c4 ([] ++ t1 ++ t2) HBY.out w5 hrr.2.2 (by rw [hlen]; have := HN.out; omega)
  rw [hlen] at hc
  refine hc.mono ?_
  clear hc hrr
  rintro e_ w6 ⟨v3, rfl, ho, hb⟩
  obtain ⟨A5, c5, rfl⟩ := Kd.R_slice ho
  have hrr := Kd.R_reads' ho
  have HB6 := Aside0.mk (below_step HB2.out (below_step HB5.out hb))
  have HO6 := Aside0.mk (Kd.C_below HO1.out (below_step HB5.out hb))
  obtain ⟨L', hL'⟩ := encM_append initL t1 t2
  rw [List.nil_append, hL'] at hrr
  have hq : (encM initL t1 ++ encM L' t2).length = l1.length + l2.length := by rw [List.length_append, encM_len, encM_len, HN.out.1, HN.out.2.1]
  rw [List.nil_append, hL', hq]
  rw [hq] at hrr
  have hcl : l1.length + l2.length ≤ c5 := hrr.2.1
  have hcy := C_take l1.length (by rw [hq]; exact hrr.2.2 : (Kd.int .u8).C w6 A5 (encM initL t1 ++ encM L' t2).length (encM initL t1 ++ encM L' t2))
  rw [List.take_left' (by rw [encM_len, HN.out.1]), encM_len, HN.out.1] at hcy
  have hcut : ∀ W : World, (Instr.slice 24 (.slice A5 (l1.length + l2.length) c5) none (some (.int .i64 ((l1.length : Int)))) none).run Try.prog W = .ok (.slice A5 (l1.length) c5) W := fun W => by
    have h := cut_to (P := Try.prog) 24 5 .i64 Try.underlying24 hi05 A5 (l1.length + l2.length) c5 ((l1.length : Nat) : Int) (by omega) (by omega) (by omega) W
    rw [Int.toNat_natCast] at h
    exact h
  have HCY := Aside0.mk hcy
  have hsum : IntKind.i64.wrap ((l1.length : Int) + (l2.length : Int)) = (l1.length : Int) + (l2.length : Int) := by rw [IntKind.wrap_i64]; have := HN.out; omega
  clear ho hb hL' hrr hq hcy hlen hm1 hm2 HO5 HB5
  go_wp2_with fail
  refine wp_region_mix (fun w_ w1_ => w_ = w1_) [(false, 0), (false, 1), (false, 2), (false, 3), (false, 4), (false, 5), (false, 6), (false, 7), (false, 8), (false, 9), (false, 10), (false, 11), (false, 12), (false, 13), (false, 14), (false, 15), (false, 16), (false, 17), (false, 18)] (by kernel_rfl) (by kernel_rfl) (fun _ => rfl) (fun h h' => h.trans h') (fun wd hhp_ hbw_ => ?_)
  have cv1 := Kd.C_string (P := Try.prog) (A := A5) (c := c5) Try.underlying24 Try.underlying5 Try.underlying9 (Kd.C_below HCY.out hbw_)
  have cv2 := Kd.C_string (P := Try.prog) (A := A3) (c := c3) Try.underlying24 Try.underlying5 Try.underlying9 (Kd.C_below HO6.out hbw_)
  have HBw := Aside0.mk (below_step HB6.out hbw_)
  clear hhp_ hbw_
  (refine mix_read (o := { dst := some 28, op := Op.move (Operand.tmp 7), type := 24, pos := "wide.go:49", after := #[], guard := none }) rfl (by first | rfl | (simp [Region.wanted, yielded]; done)) (by intro w_ hE_; (try dsimp only at hE_); subst hE_; first | (go_simp; done) | (go_simp; rfl)) ?_)
  (try simp only [Act.put, List.setIfInBounds_toArray, List.set_cons_zero, List.set_cons_succ])
  (refine mix_read (o := { dst := some 29, op := Op.call { callee := Callee.builtin Builtin.len, args := #[Operand.tmp 28], argTypes := #[24] }, type := 3, pos := "wide.go:49", after := #[{ on := 0, ground := Ground.data }], guard := none }) rfl (by first | rfl | (simp [Region.wanted, yielded]; done)) (by intro w_ hE_; (try dsimp only at hE_); subst hE_; first | (go_simp; done) | (go_simp; rfl)) ?_)
  (try simp only [Act.put, List.setIfInBounds_toArray, List.set_cons_zero, List.set_cons_succ])
  (refine mix_read (o := { dst := some 30, op := Op.move (Operand.tmp 0), type := 24, pos := "wide.go:49", after := #[], guard := none }) rfl (by first | rfl | (simp [Region.wanted, yielded]; done)) (by intro w_ hE_; (try dsimp only at hE_); subst hE_; first | (go_simp; done) | (go_simp; rfl)) ?_)
  (try simp only [Act.put, List.setIfInBounds_toArray, List.set_cons_zero, List.set_cons_succ])
  (refine mix_read (o := { dst := some 31, op := Op.call { callee := Callee.builtin Builtin.len, args := #[Operand.tmp 30], argTypes := #[24] }, type := 3, pos := "wide.go:49", after := #[{ on := 2, ground := Ground.data }], guard := none }) rfl (by first | rfl | (simp [Region.wanted, yielded]; done)) (by intro w_ hE_; (try dsimp only at hE_); subst hE_; first | (go_simp; done) | (go_simp; rfl)) ?_)
  (try simp only [Act.put, List.setIfInBounds_toArray, List.set_cons_zero, List.set_cons_succ])
  (refine mix_read (o := { dst := some 32, op := Op.move (Operand.tmp 1), type := 24, pos := "wide.go:49", after := #[], guard := none }) rfl (by first | rfl | (simp [Region.wanted, yielded]; done)) (by intro w_ hE_; (try dsimp only at hE_); subst hE_; first | (go_simp; done) | (go_simp; rfl)) ?_)
  (try simp only [Act.put, List.setIfInBounds_toArray, List.set_cons_zero, List.set_cons_succ])
  (refine mix_read (o := { dst := some 33, op := Op.call { callee := Callee.builtin Builtin.len, args := #[Operand.tmp 32], argTypes := #[24] }, type := 3, pos := "wide.go:49", after := #[{ on := 4, ground := Ground.data }], guard := none }) rfl (by first | rfl | (simp [Region.wanted, yielded]; done)) (by intro w_ hE_; (try dsimp only at hE_); subst hE_; first | (go_simp; done) | (go_simp; rfl)) ?_)
  (try simp only [Act.put, List.setIfInBounds_toArray, List.set_cons_zero, List.set_cons_succ])
  (refine mix_read (o := { dst := some 34, op := Op.binOp BinOp.add 3 (Operand.tmp 31) (Operand.tmp 33) 3, type := 3, pos := "wide.go:49", after := #[{ on := 3, ground := Ground.data }, { on := 5, ground := Ground.data }], guard := none }) rfl (by first | rfl | (simp [Region.wanted, yielded]; done)) (by intro w_ hE_; (try dsimp only at hE_); subst hE_; first | (go_simp; done) | (go_simp; rfl)) ?_)
  (try simp only [Act.put, List.setIfInBounds_toArray, List.set_cons_zero, List.set_cons_succ])
  (refine mix_read (o := { dst := some 35, op := Op.binOp BinOp.eql 3 (Operand.tmp 29) (Operand.tmp 34) 3, type := 4, pos := "wide.go:49", after := #[{ on := 1, ground := Ground.data }, { on := 6, ground := Ground.data }], guard := none }) rfl (by first | rfl | (simp [Region.wanted, yielded]; done)) (by intro w_ hE_; (try dsimp only at hE_); subst hE_; first | (go_simp; done) | (go_simp; rfl)) ?_)
  (try simp only [Act.put, List.setIfInBounds_toArray, List.set_cons_zero, List.set_cons_succ])
  (refine mix_read (o := { dst := some 36, op := Op.move (Operand.tmp 35), type := 4, pos := "wide.go:49", after := #[{ on := 7, ground := Ground.data }], guard := none }) rfl (by first | rfl | (simp [Region.wanted, yielded]; done)) (by intro w_ hE_; (try dsimp only at hE_); subst hE_; first | (go_simp; done) | (go_simp; rfl)) ?_)
  (try simp only [Act.put, List.setIfInBounds_toArray, List.set_cons_zero, List.set_cons_succ])
  first | (refine mix_read (o := { dst := some 37, op := Op.move (Operand.tmp 7), type := 24, pos := "wide.go:49", after := #[{ on := 8, ground := Ground.guard }], guard := some (8, true) }) rfl (by first | rfl | (simp [Region.wanted, yielded]; done)) (by intro w_ hE_; (try dsimp only at hE_); subst hE_; first | (go_simp; done) | (go_simp; rfl)) ?_) | (refine mix_skip (o := { dst := some 37, op := Op.move (Operand.tmp 7), type := 24, pos := "wide.go:49", after := #[{ on := 8, ground := Ground.guard }], guard := some (8, true) }) rfl (by first | rfl | (simp [Region.wanted, yielded]; done)) ?_)
  (try simp only [Act.put, List.setIfInBounds_toArray, List.set_cons_zero, List.set_cons_succ])
  first | (refine mix_read (o := { dst := some 38, op := Op.move (Operand.tmp 0), type := 24, pos := "wide.go:49", after := #[{ on := 8, ground := Ground.guard }], guard := some (8, true) }) rfl (by first | rfl | (simp [Region.wanted, yielded]; done)) (by intro w_ hE_; (try dsimp only at hE_); subst hE_; first | (go_simp; done) | (go_simp; rfl)) ?_) | (refine mix_skip (o := { dst := some 38, op := Op.move (Operand.tmp 0), type := 24, pos := "wide.go:49", after := #[{ on := 8, ground := Ground.guard }], guard := some (8, true) }) rfl (by first | rfl | (simp [Region.wanted, yielded]; done)) ?_)
  (try simp only [Act.put, List.setIfInBounds_toArray, List.set_cons_zero, List.set_cons_succ])
  first | (refine mix_read (o := { dst := some 39, op := Op.call { callee := Callee.builtin Builtin.len, args := #[Operand.tmp 38], argTypes := #[24] }, type := 3, pos := "wide.go:49", after := #[{ on := 10, ground := Ground.data }, { on := 8, ground := Ground.guard }], guard := some (8, true) }) rfl (by first | rfl | (simp [Region.wanted, yielded]; done)) (by intro w_ hE_; (try dsimp only at hE_); subst hE_; first | (go_simp; done) | (go_simp; rfl)) ?_) | (refine mix_skip (o := { dst := some 39, op := Op.call { callee := Callee.builtin Builtin.len, args := #[Operand.tmp 38], argTypes := #[24] }, type := 3, pos := "wide.go:49", after := #[{ on := 10, ground := Ground.data }, { on := 8, ground := Ground.guard }], guard := some (8, true) }) rfl (by first | rfl | (simp [Region.wanted, yielded]; done)) ?_)
  (try simp only [Act.put, List.setIfInBounds_toArray, List.set_cons_zero, List.set_cons_succ])
  first | (refine mix_read (o := { dst := some 40, op := Op.slice 24 (Operand.tmp 37) none (some (Operand.tmp 39)) none, type := 24, pos := "wide.go:49", after := #[{ on := 9, ground := Ground.data }, { on := 11, ground := Ground.data }, { on := 8, ground := Ground.guard }], guard := some (8, true) }) rfl (by first | rfl | (simp [Region.wanted, yielded]; done)) (by intro w_ hE_; (try dsimp only at hE_); subst hE_; first | (go_simp; done) | (go_simp; rfl)) ?_) | (refine mix_skip (o := { dst := some 40, op := Op.slice 24 (Operand.tmp 37) none (some (Operand.tmp 39)) none, type := 24, pos := "wide.go:49", after := #[{ on := 9, ground := Ground.data }, { on := 11, ground := Ground.data }, { on := 8, ground := Ground.guard }], guard := some (8, true) }) rfl (by first | rfl | (simp [Region.wanted, yielded]; done)) ?_)
  (try simp only [Act.put, List.setIfInBounds_toArray, List.set_cons_zero, List.set_cons_succ])
  first | (refine mix_read (o := { dst := some 41, op := Op.convert 24 9 (Operand.tmp 40), type := 9, pos := "wide.go:49", after := #[{ on := 12, ground := Ground.data }, { on := 8, ground := Ground.guard }], guard := some (8, true) }) rfl (by first | rfl | (simp [Region.wanted, yielded]; done)) (by intro w_ hE_; (try dsimp only at hE_); subst hE_; first | (go_simp; done) | (go_simp; rfl)) ?_) | (refine mix_skip (o := { dst := some 41, op := Op.convert 24 9 (Operand.tmp 40), type := 9, pos := "wide.go:49", after := #[{ on := 12, ground := Ground.data }, { on := 8, ground := Ground.guard }], guard := some (8, true) }) rfl (by first | rfl | (simp [Region.wanted, yielded]; done)) ?_)
  (try simp only [Act.put, List.setIfInBounds_toArray, List.set_cons_zero, List.set_cons_succ])
  first | (refine mix_read (o := { dst := some 42, op := Op.move (Operand.tmp 6), type := 24, pos := "wide.go:49", after := #[{ on := 8, ground := Ground.guard }], guard := some (8, true) }) rfl (by first | rfl | (simp [Region.wanted, yielded]; done)) (by intro w_ hE_; (try dsimp only at hE_); subst hE_; first | (go_simp; done) | (go_simp; rfl)) ?_) | (refine mix_skip (o := { dst := some 42, op := Op.move (Operand.tmp 6), type := 24, pos := "wide.go:49", after := #[{ on := 8, ground := Ground.guard }], guard := some (8, true) }) rfl (by first | rfl | (simp [Region.wanted, yielded]; done)) ?_)
  (try simp only [Act.put, List.setIfInBounds_toArray, List.set_cons_zero, List.set_cons_succ])
  first | (refine mix_read (o := { dst := some 43, op := Op.convert 24 9 (Operand.tmp 42), type := 9, pos := "wide.go:49", after := #[{ on := 14, ground := Ground.data }, { on := 8, ground := Ground.guard }], guard := some (8, true) }) rfl (by first | rfl | (simp [Region.wanted, yielded]; done)) (by intro w_ hE_; (try dsimp only at hE_); subst hE_; first | (go_simp; done) | (go_simp; rfl)) ?_) | (refine mix_skip (o := { dst := some 43, op := Op.convert 24 9 (Operand.tmp 42), type := 9, pos := "wide.go:49", after := #[{ on := 14, ground := Ground.data }, { on := 8, ground := Ground.guard }], guard := some (8, true) }) rfl (by first | rfl | (simp [Region.wanted, yielded]; done)) ?_)
  (try simp only [Act.put, List.setIfInBounds_toArray, List.set_cons_zero, List.set_cons_succ])
  first | (refine mix_read (o := { dst := some 44, op := Op.binOp BinOp.eql 9 (Operand.tmp 41) (Operand.tmp 43) 9, type := 4, pos := "wide.go:49", after := #[{ on := 13, ground := Ground.data }, { on := 15, ground := Ground.data }, { on := 8, ground := Ground.guard }], guard := some (8, true) }) rfl (by first | rfl | (simp [Region.wanted, yielded]; done)) (by intro w_ hE_; (try dsimp only at hE_); subst hE_; first | (go_simp; done) | (go_simp; rfl)) ?_) | (refine mix_skip (o := { dst := some 44, op := Op.binOp BinOp.eql 9 (Operand.tmp 41) (Operand.tmp 43) 9, type := 4, pos := "wide.go:49", after := #[{ on := 13, ground := Ground.data }, { on := 15, ground := Ground.data }, { on := 8, ground := Ground.guard }], guard := some (8, true) }) rfl (by first | rfl | (simp [Region.wanted, yielded]; done)) ?_)
  (try simp only [Act.put, List.setIfInBounds_toArray, List.set_cons_zero, List.set_cons_succ])
  (refine mix_read (o := { dst := some 45, op := Op.pick (Operand.tmp 36) (Operand.tmp 44) (Operand.const (Value.bool false)), type := 4, pos := "wide.go:49", after := #[{ on := 8, ground := Ground.data }, { on := 16, ground := Ground.data }], guard := none }) rfl (by first | rfl | (simp [Region.wanted, yielded]; done)) (by intro w_ hE_; (try dsimp only at hE_); subst hE_; first | (go_simp; done) | (go_simp; rfl)) ?_)
  (try simp only [Act.put, List.setIfInBounds_toArray, List.set_cons_zero, List.set_cons_succ])
  (refine mix_read (o := { dst := some 4, op := Op.assign (Operand.tmp 45), type := 4, pos := "wide.go:49", after := #[{ on := 17, ground := Ground.data }, { on := 8, ground := Ground.chain }, { on := 0, ground := Ground.phase }, { on := 1, ground := Ground.phase }, { on := 2, ground := Ground.phase }, { on := 3, ground := Ground.phase }, { on := 4, ground := Ground.phase }, { on := 5, ground := Ground.phase }, { on := 6, ground := Ground.phase }, { on := 7, ground := Ground.phase }, { on := 8, ground := Ground.phase }, { on := 9, ground := Ground.phase }, { on := 10, ground := Ground.phase }, { on := 11, ground := Ground.phase }, { on := 12, ground := Ground.phase }, { on := 13, ground := Ground.phase }, { on := 14, ground := Ground.phase }, { on := 15, ground := Ground.phase }, { on := 16, ground := Ground.phase }, { on := 17, ground := Ground.phase }], guard := none }) rfl (by first | rfl | (simp [Region.wanted, yielded]; done)) (by intro w_ hE_; (try dsimp only at hE_); subst hE_; first | (go_simp; done) | (go_simp; rfl)) ?_)
  (try simp only [Act.put, List.setIfInBounds_toArray, List.set_cons_zero, List.set_cons_succ])
  refine mix_nil ?_
  go_wp2_with fail
  go_ret
  exact ⟨by simp, HBw.out⟩

theorem walk (A1 : Option Addr) (c1 : Nat) (l1 : List Int) (A2 : Option Addr) (c2 : Nat) (l2 : List Int) (w : World) (hr1 : (Kd.int .u8).C w A1 l1.length l1) (hc1 : l1.length ≤ c1) (hm1 : l1.length * 1 ≤ 140737488351232) (hw1 : ∀ x ∈ l1, (Lit.int .u8 x).wf = true)
    (hr2 : (Kd.int .u8).C w A2 l2.length l2) (hc2 : l2.length ≤ c2) (hm2 : l2.length * 1 ≤ 140737488351232) (hw2 : ∀ x ∈ l2, (Lit.int .u8 x).wf = true) :
    Calls Try.prog 7 #[.slice A1 l1.length c1, .slice A2 l2.length c2] w fun e w' => e = .returned (.bool true) ∧ Below w.heap.size w w' := by
  by_cases h1 : 100 < l1.length <;> by_cases h2 : 100 < l2.length
  · exact walk11 A1 c1 l1 A2 c2 l2 w hr1 hc1 hm1 hw1 hr2 hc2 hm2 hw2 h1 h2
  · exact walk10 A1 c1 l1 A2 c2 l2 w hr1 hc1 hm1 hw1 hr2 hc2 hm2 hw2 h1 h2
  · exact walk01 A1 c1 l1 A2 c2 l2 w hr1 hc1 hm1 hw1 hr2 hc2 hm2 hw2 h1 h2
  · exact walk00 A1 c1 l1 A2 c2 l2 w hr1 hc1 hm1 hw1 hr2 hc2 hm2 hw2 h1 h2
end Go.Proofs.Ytpgbapbmikneiaa.FtWalk
