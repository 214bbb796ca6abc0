/- FrontRuns: a byte that comes again at once has the place 0, and no other: it answers true. No condition. -/
import Derived.Test.YtpgbapbmikneiaaProg
import Derived.Below
import Derived.Deep.Draws
import Derived.Deep.AppendLies
import Derived.Maps.AppendAt
import Derived.OwnWalk
import Derived.Laws.BytesArg
import Derived.Laws.MakeOwn
import Derived.Laws.OwnMore
import Derived.Deep.OwnRows
import Derived.Tactics
import Derived.Lib.ConvBytes
import Derived.Laws.Slices
import Derived.WalkKit
import Derived.KernelRfl
import Derived.RowKit3
import Derived.Deep.LoopGhost
import Derived.Deep.QuietTactic
import Derived.BigQuiet
import Derived.WideLaws
import Derived.Deep.DeepCutAuto
import Derived.Deep.CutBlock
import Derived.Deep.RegionHeld3
import Derived.Laws.Rows
import Derived.Lib.AppendStr
import Derived.ArgAppend
import Derived.Laws.IdiomCopy
import Derived.OrdersHeld
import Derived.Laws.BitsLemmas
import Derived.RowKit
import Derived.WalkSpells
import Derived.Outline
import Derived.Test.YtpgbapbmikneiaaWWords
import Derived.Test.YtpgbapbmikneiaaWLast
import Derived.Test.YtpgbapbmikneiaaWMore
import Derived.Test.YtpgbapbmikneiaaWArr
import Derived.Test.YtpgbapbmikneiaaWTab
import Derived.Test.YtpgbapbmikneiaaWZeros
import Derived.Test.YtpgbapbmikneiaaWRepsOne
import Derived.Test.YtpgbapbmikneiaaMtC
import Derived.Test.YtpgbapbmikneiaaNbWalk
namespace Go.Proofs.Ytpgbapbmikneiaa.FrWalk
open Go.RowKit Go.Proofs.YtpgbapbmikneiaaW.PrintWords Go.Proofs.YtpgbapbmikneiaaW.PrintLast Go.Proofs.YtpgbapbmikneiaaW.PrintMore Go.Proofs.Ytpgbapbmikneiaa.Nm Go.Proofs.Ytpgbapbmikneiaa.NmA Go.Proofs.Ytpgbapbmikneiaa.NmB Go.Proofs.Ytpgbapbmikneiaa.NmC Go.Proofs.Ytpgbapbmikneiaa.Mt Go.Proofs.Ytpgbapbmikneiaa.Mix Go.Proofs.Ytpgbapbmikneiaa.MtA Go.Proofs.Ytpgbapbmikneiaa.MtB Go.Proofs.Ytpgbapbmikneiaa.MtC Go.Proofs.Ytpgbapbmikneiaa.NbWalk
set_option linter.unusedSimpArgs false
set_option linter.unusedVariables false
attribute [local go_sem] max2_int min2_int max_two min_two

theorem add_succ (ad : Addr) (i : Nat) : ad.add (i + 1) = ⟨ad.block, ad.off + (i + 1), none⟩ := by unfold Addr.add; simp
set_option maxRecDepth 100000 in
theorem walk (A : Option Addr) (c : Nat) (l : List Int) (w : World) (hr : (Kd.int .u8).C w A l.length l) (hc : l.length ≤ c) (hm : l.length * 1 ≤ 140737488351232) (hw : ∀ x ∈ l, (Lit.int .u8 x).wf = true) :
    Calls Try.prog 5 #[.slice A l.length c] w fun e w' => e = .returned (.bool true) ∧ Below w.heap.size w w' := by
  have hby := bys_take (bys_wf hw) 400
  have hr2 := C_take 400 hr
  have hl2 : (l.take 400).length ≤ 140737488351232 := by rw [List.length_take]; omega
  have HS := Aside0.mk (fun w => short_calls A c l 400 hc w)
  generalize l.take 400 = t at *
  have HRN := Aside0.mk (fun i hi => runs hby i hi)
  have hlen := encM_len initL t
  have HY := Aside0.mk hby
  have HR := Aside0.mk hr2
  have HL := Aside0.mk hl2
  have HE := Aside0.mk (fun w h => encode_calls A c t hby w h hl2)
  generalize encM initL t = p at *
  have HLEN := Aside0.mk hlen
  clear hby hr2 hl2 hr hc hw hm hlen
  go_enter Try.func5, Try.ntmps5
  go_wp2_with fail
  refine (begun_calls w).mono ?_
  rintro e_ w1 ⟨rfl, hb⟩
  have HB1 := Aside0.mk hb
  clear hb
  go_wp2_with fail
  refine (HS.out w1).mono ?_
  rintro e_ w2 ⟨rfl, rfl⟩
  go_wp2_with fail
  refine (HE.out w1 (Kd.C_below HR.out HB1.out)).mono ?_
  rintro e_ w2 ⟨v1, rfl, ho, hb⟩
  obtain ⟨A2, c2, rfl⟩ := Kd.R_slice ho
  have HO := Aside0.mk (Kd.R_reads' ho).2.2
  have HB2 := Aside0.mk (below_step HB1.out hb)
  have hpl := HLEN.out
  clear ho hb HB1
  rw [hpl] at HO
  rw [hpl]
  clear hpl
  go_wp2_with fail
  go_loopg [5] t.length (fun g v5 w' => ∃ (i : Nat), v5 = .int .i64 ((i : Int) + 1) ∧ Aside0 (i + g = t.length) ∧ Aside0 (Below w2.heap.size w2 w'))
  case atStart => exact ⟨0, rfl, ⟨by omega⟩, ⟨Below.refl _ _⟩⟩
  case round =>
    obtain ⟨i, rfl, HI, HB⟩ := hrel
    have hlt' := HL.out
    by_cases hlt : i + 1 < t.length
    · obtain ⟨ad, e_, _⟩ := Kd.at_int HR.out (i : Int) (by omega) (by omega)
      subst e_
      have hpl := HLEN.out
      obtain ⟨ad2, e_, _⟩ := Kd.at_int HO.out (i : Int) (by omega) (by omega)
      subst e_
      have hx1 := cell_at HR.out (below_step HB2.out HB.out) (i + 1) hlt
      have hx0 := cell_at HR.out (below_step HB2.out HB.out) i (by omega)
      have hp1 := cell_at HO.out HB.out (i + 1) (by omega)
      have hrn := HRN.out i hlt
      generalize rd t ((i + 1 : Nat) : Int) = x1 at *
      generalize rd t (i : Int) = x0 at *
      generalize rd p ((i + 1 : Nat) : Int) = y1 at *
      have hsub : IntKind.i64.wrap (i : Int) = (i : Int) := by rw [IntKind.wrap_i64]; omega
      have q0 : ((i : Int) < (t.length : Int)) = True := eq_true (by omega)
      have q1 : ((i : Int) + 1 < (t.length : Int)) = True := eq_true (by omega)
      have q2 : ((0 : Int) ≤ (i : Int) + 1) = True := eq_true (by omega)
      have n1 : (((i : Int) + 1).toNat) = i + 1 := by omega
      by_cases hy : y1 = 0
      · have he := hrn.2 hy
        have b1 : (x1 == x0) = true := beq_iff_eq.2 he
        have b2 : (y1 == 0) = true := beq_iff_eq.2 hy
        clear hy he hrn
        go_wp2
        refine wp_region_mix (fun w_ w1_ => w_ = w1_) [(false, 0), (false, 1), (false, 2), (false, 3), (false, 4), (false, 5), (false, 6), (false, 7), (false, 8), (false, 9), (false, 10), (false, 11), (false, 12), (false, 13), (false, 14), (false, 15)] (by kernel_rfl) (by kernel_rfl) (fun _ => rfl) (fun h h' => h.trans h') (fun wd hhp_ hbw_ => ?_)
        have y1_ : wd.cell? ⟨ad.block, ad.off + (i + 1), none⟩ = some (.int .u8 x1) := by rw [← add_succ]; exact (hbw_.cell (World.block_lt_of_cell? wr _ hx1)).trans hx1
        have y0_ : wd.cell? (ad.add i) = some (.int .u8 x0) := (hbw_.cell (World.block_lt_of_cell? wr _ hx0)).trans hx0
        have yp_ : wd.cell? ⟨ad2.block, ad2.off + (i + 1), none⟩ = some (.int .u8 y1) := by rw [← add_succ]; exact (hbw_.cell (World.block_lt_of_cell? wr _ hp1)).trans hp1
        have HBw := Aside0.mk (below_step HB.out hbw_)
        clear hx1 hx0 hp1 hhp_ hbw_
        (refine mix_read (o := { dst := some 24, op := Op.move (Operand.tmp 0), type := 24, pos := "law.go:39", after := #[], guard := none }) rfl (by first | rfl | (simp [Region.wanted, yielded]; done)) (by intro w_ hE_; (try dsimp only at hE_); subst hE_; first | (go_simp; done) | (go_simp; rfl)) ?_)
        (try simp only [Act.put, List.setIfInBounds_toArray, List.set_cons_zero, List.set_cons_succ])
        (refine mix_read (o := { dst := some 25, op := Op.move (Operand.tmp 5), type := 3, pos := "law.go:39", after := #[], guard := none }) rfl (by first | rfl | (simp [Region.wanted, yielded]; done)) (by intro w_ hE_; (try dsimp only at hE_); subst hE_; first | (go_simp; done) | (go_simp; rfl)) ?_)
        (try simp only [Act.put, List.setIfInBounds_toArray, List.set_cons_zero, List.set_cons_succ])
        (refine mix_read (o := { dst := some 26, op := Op.indexAddr 24 (Operand.tmp 24) (Operand.tmp 25), type := 0, pos := "law.go:39", after := #[{ on := 0, ground := Ground.data }, { on := 1, ground := Ground.data }], guard := none }) rfl (by first | rfl | (simp [Region.wanted, yielded]; done)) (by intro w_ hE_; (try dsimp only at hE_); subst hE_; first | (go_simp; done) | (go_simp; rfl)) ?_)
        (try simp only [Act.put, List.setIfInBounds_toArray, List.set_cons_zero, List.set_cons_succ])
        (refine mix_read (o := { dst := some 27, op := Op.load 5 (Operand.tmp 26), type := 5, pos := "law.go:39", after := #[{ on := 2, ground := Ground.data }], guard := none }) rfl (by first | rfl | (simp [Region.wanted, yielded]; done)) (by intro w_ hE_; (try dsimp only at hE_); subst hE_; first | (go_simp; done) | (go_simp; rfl)) ?_)
        (try simp only [Act.put, List.setIfInBounds_toArray, List.set_cons_zero, List.set_cons_succ])
        (refine mix_read (o := { dst := some 28, op := Op.move (Operand.tmp 0), type := 24, pos := "law.go:39", after := #[], guard := none }) rfl (by first | rfl | (simp [Region.wanted, yielded]; done)) (by intro w_ hE_; (try dsimp only at hE_); subst hE_; first | (go_simp; done) | (go_simp; rfl)) ?_)
        (try simp only [Act.put, List.setIfInBounds_toArray, List.set_cons_zero, List.set_cons_succ])
        (refine mix_read (o := { dst := some 29, op := Op.move (Operand.tmp 5), type := 3, pos := "law.go:39", after := #[], guard := none }) rfl (by first | rfl | (simp [Region.wanted, yielded]; done)) (by intro w_ hE_; (try dsimp only at hE_); subst hE_; first | (go_simp; done) | (go_simp; rfl)) ?_)
        (try simp only [Act.put, List.setIfInBounds_toArray, List.set_cons_zero, List.set_cons_succ])
        (refine mix_read (o := { dst := some 30, op := Op.binOp BinOp.sub 3 (Operand.tmp 29) (Operand.const (Value.int IntKind.i64 1)) 3, type := 3, pos := "law.go:39", after := #[{ on := 5, ground := Ground.data }], guard := none }) rfl (by first | rfl | (simp [Region.wanted, yielded]; done)) (by intro w_ hE_; (try dsimp only at hE_); subst hE_; first | (go_simp; done) | (go_simp; rfl)) ?_)
        (try simp only [Act.put, List.setIfInBounds_toArray, List.set_cons_zero, List.set_cons_succ])
        (refine mix_read (o := { dst := some 31, op := Op.indexAddr 24 (Operand.tmp 28) (Operand.tmp 30), type := 0, pos := "law.go:39", after := #[{ on := 4, ground := Ground.data }, { on := 6, ground := Ground.data }], guard := none }) rfl (by first | rfl | (simp [Region.wanted, yielded]; done)) (by intro w_ hE_; (try dsimp only at hE_); subst hE_; first | (go_simp; done) | (go_simp; rfl)) ?_)
        (try simp only [Act.put, List.setIfInBounds_toArray, List.set_cons_zero, List.set_cons_succ])
        (refine mix_read (o := { dst := some 32, op := Op.load 5 (Operand.tmp 31), type := 5, pos := "law.go:39", after := #[{ on := 7, ground := Ground.data }], guard := none }) rfl (by first | rfl | (simp [Region.wanted, yielded]; done)) (by intro w_ hE_; (try dsimp only at hE_); subst hE_; first | (go_simp; done) | (go_simp; rfl)) ?_)
        (try simp only [Act.put, List.setIfInBounds_toArray, List.set_cons_zero, List.set_cons_succ])
        (refine mix_read (o := { dst := some 33, op := Op.binOp BinOp.eql 5 (Operand.tmp 27) (Operand.tmp 32) 5, type := 4, pos := "law.go:39", after := #[{ on := 3, ground := Ground.data }, { on := 8, ground := Ground.data }], guard := none }) rfl (by first | rfl | (simp [Region.wanted, yielded]; done)) (by intro w_ hE_; (try dsimp only at hE_); subst hE_; first | (go_simp; done) | (go_simp; rfl)) ?_)
        (try simp only [Act.put, List.setIfInBounds_toArray, List.set_cons_zero, List.set_cons_succ])
        (refine mix_read (o := { dst := some 34, op := Op.move (Operand.tmp 4), type := 24, pos := "law.go:39", after := #[], guard := none }) rfl (by first | rfl | (simp [Region.wanted, yielded]; done)) (by intro w_ hE_; (try dsimp only at hE_); subst hE_; first | (go_simp; done) | (go_simp; rfl)) ?_)
        (try simp only [Act.put, List.setIfInBounds_toArray, List.set_cons_zero, List.set_cons_succ])
        (refine mix_read (o := { dst := some 35, op := Op.move (Operand.tmp 5), type := 3, pos := "law.go:39", after := #[], guard := none }) rfl (by first | rfl | (simp [Region.wanted, yielded]; done)) (by intro w_ hE_; (try dsimp only at hE_); subst hE_; first | (go_simp; done) | (go_simp; rfl)) ?_)
        (try simp only [Act.put, List.setIfInBounds_toArray, List.set_cons_zero, List.set_cons_succ])
        (refine mix_read (o := { dst := some 36, op := Op.indexAddr 24 (Operand.tmp 34) (Operand.tmp 35), type := 0, pos := "law.go:39", after := #[{ on := 10, ground := Ground.data }, { on := 11, ground := Ground.data }], guard := none }) rfl (by first | rfl | (simp [Region.wanted, yielded]; done)) (by intro w_ hE_; (try dsimp only at hE_); subst hE_; first | (go_simp; done) | (go_simp; rfl)) ?_)
        (try simp only [Act.put, List.setIfInBounds_toArray, List.set_cons_zero, List.set_cons_succ])
        (refine mix_read (o := { dst := some 37, op := Op.load 5 (Operand.tmp 36), type := 5, pos := "law.go:39", after := #[{ on := 12, ground := Ground.data }], guard := none }) rfl (by first | rfl | (simp [Region.wanted, yielded]; done)) (by intro w_ hE_; (try dsimp only at hE_); subst hE_; first | (go_simp; done) | (go_simp; rfl)) ?_)
        (try simp only [Act.put, List.setIfInBounds_toArray, List.set_cons_zero, List.set_cons_succ])
        (refine mix_read (o := { dst := some 38, op := Op.binOp BinOp.eql 5 (Operand.tmp 37) (Operand.const (Value.int IntKind.u8 0)) 5, type := 4, pos := "law.go:39", after := #[{ on := 13, ground := Ground.data }], guard := none }) rfl (by first | rfl | (simp [Region.wanted, yielded]; done)) (by intro w_ hE_; (try dsimp only at hE_); subst hE_; first | (go_simp; done) | (go_simp; rfl)) ?_)
        (try simp only [Act.put, List.setIfInBounds_toArray, List.set_cons_zero, List.set_cons_succ])
        (refine mix_read (o := { dst := some 39, op := Op.binOp BinOp.neq 4 (Operand.tmp 33) (Operand.tmp 38) 4, type := 4, pos := "law.go:39", after := #[{ on := 9, ground := Ground.data }, { on := 14, ground := Ground.data }], guard := none }) rfl (by first | rfl | (simp [Region.wanted, yielded]; done)) (by intro w_ hE_; (try dsimp only at hE_); subst hE_; first | (go_simp; done) | (go_simp; rfl)) ?_)
        (try simp only [Act.put, List.setIfInBounds_toArray, List.set_cons_zero, List.set_cons_succ])
        refine mix_nil ?_
        go_wp2
        go_roundg (t.length - (i + 1))
        case measure => have := HI.out; omega
        case rel => exact ⟨i + 1, by simp, ⟨by omega⟩, HBw⟩
      · have he : ¬ x1 = x0 := fun e => hy (hrn.1 e)
        have b1 : (x1 == x0) = false := beq_eq_false_iff_ne.2 he
        have b2 : (y1 == 0) = false := beq_eq_false_iff_ne.2 hy
        clear hy he hrn
        go_wp2
        refine wp_region_mix (fun w_ w1_ => w_ = w1_) [(false, 0), (false, 1), (false, 2), (false, 3), (false, 4), (false, 5), (false, 6), (false, 7), (false, 8), (false, 9), (false, 10), (false, 11), (false, 12), (false, 13), (false, 14), (false, 15)] (by kernel_rfl) (by kernel_rfl) (fun _ => rfl) (fun h h' => h.trans h') (fun wd hhp_ hbw_ => ?_)
        have y1_ : wd.cell? ⟨ad.block, ad.off + (i + 1), none⟩ = some (.int .u8 x1) := by rw [← add_succ]; exact (hbw_.cell (World.block_lt_of_cell? wr _ hx1)).trans hx1
        have y0_ : wd.cell? (ad.add i) = some (.int .u8 x0) := (hbw_.cell (World.block_lt_of_cell? wr _ hx0)).trans hx0
        have yp_ : wd.cell? ⟨ad2.block, ad2.off + (i + 1), none⟩ = some (.int .u8 y1) := by rw [← add_succ]; exact (hbw_.cell (World.block_lt_of_cell? wr _ hp1)).trans hp1
        have HBw := Aside0.mk (below_step HB.out hbw_)
        clear hx1 hx0 hp1 hhp_ hbw_
        (refine mix_read (o := { dst := some 24, op := Op.move (Operand.tmp 0), type := 24, pos := "law.go:39", after := #[], guard := none }) rfl (by first | rfl | (simp [Region.wanted, yielded]; done)) (by intro w_ hE_; (try dsimp only at hE_); subst hE_; first | (go_simp; done) | (go_simp; rfl)) ?_)
        (try simp only [Act.put, List.setIfInBounds_toArray, List.set_cons_zero, List.set_cons_succ])
        (refine mix_read (o := { dst := some 25, op := Op.move (Operand.tmp 5), type := 3, pos := "law.go:39", after := #[], guard := none }) rfl (by first | rfl | (simp [Region.wanted, yielded]; done)) (by intro w_ hE_; (try dsimp only at hE_); subst hE_; first | (go_simp; done) | (go_simp; rfl)) ?_)
        (try simp only [Act.put, List.setIfInBounds_toArray, List.set_cons_zero, List.set_cons_succ])
        (refine mix_read (o := { dst := some 26, op := Op.indexAddr 24 (Operand.tmp 24) (Operand.tmp 25), type := 0, pos := "law.go:39", after := #[{ on := 0, ground := Ground.data }, { on := 1, ground := Ground.data }], guard := none }) rfl (by first | rfl | (simp [Region.wanted, yielded]; done)) (by intro w_ hE_; (try dsimp only at hE_); subst hE_; first | (go_simp; done) | (go_simp; rfl)) ?_)
        (try simp only [Act.put, List.setIfInBounds_toArray, List.set_cons_zero, List.set_cons_succ])
        (refine mix_read (o := { dst := some 27, op := Op.load 5 (Operand.tmp 26), type := 5, pos := "law.go:39", after := #[{ on := 2, ground := Ground.data }], guard := none }) rfl (by first | rfl | (simp [Region.wanted, yielded]; done)) (by intro w_ hE_; (try dsimp only at hE_); subst hE_; first | (go_simp; done) | (go_simp; rfl)) ?_)
        (try simp only [Act.put, List.setIfInBounds_toArray, List.set_cons_zero, List.set_cons_succ])
        (refine mix_read (o := { dst := some 28, op := Op.move (Operand.tmp 0), type := 24, pos := "law.go:39", after := #[], guard := none }) rfl (by first | rfl | (simp [Region.wanted, yielded]; done)) (by intro w_ hE_; (try dsimp only at hE_); subst hE_; first | (go_simp; done) | (go_simp; rfl)) ?_)
        (try simp only [Act.put, List.setIfInBounds_toArray, List.set_cons_zero, List.set_cons_succ])
        (refine mix_read (o := { dst := some 29, op := Op.move (Operand.tmp 5), type := 3, pos := "law.go:39", after := #[], guard := none }) rfl (by first | rfl | (simp [Region.wanted, yielded]; done)) (by intro w_ hE_; (try dsimp only at hE_); subst hE_; first | (go_simp; done) | (go_simp; rfl)) ?_)
        (try simp only [Act.put, List.setIfInBounds_toArray, List.set_cons_zero, List.set_cons_succ])
        (refine mix_read (o := { dst := some 30, op := Op.binOp BinOp.sub 3 (Operand.tmp 29) (Operand.const (Value.int IntKind.i64 1)) 3, type := 3, pos := "law.go:39", after := #[{ on := 5, ground := Ground.data }], guard := none }) rfl (by first | rfl | (simp [Region.wanted, yielded]; done)) (by intro w_ hE_; (try dsimp only at hE_); subst hE_; first | (go_simp; done) | (go_simp; rfl)) ?_)
        (try simp only [Act.put, List.setIfInBounds_toArray, List.set_cons_zero, List.set_cons_succ])
        (refine mix_read (o := { dst := some 31, op := Op.indexAddr 24 (Operand.tmp 28) (Operand.tmp 30), type := 0, pos := "law.go:39", after := #[{ on := 4, ground := Ground.data }, { on := 6, ground := Ground.data }], guard := none }) rfl (by first | rfl | (simp [Region.wanted, yielded]; done)) (by intro w_ hE_; (try dsimp only at hE_); subst hE_; first | (go_simp; done) | (go_simp; rfl)) ?_)
        (try simp only [Act.put, List.setIfInBounds_toArray, List.set_cons_zero, List.set_cons_succ])
        (refine mix_read (o := { dst := some 32, op := Op.load 5 (Operand.tmp 31), type := 5, pos := "law.go:39", after := #[{ on := 7, ground := Ground.data }], guard := none }) rfl (by first | rfl | (simp [Region.wanted, yielded]; done)) (by intro w_ hE_; (try dsimp only at hE_); subst hE_; first | (go_simp; done) | (go_simp; rfl)) ?_)
        (try simp only [Act.put, List.setIfInBounds_toArray, List.set_cons_zero, List.set_cons_succ])
        (refine mix_read (o := { dst := some 33, op := Op.binOp BinOp.eql 5 (Operand.tmp 27) (Operand.tmp 32) 5, type := 4, pos := "law.go:39", after := #[{ on := 3, ground := Ground.data }, { on := 8, ground := Ground.data }], guard := none }) rfl (by first | rfl | (simp [Region.wanted, yielded]; done)) (by intro w_ hE_; (try dsimp only at hE_); subst hE_; first | (go_simp; done) | (go_simp; rfl)) ?_)
        (try simp only [Act.put, List.setIfInBounds_toArray, List.set_cons_zero, List.set_cons_succ])
        (refine mix_read (o := { dst := some 34, op := Op.move (Operand.tmp 4), type := 24, pos := "law.go:39", after := #[], guard := none }) rfl (by first | rfl | (simp [Region.wanted, yielded]; done)) (by intro w_ hE_; (try dsimp only at hE_); subst hE_; first | (go_simp; done) | (go_simp; rfl)) ?_)
        (try simp only [Act.put, List.setIfInBounds_toArray, List.set_cons_zero, List.set_cons_succ])
        (refine mix_read (o := { dst := some 35, op := Op.move (Operand.tmp 5), type := 3, pos := "law.go:39", after := #[], guard := none }) rfl (by first | rfl | (simp [Region.wanted, yielded]; done)) (by intro w_ hE_; (try dsimp only at hE_); subst hE_; first | (go_simp; done) | (go_simp; rfl)) ?_)
        (try simp only [Act.put, List.setIfInBounds_toArray, List.set_cons_zero, List.set_cons_succ])
        (refine mix_read (o := { dst := some 36, op := Op.indexAddr 24 (Operand.tmp 34) (Operand.tmp 35), type := 0, pos := "law.go:39", after := #[{ on := 10, ground := Ground.data }, { on := 11, ground := Ground.data }], guard := none }) rfl (by first | rfl | (simp [Region.wanted, yielded]; done)) (by intro w_ hE_; (try dsimp only at hE_); subst hE_; first | (go_simp; done) | (go_simp; rfl)) ?_)
        (try simp only [Act.put, List.setIfInBounds_toArray, List.set_cons_zero, List.set_cons_succ])
        (refine mix_read (o := { dst := some 37, op := Op.load 5 (Operand.tmp 36), type := 5, pos := "law.go:39", after := #[{ on := 12, ground := Ground.data }], guard := none }) rfl (by first | rfl | (simp [Region.wanted, yielded]; done)) (by intro w_ hE_; (try dsimp only at hE_); subst hE_; first | (go_simp; done) | (go_simp; rfl)) ?_)
        (try simp only [Act.put, List.setIfInBounds_toArray, List.set_cons_zero, List.set_cons_succ])
        (refine mix_read (o := { dst := some 38, op := Op.binOp BinOp.eql 5 (Operand.tmp 37) (Operand.const (Value.int IntKind.u8 0)) 5, type := 4, pos := "law.go:39", after := #[{ on := 13, ground := Ground.data }], guard := none }) rfl (by first | rfl | (simp [Region.wanted, yielded]; done)) (by intro w_ hE_; (try dsimp only at hE_); subst hE_; first | (go_simp; done) | (go_simp; rfl)) ?_)
        (try simp only [Act.put, List.setIfInBounds_toArray, List.set_cons_zero, List.set_cons_succ])
        (refine mix_read (o := { dst := some 39, op := Op.binOp BinOp.neq 4 (Operand.tmp 33) (Operand.tmp 38) 4, type := 4, pos := "law.go:39", after := #[{ on := 9, ground := Ground.data }, { on := 14, ground := Ground.data }], guard := none }) rfl (by first | rfl | (simp [Region.wanted, yielded]; done)) (by intro w_ hE_; (try dsimp only at hE_); subst hE_; first | (go_simp; done) | (go_simp; rfl)) ?_)
        (try simp only [Act.put, List.setIfInBounds_toArray, List.set_cons_zero, List.set_cons_succ])
        refine mix_nil ?_
        go_wp2
        go_roundg (t.length - (i + 1))
        case measure => have := HI.out; omega
        case rel => exact ⟨i + 1, by simp, ⟨by omega⟩, HBw⟩
    · go_wp2
      go_ret
      exact ⟨rfl, below_step HB2.out HB.out⟩
end Go.Proofs.Ytpgbapbmikneiaa.FrWalk
