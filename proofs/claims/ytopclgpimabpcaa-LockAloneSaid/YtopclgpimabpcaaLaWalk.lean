/- LockAll: locks are granted in order, readers together, writers alone; who leaves lets the next ones in: it answers true. No condition. -/
import Derived.Test.YtopclgpimabpcaaProg
import Derived.Below
import Derived.Deep.Draws
import Derived.Deep.AppendLies
import Derived.Maps.AppendAt
import Derived.OwnWalk
import Derived.Laws.BytesArg
import Derived.Laws.MakeOwn
import Derived.Laws.OwnMore
import Derived.Deep.OwnRows
import Derived.Tactics
import Derived.Lib.ConvBytes
import Derived.Laws.Slices
import Derived.WalkKit
import Derived.KernelRfl
import Derived.RowKit3
import Derived.Deep.LoopGhost
import Derived.Deep.QuietTactic
import Derived.BigQuiet
import Derived.WideLaws
import Derived.Deep.DeepCutAuto
import Derived.Deep.CutBlock
import Derived.Deep.RegionHeld3
import Derived.Laws.Rows
import Derived.Lib.AppendStr
import Derived.ArgAppend
import Derived.Laws.IdiomCopy
import Derived.OrdersHeld
import Derived.Laws.BitsLemmas
import Derived.RowKit
import Derived.Deep.DeepCutAuto
import Derived.WalkSpells
import Derived.Outline
import Derived.Test.YtopclgpimabpcaaWWords
import Derived.Test.YtopclgpimabpcaaWLast
import Derived.Test.YtopclgpimabpcaaWMore
import Derived.Test.YtopclgpimabpcaaWArr
import Derived.Test.YtopclgpimabpcaaWTab
import Derived.Test.YtopclgpimabpcaaWZeros
import Derived.Test.YtopclgpimabpcaaWRepsOne
import Derived.Test.YtopclgpimabpcaaLaP
namespace Go.Proofs.Ytopclgpimabpcaa.LaWalk
open Go.RowKit Go.Proofs.YtopclgpimabpcaaW.PrintWords Go.Proofs.YtopclgpimabpcaaW.PrintLast Go.Proofs.YtopclgpimabpcaaW.PrintMore Go.Proofs.Ytopclgpimabpcaa.Mix Go.Proofs.Ytopclgpimabpcaa.MixB Go.Proofs.Ytopclgpimabpcaa.MixT Go.Proofs.Ytopclgpimabpcaa.LkA Go.Proofs.Ytopclgpimabpcaa.LkB Go.Proofs.Ytopclgpimabpcaa.LkC Go.Proofs.Ytopclgpimabpcaa.LkD Go.Proofs.Ytopclgpimabpcaa.LkE Go.Proofs.Ytopclgpimabpcaa.LkF Go.Proofs.Ytopclgpimabpcaa.LkG Go.Proofs.Ytopclgpimabpcaa.LrA Go.Proofs.Ytopclgpimabpcaa.LrB Go.Proofs.Ytopclgpimabpcaa.LrC Go.Proofs.Ytopclgpimabpcaa.LrD Go.Proofs.Ytopclgpimabpcaa.LaP
set_option linter.unusedSimpArgs false
set_option linter.unusedVariables false
attribute [local go_sem] max2_int min2_int max_two min_two

abbrev LT : Nat := 72
abbrev LE : Nat := 76
abbrev KOp : Kd (Bool × Bool × Int) := Kd.pair Kd.bool (Kd.pair Kd.bool (Kd.int .i64))
theorem op_at {w : World} {A : Option Addr} {n : Nat} {os : List (Bool × Bool × Int)} (h : KOp.C w A n os) (i : Nat) (hi : i < n) : ∃ ad, A = some ad ∧ w.cell? (ad.add (i * 3)) = some (.bool (os.getD i (false, false, 0)).1) ∧ w.cell? ⟨(ad.add (i * 3)).block, (ad.add (i * 3)).off + 1, none⟩ = some (.bool (os.getD i (false, false, 0)).2.1) ∧ w.cell? ⟨(ad.add (i * 3)).block, (ad.add (i * 3)).off + 2, none⟩ = some (.int .i64 (os.getD i (false, false, 0)).2.2) := by
  obtain ⟨ad, cs, e1, hs, ⟨c0, c1, e2, h0, d0, d1, e3, h1, h2⟩, hcell⟩ := ReadsRow.get_ h (false, false, 0) (i : Int) (by omega) (by omega)
  rw [Int.toNat_natCast] at h0 h1 h2 hcell
  have h0' : c0 = [.bool (os.getD i (false, false, 0)).1] := h0
  have h1' : d0 = [.bool (os.getD i (false, false, 0)).2.1] := h1
  have h2' : d1 = [.int .i64 (os.getD i (false, false, 0)).2.2] := h2
  subst h0' h1' h2'
  subst e3
  subst e2
  have hz : KOp.sz = 3 := rfl
  rw [hz] at hcell
  have q1 := hcell 1 _ rfl
  have q2 := hcell 2 _ rfl
  rw [add_field ad (i * 3) 1 (by decide)] at q1
  rw [add_field ad (i * 3) 2 (by decide)] at q2
  exact ⟨ad, e1, hcell 0 _ rfl, q1, q2⟩
set_option maxRecDepth 100000 in
set_option maxHeartbeats 4000000 in
theorem walk (A : Option Addr) (c : Nat) (l : List (Bool × Bool × Int)) (w : World) (hr : KOp.C w A l.length l) (hc : l.length ≤ c) (hg : l.length ≤ maxLen ∧ ∀ p ∈ l, True ∧ True ∧ (Lit.int .i64 p.2.2).wf = true) :
    Calls Try.prog 7 #[.slice A l.length c] w fun e w' => e = .returned (.bool true) ∧ Below w.heap.size w w' := by
  have HR := Aside0.mk hr
  have hll : l.length ≤ 9223372036854775807 := by have := hg.1; unfold maxLen at this; omega
  clear hr hc hg
  go_enter Try.func7, Try.ntmps7
  go_wp2_with fail
  refine (begun_calls w).mono ?_
  rintro e_ w1 ⟨rfl, hb⟩
  have HB1 := Aside0.mk hb
  clear hb
  go_wp2_with fail
  refine (new_calls w1).mono ?_
  rintro e_ w2 ⟨rfl, hl, hb⟩
  obtain ⟨p, hp⟩ : ∃ q, w1.heap.size = q := ⟨_, rfl⟩
  have HB2 := Aside0.mk (below_step HB1.out hb)
  rw [hp] at hl ⊢
  have HPW : Aside0 (w.heap.size ≤ p) := ⟨by have := HB1.out.size; omega⟩
  have hba := (Below.refl w2.heap.size w2).alloc (Nat.le_refl _) (.cells #[.slice none 0 0, .slice none 0 0] 48 (0, 0))
  have hlr : LkAt RT RE (w2.alloc (.cells #[.slice none 0 0, .slice none 0 0] 48 (0, 0))) w2.heap.size w2.heap.size [] [] := ⟨_, _, Nat.le_refl _, blk_new w2 _, Kd.Q_nil _ _ _ _ _, Kd.Q_nil _ _ _ _ _⟩
  obtain ⟨w3, hw3⟩ : ∃ q, w2.alloc (.cells #[.slice none 0 0, .slice none 0 0] 48 (0, 0)) = q := ⟨_, rfl⟩
  obtain ⟨r, hrr⟩ : ∃ q, w2.heap.size = q := ⟨_, rfl⟩
  rw [hw3] at hba hlr
  have HL3 := Aside0.mk (lk_below hl hba)
  have HB3 := Aside0.mk (below_step HB2.out hba)
  have HPR : Aside0 (w.heap.size ≤ r) := ⟨by have := HB2.out.size; omega⟩
  rw [hrr] at hlr
  have HR3 := Aside0.mk hlr
  clear hl hb hp HB1 hba hlr
  go_wp2_with fail
  clear hw3 hrr
  go_loopg [6, 7] 60 (fun q v6 v7 w' => ∃ (i : Nat) (s : LS), v6 = .int .i64 (i : Int) ∧ Aside0 (i + q = 60 ∧ Okl s i) ∧ Aside0 (LkAt LT LE w' p p s.1 s.2) ∧ Aside0 (LkAt RT RE w' r r s.1 s.2) ∧ Aside0 (Below w.heap.size w w'))
  case atStart => exact ⟨0, ([], []), rfl, ⟨by omega, okl_nil⟩, HL3, HR3, HB3⟩
  case round =>
    clear HL3 HR3 HB3 HB2
    obtain ⟨i, s, rfl, HI, HL, HRL, HB⟩ := hrel
    have hi := HI.out
    by_cases hlt : i < l.length ∧ i < 60
    · obtain ⟨g, rfl⟩ : ∃ g, gk = g + 1 := ⟨gk - 1, by omega⟩
      obtain ⟨ad, e1, q0, q1, q2⟩ := op_at (Kd.C_below HR.out HB.out) i hlt.1
      subst e1
      generalize l.getD i (false, false, 0) = o at *
      obtain ⟨lv, wt, who⟩ := o
      have q0' : wr.cell? (ad.add (i * 3)) = some (.bool lv) := q0
      have q1' : wr.cell? ⟨(ad.add (i * 3)).block, (ad.add (i * 3)).off + 1, none⟩ = some (.bool wt) := q1
      have q2' : wr.cell? ⟨(ad.add (i * 3)).block, (ad.add (i * 3)).off + 2, none⟩ = some (.int .i64 who) := q2
      have k0 : ((i : Int) < (l.length : Int)) = True := eq_true (by omega)
      have k1 : ((i : Int) < 60) = True := eq_true (by omega)
      have kw : IntKind.i64.wrap ((i : Int) + 1) = ((i + 1 : Nat) : Int) := by rw [IntKind.wrap_i64]; omega
      have hba := (Below.refl wr.heap.size wr).alloc (Nat.le_refl _) (.cells #[.bool lv, .bool wt, .int .i64 who] 50 (0, 0))
      have hx7 := blk_new wr (.cells #[.bool lv, .bool wt, .int .i64 who] 50 (0, 0))
      obtain ⟨w7, hw7⟩ : ∃ q, wr.alloc (.cells #[.bool lv, .bool wt, .int .i64 who] 50 (0, 0)) = q := ⟨_, rfl⟩
      obtain ⟨x, hx⟩ : ∃ q, wr.heap.size = q := ⟨_, rfl⟩
      rw [hw7] at hba hx7
      have HL0 := Aside0.mk (lk_below HL.out hba)
      have HR0 := Aside0.mk (lk_below HRL.out hba)
      have HB0 := Aside0.mk (below_step HB.out hba)
      rw [hx] at hx7
      have HX0 := Aside0.mk hx7
      have HOK := Aside0.mk hi.2
      have HSZ : Aside0 (s.1.length + s.2.length ≤ 100000) := ⟨by have := hi.2.2.2; omega⟩
      have HLN : Aside0 ((leaveL s who).2.length ≤ 100000) := ⟨by have := leave_len s who; have := HSZ.out; omega⟩
      have xx0 : w7.cell? ⟨x, 0, none⟩ = some (.bool lv) := blk_cell hx7 0
      clear q0 q1 q2 hba hx7 hi HL HRL HB
      go_upto_if 29 with fail
      clear xx0 hw7 hx q0' q1' q2'
      obtain ⟨hs, ws⟩ := s
      simp only at HL0 HR0 HSZ
      go_cut [] (fun wx => ∃ s1 : LS, Aside0 (Okl s1 (i + 1)) ∧ Aside0 (LkAt LT LE wx p p s1.1 s1.2) ∧ Aside0 (LkAt RT RE wx r r s1.1 s1.2) ∧ Aside0 (wx.heap[x]? = some (.cells #[.bool lv, .bool wt, .int .i64 who] 50 (0, 0))) ∧ Aside0 (Below w.heap.size w wx))
      case first =>
        cases lv with
        | true =>
          go_upto_region 11 with fail
          refine wp_region_tree (fun w_ w1_ => w1_.heap[x]? = w_.heap[x]?) (.rd 0 (.rd 1 (.rd 2 (.rd 4 (.rd 5 (.rd 6 (.ef 3 (.ef 7 (.ef 8 (.rd 9 .nil)))))))))) (by kernel_rfl) (by kernel_rfl) (fun _ => rfl) (fun h h' => h'.trans h) (fun wd hhp_ hbw_ => ?_)
          have HLwd := Aside0.mk (lk_below HL0.out hbw_)
          have HRwd := Aside0.mk (lk_below HR0.out hbw_)
          have HXwd := Aside0.mk (blk_below HX0.out hbw_)
          have HBwd := Aside0.mk (below_step HB0.out hbw_)
          clear hhp_ hbw_
          (refine t_read (o := { dst := some 30, op := Op.move (Operand.tmp 4), type := 43, pos := "law.go:37", after := #[], guard := none }) rfl (by first | rfl | (simp [Region.wanted, yielded]; done)) (by intro w_ hE_; (try dsimp only at hE_); first | (go_simp; done) | (go_simp; rfl)) ?_)
          (try simp only [Act.put, List.setIfInBounds_toArray, List.set_cons_zero, List.set_cons_succ])
          (refine t_read (o := { dst := some 31, op := Op.fieldAddr 50 (Operand.tmp 7) 2, type := 0, pos := "law.go:37", after := #[], guard := none }) rfl (by first | rfl | (simp [Region.wanted, yielded]; done)) (by intro w_ hE_; (try dsimp only at hE_); first | (go_simp; done) | (go_simp; rfl)) ?_)
          (try simp only [Act.put, List.setIfInBounds_toArray, List.set_cons_zero, List.set_cons_succ])
          (refine t_read (o := { dst := some 32, op := Op.load 3 (Operand.tmp 31), type := 3, pos := "law.go:37", after := #[{ on := 1, ground := Ground.data }], guard := none }) rfl (by first | rfl | (simp [Region.wanted, yielded]; done)) (by intro w_ hE_; (try dsimp only at hE_); have hx_ := hE_.trans HXwd.out; have zz0_ := blk_cell hx_ 0; have zz1_ : w_.cell? ⟨x, 1, none⟩ = some (.bool wt) := blk_cell hx_ 1; have zz2_ : w_.cell? ⟨x, 2, none⟩ = some (.int .i64 who) := blk_cell hx_ 2; clear hE_ zz0_; first | (go_simp; done) | (go_simp; rfl)) ?_)
          (try simp only [Act.put, List.setIfInBounds_toArray, List.set_cons_zero, List.set_cons_succ])
          (refine t_read (o := { dst := some 34, op := Op.move (Operand.tmp 5), type := 45, pos := "law.go:37", after := #[], guard := none }) rfl (by first | rfl | (simp [Region.wanted, yielded]; done)) (by intro w_ hE_; (try dsimp only at hE_); first | (go_simp; done) | (go_simp; rfl)) ?_)
          (try simp only [Act.put, List.setIfInBounds_toArray, List.set_cons_zero, List.set_cons_succ])
          (refine t_read (o := { dst := some 35, op := Op.fieldAddr 50 (Operand.tmp 7) 2, type := 0, pos := "law.go:37", after := #[], guard := none }) rfl (by first | rfl | (simp [Region.wanted, yielded]; done)) (by intro w_ hE_; (try dsimp only at hE_); first | (go_simp; done) | (go_simp; rfl)) ?_)
          (try simp only [Act.put, List.setIfInBounds_toArray, List.set_cons_zero, List.set_cons_succ])
          (refine t_read (o := { dst := some 36, op := Op.load 3 (Operand.tmp 35), type := 3, pos := "law.go:37", after := #[{ on := 5, ground := Ground.data }], guard := none }) rfl (by first | rfl | (simp [Region.wanted, yielded]; done)) (by intro w_ hE_; (try dsimp only at hE_); have hx_ := hE_.trans HXwd.out; have zz0_ := blk_cell hx_ 0; have zz1_ : w_.cell? ⟨x, 1, none⟩ = some (.bool wt) := blk_cell hx_ 1; have zz2_ : w_.cell? ⟨x, 2, none⟩ = some (.int .i64 who) := blk_cell hx_ 2; clear hE_ zz0_; first | (go_simp; done) | (go_simp; rfl)) ?_)
          (try simp only [Act.put, List.setIfInBounds_toArray, List.set_cons_zero, List.set_cons_succ])
          refine t_ef ?_
          refine s_call (o := { dst := some 33, op := Op.call { callee := Callee.value (Operand.func 24), args := #[Operand.tmp 30, Operand.tmp 32], argTypes := #[43, 3] }, type := 27, pos := "law.go:37", after := #[{ on := 0, ground := Ground.data }, { on := 2, ground := Ground.data }], guard := none }) rfl (by first | rfl | (simp [Region.wanted, yielded]; done)) (by first | (go_simp; done) | (go_simp; exact ⟨rfl, rfl⟩) | (go_simp; rfl)) ?_
          refine (leave_calls HLwd.out who HSZ.out).mono ?_
          rintro e_ wa ⟨vwa, rfl, ho, hl, hb, hk⟩
          obtain ⟨Awa, cwa, rfl⟩ := Kd.R_slice ho
          have HVwa := Aside0.mk ho
          have HLwa := Aside0.mk hl
          have HRwa := Aside0.mk (lk_kt ⟨by decide, by decide⟩ ⟨by decide, by decide⟩ HRwd.out hk)
          have HXwa := Aside0.mk (hk x _ HXwd.out (fun cs t e => by injection e with _ e2; subst e2; decide))
          have HBwa := Aside0.mk (HBwd.out.trans (hb.mono HPW.out))
          refine ⟨_, rfl, HXwa.out.trans HXwd.out.symm, ?_⟩
          clear ho hl hb hk
          (try simp only [Act.put, List.setIfInBounds_toArray, List.set_cons_zero, List.set_cons_succ])
          refine t_ef ?_
          refine s_call (o := { dst := some 37, op := Op.call { callee := Callee.value (Operand.func 25), args := #[Operand.tmp 34, Operand.tmp 36], argTypes := #[45, 3] }, type := 27, pos := "law.go:37", after := #[{ on := 4, ground := Ground.data }, { on := 6, ground := Ground.data }, { on := 3, ground := Ground.chain }], guard := none }) rfl (by first | rfl | (simp [Region.wanted, yielded]; done)) (by first | (go_simp; done) | (go_simp; exact ⟨rfl, rfl⟩) | (go_simp; rfl)) ?_
          refine (rleave_calls HRwa.out who HSZ.out HOK.out.1 HOK.out.2.1).mono ?_
          rintro e_ wb ⟨vwb, rfl, ho, hl, hb, hk⟩
          obtain ⟨Awb, cwb, rfl⟩ := Kd.R_slice ho
          have HVwb := Aside0.mk ho
          have HRwb := Aside0.mk hl
          have HLwb := Aside0.mk (lk_kt ⟨by decide, by decide⟩ ⟨by decide, by decide⟩ HLwa.out hk)
          have HXwb := Aside0.mk (hk x _ HXwa.out (fun cs t e => by injection e with _ e2; subst e2; decide))
          have HBwb := Aside0.mk (HBwa.out.trans (hb.mono HPR.out))
          have HWwb := Aside0.mk (R_kt rfl (by decide) (by decide) HVwa.out hk)
          refine ⟨_, rfl, HXwb.out.trans HXwa.out.symm, ?_⟩
          clear ho hl hb hk
          (try simp only [Act.put, List.setIfInBounds_toArray, List.set_cons_zero, List.set_cons_succ])
          refine t_ef ?_
          refine s_call (o := { dst := some 38, op := Op.call { callee := Callee.value (Operand.func 23), args := #[Operand.tmp 33, Operand.tmp 37], argTypes := #[27, 27] }, type := 4, pos := "law.go:37", after := #[{ on := 3, ground := Ground.data }, { on := 7, ground := Ground.data }, { on := 7, ground := Ground.chain }], guard := none }) rfl (by first | rfl | (simp [Region.wanted, yielded]; done)) (by first | (go_simp; done) | (go_simp; exact ⟨rfl, rfl⟩) | (go_simp; rfl)) ?_
          refine (ints_same (Kd.R_reads' HWwb.out).2.2 (Kd.R_reads' HVwb.out).2.2 (by have := HLN.out; omega)).mono ?_
          rintro e_ wf ⟨rfl, hb⟩
          have HLwf := Aside0.mk (lk_below HLwb.out hb)
          have HRwf := Aside0.mk (lk_below HRwb.out hb)
          have HXwf := Aside0.mk (blk_below HXwb.out hb)
          have HBwf := Aside0.mk (below_step HBwb.out hb)
          refine ⟨_, rfl, HXwf.out.trans HXwb.out.symm, ?_⟩
          clear hb
          (try simp only [Act.put, List.setIfInBounds_toArray, List.set_cons_zero, List.set_cons_succ])
          (refine t_read (o := { dst := some 39, op := Op.unOp UnOp.not 4 (Operand.tmp 38), type := 4, pos := "law.go:37", after := #[{ on := 8, ground := Ground.data }], guard := none }) rfl (by first | rfl | (simp [Region.wanted, yielded]; done)) (by intro w_ hE_; (try dsimp only at hE_); first | (go_simp; done) | (go_simp; rfl)) ?_)
          (try simp only [Act.put, List.setIfInBounds_toArray, List.set_cons_zero, List.set_cons_succ])
          refine t_nil ?_
          go_wp2_with fail
          go_meet
          exact ⟨_, ⟨okl_mono (okl_leave HOK.out who) (Nat.le_succ i)⟩, HLwf, HRwf, HXwf, HBwf⟩
        | false =>
          go_upto_region 13 with fail
          have kb : ((askL (hs, ws) who wt).1 != (askL (hs, ws) who wt).1) = false := by simp
          refine wp_region_tree (fun w_ w1_ => w1_.heap[x]? = w_.heap[x]?) (.rd 0 (.rd 1 (.rd 2 (.rd 3 (.rd 4 (.rd 6 (.rd 7 (.rd 8 (.rd 9 (.rd 10 (.ef 5 (.ef 11 (.rd 12 .nil))))))))))))) (by kernel_rfl) (by kernel_rfl) (fun _ => rfl) (fun h h' => h'.trans h) (fun wd hhp_ hbw_ => ?_)
          have HLwd := Aside0.mk (lk_below HL0.out hbw_)
          have HRwd := Aside0.mk (lk_below HR0.out hbw_)
          have HXwd := Aside0.mk (blk_below HX0.out hbw_)
          have HBwd := Aside0.mk (below_step HB0.out hbw_)
          clear hhp_ hbw_
          (refine t_read (o := { dst := some 40, op := Op.move (Operand.tmp 4), type := 43, pos := "law.go:40", after := #[], guard := none }) rfl (by first | rfl | (simp [Region.wanted, yielded]; done)) (by intro w_ hE_; (try dsimp only at hE_); first | (go_simp; done) | (go_simp; rfl)) ?_)
          (try simp only [Act.put, List.setIfInBounds_toArray, List.set_cons_zero, List.set_cons_succ])
          (refine t_read (o := { dst := some 41, op := Op.fieldAddr 50 (Operand.tmp 7) 2, type := 0, pos := "law.go:40", after := #[], guard := none }) rfl (by first | rfl | (simp [Region.wanted, yielded]; done)) (by intro w_ hE_; (try dsimp only at hE_); first | (go_simp; done) | (go_simp; rfl)) ?_)
          (try simp only [Act.put, List.setIfInBounds_toArray, List.set_cons_zero, List.set_cons_succ])
          (refine t_read (o := { dst := some 42, op := Op.load 3 (Operand.tmp 41), type := 3, pos := "law.go:40", after := #[{ on := 1, ground := Ground.data }], guard := none }) rfl (by first | rfl | (simp [Region.wanted, yielded]; done)) (by intro w_ hE_; (try dsimp only at hE_); have hx_ := hE_.trans HXwd.out; have zz0_ := blk_cell hx_ 0; have zz1_ : w_.cell? ⟨x, 1, none⟩ = some (.bool wt) := blk_cell hx_ 1; have zz2_ : w_.cell? ⟨x, 2, none⟩ = some (.int .i64 who) := blk_cell hx_ 2; clear hE_ zz0_; first | (go_simp; done) | (go_simp; rfl)) ?_)
          (try simp only [Act.put, List.setIfInBounds_toArray, List.set_cons_zero, List.set_cons_succ])
          (refine t_read (o := { dst := some 43, op := Op.fieldAddr 50 (Operand.tmp 7) 1, type := 0, pos := "law.go:40", after := #[], guard := none }) rfl (by first | rfl | (simp [Region.wanted, yielded]; done)) (by intro w_ hE_; (try dsimp only at hE_); first | (go_simp; done) | (go_simp; rfl)) ?_)
          (try simp only [Act.put, List.setIfInBounds_toArray, List.set_cons_zero, List.set_cons_succ])
          (refine t_read (o := { dst := some 44, op := Op.load 4 (Operand.tmp 43), type := 4, pos := "law.go:40", after := #[{ on := 3, ground := Ground.data }], guard := none }) rfl (by first | rfl | (simp [Region.wanted, yielded]; done)) (by intro w_ hE_; (try dsimp only at hE_); have hx_ := hE_.trans HXwd.out; have zz0_ := blk_cell hx_ 0; have zz1_ : w_.cell? ⟨x, 1, none⟩ = some (.bool wt) := blk_cell hx_ 1; have zz2_ : w_.cell? ⟨x, 2, none⟩ = some (.int .i64 who) := blk_cell hx_ 2; clear hE_ zz0_; first | (go_simp; done) | (go_simp; rfl)) ?_)
          (try simp only [Act.put, List.setIfInBounds_toArray, List.set_cons_zero, List.set_cons_succ])
          (refine t_read (o := { dst := some 46, op := Op.move (Operand.tmp 5), type := 45, pos := "law.go:40", after := #[], guard := none }) rfl (by first | rfl | (simp [Region.wanted, yielded]; done)) (by intro w_ hE_; (try dsimp only at hE_); first | (go_simp; done) | (go_simp; rfl)) ?_)
          (try simp only [Act.put, List.setIfInBounds_toArray, List.set_cons_zero, List.set_cons_succ])
          (refine t_read (o := { dst := some 47, op := Op.fieldAddr 50 (Operand.tmp 7) 2, type := 0, pos := "law.go:40", after := #[], guard := none }) rfl (by first | rfl | (simp [Region.wanted, yielded]; done)) (by intro w_ hE_; (try dsimp only at hE_); first | (go_simp; done) | (go_simp; rfl)) ?_)
          (try simp only [Act.put, List.setIfInBounds_toArray, List.set_cons_zero, List.set_cons_succ])
          (refine t_read (o := { dst := some 48, op := Op.load 3 (Operand.tmp 47), type := 3, pos := "law.go:40", after := #[{ on := 7, ground := Ground.data }], guard := none }) rfl (by first | rfl | (simp [Region.wanted, yielded]; done)) (by intro w_ hE_; (try dsimp only at hE_); have hx_ := hE_.trans HXwd.out; have zz0_ := blk_cell hx_ 0; have zz1_ : w_.cell? ⟨x, 1, none⟩ = some (.bool wt) := blk_cell hx_ 1; have zz2_ : w_.cell? ⟨x, 2, none⟩ = some (.int .i64 who) := blk_cell hx_ 2; clear hE_ zz0_; first | (go_simp; done) | (go_simp; rfl)) ?_)
          (try simp only [Act.put, List.setIfInBounds_toArray, List.set_cons_zero, List.set_cons_succ])
          (refine t_read (o := { dst := some 49, op := Op.fieldAddr 50 (Operand.tmp 7) 1, type := 0, pos := "law.go:40", after := #[], guard := none }) rfl (by first | rfl | (simp [Region.wanted, yielded]; done)) (by intro w_ hE_; (try dsimp only at hE_); first | (go_simp; done) | (go_simp; rfl)) ?_)
          (try simp only [Act.put, List.setIfInBounds_toArray, List.set_cons_zero, List.set_cons_succ])
          (refine t_read (o := { dst := some 50, op := Op.load 4 (Operand.tmp 49), type := 4, pos := "law.go:40", after := #[{ on := 9, ground := Ground.data }], guard := none }) rfl (by first | rfl | (simp [Region.wanted, yielded]; done)) (by intro w_ hE_; (try dsimp only at hE_); have hx_ := hE_.trans HXwd.out; have zz0_ := blk_cell hx_ 0; have zz1_ : w_.cell? ⟨x, 1, none⟩ = some (.bool wt) := blk_cell hx_ 1; have zz2_ : w_.cell? ⟨x, 2, none⟩ = some (.int .i64 who) := blk_cell hx_ 2; clear hE_ zz0_; first | (go_simp; done) | (go_simp; rfl)) ?_)
          (try simp only [Act.put, List.setIfInBounds_toArray, List.set_cons_zero, List.set_cons_succ])
          refine t_ef ?_
          refine s_call (o := { dst := some 45, op := Op.call { callee := Callee.value (Operand.func 26), args := #[Operand.tmp 40, Operand.tmp 42, Operand.tmp 44], argTypes := #[43, 3, 4] }, type := 4, pos := "law.go:40", after := #[{ on := 0, ground := Ground.data }, { on := 2, ground := Ground.data }, { on := 4, ground := Ground.data }], guard := none }) rfl (by first | rfl | (simp [Region.wanted, yielded]; done)) (by first | (go_simp; done) | (go_simp; exact ⟨rfl, rfl⟩) | (go_simp; rfl)) ?_
          refine (ask_calls HLwd.out who wt HSZ.out).mono ?_
          rintro e_ wa ⟨rfl, hl, hb, hk⟩
          have HLwa := Aside0.mk hl
          have HRwa := Aside0.mk (lk_kt ⟨by decide, by decide⟩ ⟨by decide, by decide⟩ HRwd.out hk)
          have HXwa := Aside0.mk (hk x _ HXwd.out (fun cs t e => by injection e with _ e2; subst e2; decide))
          have HBwa := Aside0.mk (HBwd.out.trans (hb.mono HPW.out))
          refine ⟨_, rfl, HXwa.out.trans HXwd.out.symm, ?_⟩
          clear hl hb hk
          (try simp only [Act.put, List.setIfInBounds_toArray, List.set_cons_zero, List.set_cons_succ])
          refine t_ef ?_
          refine s_call (o := { dst := some 51, op := Op.call { callee := Callee.value (Operand.func 27), args := #[Operand.tmp 46, Operand.tmp 48, Operand.tmp 50], argTypes := #[45, 3, 4] }, type := 4, pos := "law.go:40", after := #[{ on := 6, ground := Ground.data }, { on := 8, ground := Ground.data }, { on := 10, ground := Ground.data }, { on := 5, ground := Ground.chain }], guard := none }) rfl (by first | rfl | (simp [Region.wanted, yielded]; done)) (by first | (go_simp; done) | (go_simp; exact ⟨rfl, rfl⟩) | (go_simp; rfl)) ?_
          refine (rask_calls HRwa.out who wt HSZ.out (uni_may HOK.out.1 wt)).mono ?_
          rintro e_ wb ⟨rfl, hl, hb, hk⟩
          have HRwb := Aside0.mk hl
          have HLwb := Aside0.mk (lk_kt ⟨by decide, by decide⟩ ⟨by decide, by decide⟩ HLwa.out hk)
          have HXwb := Aside0.mk (hk x _ HXwa.out (fun cs t e => by injection e with _ e2; subst e2; decide))
          have HBwb := Aside0.mk (HBwa.out.trans (hb.mono HPR.out))
          refine ⟨_, rfl, HXwb.out.trans HXwa.out.symm, ?_⟩
          clear hl hb hk
          (try simp only [Act.put, List.setIfInBounds_toArray, List.set_cons_zero, List.set_cons_succ])
          (refine t_read (o := { dst := some 52, op := Op.binOp BinOp.neq 4 (Operand.tmp 45) (Operand.tmp 51) 4, type := 4, pos := "law.go:40", after := #[{ on := 5, ground := Ground.data }, { on := 11, ground := Ground.data }], guard := none }) rfl (by first | rfl | (simp [Region.wanted, yielded]; done)) (by intro w_ hE_; (try dsimp only at hE_); first | (go_simp; done) | (go_simp; rfl)) ?_)
          (try simp only [Act.put, List.setIfInBounds_toArray, List.set_cons_zero, List.set_cons_succ])
          refine t_nil ?_
          go_wp2_with fail
          go_meet
          exact ⟨_, ⟨okl_ask HOK.out who wt⟩, HLwb, HRwb, HXwb, HBwb⟩
      case rest =>
        obtain ⟨s1, HOK1, HL1, HR1, HX1, HB1⟩ := hcut
        clear HL0 HR0 HX0 HB0 HSZ HLN HOK
        obtain ⟨hs, ws⟩ := s1
        simp only at HL1 HR1
        have HSZ : Aside0 (hs.length + ws.length ≤ 100000) := ⟨by have := HOK1.out.2.2; simp only at this; omega⟩
        have HL0 := HL1
        have HR0 := HR1
        have HX0 := HX1
        have HB0 := HB1
        have HWT1 := Aside0.mk (fun w (h : LkAt LT LE w p p hs ws) => waiting_calls h (by have := HSZ.out; omega))
        have HWT2 := Aside0.mk (fun w (h : LkAt RT RE w r r hs ws) => rwaiting_calls h (by have := HSZ.out; omega))
        obtain ⟨ids, hid⟩ : ∃ q, ws.map Prod.fst = q := ⟨_, rfl⟩
        have HIL : Aside0 (ids.length ≤ 1000000) := ⟨by rw [← hid, List.length_map]; have := HSZ.out; omega⟩
        rw [hid] at HWT1 HWT2
        clear hid
        go_upto_region 15 with fail
        go_cut [69] (fun s69 wx => s69 = .bool false ∧ Aside0 (LkAt LT LE wx p p hs ws) ∧ Aside0 (LkAt RT RE wx r r hs ws) ∧ Aside0 (Below w.heap.size w wx))
        case first =>
          have kb : (isIn who hs != isIn who hs) = false := by simp
          refine wp_region_tree (fun w_ w1_ => w1_.heap[x]? = w_.heap[x]?) (.rd 0 (.rd 1 (.rd 2 (.rd 4 (.rd 5 (.rd 6 (.ef 3 (.ef 7 (.rd 8 (.rd 9 (.rd 10 (.rd 12 (.ef 11 (.ef 13 (.ef 14 (.rd 15 (.rd 16 .nil))))))))))))))))) (by kernel_rfl) (by kernel_rfl) (fun _ => rfl) (fun h h' => h'.trans h) (fun wd hhp_ hbw_ => ?_)
          have HLwd := Aside0.mk (lk_below HL0.out hbw_)
          have HRwd := Aside0.mk (lk_below HR0.out hbw_)
          have HXwd := Aside0.mk (blk_below HX0.out hbw_)
          have HBwd := Aside0.mk (below_step HB0.out hbw_)
          clear hhp_ hbw_
          (refine t_read (o := { dst := some 53, op := Op.move (Operand.tmp 4), type := 43, pos := "law.go:43", after := #[], guard := none }) rfl (by first | rfl | (simp [Region.wanted, yielded]; done)) (by intro w_ hE_; (try dsimp only at hE_); first | (go_simp; done) | (go_simp; rfl)) ?_)
          (try simp only [Act.put, List.setIfInBounds_toArray, List.set_cons_zero, List.set_cons_succ])
          (refine t_read (o := { dst := some 54, op := Op.fieldAddr 50 (Operand.tmp 7) 2, type := 0, pos := "law.go:43", after := #[], guard := none }) rfl (by first | rfl | (simp [Region.wanted, yielded]; done)) (by intro w_ hE_; (try dsimp only at hE_); first | (go_simp; done) | (go_simp; rfl)) ?_)
          (try simp only [Act.put, List.setIfInBounds_toArray, List.set_cons_zero, List.set_cons_succ])
          (refine t_read (o := { dst := some 55, op := Op.load 3 (Operand.tmp 54), type := 3, pos := "law.go:43", after := #[{ on := 1, ground := Ground.data }], guard := none }) rfl (by first | rfl | (simp [Region.wanted, yielded]; done)) (by intro w_ hE_; (try dsimp only at hE_); have hx_ := hE_.trans HXwd.out; have zz0_ := blk_cell hx_ 0; have zz1_ : w_.cell? ⟨x, 1, none⟩ = some (.bool wt) := blk_cell hx_ 1; have zz2_ : w_.cell? ⟨x, 2, none⟩ = some (.int .i64 who) := blk_cell hx_ 2; clear hE_ zz0_; first | (go_simp; done) | (go_simp; rfl)) ?_)
          (try simp only [Act.put, List.setIfInBounds_toArray, List.set_cons_zero, List.set_cons_succ])
          (refine t_read (o := { dst := some 57, op := Op.move (Operand.tmp 5), type := 45, pos := "law.go:43", after := #[], guard := none }) rfl (by first | rfl | (simp [Region.wanted, yielded]; done)) (by intro w_ hE_; (try dsimp only at hE_); first | (go_simp; done) | (go_simp; rfl)) ?_)
          (try simp only [Act.put, List.setIfInBounds_toArray, List.set_cons_zero, List.set_cons_succ])
          (refine t_read (o := { dst := some 58, op := Op.fieldAddr 50 (Operand.tmp 7) 2, type := 0, pos := "law.go:43", after := #[], guard := none }) rfl (by first | rfl | (simp [Region.wanted, yielded]; done)) (by intro w_ hE_; (try dsimp only at hE_); first | (go_simp; done) | (go_simp; rfl)) ?_)
          (try simp only [Act.put, List.setIfInBounds_toArray, List.set_cons_zero, List.set_cons_succ])
          (refine t_read (o := { dst := some 59, op := Op.load 3 (Operand.tmp 58), type := 3, pos := "law.go:43", after := #[{ on := 5, ground := Ground.data }], guard := none }) rfl (by first | rfl | (simp [Region.wanted, yielded]; done)) (by intro w_ hE_; (try dsimp only at hE_); have hx_ := hE_.trans HXwd.out; have zz0_ := blk_cell hx_ 0; have zz1_ : w_.cell? ⟨x, 1, none⟩ = some (.bool wt) := blk_cell hx_ 1; have zz2_ : w_.cell? ⟨x, 2, none⟩ = some (.int .i64 who) := blk_cell hx_ 2; clear hE_ zz0_; first | (go_simp; done) | (go_simp; rfl)) ?_)
          (try simp only [Act.put, List.setIfInBounds_toArray, List.set_cons_zero, List.set_cons_succ])
          refine t_ef ?_
          refine s_call (o := { dst := some 56, op := Op.call { callee := Callee.value (Operand.func 28), args := #[Operand.tmp 53, Operand.tmp 55], argTypes := #[43, 3] }, type := 4, pos := "law.go:43", after := #[{ on := 0, ground := Ground.data }, { on := 2, ground := Ground.data }], guard := none }) rfl (by first | rfl | (simp [Region.wanted, yielded]; done)) (by first | (go_simp; done) | (go_simp; exact ⟨rfl, rfl⟩) | (go_simp; rfl)) ?_
          refine (has_calls HLwd.out who (by have := HSZ.out; omega)).mono ?_
          rintro e_ wa ⟨rfl, hb⟩
          have HLwa := Aside0.mk (lk_below HLwd.out hb)
          have HRwa := Aside0.mk (lk_below HRwd.out hb)
          have HXwa := Aside0.mk (blk_below HXwd.out hb)
          have HBwa := Aside0.mk (below_step HBwd.out hb)
          refine ⟨_, rfl, HXwa.out.trans HXwd.out.symm, ?_⟩
          clear hb
          (try simp only [Act.put, List.setIfInBounds_toArray, List.set_cons_zero, List.set_cons_succ])
          refine t_ef ?_
          refine s_call (o := { dst := some 60, op := Op.call { callee := Callee.value (Operand.func 29), args := #[Operand.tmp 57, Operand.tmp 59], argTypes := #[45, 3] }, type := 4, pos := "law.go:43", after := #[{ on := 4, ground := Ground.data }, { on := 6, ground := Ground.data }, { on := 3, ground := Ground.chain }], guard := none }) rfl (by first | rfl | (simp [Region.wanted, yielded]; done)) (by first | (go_simp; done) | (go_simp; exact ⟨rfl, rfl⟩) | (go_simp; rfl)) ?_
          refine (rhas_calls HRwa.out who (by have := HSZ.out; omega)).mono ?_
          rintro e_ wb ⟨rfl, he_⟩
          have hb : Below wa.heap.size wa wb := by rw [← he_]; exact Below.refl _ _
          clear he_
          have HLwb := Aside0.mk (lk_below HLwa.out hb)
          have HRwb := Aside0.mk (lk_below HRwa.out hb)
          have HXwb := Aside0.mk (blk_below HXwa.out hb)
          have HBwb := Aside0.mk (below_step HBwa.out hb)
          refine ⟨_, rfl, HXwb.out.trans HXwa.out.symm, ?_⟩
          clear hb
          (try simp only [Act.put, List.setIfInBounds_toArray, List.set_cons_zero, List.set_cons_succ])
          (refine t_read (o := { dst := some 61, op := Op.binOp BinOp.neq 4 (Operand.tmp 56) (Operand.tmp 60) 4, type := 4, pos := "law.go:43", after := #[{ on := 3, ground := Ground.data }, { on := 7, ground := Ground.data }], guard := none }) rfl (by first | rfl | (simp [Region.wanted, yielded]; done)) (by intro w_ hE_; (try dsimp only at hE_); first | (go_simp; done) | (go_simp; rfl)) ?_)
          (try simp only [Act.put, List.setIfInBounds_toArray, List.set_cons_zero, List.set_cons_succ])
          (refine t_read (o := { dst := some 62, op := Op.move (Operand.tmp 61), type := 4, pos := "law.go:43", after := #[{ on := 8, ground := Ground.data }, { on := 7, ground := Ground.chain }], guard := none }) rfl (by first | rfl | (simp [Region.wanted, yielded]; done)) (by intro w_ hE_; (try dsimp only at hE_); first | (go_simp; done) | (go_simp; rfl)) ?_)
          (try simp only [Act.put, List.setIfInBounds_toArray, List.set_cons_zero, List.set_cons_succ])
          first | (refine t_read (o := { dst := some 63, op := Op.move (Operand.tmp 4), type := 43, pos := "law.go:43", after := #[{ on := 9, ground := Ground.guard }], guard := some (9, false) }) rfl (by first | rfl | (simp [Region.wanted, yielded]; done)) (by intro w_ hE_; (try dsimp only at hE_); first | (go_simp; done) | (go_simp; rfl)) ?_) | (refine t_skip (o := { dst := some 63, op := Op.move (Operand.tmp 4), type := 43, pos := "law.go:43", after := #[{ on := 9, ground := Ground.guard }], guard := some (9, false) }) rfl (by first | rfl | (simp [Region.wanted, yielded]; done)) ?_)
          (try simp only [Act.put, List.setIfInBounds_toArray, List.set_cons_zero, List.set_cons_succ])
          first | (refine t_read (o := { dst := some 65, op := Op.move (Operand.tmp 5), type := 45, pos := "law.go:43", after := #[{ on := 9, ground := Ground.guard }], guard := some (9, false) }) rfl (by first | rfl | (simp [Region.wanted, yielded]; done)) (by intro w_ hE_; (try dsimp only at hE_); first | (go_simp; done) | (go_simp; rfl)) ?_) | (refine t_skip (o := { dst := some 65, op := Op.move (Operand.tmp 5), type := 45, pos := "law.go:43", after := #[{ on := 9, ground := Ground.guard }], guard := some (9, false) }) rfl (by first | rfl | (simp [Region.wanted, yielded]; done)) ?_)
          (try simp only [Act.put, List.setIfInBounds_toArray, List.set_cons_zero, List.set_cons_succ])
          refine t_ef ?_
          refine s_call (o := { dst := some 64, op := Op.call { callee := Callee.value (Operand.func 30), args := #[Operand.tmp 63], argTypes := #[43] }, type := 27, pos := "law.go:43", after := #[{ on := 10, ground := Ground.data }, { on := 9, ground := Ground.chain }, { on := 9, ground := Ground.guard }], guard := some (9, false) }) rfl (by first | rfl | (simp [Region.wanted, yielded]; done)) (by first | (go_simp; done) | (go_simp; exact ⟨rfl, rfl⟩) | (go_simp; rfl)) ?_
          refine (HWT1.out _ HLwb.out).mono ?_
          rintro e_ wc1 ⟨vwc1, rfl, ho, hb⟩
          obtain ⟨Awc1, cwc1, rfl⟩ := Kd.R_slice ho
          have HVwc1 := Aside0.mk ho
          have HLwc1 := Aside0.mk (lk_below HLwb.out hb)
          have HRwc1 := Aside0.mk (lk_below HRwb.out hb)
          have HXwc1 := Aside0.mk (blk_below HXwb.out hb)
          have HBwc1 := Aside0.mk (below_step HBwb.out hb)
          refine ⟨_, rfl, HXwc1.out.trans HXwb.out.symm, ?_⟩
          clear hb
          clear ho
          (try simp only [Act.put, List.setIfInBounds_toArray, List.set_cons_zero, List.set_cons_succ])
          refine t_ef ?_
          refine s_call (o := { dst := some 66, op := Op.call { callee := Callee.value (Operand.func 31), args := #[Operand.tmp 65], argTypes := #[45] }, type := 27, pos := "law.go:43", after := #[{ on := 12, ground := Ground.data }, { on := 11, ground := Ground.chain }, { on := 9, ground := Ground.guard }], guard := some (9, false) }) rfl (by first | rfl | (simp [Region.wanted, yielded]; done)) (by first | (go_simp; done) | (go_simp; exact ⟨rfl, rfl⟩) | (go_simp; rfl)) ?_
          refine (HWT2.out _ HRwc1.out).mono ?_
          rintro e_ wd1 ⟨vwd1, rfl, ho, hb⟩
          obtain ⟨Awd1, cwd1, rfl⟩ := Kd.R_slice ho
          have HVwd1 := Aside0.mk ho
          have HWwd1 := Aside0.mk (Kd.R_below HVwc1.out hb)
          have HLwd1 := Aside0.mk (lk_below HLwc1.out hb)
          have HRwd1 := Aside0.mk (lk_below HRwc1.out hb)
          have HXwd1 := Aside0.mk (blk_below HXwc1.out hb)
          have HBwd1 := Aside0.mk (below_step HBwc1.out hb)
          refine ⟨_, rfl, HXwd1.out.trans HXwc1.out.symm, ?_⟩
          clear hb
          clear ho
          (try simp only [Act.put, List.setIfInBounds_toArray, List.set_cons_zero, List.set_cons_succ])
          refine t_ef ?_
          refine s_call (o := { dst := some 67, op := Op.call { callee := Callee.value (Operand.func 23), args := #[Operand.tmp 64, Operand.tmp 66], argTypes := #[27, 27] }, type := 4, pos := "law.go:43", after := #[{ on := 11, ground := Ground.data }, { on := 13, ground := Ground.data }, { on := 13, ground := Ground.chain }, { on := 9, ground := Ground.guard }], guard := some (9, false) }) rfl (by first | rfl | (simp [Region.wanted, yielded]; done)) (by first | (go_simp; done) | (go_simp; exact ⟨rfl, rfl⟩) | (go_simp; rfl)) ?_
          refine (ints_same (Kd.R_reads' HWwd1.out).2.2 (Kd.R_reads' HVwd1.out).2.2 (by have := HIL.out; omega)).mono ?_
          rintro e_ wf ⟨rfl, hb⟩
          have HLwf := Aside0.mk (lk_below HLwd1.out hb)
          have HRwf := Aside0.mk (lk_below HRwd1.out hb)
          have HXwf := Aside0.mk (blk_below HXwd1.out hb)
          have HBwf := Aside0.mk (below_step HBwd1.out hb)
          refine ⟨_, rfl, HXwf.out.trans HXwd1.out.symm, ?_⟩
          clear hb
          (try simp only [Act.put, List.setIfInBounds_toArray, List.set_cons_zero, List.set_cons_succ])
          first | (refine t_read (o := { dst := some 68, op := Op.unOp UnOp.not 4 (Operand.tmp 67), type := 4, pos := "law.go:43", after := #[{ on := 14, ground := Ground.data }, { on := 9, ground := Ground.guard }], guard := some (9, false) }) rfl (by first | rfl | (simp [Region.wanted, yielded]; done)) (by intro w_ hE_; (try dsimp only at hE_); first | (go_simp; done) | (go_simp; rfl)) ?_) | (refine t_skip (o := { dst := some 68, op := Op.unOp UnOp.not 4 (Operand.tmp 67), type := 4, pos := "law.go:43", after := #[{ on := 14, ground := Ground.data }, { on := 9, ground := Ground.guard }], guard := some (9, false) }) rfl (by first | rfl | (simp [Region.wanted, yielded]; done)) ?_)
          (try simp only [Act.put, List.setIfInBounds_toArray, List.set_cons_zero, List.set_cons_succ])
          (refine t_read (o := { dst := some 69, op := Op.pick (Operand.tmp 62) (Operand.const (Value.bool true)) (Operand.tmp 68), type := 4, pos := "law.go:43", after := #[{ on := 9, ground := Ground.data }, { on := 15, ground := Ground.data }], guard := none }) rfl (by first | rfl | (simp [Region.wanted, yielded]; done)) (by intro w_ hE_; (try dsimp only at hE_); first | (go_simp; done) | (go_simp; rfl)) ?_)
          (try simp only [Act.put, List.setIfInBounds_toArray, List.set_cons_zero, List.set_cons_succ])
          refine t_nil ?_
          go_wp2_with fail
          go_meet
          exact ⟨by first | rfl | simp, HLwf, HRwf, HBwf⟩
        case rest =>
          obtain ⟨rfl, HL2, HR2, HB2⟩ := hcut
          go_wp2_with fail
          go_roundg g
          case measure => omega
          case rel => exact ⟨i + 1, (hs, ws), by simp, ⟨by have := HI.out; omega, HOK1.out⟩, HL2, HR2, HB2⟩
    · by_cases h1 : i < l.length
      · have k0 : ((i : Int) < (l.length : Int)) = True := eq_true (by omega)
        have k1 : ((i : Int) < 60) = False := eq_false (by omega)
        clear hi hlt h1
        go_wp2
        go_ret
        exact ⟨rfl, HB.out⟩
      · have k0 : ((i : Int) < (l.length : Int)) = False := eq_false (by omega)
        clear hi hlt h1
        go_wp2
        go_ret
        exact ⟨rfl, HB.out⟩
end Go.Proofs.Ytopclgpimabpcaa.LaWalk
