/- LockAlone: who has a lock to write has it alone; and when all have left, nobody waits: it answers true. No condition. -/
import Derived.Test.YtopclgpimabpcaaProg
import Derived.Below
import Derived.Deep.Draws
import Derived.Deep.AppendLies
import Derived.Maps.AppendAt
import Derived.OwnWalk
import Derived.Laws.BytesArg
import Derived.Laws.MakeOwn
import Derived.Laws.OwnMore
import Derived.Deep.OwnRows
import Derived.Tactics
import Derived.Lib.ConvBytes
import Derived.Laws.Slices
import Derived.WalkKit
import Derived.KernelRfl
import Derived.RowKit3
import Derived.Deep.LoopGhost
import Derived.Deep.QuietTactic
import Derived.BigQuiet
import Derived.WideLaws
import Derived.Deep.DeepCutAuto
import Derived.Deep.CutBlock
import Derived.Deep.RegionHeld3
import Derived.Laws.Rows
import Derived.Lib.AppendStr
import Derived.ArgAppend
import Derived.Laws.IdiomCopy
import Derived.OrdersHeld
import Derived.Laws.BitsLemmas
import Derived.RowKit
import Derived.Deep.DeepCutAuto
import Derived.Maps.OwnSet
import Derived.WalkSpells
import Derived.Outline
import Derived.Test.YtopclgpimabpcaaWWords
import Derived.Test.YtopclgpimabpcaaWLast
import Derived.Test.YtopclgpimabpcaaWMore
import Derived.Test.YtopclgpimabpcaaWArr
import Derived.Test.YtopclgpimabpcaaWTab
import Derived.Test.YtopclgpimabpcaaWZeros
import Derived.Test.YtopclgpimabpcaaWRepsOne
import Derived.Test.YtopclgpimabpcaaLoP
import Derived.Test.YtopclgpimabpcaaLaWalk
namespace Go.Proofs.Ytopclgpimabpcaa.LoWalk
open Go.RowKit Go.Proofs.YtopclgpimabpcaaW.PrintWords Go.Proofs.YtopclgpimabpcaaW.PrintLast Go.Proofs.YtopclgpimabpcaaW.PrintMore Go.Proofs.Ytopclgpimabpcaa.Mix Go.Proofs.Ytopclgpimabpcaa.MixB Go.Proofs.Ytopclgpimabpcaa.MixT Go.Proofs.Ytopclgpimabpcaa.LkA Go.Proofs.Ytopclgpimabpcaa.LkB Go.Proofs.Ytopclgpimabpcaa.LkC Go.Proofs.Ytopclgpimabpcaa.LkD Go.Proofs.Ytopclgpimabpcaa.LkE Go.Proofs.Ytopclgpimabpcaa.LkF Go.Proofs.Ytopclgpimabpcaa.LkG Go.Proofs.Ytopclgpimabpcaa.LrA Go.Proofs.Ytopclgpimabpcaa.LrB Go.Proofs.Ytopclgpimabpcaa.LrC Go.Proofs.Ytopclgpimabpcaa.LrD Go.Proofs.Ytopclgpimabpcaa.LaP Go.Proofs.Ytopclgpimabpcaa.LaWalk Go.Proofs.Ytopclgpimabpcaa.LoP
set_option linter.unusedSimpArgs false
set_option linter.unusedVariables false
attribute [local go_sem] max2_int min2_int max_two min_two

set_option maxRecDepth 100000 in
set_option maxHeartbeats 4000000 in
theorem walk (A : Option Addr) (c : Nat) (l : List (Bool × Bool × Int)) (w : World) (hr : KOp.C w A l.length l) (hc : l.length ≤ c) (hg : l.length ≤ maxLen ∧ ∀ p ∈ l, True ∧ True ∧ (Lit.int .i64 p.2.2).wf = true) :
    Calls Try.prog 8 #[.slice A l.length c] w fun e w' => e = .returned (.bool true) ∧ Below w.heap.size w w' := by
  have HR := Aside0.mk hr
  have hll : l.length ≤ 9223372036854775807 := by have := hg.1; unfold maxLen at this; omega
  clear hr hc hg
  have hmm := @run_makeMap Try.prog
  go_enter Try.func8, Try.ntmps8
  go_wp2_with fail
  refine (begun_calls w).mono ?_
  rintro e_ w1 ⟨rfl, hb⟩
  have HB1 := Aside0.mk hb
  clear hb
  go_wp2_with fail
  refine (new_calls w1).mono ?_
  rintro e_ w2 ⟨rfl, hl, hb⟩
  obtain ⟨p, hp⟩ : ∃ q, w1.heap.size = q := ⟨_, rfl⟩
  have HB2 := Aside0.mk (below_step HB1.out hb)
  rw [hp] at hl ⊢
  have HPW : Aside0 (w.heap.size ≤ p) := ⟨by have := HB1.out.size; omega⟩
  have HL2 := Aside0.mk hl
  clear hl hb hp HB1
  have hba := (Below.refl w2.heap.size w2).alloc (Nat.le_refl _) (.map #[] 0)
  have hmk : MB (w2.alloc (.map #[] 0)) w2.heap.size 0 (fun _ => none) := mapis_made w2 3 4
  obtain ⟨w3, hw3⟩ : ∃ q, w2.alloc (.map #[] 0) = q := ⟨_, rfl⟩
  obtain ⟨m, hm⟩ : ∃ q, w2.heap.size = q := ⟨_, rfl⟩
  rw [hw3] at hba hmk
  have HL3 := Aside0.mk (lk_below HL2.out hba)
  have HB3 := Aside0.mk (below_step HB2.out hba)
  have HMW : Aside0 (w.heap.size ≤ m) := ⟨by have := HB2.out.size; omega⟩
  rw [hm] at hmk
  have HM3 := Aside0.mk hmk
  clear hba hmk
  go_wp2_with fail
  clear hw3 hm hmm
  go_loopg [6, 7, 8, 9, 10, 11, 12] 60 (fun q v6 v7 v8 v9 v10 v11 v12 w' => ∃ (i : Nat) (s : LS) (M : Int → Option Bool), v6 = .int .i64 (i : Int) ∧ Aside0 (i + q = 60 ∧ Okl s i ∧ Lv s ∧ Wr s M) ∧ Aside0 (LkAt LT LE w' p p s.1 s.2) ∧ Aside0 (MB w' m i M) ∧ Aside0 (Below w.heap.size w w'))
  case atStart => exact ⟨0, ([], []), fun _ => none, rfl, ⟨by omega, okl_nil, fun _ => rfl, fun o ho => by simp at ho, fun k b h => by cases h⟩, HL3, HM3, HB3⟩
  case round =>
    clear HL3 HM3 HB3 HL2 HB2
    obtain ⟨i, s, M, rfl, HI, HL, HM, HB⟩ := hrel
    obtain ⟨hs, ws⟩ := s
    simp only at HL
    have hi := HI.out
    by_cases hlt : i < l.length ∧ i < 60
    · obtain ⟨g, rfl⟩ : ∃ g, gk = g + 1 := ⟨gk - 1, by omega⟩
      obtain ⟨ad, e1, q0, q1, q2⟩ := op_at (Kd.C_below HR.out HB.out) i hlt.1
      subst e1
      generalize l.getD i (false, false, 0) = o at *
      obtain ⟨lv, wt, who⟩ := o
      have q0' : wr.cell? (ad.add (i * 3)) = some (.bool lv) := q0
      have q1' : wr.cell? ⟨(ad.add (i * 3)).block, (ad.add (i * 3)).off + 1, none⟩ = some (.bool wt) := q1
      have q2' : wr.cell? ⟨(ad.add (i * 3)).block, (ad.add (i * 3)).off + 2, none⟩ = some (.int .i64 who) := q2
      have k0 : ((i : Int) < (l.length : Int)) = True := eq_true (by omega)
      have k1 : ((i : Int) < 60) = True := eq_true (by omega)
      have kw : IntKind.i64.wrap ((i : Int) + 1) = ((i + 1 : Nat) : Int) := by rw [IntKind.wrap_i64]; omega
      have hba := (Below.refl wr.heap.size wr).alloc (Nat.le_refl _) (.cells #[.bool lv, .bool wt, .int .i64 who] 50 (0, 0))
      have hx7 := blk_new wr (.cells #[.bool lv, .bool wt, .int .i64 who] 50 (0, 0))
      obtain ⟨w7, hw7⟩ : ∃ q, wr.alloc (.cells #[.bool lv, .bool wt, .int .i64 who] 50 (0, 0)) = q := ⟨_, rfl⟩
      obtain ⟨x, hx⟩ : ∃ q, wr.heap.size = q := ⟨_, rfl⟩
      rw [hw7] at hba hx7
      have HL0 := Aside0.mk (lk_below HL.out hba)
      have HM0 := Aside0.mk (mapis_below HM.out hba)
      have HB0 := Aside0.mk (below_step HB.out hba)
      rw [hx] at hx7
      have HX0 := Aside0.mk hx7
      have HOK := Aside0.mk hi.2
      have HSZ : Aside0 (hs.length + ws.length ≤ 100000) := ⟨by have := hi.2.1.2.2; simp only at this; omega⟩
      have xx0 : w7.cell? ⟨x, 0, none⟩ = some (.bool lv) := blk_cell hx7 0
      have xx1 : w7.cell? ⟨x, 1, none⟩ = some (.bool wt) := blk_cell hx7 1
      have xx2 : w7.cell? ⟨x, 2, none⟩ = some (.int .i64 who) := blk_cell hx7 2
      clear q0 q1 q2 hba hx7 hi HL HM HB
      by_cases h1 : who < 1
      · go_wp2_with fail
        go_roundg g
        case measure => omega
        case rel => exact ⟨i + 1, (hs, ws), M, by simp, ⟨by have := HI.out; omega, okl_mono HOK.out.1 (Nat.le_succ i), HOK.out.2⟩, HL0, ⟨mapis_mono HM0.out (Nat.le_succ i)⟩, HB0⟩
      by_cases h8 : 8 < who
      · have h1f : (who < 1) = False := eq_false h1
        go_wp2_with fail
        go_roundg g
        case measure => omega
        case rel => exact ⟨i + 1, (hs, ws), M, by simp, ⟨by have := HI.out; omega, okl_mono HOK.out.1 (Nat.le_succ i), HOK.out.2⟩, HL0, ⟨mapis_mono HM0.out (Nat.le_succ i)⟩, HB0⟩
      have h1f : (who < 1) = False := eq_false h1
      have h8f : (8 < who) = False := eq_false h8
      have HWF : Aside0 ((Lit.int .i64 who).wf = true ∧ 1 ≤ who ∧ who ≤ 8) := ⟨by simp [Lit.wf, IntKind.min, IntKind.max, IntKind.bits, IntKind.signed]; omega, by omega, by omega⟩
      clear h1 h8
      go_upto_if 42 with fail
      clear hw7 hx q0' q1' q2'
      go_cut [8, 9] (fun _ _ wx => ∃ (s1 : LS) (M1 : Int → Option Bool), Aside0 (Okl s1 (i + 1) ∧ Lv s1 ∧ Wr s1 M1) ∧ Aside0 (LkAt LT LE wx p p s1.1 s1.2) ∧ Aside0 (MB wx m (i + 1) M1) ∧ Aside0 (Below w.heap.size w wx))
      case first =>
        cases lv with
        | true =>
          have HLV := Aside0.mk (leave_calls HL0.out who HSZ.out)
          go_wp2_with fail
          refine HLV.out.mono ?_
          rintro e_ w8 ⟨v8, rfl, _, hl, hb, hk⟩
          have HL8 := Aside0.mk hl
          have HM8 := Aside0.mk (mapis_kt HM0.out hk)
          have HB8 := Aside0.mk (HB0.out.trans (hb.mono HPW.out))
          have hx8 := hk x _ HX0.out (fun cs t e => by injection e with _ e2; subst e2; decide)
          have yy2 : w8.cell? ⟨x, 2, none⟩ = some (.int .i64 who) := blk_cell hx8 2
          clear hl hb hk hx8 xx0 xx1 xx2
          go_wp2_with (at_delete; refine wp_mdel HM8.out rfl (.tmp 47) (.tmp 49) rfl rfl who rfl HWF.out.1 ?_; intro w9 hm9 hg9; have HM9 := Aside0.mk hm9; have HL9 := Aside0.mk (lk_map HL8.out HM8.out hg9); have HB9 := Aside0.mk (HB8.out.grown hg9 HB8.out.size (fun k hk => by injection hk with hk; have := HMW.out; omega)); clear hm9 hg9)
          go_meet
          exact ⟨_, _, ⟨okl_mono (okl_leave HOK.out.1 who) (Nat.le_succ i), lv_leave HOK.out.2.1 who, wr_leave HOK.out.2.2 HOK.out.1.2.1 who⟩, HL9, ⟨mapis_mono HM9.out (Nat.le_succ i)⟩, HB9⟩
        | false =>
          cases hmw : M who with
          | some bb =>
            go_wp2_with (at_lookup; refine wp_mget_ok HM0.out rfl (.tmp 51) (.tmp 53) rfl rfl who rfl HWF.out.1 ?_; rw [hmw]; simp only [Option.isSome_some, Option.getD_some])
            go_meet
            exact ⟨_, _, ⟨okl_mono HOK.out.1 (Nat.le_succ i), HOK.out.2⟩, HL0, ⟨mapis_mono HM0.out (Nat.le_succ i)⟩, HB0⟩
          | none =>
            have HAK := Aside0.mk (ask_calls HL0.out who wt HSZ.out)
            have HMW2 := Aside0.mk hmw
            go_wp2_with (at_lookup; refine wp_mget_ok HM0.out rfl (.tmp 51) (.tmp 53) rfl rfl who rfl HWF.out.1 ?_; rw [hmw]; simp only [Option.isSome_none, Option.getD_none])
            clear hmw
            refine HAK.out.mono ?_
            rintro e_ w8 ⟨rfl, hl, hb, hk⟩
            have HL8 := Aside0.mk hl
            have HM8 := Aside0.mk (mapis_kt HM0.out hk)
            have HB8 := Aside0.mk (HB0.out.trans (hb.mono HPW.out))
            have hx8 := hk x _ HX0.out (fun cs t e => by injection e with _ e2; subst e2; decide)
            have yy2 : w8.cell? ⟨x, 2, none⟩ = some (.int .i64 who) := blk_cell hx8 2
            have yy1 : w8.cell? ⟨x, 1, none⟩ = some (.bool wt) := blk_cell hx8 1
            clear hl hb hk hx8 xx0 xx1 xx2
            go_wp2_with (at_mapUpdate; refine wp_mput HM8.out (by have := hlt.2; omega) rfl (.tmp 65) (.tmp 67) (.tmp 69) rfl rfl who rfl wt rfl HWF.out.1 ?_; intro w9 hm9 hg9; have HM9 := Aside0.mk hm9; have HL9 := Aside0.mk (lk_map HL8.out HM8.out hg9); have HB9 := Aside0.mk (HB8.out.grown hg9 HB8.out.size (fun k hk => by injection hk with hk; have := HMW.out; omega)); clear hm9 hg9)
            go_meet
            exact ⟨_, _, ⟨okl_ask HOK.out.1 who wt, lv_ask HOK.out.2.1 who wt, wr_ask HOK.out.2.2 who wt HWF.out.2.1 HWF.out.2.2 HMW2.out⟩, HL9, HM9, HB9⟩
      case rest =>
        clear HL0 HM0 HB0 HX0 HOK HSZ xx0 xx1 xx2 HWF h1f h8f
        obtain ⟨s1, M1, HOK, HL, HM, HB⟩ := hcut
        obtain ⟨hs, ws⟩ := s1
        simp only at HL
        have HSZ : Aside0 (hs.length + ws.length ≤ 100000) := ⟨by have := HOK.out.1.2.2; simp only at this; omega⟩
        go_wp2_with fail
        go_loopg [10, 11, 12] 9 (fun q v10 v11 v12 w' => ∃ (j hv wn : Nat), v12 = .int .i64 (j : Int) ∧ v10 = .int .i64 (hv : Int) ∧ v11 = .int .i64 (wn : Int) ∧ Aside0 (j + q = 10 ∧ Cnt hs j hv wn ∧ j ≤ 9) ∧ Aside0 (LkAt LT LE w' p p hs ws) ∧ Aside0 (MB w' m (i + 1) M1) ∧ Aside0 (Below w.heap.size w w'))
        case atStart => exact ⟨1, 0, 0, rfl, rfl, rfl, ⟨by omega, cnt_start hs, by omega⟩, HL, HM, HB⟩
        case round =>
          clear HL HM HB
          obtain ⟨j, hv, wn, rfl, rfl, rfl, HJ, HL, HM, HB⟩ := hrel
          have hj := HJ.out
          have hjb := hj.2.1.1
          have hjc := hj.2.1.2.1
          have hjd := hj.2.1.2.2.1
          by_cases hj8 : j ≤ 8
          · obtain ⟨g5, rfl⟩ : ∃ g5, gk = g5 + 1 := ⟨gk - 1, by omega⟩
            have kj : ((j : Int) ≤ 8) = True := eq_true (by omega)
            have kj1 : IntKind.i64.wrap ((j : Int) + 1) = ((j + 1 : Nat) : Int) := by rw [IntKind.wrap_i64]; omega
            have kh1 : IntKind.i64.wrap ((hv : Int) + 1) = ((hv + 1 : Nat) : Int) := by rw [IntKind.wrap_i64]; omega
            have kw1 : IntKind.i64.wrap ((wn : Int) + 1) = ((wn + 1 : Nat) : Int) := by rw [IntKind.wrap_i64]; omega
            have HJW : Aside0 ((Lit.int .i64 (j : Int)).wf = true) := ⟨by simp [Lit.wf, IntKind.min, IntKind.max, IntKind.bits, IntKind.signed]; omega⟩
            have HH := Aside0.mk (has_calls HL.out (j : Int) (by have := HSZ.out; omega))
            have hcase : isIn (j : Int) hs = true ∨ isIn (j : Int) hs = false := by cases isIn (j : Int) hs <;> simp
            rcases hcase with hb0 | hb0
            · rw [hb0] at HH
              have HY := Aside0.mk (cnt_yes hj.2.1 hb0 HOK.out.1.1 HOK.out.2.2)
              clear hb0 hj hjb hjc hjd
              go_wp2_with fail
              refine HH.out.mono ?_
              rintro e_ w6 ⟨rfl, hb⟩
              have HL6 := Aside0.mk (lk_below HL.out hb)
              have HM6 := Aside0.mk (mapis_below HM.out hb)
              have HB6 := Aside0.mk (below_step HB.out hb)
              clear hb HL HM HB HH
              have hcm : (M1 (j : Int)).getD false = true ∨ (M1 (j : Int)).getD false = false := by cases (M1 (j : Int)).getD false <;> simp
              rcases hcm with hm0 | hm0
              · have HY2 : Aside0 (Cnt hs (j + 1) (hv + 1) (wn + 1)) := ⟨by have := HY.out; rw [if_pos hm0] at this; exact this⟩
                go_wp2_with (at_lookup; refine wp_mget HM6.out rfl (.tmp 79) (.tmp 80) rfl rfl (j : Int) rfl HJW.out ?_; rw [hm0])
                go_roundg g5
                case measure => omega
                case rel => exact ⟨j + 1, hv + 1, wn + 1, by simp, by simp, by simp, ⟨by have := HJ.out.1; omega, HY2.out, by omega⟩, HL6, HM6, HB6⟩
              · have HY2 : Aside0 (Cnt hs (j + 1) (hv + 1) wn) := ⟨by have := HY.out; rw [if_neg (by rw [hm0]; simp)] at this; exact this⟩
                go_wp2_with (at_lookup; refine wp_mget HM6.out rfl (.tmp 79) (.tmp 80) rfl rfl (j : Int) rfl HJW.out ?_; rw [hm0])
                go_roundg g5
                case measure => omega
                case rel => exact ⟨j + 1, hv + 1, wn, by simp, by simp, rfl, ⟨by have := HJ.out.1; omega, HY2.out, by omega⟩, HL6, HM6, HB6⟩
            · rw [hb0] at HH
              have HY := Aside0.mk (cnt_no hj.2.1 hb0)
              clear hb0 hj hjb hjc hjd
              go_wp2_with fail
              refine HH.out.mono ?_
              rintro e_ w6 ⟨rfl, hb⟩
              have HL6 := Aside0.mk (lk_below HL.out hb)
              have HM6 := Aside0.mk (mapis_below HM.out hb)
              have HB6 := Aside0.mk (below_step HB.out hb)
              clear hb HL HM HB HH
              go_wp2_with fail
              go_roundg g5
              case measure => omega
              case rel => exact ⟨j + 1, hv, wn, by simp, rfl, rfl, ⟨by have := HJ.out.1; omega, HY.out, by omega⟩, HL6, HM6, HB6⟩
          · have hj9 : j = 9 := by omega
            subst hj9
            have hc := hj.2.1
            obtain ⟨c1, c2, c3, c4, c5, c6⟩ := hc
            have kj : (((9 : Nat) : Int) ≤ 8) = False := eq_false (by omega)
            by_cases hw0 : wn = 0
            · have kw0 : (0 < wn) = False := eq_false (by omega)
              by_cases hv0 : hv = 0
              · subst hv0
                have hws : ws = [] := cnt_end hj.2.1 HOK.out.2.2 HOK.out.2.1
                subst hws
                have HWT := Aside0.mk (waiting_calls HL.out (by simp))
                clear c1 c2 c3 c4 c5 c6 hj hjb hjc hjd hj8
                go_wp2_with fail
                refine HWT.out.mono ?_
                rintro e_ w9 ⟨v9, rfl, ho, hb⟩
                obtain ⟨A9, c9, rfl⟩ := Kd.R_slice ho
                have HL9 := Aside0.mk (lk_below HL.out hb)
                have HM9 := Aside0.mk (mapis_below HM.out hb)
                have HB9 := Aside0.mk (below_step HB.out hb)
                clear ho hb
                go_wp2_with fail
                go_roundg g
                case measure => omega
                case rel => exact ⟨i + 1, (hs, []), M1, by simp, ⟨by have := HI.out; omega, HOK.out⟩, HL9, HM9, HB9⟩
              · have kh0 : ((hv : Int) == 0) = false := beq_eq_false_iff_ne.2 (by omega)
                clear c1 c2 c3 c4 c5 c6 hj hjb hjc hjd hj8
                go_wp2_with fail
                go_roundg g
                case measure => omega
                case rel => exact ⟨i + 1, (hs, ws), M1, by simp, ⟨by have := HI.out; omega, HOK.out⟩, HL, HM, HB⟩
            · have hv1 : hv = 1 := by
                rcases c5 (c6 (by omega)) with h | h
                · omega
                · exact h.1
              subst hv1
              have kw0 : (0 < wn) = True := eq_true (by omega)
              clear c1 c2 c3 c4 c5 c6 hj hjb hjc hjd hj8
              go_wp2_with fail
              go_roundg g
              case measure => omega
              case rel => exact ⟨i + 1, (hs, ws), M1, by simp, ⟨by have := HI.out; omega, HOK.out⟩, HL, HM, HB⟩
    · by_cases h1 : i < l.length
      · have k0 : ((i : Int) < (l.length : Int)) = True := eq_true (by omega)
        have k1 : ((i : Int) < 60) = False := eq_false (by omega)
        clear hi hlt h1
        go_wp2_with fail
        go_loopg [13] 8 (fun q v13 w' => ∃ (j : Nat) (s : LS), v13 = .int .i64 (j : Int) ∧ Aside0 (1 ≤ j ∧ j + q = 9 ∧ Okl s i ∧ From s j) ∧ Aside0 (LkAt LT LE w' p p s.1 s.2) ∧ Aside0 (Below w.heap.size w w'))
        case atStart => exact ⟨1, (hs, ws), rfl, ⟨by omega, by omega, HI.out.2.1, fun o ho => by have := (HI.out.2.2.2.1 o ho).2; omega⟩, HL, HB⟩
        case round =>
          clear HL HB
          obtain ⟨j, s, rfl, HJ, HL, HB⟩ := hrel
          obtain ⟨hs2, ws2⟩ := s
          simp only at HL
          have hj := HJ.out
          by_cases hj8 : j ≤ 8
          · obtain ⟨g5, rfl⟩ : ∃ g5, gk = g5 + 1 := ⟨gk - 1, by omega⟩
            have kj : ((j : Int) ≤ 8) = True := eq_true (by omega)
            have kj1 : IntKind.i64.wrap ((j : Int) + 1) = ((j + 1 : Nat) : Int) := by rw [IntKind.wrap_i64]; omega
            have HLV := Aside0.mk (leave_calls HL.out (j : Int) (by have := hj.2.2.1.2.2; have := HI.out.1; simp only at *; omega))
            have HY := Aside0.mk (And.intro (okl_leave hj.2.2.1 (j : Int)) (from_leave hj.2.2.2 hj.2.2.1.2.1))
            clear hj
            go_wp2_with fail
            refine HLV.out.mono ?_
            rintro e_ w8 ⟨v8, rfl, _, hl, hb, _⟩
            have HL8 := Aside0.mk hl
            have HB8 := Aside0.mk (HB.out.trans (hb.mono HPW.out))
            clear hl hb HLV HL HB
            go_wp2_with fail
            go_roundg g5
            case measure => omega
            case rel => exact ⟨j + 1, _, by simp, ⟨by omega, by have := HJ.out; omega, HY.out⟩, HL8, HB8⟩
          · have hj9 : j = 9 := by omega
            subst hj9
            have hws : ws2 = [] := from_end (s := (hs2, ws2)) hj.2.2.2
            subst hws
            have kj : (((9 : Nat) : Int) ≤ 8) = False := eq_false (by omega)
            have HWT := Aside0.mk (waiting_calls HL.out (by simp))
            clear hj hj8
            go_wp2_with fail
            refine HWT.out.mono ?_
            rintro e_ w9 ⟨v9, rfl, ho, hb⟩
            obtain ⟨A9, c9, rfl⟩ := Kd.R_slice ho
            have HB9 := Aside0.mk (below_step HB.out hb)
            clear ho hb
            go_wp2
            go_ret
            exact ⟨rfl, HB9.out⟩
      · have k0 : ((i : Int) < (l.length : Int)) = False := eq_false (by omega)
        clear hi hlt h1
        go_wp2_with fail
        go_loopg [13] 8 (fun q v13 w' => ∃ (j : Nat) (s : LS), v13 = .int .i64 (j : Int) ∧ Aside0 (1 ≤ j ∧ j + q = 9 ∧ Okl s i ∧ From s j) ∧ Aside0 (LkAt LT LE w' p p s.1 s.2) ∧ Aside0 (Below w.heap.size w w'))
        case atStart => exact ⟨1, (hs, ws), rfl, ⟨by omega, by omega, HI.out.2.1, fun o ho => by have := (HI.out.2.2.2.1 o ho).2; omega⟩, HL, HB⟩
        case round =>
          clear HL HB
          obtain ⟨j, s, rfl, HJ, HL, HB⟩ := hrel
          obtain ⟨hs2, ws2⟩ := s
          simp only at HL
          have hj := HJ.out
          by_cases hj8 : j ≤ 8
          · obtain ⟨g5, rfl⟩ : ∃ g5, gk = g5 + 1 := ⟨gk - 1, by omega⟩
            have kj : ((j : Int) ≤ 8) = True := eq_true (by omega)
            have kj1 : IntKind.i64.wrap ((j : Int) + 1) = ((j + 1 : Nat) : Int) := by rw [IntKind.wrap_i64]; omega
            have HLV := Aside0.mk (leave_calls HL.out (j : Int) (by have := hj.2.2.1.2.2; have := HI.out.1; simp only at *; omega))
            have HY := Aside0.mk (And.intro (okl_leave hj.2.2.1 (j : Int)) (from_leave hj.2.2.2 hj.2.2.1.2.1))
            clear hj
            go_wp2_with fail
            refine HLV.out.mono ?_
            rintro e_ w8 ⟨v8, rfl, _, hl, hb, _⟩
            have HL8 := Aside0.mk hl
            have HB8 := Aside0.mk (HB.out.trans (hb.mono HPW.out))
            clear hl hb HLV HL HB
            go_wp2_with fail
            go_roundg g5
            case measure => omega
            case rel => exact ⟨j + 1, _, by simp, ⟨by omega, by have := HJ.out; omega, HY.out⟩, HL8, HB8⟩
          · have hj9 : j = 9 := by omega
            subst hj9
            have hws : ws2 = [] := from_end (s := (hs2, ws2)) hj.2.2.2
            subst hws
            have kj : (((9 : Nat) : Int) ≤ 8) = False := eq_false (by omega)
            have HWT := Aside0.mk (waiting_calls HL.out (by simp))
            clear hj hj8
            go_wp2_with fail
            refine HWT.out.mono ?_
            rintro e_ w9 ⟨v9, rfl, ho, hb⟩
            obtain ⟨A9, c9, rfl⟩ := Kd.R_slice ho
            have HB9 := Aside0.mk (below_step HB.out hb)
            clear ho hb
            go_wp2
            go_ret
            exact ⟨rfl, HB9.out⟩
end Go.Proofs.Ytopclgpimabpcaa.LoWalk
