/- The reference's lock: contract of Leave. -/
import Derived.Test.YtopclgpimabpcaaProg
import Derived.Below
import Derived.Deep.Draws
import Derived.Deep.AppendLies
import Derived.Maps.AppendAt
import Derived.OwnWalk
import Derived.Laws.BytesArg
import Derived.Laws.MakeOwn
import Derived.Laws.OwnMore
import Derived.Deep.OwnRows
import Derived.Tactics
import Derived.Lib.ConvBytes
import Derived.Laws.Slices
import Derived.WalkKit
import Derived.KernelRfl
import Derived.RowKit3
import Derived.Deep.LoopGhost
import Derived.Deep.QuietTactic
import Derived.BigQuiet
import Derived.WideLaws
import Derived.Deep.DeepCutAuto
import Derived.Deep.CutBlock
import Derived.Deep.RegionHeld3
import Derived.Laws.Rows
import Derived.Lib.AppendStr
import Derived.ArgAppend
import Derived.Laws.IdiomCopy
import Derived.OrdersHeld
import Derived.Laws.BitsLemmas
import Derived.RowKit
import Derived.Deep.DeepCutAuto
import Derived.WalkSpells
import Derived.Outline
import Derived.Test.YtopclgpimabpcaaWWords
import Derived.Test.YtopclgpimabpcaaWLast
import Derived.Test.YtopclgpimabpcaaWMore
import Derived.Test.YtopclgpimabpcaaWArr
import Derived.Test.YtopclgpimabpcaaWTab
import Derived.Test.YtopclgpimabpcaaWZeros
import Derived.Test.YtopclgpimabpcaaWRepsOne
import Derived.Test.YtopclgpimabpcaaLrC
namespace Go.Proofs.Ytopclgpimabpcaa.LrD
open Go.RowKit Go.Proofs.YtopclgpimabpcaaW.PrintWords Go.Proofs.YtopclgpimabpcaaW.PrintLast Go.Proofs.YtopclgpimabpcaaW.PrintMore Go.Proofs.Ytopclgpimabpcaa.Mix Go.Proofs.Ytopclgpimabpcaa.MixB Go.Proofs.Ytopclgpimabpcaa.MixT Go.Proofs.Ytopclgpimabpcaa.LkA Go.Proofs.Ytopclgpimabpcaa.LkB Go.Proofs.Ytopclgpimabpcaa.LkC Go.Proofs.Ytopclgpimabpcaa.LkD Go.Proofs.Ytopclgpimabpcaa.LkE Go.Proofs.Ytopclgpimabpcaa.LkF Go.Proofs.Ytopclgpimabpcaa.LrA Go.Proofs.Ytopclgpimabpcaa.LrB Go.Proofs.Ytopclgpimabpcaa.LrC
set_option linter.unusedSimpArgs false
set_option linter.unusedVariables false
attribute [local go_sem] max2_int min2_int max_two min_two

/-- A row of a new list for another one. -/
theorem lk_new {S E : Nat} {w w' : World} {B : Nat} {v vo : Value} {os oo : List (Int × Bool)} {ok : Nat → Prop} (hr : KOne.R E w' w.heap.size (fun _ => True) v os) (hB : B ≤ w.heap.size) (hq : KOne.Q E w B ok vo oo) (hb : Below w.heap.size w w') :
    KOne.Q E w' B (fun k => some k ≠ vo.ownBlock) v os ∧ KOne.Q E w' B (fun k => some k ≠ v.ownBlock) vo oo := by
  have hq2 := Kd.Q_of_R hr
  refine ⟨Q_reok (Kd.Q_lower hq2 hB) (fun k hk e => ?_), Q_reok (Kd.Q_below hq hb) (fun k hk e => ?_)⟩
  · have h1 := Kd.Q_base hq2 k hk
    have h2 := Kd.Q_lt hq k e.symm
    omega
  · have h1 := Kd.Q_base hq2 k e.symm
    have h2 := Kd.Q_lt hq k hk
    omega
set_option maxRecDepth 100000 in
set_option maxHeartbeats 2000000 in
theorem rleave_calls {w : World} {B p : Nat} {hs ws : List (Int × Bool)} (h : LkAt RT RE w B p hs ws) (who : Int) (hl : hs.length + ws.length ≤ 100000) (hu : Uni hs) (hnd : Nd (hs ++ ws)) :
    Calls Try.prog 25 #[.pointer (some ⟨p, 0, none⟩), .int .i64 who] w fun e w' => ∃ v : Value, e = .returned v ∧ Kd.R (Kd.int .i64) 3 w' w.heap.size (fun _ => True) v (leaveL (hs, ws) who).2 ∧ LkAt RT RE w' B p (leaveL (hs, ws) who).1.1 (leaveL (hs, ws) who).1.2 ∧ Below B w w' ∧ Kt RT RE w w' := by
  have HLK := Aside0.mk h
  have HF1 := Aside0.mk (rhas_calls h who (by omega))
  have HF2 := Aside0.mk (rwaits_calls h who (by omega))
  obtain ⟨A1, c1, A2, c2, h2, l1, l2, r1, r2, hBp, q1, q2⟩ := lk_reads h
  have HBP := Aside0.mk hBp
  have HBB : Aside0 (B ≤ w.heap.size) := ⟨by have := blk_lt h2; omega⟩
  have x0 : w.cell? ⟨p, 0, none⟩ = some (.slice A1 hs.length c1) := blk_cell h2 0
  have f0 : w.frozen? ⟨p, 0, none⟩ = false := blk_frozen h2 0
  have HBK := Aside0.mk h2
  have HQ12 := Aside0.mk (And.intro q1 q2)
  have HWO := Aside0.mk (fun w r => without_calls A1 c1 hs who w r (by omega))
  have HWO2 := Aside0.mk (fun w r => without_calls A2 c2 ws who w r (by omega))
  have HR12 := Aside0.mk (And.intro r1 r2)
  have HNB0 := Aside0.mk hl
  have HU := Aside0.mk hu
  have HND := Aside0.mk hnd
  clear h h2 r1 r2 q1 q2 hBp hu hnd
  obtain ⟨R, hR⟩ : ∃ q, leaveL (hs, ws) who = q := ⟨_, rfl⟩
  rw [hR]
  by_cases hin : isIn who hs = true ∨ isIn who ws = true
  · rw [leave_wo HND.out hin] at hR
    have HRR := Aside0.mk hR
    clear hR
    go_enter Try.func25, Try.ntmps25
    go_upto_region 1 with fail
    go_cut [16] (fun s16 wx => w = wx ∧ s16 = .bool false)
    case first =>
      cases hi1 : isIn who hs with
      | true =>
        rw [hi1] at HF1
        clear hin hi1
        go_wp2_with fail
        refine HF1.out.mono ?_
        rintro e_ w1 ⟨rfl, rfl⟩
        go_wp2_with fail
        go_meet
        exact ⟨rfl, rfl⟩
      | false =>
        have hi2 : isIn who ws = true := by rcases hin with h | h; rw [hi1] at h; cases h; exact h
        rw [hi1] at HF1
        rw [hi2] at HF2
        clear hin hi1 hi2
        go_wp2_with fail
        refine HF1.out.mono ?_
        rintro e_ w1 ⟨rfl, rfl⟩
        go_wp2_with fail
        refine HF2.out.mono ?_
        rintro e_ w1 ⟨rfl, rfl⟩
        go_wp2_with fail
        go_meet
        exact ⟨rfl, rfl⟩
    case rest =>
      obtain ⟨rfl, rfl⟩ := hcut
      clear hin HF1 HF2
      go_wp2_with fail
      refine (HWO.out w HR12.out.1).mono ?_
      rintro e_ w1 ⟨v1, rfl, ho, hb⟩
      obtain ⟨A3, c3, rfl⟩ := Kd.R_slice ho
      have hn := lk_new (S := RT) ho HBB.out HQ12.out.2 hb
      have hp1 := blk_below HBK.out hb
      have HL1 := Aside0.mk (lk_put0 (by decide) HBP.out hp1 hn.1 hn.2)
      have HB1 : Aside0 (Below B w (w1.setCell ⟨p, 0, none⟩ (.slice A3 (wo who hs).length c3))) := ⟨(hb.mono HBB.out).setCell HBP.out _⟩
      have HK1 : Aside0 (Kt RT RE w (w1.setCell ⟨p, 0, none⟩ (.slice A3 (wo who hs).length c3))) := ⟨(Kt.below hb).trans (Kt.set hp1 0 _)⟩
      have y0 : w1.cell? ⟨p, 0, none⟩ = some (.slice A1 hs.length c1) := blk_cell hp1 0
      have f1 : w1.frozen? ⟨p, 0, none⟩ = false := blk_frozen hp1 0
      obtain ⟨A5, c5, A6, c6, h7, _, _, _, r8, _, q5, q6⟩ := lk_reads HL1.out
      have y1 : (w1.setCell ⟨p, 0, none⟩ (.slice A3 (wo who hs).length c3)).cell? ⟨p, 1, none⟩ = some (.slice A6 ws.length c6) := blk_cell h7 1
      have HBK2 := Aside0.mk h7
      have HQ2 := Aside0.mk (And.intro q5 q6)
      have HR2 := Aside0.mk r8
      clear h7 q5 q6 r8 HWO2 HBK HQ12 HR12 HLK
      clear hb ho hn hp1 HWO x0 f0
      go_wp2_with fail
      obtain ⟨w2, hw2⟩ : ∃ q, w1.setCell ⟨p, 0, none⟩ (.slice A3 (wo who hs).length c3) = q := ⟨_, rfl⟩
      rw [hw2] at HL1 HB1 HK1 HBK2 HQ2 HR2 y1 ⊢
      clear hw2 y0 f1
      refine (without_calls A6 c6 ws who w2 HR2.out (by omega)).mono ?_
      rintro e_ w3 ⟨v3, rfl, ho, hb⟩
      obtain ⟨A7, c7, rfl⟩ := Kd.R_slice ho
      have hB2 : B ≤ w2.heap.size := by have := blk_lt HBK2.out; have := HBP.out; omega
      have hn := lk_new (S := RT) ho hB2 HQ2.out.1 hb
      have hp1 := blk_below HBK2.out hb
      have HL3 := Aside0.mk (lk_put1 (by decide) HBP.out hp1 hn.1 hn.2)
      have HB3 : Aside0 (Below B w (w3.setCell ⟨p, 1, none⟩ (.slice A7 (wo who ws).length c7))) := ⟨(HB1.out.trans (hb.mono hB2)).setCell HBP.out _⟩
      have HK3 : Aside0 (Kt RT RE w (w3.setCell ⟨p, 1, none⟩ (.slice A7 (wo who ws).length c7))) := ⟨(HK1.out.trans (Kt.below hb)).trans (Kt.set hp1 1 _)⟩
      have z1 : w3.cell? ⟨p, 1, none⟩ = some (.slice A6 ws.length c6) := blk_cell hp1 1
      have f1 : w3.frozen? ⟨p, 1, none⟩ = false := blk_frozen hp1 1
      have HSZ3 : Aside0 (w.heap.size ≤ (w3.setCell ⟨p, 1, none⟩ (.slice A7 (wo who ws).length c7)).heap.size) := ⟨HB3.out.size⟩
      clear ho hb hB2 hn hp1 y1 HL1 HB1 HK1 HBK2 HQ2 HR2
      go_wp2_with fail
      generalize w3.setCell ⟨p, 1, none⟩ (.slice A7 (wo who ws).length c7) = w4 at *
      have HG : Aside0 (grantL (wo who hs) (wo who ws) = R ∧ (wo who hs).length + (wo who ws).length ≤ 100000 ∧ Uni (wo who hs) ∧ Nd (wo who ws)) := ⟨HRR.out, by
        have h1 := List.length_filter_le (fun o : Int × Bool => o.1 != who) hs
        have h2 := List.length_filter_le (fun o : Int × Bool => o.1 != who) ws
        have := HNB0.out
        unfold wo
        omega, uni_wo HU.out who, nd_wo (nd_left HND.out) who⟩
      generalize wo who hs = hs1 at *
      generalize wo who ws = ws1 at *
      clear hl l1 l2 z1 f1 HNB0 HU HND HRR
      go_loopg [5, 6] ws1.length (fun q v5 v6 w' => ∃ (hs2 ws2 : List (Int × Bool)) (came : List Int), Aside0 (ws2.length = q ∧ (grantL hs2 ws2).1 = R.1 ∧ came ++ (grantL hs2 ws2).2 = R.2 ∧ hs2.length + ws2.length ≤ 100000 ∧ came.length + ws2.length ≤ 100000 ∧ Uni hs2 ∧ Nd ws2) ∧ Aside0 (LkAt RT RE w' B p hs2 ws2) ∧ Aside0 (Kd.R (Kd.int .i64) 3 w' w.heap.size (fun _ => True) v5 came) ∧ Aside0 (Below B w w' ∧ w.heap.size ≤ w'.heap.size) ∧ Aside0 (Kt RT RE w w'))
      case atStart => exact ⟨hs1, ws1, [], ⟨rfl, by rw [HG.out.1], by rw [HG.out.1]; rfl, HG.out.2.1, by have := HG.out.2.1; simp only [List.length_nil]; omega, HG.out.2.2.1, HG.out.2.2.2⟩, HL3, ⟨Kd.R_nil _ _ _ _ _⟩, ⟨HB3.out, HSZ3.out⟩, HK3⟩
      case round =>
        clear HG HL3 HB3 HK3 HSZ3
        obtain ⟨hs2, ws2, came, HI, HL, HO, HBR, HKR⟩ := hrel
        have hi := HI.out
        obtain ⟨A1, c1, A2, c2, h2, l1, l2, r1, r2, _, q1, q2⟩ := lk_reads HL.out
        have x0 : wr.cell? ⟨p, 0, none⟩ = some (.slice A1 hs2.length c1) := blk_cell h2 0
        have x1 : wr.cell? ⟨p, 1, none⟩ = some (.slice A2 ws2.length c2) := blk_cell h2 1
        cases ws2 with
        | nil =>
          rw [grant_nil, List.append_nil] at hi
          have HR1 := Aside0.mk (And.intro hi.2.1 hi.2.2.1)
          clear hi h2 r1 r2 q1 q2
          go_wp2_with fail
          go_ret
          exact ⟨_, rfl, by rw [← HR1.out.2]; exact HO.out, by rw [← HR1.out.1]; exact HL.out, HBR.out.1, HKR.out⟩
        | cons o ws3 =>
          obtain ⟨f, rfl⟩ : ∃ f, gk = f + 1 := ⟨gk - 1, by have := hi.1; simp only [List.length_cons] at this; omega⟩
          obtain ⟨y, yo, cur, e1, hBy, hyb⟩ := Q_addr q2 (by simp)
          subst e1
          obtain ⟨ad, e1, z0, z1⟩ := one_at r2 0 (by simp)
          injection e1 with e1
          subst e1
          obtain ⟨who1, wt⟩ := o
          have z0' : wr.cell? ⟨y, yo, none⟩ = some (.int .i64 who1) := by simpa [Addr.add] using z0
          have z1' : wr.cell? ⟨y, yo + 1, none⟩ = some (.bool wt) := by simpa [Addr.add] using z1
          obtain ⟨n2, hn2⟩ : ∃ q, ((who1, wt) :: ws3).length = q := ⟨_, rfl⟩
          have hn3 : n2 = ws3.length + 1 := by rw [← hn2]; rfl
          rw [hn2] at x1 h2 q1 q2 l2 r2
          have kn : (0 < n2) = True := eq_true (by omega)
          have HMAY := Aside0.mk (rmay_calls HL.out who1 wt (by have := hi.2.2.2.1; omega))
          rw [uni_may hi.2.2.2.2.2.1] at HMAY
          have HN2 := Aside0.mk hn2
          clear z0 z1 r1 q1 q2 hn2 hn3 hyb r2
          cases hm : mayL hs2 wt with
          | false =>
            rw [grant_stop (o := (who1, wt)) hm, List.append_nil] at hi
            have HR1 := Aside0.mk (And.intro hi.2.1 hi.2.2.1)
            rw [hm] at HMAY
            clear hi h2 hm
            go_wp2_with fail
            refine HMAY.out.mono ?_
            rintro e_ w6 ⟨rfl, hb⟩
            have HL6 := Aside0.mk (lk_below HL.out hb)
            have HO6 := Aside0.mk (Kd.R_below HO.out hb)
            have HBR6 := Aside0.mk (HBR.out.1.trans (hb.mono (Nat.le_trans HBB.out HBR.out.2)))
            have HKR6 := Aside0.mk (HKR.out.trans (Kt.below hb))
            clear hb
            go_wp2_with fail
            go_ret
            exact ⟨_, rfl, by rw [← HR1.out.2]; exact HO6.out, by rw [← HR1.out.1]; exact HL6.out, HBR6.out, HKR6.out⟩
          | true =>
            rw [grant_go (o := (who1, wt)) hm] at hi
            have HUN := Aside0.mk (uni_snoc (o := (who1, wt)) hi.2.2.2.2.2.1 hm)
            have HG := Aside0.mk hi
            rw [hm] at HMAY
            have HPR := Aside0.mk h2
            clear hi hm h2
            go_wp2_with fail
            refine HMAY.out.mono ?_
            rintro e_ w6 ⟨rfl, hb⟩
            have HL6 := Aside0.mk (lk_below HL.out hb)
            have HO6 := Aside0.mk (Kd.R_below HO.out hb)
            have HBR6 := Aside0.mk (HBR.out.1.trans (hb.mono (Nat.le_trans HBB.out HBR.out.2)))
            have HSZ6 := Aside0.mk (Nat.le_trans HBR.out.2 hb.size)
            have HKR6 := Aside0.mk (HKR.out.trans (Kt.below hb))
            have xu1 : w6.cell? ⟨p, 1, none⟩ = some (.slice (some ⟨y, yo, none⟩) n2 c2) := blk_cell (blk_below HPR.out hb) 1
            have xu2 : w6.cell? ⟨y, yo, none⟩ = some (.int .i64 who1) := pw_cell_below hb z0'
            have xu3 : w6.cell? ⟨y, yo + 1, none⟩ = some (.bool wt) := pw_cell_below hb z1'
            clear hb HL HO HBR HKR HMAY HPR x0 x1 z0' z1'
            have hba := (Below.refl w6.heap.size w6).alloc (Nat.le_refl _) (.cells #[.int .i64 who1, .bool wt] 81 (0, 0))
            have hx7 := blk_new w6 (.cells #[.int .i64 who1, .bool wt] 81 (0, 0))
            obtain ⟨w7, hw7⟩ : ∃ q, w6.alloc (.cells #[.int .i64 who1, .bool wt] 81 (0, 0)) = q := ⟨_, rfl⟩
            obtain ⟨x, hx⟩ : ∃ q, w6.heap.size = q := ⟨_, rfl⟩
            rw [hw7] at hba hx7
            have HL7 := Aside0.mk (lk_below HL6.out hba)
            have HO7 := Aside0.mk (Kd.R_below HO6.out hba)
            have HBD0 : Aside0 (B ≤ w7.heap.size) := ⟨by have := hba.size; have := HBB.out; have := HSZ6.out; omega⟩
            have HBR7 := Aside0.mk (HBR6.out.trans (hba.mono (Nat.le_trans HBB.out HSZ6.out)))
            have HSZ7 := Aside0.mk (Nat.le_trans HSZ6.out hba.size)
            have HKR7 := Aside0.mk (HKR6.out.trans (Kt.below hba))
            have HXP : Aside0 (x ≠ p) := ⟨by obtain ⟨_, _, _, h2, _⟩ := HL6.out; have := blk_lt h2; omega⟩
            rw [hx] at hx7
            have HXD := Aside0.mk hx7
            obtain ⟨A3, c3, A4, c4, h8, _, _, _, r8, _, q7, q8⟩ := lk_reads HL6.out
            have HXN : Aside0 (some x ≠ (Value.slice A3 hs2.length c3).ownBlock) := ⟨fun e_ => by have := Kd.Q_lt q7 x e_.symm; omega⟩
            have h8 := blk_below h8 hba
            have q7 := Kd.Q_below q7 hba
            have q8 := Kd.Q_below q8 hba
            have r8 := Kd.C_below r8 hba
            rw [HN2.out] at h8 r8 q7 q8
            have HPB := Aside0.mk h8
            have HQ1 := Aside0.mk q8
            have HQ2 := Aside0.mk q7
            have HR8 := Aside0.mk r8
            have HWC := Aside0.mk (fun w h => without_calls A4 c4 ((who1, wt) :: ws3) who1 w h (by have := HG.out.2.2.2.1; omega))
            rw [HN2.out, wo_head (o := (who1, wt)) HG.out.2.2.2.2.2.2] at HWC
            clear hba hx7 h8 q7 q8 r8 HL6 HO6 HBR6 HSZ6 HKR6
            go_upto_region 8 with fail
            go_cut [] (fun wx => Aside0 (∃ v2 : Value, wx.heap[p]? = some (.cells #[.slice A3 hs2.length c3, v2] RT (0, 0)) ∧ KOne.Q RE wx B (fun k => some k ≠ v2.ownBlock) (.slice A3 hs2.length c3) hs2 ∧ KOne.Q RE wx B (fun k => some k ≠ (Value.slice A3 hs2.length c3).ownBlock) v2 ws3) ∧ Aside0 (wx.heap[x]? = some (.cells #[.int .i64 who1, .bool wt] 81 (0, 0))) ∧ Aside0 (Kd.R (Kd.int .i64) 3 wx w.heap.size (fun _ => True) u5 came) ∧ Aside0 (Below B w wx) ∧ Aside0 (Kt RT RE w wx) ∧ Aside0 (w.heap.size ≤ wx.heap.size))
            case first =>
              refine wp_region_tree (fun w_ w1_ => w1_.heap[x]? = w_.heap[x]?) (.rd 0 (.rd 1 (.rd 2 (.rd 3 (.rd 5 (.rd 6 (.ef 4 (.ef 7 (.rd 8 (.rd 9 (.ef 10 .nil))))))))))) (by kernel_rfl) (by kernel_rfl) (fun _ => rfl) (fun h h' => h'.trans h) (fun wd hhp_ hbw_ => ?_)
              have HBd := Aside0.mk (HBR7.out.trans (hbw_.mono HBD0.out))
              have HPd := Aside0.mk (blk_below HPB.out hbw_)
              have HOd := Aside0.mk (Kd.Q_below HQ2.out hbw_)
              have HRd := Aside0.mk (Kd.C_below HR8.out hbw_)
              have HRCd := Aside0.mk (Kd.R_below HO7.out hbw_)
              have HXd := Aside0.mk (blk_below HXD.out hbw_)
              have HKd := Aside0.mk (HKR7.out.trans (Kt.below hbw_))
              have HBD := Aside0.mk (Nat.le_trans HBD0.out hbw_.size)
              have HSd := Aside0.mk (Nat.le_trans HSZ7.out hbw_.size)
              have c_d : wd.cell? ⟨p, 1, none⟩ = some (.slice A4 n2 c4) := blk_cell HPd.out 1
              clear hhp_ hbw_
              (refine t_read (o := { dst := some 57, op := Op.move (Operand.tmp 0), type := 45, pos := "ref.go:206", after := #[], guard := none }) rfl (by first | rfl | (simp [Region.wanted, yielded]; done)) (by intro w_ hE_; (try dsimp only at hE_); first | (go_simp; done) | (go_simp; rfl)) ?_)
              (try simp only [Act.put, List.setIfInBounds_toArray, List.set_cons_zero, List.set_cons_succ])
              (refine t_read (o := { dst := some 58, op := Op.move (Operand.tmp 0), type := 45, pos := "ref.go:206", after := #[], guard := none }) rfl (by first | rfl | (simp [Region.wanted, yielded]; done)) (by intro w_ hE_; (try dsimp only at hE_); first | (go_simp; done) | (go_simp; rfl)) ?_)
              (try simp only [Act.put, List.setIfInBounds_toArray, List.set_cons_zero, List.set_cons_succ])
              (refine t_read (o := { dst := some 59, op := Op.nilCheck (Operand.tmp 58), type := 0, pos := "ref.go:206", after := #[{ on := 1, ground := Ground.data }], guard := none }) rfl (by first | rfl | (simp [Region.wanted, yielded]; done)) (by intro w_ hE_; (try dsimp only at hE_); first | (go_simp; done) | (go_simp; rfl)) ?_)
              (try simp only [Act.put, List.setIfInBounds_toArray, List.set_cons_zero, List.set_cons_succ])
              (refine t_read (o := { dst := some 60, op := Op.fieldAddr 48 (Operand.tmp 59) 1, type := 0, pos := "ref.go:206", after := #[{ on := 2, ground := Ground.data }], guard := none }) rfl (by first | rfl | (simp [Region.wanted, yielded]; done)) (by intro w_ hE_; (try dsimp only at hE_); first | (go_simp; done) | (go_simp; rfl)) ?_)
              (try simp only [Act.put, List.setIfInBounds_toArray, List.set_cons_zero, List.set_cons_succ])
              (refine t_read (o := { dst := some 62, op := Op.fieldAddr 81 (Operand.tmp 6) 0, type := 0, pos := "ref.go:206", after := #[], guard := none }) rfl (by first | rfl | (simp [Region.wanted, yielded]; done)) (by intro w_ hE_; (try dsimp only at hE_); first | (go_simp; done) | (go_simp; rfl)) ?_)
              (try simp only [Act.put, List.setIfInBounds_toArray, List.set_cons_zero, List.set_cons_succ])
              (refine t_read (o := { dst := some 63, op := Op.load 3 (Operand.tmp 62), type := 3, pos := "ref.go:206", after := #[{ on := 5, ground := Ground.data }], guard := none }) rfl (by first | rfl | (simp [Region.wanted, yielded]; done)) (by intro w_ hE_; (try dsimp only at hE_); have hx_ := hE_.trans HXd.out; have z0_ : w_.cell? ⟨x, 0, none⟩ = some (.int .i64 who1) := blk_cell hx_ 0; clear hE_; first | (go_simp; done) | (go_simp; rfl)) ?_)
              (try simp only [Act.put, List.setIfInBounds_toArray, List.set_cons_zero, List.set_cons_succ])
              refine t_ef ?_
              refine s_val (o := { dst := some 61, op := Op.load 46 (Operand.tmp 60), type := 46, pos := "ref.go:206", after := #[{ on := 3, ground := Ground.data }], guard := none }) (w1 := wd) rfl (by first | rfl | (simp [Region.wanted, yielded]; done)) (by first | (go_simp; done) | (go_simp; rfl)) (rfl) ?_
              (try simp only [Act.put, List.setIfInBounds_toArray, List.set_cons_zero, List.set_cons_succ])
              refine t_ef ?_
              refine s_call (o := { dst := some 64, op := Op.call { callee := Callee.value (Operand.func 38), args := #[Operand.tmp 61, Operand.tmp 63], argTypes := #[46, 3] }, type := 46, pos := "ref.go:206", after := #[{ on := 4, ground := Ground.data }, { on := 6, ground := Ground.data }], guard := none }) rfl (by first | rfl | (simp [Region.wanted, yielded]; done)) (by first | (go_simp; done) | (go_simp; exact ⟨rfl, rfl⟩) | (go_simp; rfl)) ?_
              refine (HWC.out wd HRd.out).mono ?_
              rintro e_ w4 ⟨v4, rfl, ho, hb⟩
              obtain ⟨A5, c5, rfl⟩ := Kd.R_slice ho
              refine ⟨_, rfl, (blk_below HXd.out hb).trans HXd.out.symm, ?_⟩
              have hn4 := lk_new (S := RT) ho HBD.out HOd.out hb
              have hp4 := blk_below HPd.out hb
              have HL4 : Aside0 (∃ v2 : Value, (w4.setCell ⟨p, 1, none⟩ (.slice A5 ws3.length c5)).heap[p]? = some (.cells #[.slice A3 hs2.length c3, v2] RT (0, 0)) ∧ KOne.Q RE (w4.setCell ⟨p, 1, none⟩ (.slice A5 ws3.length c5)) B (fun k => some k ≠ v2.ownBlock) (.slice A3 hs2.length c3) hs2 ∧ KOne.Q RE (w4.setCell ⟨p, 1, none⟩ (.slice A5 ws3.length c5)) B (fun k => some k ≠ (Value.slice A3 hs2.length c3).ownBlock) v2 ws3) := ⟨_, blk_set hp4 1 (.slice A5 ws3.length c5), Kd.Q_set hn4.2 hp4 (by intro q hq; have : q ∈ [RE] := hq; simp at this; rw [this]; decide) 1 _, Kd.Q_set hn4.1 hp4 (by intro q hq; have : q ∈ [RE] := hq; simp at this; rw [this]; decide) 1 _⟩
              have HB4 : Aside0 (Below B w (w4.setCell ⟨p, 1, none⟩ (.slice A5 ws3.length c5))) := ⟨(HBd.out.trans (hb.mono HBD.out)).setCell HBP.out _⟩
              have HK4 : Aside0 (Kt RT RE w (w4.setCell ⟨p, 1, none⟩ (.slice A5 ws3.length c5))) := ⟨(HKd.out.trans (Kt.below hb)).trans (Kt.set hp4 1 _)⟩
              have HR4 := Aside0.mk (Kd.R_set (Kd.R_below HRCd.out hb) hp4 (by intro q hq; have hq : q ∈ [3] := hq; simp at hq; rw [hq]; decide) 1 (.slice A5 ws3.length c5))
              have HX4 := Aside0.mk (blk_below HXd.out hb)
              have HS4 := Aside0.mk (Nat.le_trans HSd.out hb.size)
              have c_4 : w4.cell? ⟨p, 1, none⟩ = some (.slice A4 n2 c4) := blk_cell hp4 1
              have f_4 : w4.frozen? ⟨p, 1, none⟩ = false := blk_frozen hp4 1
              clear ho hb hn4 hp4 c_d
              (try simp only [Act.put, List.setIfInBounds_toArray, List.set_cons_zero, List.set_cons_succ])
              (refine t_read (o := { dst := some 65, op := Op.nilCheck (Operand.tmp 57), type := 0, pos := "ref.go:206", after := #[{ on := 0, ground := Ground.data }, { on := 0, ground := Ground.phase }, { on := 1, ground := Ground.phase }, { on := 2, ground := Ground.phase }, { on := 3, ground := Ground.phase }, { on := 4, ground := Ground.phase }, { on := 5, ground := Ground.phase }, { on := 6, ground := Ground.phase }, { on := 7, ground := Ground.phase }], guard := none }) rfl (by first | rfl | (simp [Region.wanted, yielded]; done)) (by intro w_ hE_; (try dsimp only at hE_); first | (go_simp; done) | (go_simp; rfl)) ?_)
              (try simp only [Act.put, List.setIfInBounds_toArray, List.set_cons_zero, List.set_cons_succ])
              (refine t_read (o := { dst := some 66, op := Op.fieldAddr 48 (Operand.tmp 65) 1, type := 0, pos := "ref.go:206", after := #[{ on := 8, ground := Ground.data }, { on := 0, ground := Ground.phase }, { on := 1, ground := Ground.phase }, { on := 2, ground := Ground.phase }, { on := 3, ground := Ground.phase }, { on := 4, ground := Ground.phase }, { on := 5, ground := Ground.phase }, { on := 6, ground := Ground.phase }, { on := 7, ground := Ground.phase }], guard := none }) rfl (by first | rfl | (simp [Region.wanted, yielded]; done)) (by intro w_ hE_; (try dsimp only at hE_); first | (go_simp; done) | (go_simp; rfl)) ?_)
              (try simp only [Act.put, List.setIfInBounds_toArray, List.set_cons_zero, List.set_cons_succ])
              refine t_ef ?_
              refine s_store (o := { dst := none, op := Op.store 46 (Operand.tmp 66) (Operand.tmp 64), type := 0, pos := "ref.go:206", after := #[{ on := 9, ground := Ground.data }, { on := 7, ground := Ground.data }, { on := 7, ground := Ground.chain }, { on := 0, ground := Ground.phase }, { on := 1, ground := Ground.phase }, { on := 2, ground := Ground.phase }, { on := 3, ground := Ground.phase }, { on := 4, ground := Ground.phase }, { on := 5, ground := Ground.phase }, { on := 6, ground := Ground.phase }, { on := 7, ground := Ground.phase }], guard := none }) (w1 := w4.setCell ⟨p, 1, none⟩ (.slice A5 ws3.length c5)) rfl (by first | rfl | (simp [Region.wanted, yielded]; done)) (by first | (go_simp; done) | (go_simp; rfl)) (Below.heap_setCell w4 ⟨p, 1, none⟩ (.slice A5 ws3.length c5) x HXP.out) ?_
              (try simp only [Act.put, List.setIfInBounds_toArray, List.set_cons_zero, List.set_cons_succ])
              refine t_nil ?_
              have HX5 := Aside0.mk ((Below.heap_setCell w4 ⟨p, 1, none⟩ (.slice A5 ws3.length c5) x HXP.out).trans HX4.out)
              have HS5 : Aside0 (w.heap.size ≤ (w4.setCell ⟨p, 1, none⟩ (.slice A5 ws3.length c5)).heap.size) := ⟨by have := HS4.out; simpa [World.setCell] using this⟩
              clear HBd HPd HOd HRd HRCd HXd HKd HBD HSd HX4 HS4
              generalize w4.setCell ⟨p, 1, none⟩ (.slice A5 ws3.length c5) = w5 at *
              go_wp2_with fail
              go_meet
              exact ⟨HL4, HX5, HR4, HB4, HK4, HS5⟩
            case rest =>
              obtain ⟨HLC, HXC, HRC, HWB, HWK, HWS⟩ := hcut
              clear HPB HQ1 HQ2 HR8 HL7 HO7 HBR7 HSZ7 HKR7 HXD HBD0 HWC xu1 xu2 xu3 hw7 hx
              obtain ⟨v2, h9, p1, p2⟩ := HLC.out
              obtain ⟨A9, c9, e9, _, _⟩ := Kd.Q_reads p2
              subst e9
              obtain ⟨n9, hn9⟩ : ∃ q, ws3.length = q := ⟨_, rfl⟩
              have HN9 := Aside0.mk hn9
              rw [hn9] at h9 p1 p2
              have HPB := Aside0.mk h9
              have HQ1 := Aside0.mk p1
              have HQ2 := Aside0.mk p2
              have HXD := HXC
              have HB := Aside0.mk (Below.refl wc.heap.size wc)
              have HBS : Aside0 (B ≤ wc.heap.size) := ⟨Nat.le_trans HBB.out HWS.out⟩
              have HNB : Aside0 (hs2.length ≤ 100000) := ⟨by have := HG.out.2.2.2.1; omega⟩
              clear h9 p1 p2 hn9 HLC
              go_upto_region 9 with fail
              go_cut [] (fun wx => Aside0 (LkAt RT RE wx B p (hs2 ++ [(who1, wt)]) ws3) ∧ Aside0 (wx.heap[x]? = some (.cells #[.int .i64 who1, .bool wt] 81 (0, 0))) ∧ Aside0 (Kd.R (Kd.int .i64) 3 wx w.heap.size (fun _ => True) u5 came) ∧ Aside0 (Below B w wx) ∧ Aside0 (Kt RT RE w wx) ∧ Aside0 (w.heap.size ≤ wx.heap.size))
              case first =>
                refine wp_region_tree (fun w_ w1_ => w1_.heap[x]? = w_.heap[x]? ∧ w1_.cell? ⟨p, 1, none⟩ = w_.cell? ⟨p, 1, none⟩) (.rd 0 (.rd 1 (.rd 2 (.rd 3 (.rd 5 (.two 4 6 (.ef 6 (.ef 7 (.rd 8 (.rd 9 (.ef 10 .nil))))) (.ef 4 (.ef 7 (.rd 8 (.rd 9 (.ef 10 .nil))))))))))) (by kernel_rfl) (by kernel_rfl) (fun _ => ⟨rfl, rfl⟩) (fun h h' => ⟨h'.1.trans h.1, h'.2.trans h.2⟩) (fun wd hhp_ hbw_ => ?_)
                have HBd := Aside0.mk (below_step HB.out hbw_)
                have hpd := blk_below HPB.out hbw_
                have HPd := Aside0.mk hpd
                have HPa := Aside0.mk (blk_below hpd ((Below.refl wd.heap.size wd).alloc (Nat.le_refl _) (.cells #[.int .i64 who1, .bool wt] 81 (0, 0))))
                have HQd := Aside0.mk (Kd.Q_below HQ1.out hbw_)
                have HOd := Aside0.mk (Kd.Q_below HQ2.out hbw_)
                have HXd := Aside0.mk (blk_below HXD.out hbw_)
                have HXa := Aside0.mk (blk_below HXd.out ((Below.refl wd.heap.size wd).alloc (Nat.le_refl _) (.cells #[.int .i64 who1, .bool wt] 81 (0, 0))))
                have c_d : wd.cell? ⟨p, 0, none⟩ = some (.slice A3 hs2.length c3) := blk_cell HPd.out 0
                have c_a : (wd.alloc (.cells #[.int .i64 who1, .bool wt] 81 (0, 0))).cell? ⟨p, 0, none⟩ = some (.slice A3 hs2.length c3) := blk_cell HPa.out 0
                clear hhp_ hbw_ hpd
                (refine t_read (o := { dst := some 67, op := Op.move (Operand.tmp 0), type := 45, pos := "ref.go:207", after := #[], guard := none }) rfl (by first | rfl | (simp [Region.wanted, yielded]; done)) (by intro w_ hE_; (try dsimp only at hE_); first | (go_simp; done) | (go_simp; rfl)) ?_)
                (try simp only [Act.put, List.setIfInBounds_toArray, List.set_cons_zero, List.set_cons_succ])
                (refine t_read (o := { dst := some 68, op := Op.move (Operand.tmp 0), type := 45, pos := "ref.go:207", after := #[], guard := none }) rfl (by first | rfl | (simp [Region.wanted, yielded]; done)) (by intro w_ hE_; (try dsimp only at hE_); first | (go_simp; done) | (go_simp; rfl)) ?_)
                (try simp only [Act.put, List.setIfInBounds_toArray, List.set_cons_zero, List.set_cons_succ])
                (refine t_read (o := { dst := some 69, op := Op.nilCheck (Operand.tmp 68), type := 0, pos := "ref.go:207", after := #[{ on := 1, ground := Ground.data }], guard := none }) rfl (by first | rfl | (simp [Region.wanted, yielded]; done)) (by intro w_ hE_; (try dsimp only at hE_); first | (go_simp; done) | (go_simp; rfl)) ?_)
                (try simp only [Act.put, List.setIfInBounds_toArray, List.set_cons_zero, List.set_cons_succ])
                (refine t_read (o := { dst := some 70, op := Op.fieldAddr 48 (Operand.tmp 69) 0, type := 0, pos := "ref.go:207", after := #[{ on := 2, ground := Ground.data }], guard := none }) rfl (by first | rfl | (simp [Region.wanted, yielded]; done)) (by intro w_ hE_; (try dsimp only at hE_); first | (go_simp; done) | (go_simp; rfl)) ?_)
                (try simp only [Act.put, List.setIfInBounds_toArray, List.set_cons_zero, List.set_cons_succ])
                (refine t_read (o := { dst := some 72, op := Op.load 81 (Operand.tmp 6), type := 81, pos := "ref.go:207", after := #[], guard := none }) rfl (by first | rfl | (simp [Region.wanted, yielded]; done)) (by intro w_ hE_; (try dsimp only at hE_); have hx_ := hE_.1.trans HXd.out; have z0_ : w_.cell? ⟨x, 0, none⟩ = some (.int .i64 who1) := blk_cell hx_ 0; have z1_ : w_.cell? ⟨x, 1, none⟩ = some (.bool wt) := blk_cell hx_ 1; first | (go_simp; done) | (go_simp; rfl)) ?_)
                (try simp only [Act.put, List.setIfInBounds_toArray, List.set_cons_zero, List.set_cons_succ])
                refine t_two ?_ ?_
                · refine s_val (o := { dst := some 71, op := Op.load 46 (Operand.tmp 70), type := 46, pos := "ref.go:207", after := #[{ on := 3, ground := Ground.data }], guard := none }) (w1 := wd) rfl (by first | rfl | (simp [Region.wanted, yielded]; done)) (by first | (go_simp; done) | (go_simp; rfl)) (⟨rfl, rfl⟩) ?_
                  (try simp only [Act.put, List.setIfInBounds_toArray, List.set_cons_zero, List.set_cons_succ])
                  refine t_ef ?_
                  refine s_val (o := { dst := some 73, op := Op.buildSlice 46 1 #[(0, Operand.tmp 72)], type := 46, pos := "ref.go:207", after := #[{ on := 5, ground := Ground.data }], guard := none }) (w1 := (wd.alloc (.cells #[.int .i64 who1, .bool wt] 81 (0, 0)))) rfl (by first | rfl | (simp [Region.wanted, yielded]; done)) (by first | (go_simp; done) | (go_simp; rfl)) (⟨HXa.out.trans HXd.out.symm, (blk_cell HPa.out 1).trans (blk_cell HPd.out 1).symm⟩) ?_
                  (try simp only [Act.put, List.setIfInBounds_toArray, List.set_cons_zero, List.set_cons_succ])
                  refine t_ef ?_
                  refine s_list (o := { dst := some 74, op := Op.call { callee := Callee.builtin Builtin.append, args := #[Operand.tmp 71, Operand.tmp 73], argTypes := #[46, 46] }, type := 46, pos := "ref.go:207", after := #[{ on := 4, ground := Ground.data }, { on := 6, ground := Ground.data }], guard := none }) rfl (by first | rfl | (simp [Region.wanted, yielded]; done)) ?_
                  refine Kd.Q_append KOne (w0 := wd) (B) rfl (.tmp 71) (.tmp 73) 46 81 (.agg #[.int .i64 0, .bool false]) 16 rfl Try.underlying46 info81 rfl (by decide) (by decide) (.slice A3 hs2.length c3) hs2 (who1, wt) [.int .i64 who1, .bool wt] (fun k => some k ≠ ((.slice A9 n9 c9) : Value).ownBlock) (fun _ => False) rfl rfl (one_M _) (fun _ hk => hk.elim) (fun k hk e_ => by have := Kd.Q_lt HOd.out k e_.symm; omega) HQd.out ⟨rfl, rfl, rfl, Nat.le_refl _, fun _ _ => rfl⟩ (by have := blk_lt HPd.out; have := HBP.out; omega) (by have := HNB.out; omega) ?_
                  intro v3 w4 ho hb hg hat
                  obtain ⟨os4, hos4⟩ : ∃ q, hs2 ++ [(who1, wt)] = q := ⟨_, rfl⟩
                  rw [hos4] at ho
                  obtain ⟨A4, c4, e4, _⟩ := Kd.Q_slice ho
                  subst e4
                  have HEQ4 := Aside0.mk hos4
                  clear hos4
                  have hpa4 := blk_grown HPd.out hg (Kd.Q_ne HQd.out HPd.out (by decide))
                  have hx4 := blk_grown HXd.out hg (fun e_ => HXN.out e_)
                  refine ⟨⟨hx4.trans HXa.out.symm, (blk_cell hpa4 1).trans (blk_cell HPa.out 1).symm⟩, ?_⟩
                  have HQ4 := Aside0.mk ho
                  have HO4 := Aside0.mk (Kd.Q_after (v := (.slice A3 hs2.length c3)) (v1 := (.slice A4 os4.length c4)) (Kd.Q_mono HOd.out (fun k hk => hk) |> fun h => Kd.Q_mono (Kd.Q_bound h) (fun k hk => ⟨trivial, hk.1⟩) (ok' := fun k => True ∧ some k ≠ ((.slice A3 hs2.length c3) : Value).ownBlock)) hg hat)
                  have HB4 := Aside0.mk hb
                  have HG4 := Aside0.mk hg
                  have HP4 := Aside0.mk hpa4
                  have HX4 := Aside0.mk hx4
                  have c_4 : w4.cell? ⟨p, 0, none⟩ = some (.slice A3 hs2.length c3) := blk_cell hpa4 0
                  have f_4 : w4.frozen? ⟨p, 0, none⟩ = false := blk_frozen hpa4 0
                  clear ho hb hg hat hpa4 hx4 c_d c_a
                  (try simp only [Act.put, List.setIfInBounds_toArray, List.set_cons_zero, List.set_cons_succ])
                  (refine t_read (o := { dst := some 75, op := Op.nilCheck (Operand.tmp 67), type := 0, pos := "ref.go:207", after := #[{ on := 0, ground := Ground.data }, { on := 0, ground := Ground.phase }, { on := 1, ground := Ground.phase }, { on := 2, ground := Ground.phase }, { on := 3, ground := Ground.phase }, { on := 4, ground := Ground.phase }, { on := 5, ground := Ground.phase }, { on := 6, ground := Ground.phase }, { on := 7, ground := Ground.phase }], guard := none }) rfl (by first | rfl | (simp [Region.wanted, yielded]; done)) (by intro w_ hE_; (try dsimp only at hE_); first | (go_simp; done) | (go_simp; rfl)) ?_)
                  (try simp only [Act.put, List.setIfInBounds_toArray, List.set_cons_zero, List.set_cons_succ])
                  (refine t_read (o := { dst := some 76, op := Op.fieldAddr 48 (Operand.tmp 75) 0, type := 0, pos := "ref.go:207", after := #[{ on := 8, ground := Ground.data }, { on := 0, ground := Ground.phase }, { on := 1, ground := Ground.phase }, { on := 2, ground := Ground.phase }, { on := 3, ground := Ground.phase }, { on := 4, ground := Ground.phase }, { on := 5, ground := Ground.phase }, { on := 6, ground := Ground.phase }, { on := 7, ground := Ground.phase }], guard := none }) rfl (by first | rfl | (simp [Region.wanted, yielded]; done)) (by intro w_ hE_; (try dsimp only at hE_); first | (go_simp; done) | (go_simp; rfl)) ?_)
                  (try simp only [Act.put, List.setIfInBounds_toArray, List.set_cons_zero, List.set_cons_succ])
                  refine t_ef ?_
                  refine s_store (o := { dst := none, op := Op.store 46 (Operand.tmp 76) (Operand.tmp 74), type := 0, pos := "ref.go:207", after := #[{ on := 9, ground := Ground.data }, { on := 7, ground := Ground.data }, { on := 7, ground := Ground.chain }, { on := 0, ground := Ground.phase }, { on := 1, ground := Ground.phase }, { on := 2, ground := Ground.phase }, { on := 3, ground := Ground.phase }, { on := 4, ground := Ground.phase }, { on := 5, ground := Ground.phase }, { on := 6, ground := Ground.phase }, { on := 7, ground := Ground.phase }], guard := none }) (w1 := w4.setCell ⟨p, 0, none⟩ (.slice A4 os4.length c4)) rfl (by first | rfl | (simp [Region.wanted, yielded]; done)) (by first | (go_simp; done) | (go_simp; rfl)) (⟨Below.heap_setCell w4 ⟨p, 0, none⟩ (.slice A4 os4.length c4) x HXP.out, (blk_cell (blk_set HP4.out 0 (.slice A4 os4.length c4)) 1).trans (blk_cell HP4.out 1).symm⟩) ?_
                  (try simp only [Act.put, List.setIfInBounds_toArray, List.set_cons_zero, List.set_cons_succ])
                  refine t_nil ?_
                  have HLF := Aside0.mk (lk_put0 (S := RT) (by decide) HBP.out HP4.out HQ4.out (Kd.Q_mono HO4.out (fun _ h_ => h_.2)))
                  have HBF : Aside0 (Below B w (w4.setCell ⟨p, 0, none⟩ (.slice A4 os4.length c4))) := ⟨((HWB.out.trans (HBd.out.mono HBS.out)).trans HB4.out).setCell HBP.out _⟩
                  have HKF : Aside0 (Kt RT RE w (w4.setCell ⟨p, 0, none⟩ (.slice A4 os4.length c4))) := ⟨((HWK.out.trans (Kt.below HBd.out)).trans (Kt.grown HG4.out (fun k hk => Kd.Q_typed HQd.out k hk))).trans (Kt.set HP4.out 0 _)⟩
                  have HRF := Aside0.mk (Kd.R_set (Kd.R_over' (v := (Value.slice A3 hs2.length c3)) (Kd.R_below HRC.out HBd.out) (fun k hk => Kd.Q_typed HQd.out k hk) (by intro q hq; have hq : q ∈ [3] := hq; simp at hq; rw [hq]; decide) HG4.out) HP4.out (by intro q hq; have hq : q ∈ [3] := hq; simp at hq; rw [hq]; decide) 0 (.slice A4 os4.length c4))
                  have HXF := Aside0.mk ((Below.heap_setCell w4 ⟨p, 0, none⟩ (.slice A4 os4.length c4) x HXP.out).trans HX4.out)
                  have HSF : Aside0 (w.heap.size ≤ (w4.setCell ⟨p, 0, none⟩ (.slice A4 os4.length c4)).heap.size) := ⟨by have := HG4.out.size; have := HBd.out.size; have := HWS.out; simp [World.setCell]; omega⟩
                  clear HBd HPd HPa HQd HOd HXd HXa HQ4 HO4 HB4 HG4 HP4 HX4
                  generalize w4.setCell ⟨p, 0, none⟩ (.slice A4 os4.length c4) = w5 at *
                  go_wp2_with fail
                  go_meet
                  exact ⟨⟨by rw [HEQ4.out]; exact HLF.out⟩, HXF, HRF, HBF, HKF, HSF⟩
                · refine s_val (o := { dst := some 73, op := Op.buildSlice 46 1 #[(0, Operand.tmp 72)], type := 46, pos := "ref.go:207", after := #[{ on := 5, ground := Ground.data }], guard := none }) (w1 := (wd.alloc (.cells #[.int .i64 who1, .bool wt] 81 (0, 0)))) rfl (by first | rfl | (simp [Region.wanted, yielded]; done)) (by first | (go_simp; done) | (go_simp; rfl)) (⟨HXa.out.trans HXd.out.symm, (blk_cell HPa.out 1).trans (blk_cell HPd.out 1).symm⟩) ?_
                  (try simp only [Act.put, List.setIfInBounds_toArray, List.set_cons_zero, List.set_cons_succ])
                  refine t_ef ?_
                  refine s_val (o := { dst := some 71, op := Op.load 46 (Operand.tmp 70), type := 46, pos := "ref.go:207", after := #[{ on := 3, ground := Ground.data }], guard := none }) (w1 := (wd.alloc (.cells #[.int .i64 who1, .bool wt] 81 (0, 0)))) rfl (by first | rfl | (simp [Region.wanted, yielded]; done)) (by first | (go_simp; done) | (go_simp; rfl)) (⟨rfl, rfl⟩) ?_
                  (try simp only [Act.put, List.setIfInBounds_toArray, List.set_cons_zero, List.set_cons_succ])
                  refine t_ef ?_
                  refine s_list (o := { dst := some 74, op := Op.call { callee := Callee.builtin Builtin.append, args := #[Operand.tmp 71, Operand.tmp 73], argTypes := #[46, 46] }, type := 46, pos := "ref.go:207", after := #[{ on := 4, ground := Ground.data }, { on := 6, ground := Ground.data }], guard := none }) rfl (by first | rfl | (simp [Region.wanted, yielded]; done)) ?_
                  refine Kd.Q_append KOne (w0 := wd) (B) rfl (.tmp 71) (.tmp 73) 46 81 (.agg #[.int .i64 0, .bool false]) 16 rfl Try.underlying46 info81 rfl (by decide) (by decide) (.slice A3 hs2.length c3) hs2 (who1, wt) [.int .i64 who1, .bool wt] (fun k => some k ≠ ((.slice A9 n9 c9) : Value).ownBlock) (fun _ => False) rfl rfl (one_M _) (fun _ hk => hk.elim) (fun k hk e_ => by have := Kd.Q_lt HOd.out k e_.symm; omega) HQd.out ⟨rfl, rfl, rfl, Nat.le_refl _, fun _ _ => rfl⟩ (by have := blk_lt HPd.out; have := HBP.out; omega) (by have := HNB.out; omega) ?_
                  intro v3 w4 ho hb hg hat
                  obtain ⟨os4, hos4⟩ : ∃ q, hs2 ++ [(who1, wt)] = q := ⟨_, rfl⟩
                  rw [hos4] at ho
                  obtain ⟨A4, c4, e4, _⟩ := Kd.Q_slice ho
                  subst e4
                  have HEQ4 := Aside0.mk hos4
                  clear hos4
                  have hpa4 := blk_grown HPd.out hg (Kd.Q_ne HQd.out HPd.out (by decide))
                  have hx4 := blk_grown HXd.out hg (fun e_ => HXN.out e_)
                  refine ⟨⟨hx4.trans HXa.out.symm, (blk_cell hpa4 1).trans (blk_cell HPa.out 1).symm⟩, ?_⟩
                  have HQ4 := Aside0.mk ho
                  have HO4 := Aside0.mk (Kd.Q_after (v := (.slice A3 hs2.length c3)) (v1 := (.slice A4 os4.length c4)) (Kd.Q_mono HOd.out (fun k hk => hk) |> fun h => Kd.Q_mono (Kd.Q_bound h) (fun k hk => ⟨trivial, hk.1⟩) (ok' := fun k => True ∧ some k ≠ ((.slice A3 hs2.length c3) : Value).ownBlock)) hg hat)
                  have HB4 := Aside0.mk hb
                  have HG4 := Aside0.mk hg
                  have HP4 := Aside0.mk hpa4
                  have HX4 := Aside0.mk hx4
                  have c_4 : w4.cell? ⟨p, 0, none⟩ = some (.slice A3 hs2.length c3) := blk_cell hpa4 0
                  have f_4 : w4.frozen? ⟨p, 0, none⟩ = false := blk_frozen hpa4 0
                  clear ho hb hg hat hpa4 hx4 c_d c_a
                  (try simp only [Act.put, List.setIfInBounds_toArray, List.set_cons_zero, List.set_cons_succ])
                  (refine t_read (o := { dst := some 75, op := Op.nilCheck (Operand.tmp 67), type := 0, pos := "ref.go:207", after := #[{ on := 0, ground := Ground.data }, { on := 0, ground := Ground.phase }, { on := 1, ground := Ground.phase }, { on := 2, ground := Ground.phase }, { on := 3, ground := Ground.phase }, { on := 4, ground := Ground.phase }, { on := 5, ground := Ground.phase }, { on := 6, ground := Ground.phase }, { on := 7, ground := Ground.phase }], guard := none }) rfl (by first | rfl | (simp [Region.wanted, yielded]; done)) (by intro w_ hE_; (try dsimp only at hE_); first | (go_simp; done) | (go_simp; rfl)) ?_)
                  (try simp only [Act.put, List.setIfInBounds_toArray, List.set_cons_zero, List.set_cons_succ])
                  (refine t_read (o := { dst := some 76, op := Op.fieldAddr 48 (Operand.tmp 75) 0, type := 0, pos := "ref.go:207", after := #[{ on := 8, ground := Ground.data }, { on := 0, ground := Ground.phase }, { on := 1, ground := Ground.phase }, { on := 2, ground := Ground.phase }, { on := 3, ground := Ground.phase }, { on := 4, ground := Ground.phase }, { on := 5, ground := Ground.phase }, { on := 6, ground := Ground.phase }, { on := 7, ground := Ground.phase }], guard := none }) rfl (by first | rfl | (simp [Region.wanted, yielded]; done)) (by intro w_ hE_; (try dsimp only at hE_); first | (go_simp; done) | (go_simp; rfl)) ?_)
                  (try simp only [Act.put, List.setIfInBounds_toArray, List.set_cons_zero, List.set_cons_succ])
                  refine t_ef ?_
                  refine s_store (o := { dst := none, op := Op.store 46 (Operand.tmp 76) (Operand.tmp 74), type := 0, pos := "ref.go:207", after := #[{ on := 9, ground := Ground.data }, { on := 7, ground := Ground.data }, { on := 7, ground := Ground.chain }, { on := 0, ground := Ground.phase }, { on := 1, ground := Ground.phase }, { on := 2, ground := Ground.phase }, { on := 3, ground := Ground.phase }, { on := 4, ground := Ground.phase }, { on := 5, ground := Ground.phase }, { on := 6, ground := Ground.phase }, { on := 7, ground := Ground.phase }], guard := none }) (w1 := w4.setCell ⟨p, 0, none⟩ (.slice A4 os4.length c4)) rfl (by first | rfl | (simp [Region.wanted, yielded]; done)) (by first | (go_simp; done) | (go_simp; rfl)) (⟨Below.heap_setCell w4 ⟨p, 0, none⟩ (.slice A4 os4.length c4) x HXP.out, (blk_cell (blk_set HP4.out 0 (.slice A4 os4.length c4)) 1).trans (blk_cell HP4.out 1).symm⟩) ?_
                  (try simp only [Act.put, List.setIfInBounds_toArray, List.set_cons_zero, List.set_cons_succ])
                  refine t_nil ?_
                  have HLF := Aside0.mk (lk_put0 (S := RT) (by decide) HBP.out HP4.out HQ4.out (Kd.Q_mono HO4.out (fun _ h_ => h_.2)))
                  have HBF : Aside0 (Below B w (w4.setCell ⟨p, 0, none⟩ (.slice A4 os4.length c4))) := ⟨((HWB.out.trans (HBd.out.mono HBS.out)).trans HB4.out).setCell HBP.out _⟩
                  have HKF : Aside0 (Kt RT RE w (w4.setCell ⟨p, 0, none⟩ (.slice A4 os4.length c4))) := ⟨((HWK.out.trans (Kt.below HBd.out)).trans (Kt.grown HG4.out (fun k hk => Kd.Q_typed HQd.out k hk))).trans (Kt.set HP4.out 0 _)⟩
                  have HRF := Aside0.mk (Kd.R_set (Kd.R_over' (v := (Value.slice A3 hs2.length c3)) (Kd.R_below HRC.out HBd.out) (fun k hk => Kd.Q_typed HQd.out k hk) (by intro q hq; have hq : q ∈ [3] := hq; simp at hq; rw [hq]; decide) HG4.out) HP4.out (by intro q hq; have hq : q ∈ [3] := hq; simp at hq; rw [hq]; decide) 0 (.slice A4 os4.length c4))
                  have HXF := Aside0.mk ((Below.heap_setCell w4 ⟨p, 0, none⟩ (.slice A4 os4.length c4) x HXP.out).trans HX4.out)
                  have HSF : Aside0 (w.heap.size ≤ (w4.setCell ⟨p, 0, none⟩ (.slice A4 os4.length c4)).heap.size) := ⟨by have := HG4.out.size; have := HBd.out.size; have := HWS.out; simp [World.setCell]; omega⟩
                  clear HBd HPd HPa HQd HOd HXd HXa HQ4 HO4 HB4 HG4 HP4 HX4
                  generalize w4.setCell ⟨p, 0, none⟩ (.slice A4 os4.length c4) = w5 at *
                  go_wp2_with fail
                  go_meet
                  exact ⟨⟨by rw [HEQ4.out]; exact HLF.out⟩, HXF, HRF, HBF, HKF, HSF⟩
              case rest =>
                clear h8 r8 q7 q8 HXC HRC HWB HWK HWS HPB HQ1 HQ2 HXD HB HBS HNB
                obtain ⟨HL6, HX6, HO6, HWB, HWK, HWS⟩ := hcut
                have x6 : wc.cell? ⟨x, 0, none⟩ = some (.int .i64 who1) := blk_cell HX6.out 0
                have HBQ := Aside0.mk (Below.refl w.heap.size wc)
                have HCL : Aside0 (came.length ≤ 100000) := ⟨by have := HG.out.2.2.2.2.1; omega⟩
                go_wp2_with ((with_reducible refine gate_builtin (b := .append) (xs := #[.tmp 77, .tmp 80]) rfl ?_); at_builtin; go_must (refine Kd.R_append (Kd.int .i64) (w0 := wc) (w.heap.size) rfl (.tmp 77) (.tmp 80) 27 3 (.int .i64 0) 8 rfl Try.underlying27 info3 rfl (by decide) (by omega) u5 came who1 [.int .i64 who1] (fun _ => True) (fun _ => False) rfl rfl rfl (fun _ hk => hk.elim) (fun _ _ => trivial) HO6.out HBQ.out HWS.out (by have := HCL.out; omega) ?_; intro v7 w8 ho hb hg hat; have HO7 := Aside0.mk ho; have HBN := Aside0.mk hb; have HL7 := Aside0.mk (lk_other (by decide) (by decide) HL6.out hg (fun k hk => Kd.R_typed HO6.out k hk)); have HWB7 := Aside0.mk (HWB.out.grown hg (by have := HWS.out; have := HBB.out; omega) (fun k hk => by have := Kd.R_base HO6.out k hk; have := HBB.out; omega)); have HWK7 := Aside0.mk (Kt.newer HWK.out hg (fun k hk => Kd.R_base HO6.out k hk)); have HWS7 := Aside0.mk (Nat.le_trans HWS.out hg.size); clear ho hb hg hat))
                go_roundg f
                case measure => omega
                case rel =>
                  have hg := HG.out
                  refine ⟨hs2 ++ [(who1, wt)], ws3, came ++ [who1], ⟨by have := hg.1; simp only [List.length_cons] at this; omega, hg.2.1, by rw [List.append_assoc]; exact hg.2.2.1, ?_, ?_, HUN.out, ?_⟩, HL7, HO7, ⟨HWB7.out, HWS7.out⟩, HWK7⟩
                  · have := hg.2.2.2.1
                    simp only [List.length_append, List.length_cons, List.length_nil] at this ⊢
                    omega
                  · have := hg.2.2.2.2.1
                    simp only [List.length_append, List.length_cons, List.length_nil] at this ⊢
                    omega
                  · have := hg.2.2.2.2.2.2
                    unfold Nd at this ⊢
                    rw [List.map_cons, List.nodup_cons] at this
                    exact this.2
  · have hi1 : isIn who hs = false := by cases h : isIn who hs; rfl; exact absurd (.inl h) hin
    have hi2 : isIn who ws = false := by cases h : isIn who ws; rfl; exact absurd (.inr h) hin
    have hl2 : leaveL (hs, ws) who = ((hs, ws), []) := by
      unfold leaveL
      simp only []
      rw [if_neg (by rw [hi1]; simp), if_neg (by rw [hi2]; simp)]
    rw [hl2] at hR
    have HRR := Aside0.mk hR
    rw [hi1] at HF1
    rw [hi2] at HF2
    clear hR hin hi1 hi2 hl2 x0 f0
    go_enter Try.func25, Try.ntmps25
    go_wp2_with fail
    refine HF1.out.mono ?_
    rintro e_ w1 ⟨rfl, rfl⟩
    go_wp2_with fail
    refine HF2.out.mono ?_
    rintro e_ w1 ⟨rfl, rfl⟩
    go_wp2_with fail
    go_ret
    refine ⟨_, rfl, ?_⟩
    rw [← HRR.out]
    exact ⟨Kd.R_nil _ _ _ _ _, HLK.out, Below.refl _ _, Kt.refl _ _ _⟩
end Go.Proofs.Ytopclgpimabpcaa.LrD
