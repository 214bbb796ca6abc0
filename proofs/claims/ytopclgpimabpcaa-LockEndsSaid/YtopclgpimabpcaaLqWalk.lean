/- LockQueue: who waits comes in in order, readers that stand together at once: it answers true. No condition. -/
import Derived.Test.YtopclgpimabpcaaProg
import Derived.Below
import Derived.Deep.Draws
import Derived.Deep.AppendLies
import Derived.Maps.AppendAt
import Derived.OwnWalk
import Derived.Laws.BytesArg
import Derived.Laws.MakeOwn
import Derived.Laws.OwnMore
import Derived.Deep.OwnRows
import Derived.Tactics
import Derived.Lib.ConvBytes
import Derived.Laws.Slices
import Derived.WalkKit
import Derived.KernelRfl
import Derived.RowKit3
import Derived.Deep.LoopGhost
import Derived.Deep.QuietTactic
import Derived.BigQuiet
import Derived.WideLaws
import Derived.Deep.DeepCutAuto
import Derived.Deep.CutBlock
import Derived.Deep.RegionHeld3
import Derived.Laws.Rows
import Derived.Lib.AppendStr
import Derived.ArgAppend
import Derived.Laws.IdiomCopy
import Derived.OrdersHeld
import Derived.Laws.BitsLemmas
import Derived.RowKit
import Derived.Deep.DeepCutAuto
import Derived.WalkSpells
import Derived.Outline
import Derived.Test.YtopclgpimabpcaaWWords
import Derived.Test.YtopclgpimabpcaaWLast
import Derived.Test.YtopclgpimabpcaaWMore
import Derived.Test.YtopclgpimabpcaaWArr
import Derived.Test.YtopclgpimabpcaaWTab
import Derived.Test.YtopclgpimabpcaaWZeros
import Derived.Test.YtopclgpimabpcaaWRepsOne
import Derived.Test.YtopclgpimabpcaaLkG
import Derived.Test.YtopclgpimabpcaaLkP
namespace Go.Proofs.Ytopclgpimabpcaa.LqWalk
open Go.RowKit Go.Proofs.YtopclgpimabpcaaW.PrintWords Go.Proofs.YtopclgpimabpcaaW.PrintLast Go.Proofs.YtopclgpimabpcaaW.PrintMore Go.Proofs.Ytopclgpimabpcaa.Mix Go.Proofs.Ytopclgpimabpcaa.MixB Go.Proofs.Ytopclgpimabpcaa.MixT Go.Proofs.Ytopclgpimabpcaa.LkA Go.Proofs.Ytopclgpimabpcaa.LkB Go.Proofs.Ytopclgpimabpcaa.LkC Go.Proofs.Ytopclgpimabpcaa.LkD Go.Proofs.Ytopclgpimabpcaa.LkE Go.Proofs.Ytopclgpimabpcaa.LkF Go.Proofs.Ytopclgpimabpcaa.LkG Go.Proofs.Ytopclgpimabpcaa.LkP Go.Proofs.Ytopclgpimabpcaa.InA
set_option linter.unusedSimpArgs false
set_option linter.unusedVariables false
attribute [local go_sem] max2_int min2_int max_two min_two

abbrev LT : Nat := 72
abbrev LE : Nat := 76
theorem bool_at {w : World} {A : Option Addr} {n : Nat} {os : List Bool} (h : Kd.bool.C w A n os) (i : Nat) (hi : i < n) : ∃ ad, A = some ad ∧ w.cell? (ad.add i) = some (.bool (os.getD i false)) := by
  obtain ⟨ad, cs, e1, hs, h0, hcell⟩ := ReadsRow.get_ h false (i : Int) (by omega) (by omega)
  rw [Int.toNat_natCast] at h0 hcell
  have h0' : cs = [.bool (os.getD i false)] := h0
  subst h0'
  refine ⟨ad, e1, ?_⟩
  have := hcell 0 _ rfl
  have hz : Kd.bool.sz = 1 := rfl
  rw [hz, Nat.mul_one, Nat.add_zero] at this
  exact this
theorem seg_le (f : Nat → Bool) (a b m : Nat) (h : b ≤ m) : (seg f a b).length ≤ m := by rw [seg_len]; omega
set_option maxRecDepth 100000 in
set_option maxHeartbeats 2000000 in
theorem walk (A : Option Addr) (c : Nat) (l : List Bool) (w : World) (hr : Kd.bool.C w A l.length l) (hc : l.length ≤ c) (hg : l.length ≤ maxLen ∧ ∀ p ∈ l, True) :
    Calls Try.prog 11 #[.slice A l.length c] w fun e w' => e = .returned (.bool true) ∧ Below w.heap.size w w' := by
  have HR := Aside0.mk hr
  have hll : l.length ≤ 9223372036854775807 := by have := hg.1; unfold maxLen at this; omega
  obtain ⟨f, hf⟩ : ∃ f : Nat → Bool, (fun i => l.getD i false) = f := ⟨_, rfl⟩
  have HF : Aside0 (∀ i, l.getD i false = f i) := ⟨fun i => by rw [← hf]⟩
  obtain ⟨n, hn⟩ : ∃ n : Nat, min l.length 12 = n := ⟨_, rfl⟩
  have hnl : n ≤ 12 ∧ n ≤ l.length := by omega
  have kmin : min (l.length : Int) 12 = (n : Int) := by omega
  have HN := Aside0.mk hnl
  obtain ⟨ll, hl2⟩ : ∃ q, l.length = q := ⟨_, rfl⟩
  rw [hl2] at HR HN hll kmin hnl ⊢
  clear hr hc hg hf hn hl2
  go_enter Try.func11, Try.ntmps11
  go_wp2_with fail
  refine (begun_calls w).mono ?_
  rintro e_ w1 ⟨rfl, hb⟩
  have HB1 := Aside0.mk hb
  clear hb
  go_wp2_with fail
  refine (new_calls w1).mono ?_
  rintro e_ w2 ⟨rfl, hl, hb⟩
  obtain ⟨p, hp⟩ : ∃ q, w1.heap.size = q := ⟨_, rfl⟩
  have HB2 := Aside0.mk (below_step HB1.out hb)
  rw [hp] at hl ⊢
  have HL2 := Aside0.mk hl
  have HPW : Aside0 (w.heap.size ≤ p) := ⟨by have := HB1.out.size; omega⟩
  clear hl hb hp HB1
  go_wp2_with fail
  refine (ask_calls HL2.out 1 true (by simp)).mono ?_
  rintro e_ w3 ⟨rfl, hl, hb, _⟩
  rw [show askL ([], []) 1 true = (true, ([(1, true)], [])) by decide] at hl ⊢
  have HL3 := Aside0.mk hl
  have HB3 := Aside0.mk (HB2.out.trans (hb.mono HPW.out))
  clear hl hb HL2 HB2
  go_upto_region 7 with fail
  go_cut [5] (fun s5 wx => w3 = wx ∧ s5 = .int .i64 (n : Int))
  case first =>
    have KM := Aside0.mk kmin
    clear kmin
    go_wp2_with fail
    all_goals go_meet
    all_goals refine ⟨rfl, ?_⟩
    all_goals have := KM.out
    all_goals first | rw [show (ll : Int) = (n : Int) by omega] | rw [show (12 : Int) = (n : Int) by omega]
  case rest =>
    obtain ⟨rfl, rfl⟩ := hcut
    clear kmin
    go_wp2_with fail
    go_loopg [6] n (fun q v6 w' => ∃ i : Nat, v6 = .int .i64 (i : Int) ∧ Aside0 (i + q = n) ∧ Aside0 (LkAt LT LE w' p p [(1, true)] (seg f 0 i)) ∧ Aside0 (Below w.heap.size w w'))
    case atStart => exact ⟨0, rfl, ⟨by omega⟩, ⟨by rw [seg_nil]; exact HL3.out⟩, HB3⟩
    case round =>
      clear HL3 HB3
      obtain ⟨i, rfl, HI, HL, HB⟩ := hrel
      have hi := HI.out
      by_cases hlt : i < n
      · obtain ⟨g, rfl⟩ : ∃ g, gk = g + 1 := ⟨gk - 1, by omega⟩
        obtain ⟨ad, e1, hcell⟩ := bool_at (Kd.C_below HR.out HB.out) i (by have := HN.out; omega)
        subst e1
        rw [HF.out i] at hcell
        have k0 : ((i : Int) < (n : Int)) = True := eq_true (by omega)
        have k1 : ((i : Int) < (ll : Int)) = True := eq_true (by have := HN.out; omega)
        have kw : IntKind.i64.wrap ((i : Int) + 1) = ((i + 1 : Nat) : Int) := by rw [IntKind.wrap_i64]; omega
        have kv : IntKind.i64.wrap ((i : Int) + 2) = ((i + 2 : Nat) : Int) := by rw [IntKind.wrap_i64]; omega
        have HQ := Aside0.mk (ask_calls HL.out ((i + 2 : Nat) : Int) (f i) (by rw [seg_len]; simp; omega))
        rw [ask_queue] at HQ
        obtain ⟨i2, hi2⟩ : ∃ q, i + 2 = q := ⟨_, rfl⟩
        rw [hi2] at kv HQ
        clear hi2 hi
        go_wp2_with fail
        refine HQ.out.mono ?_
        rintro e_ w4 ⟨rfl, hl, hb, _⟩
        have HL4 := Aside0.mk hl
        have HB4 := Aside0.mk (HB.out.trans (hb.mono HPW.out))
        clear hl hb
        go_wp2_with fail
        go_roundg g
        case measure => omega
        case rel => exact ⟨i + 1, by simp, ⟨by have := HI.out; omega⟩, HL4, HB4⟩
      · have hin : i = n := by omega
        subst hin
        have k0 : ((i : Int) < (i : Int)) = False := eq_false (by omega)
        have HLV := Aside0.mk (leave_calls HL.out 1 (by rw [seg_len]; simp; omega))
        rw [leave_first, grant_seg f i (Nat.zero_le _)] at HLV
        clear hi hlt HI
        go_wp2_with fail
        refine HLV.out.mono ?_
        rintro e_ w4 ⟨v8, rfl, ho, hl, hb, _⟩
        obtain ⟨A8, c8, rfl⟩ := Kd.R_slice ho
        have HC8 := Aside0.mk (Kd.R_reads' ho).2.2
        have HL4 := Aside0.mk hl
        have HB4 := Aside0.mk (HB.out.trans (hb.mono HPW.out))
        obtain ⟨n, hnn⟩ : ∃ q, i = q := ⟨_, rfl⟩
        subst hnn
        rw [ids_len] at HC8 ⊢
        clear ho hl hb HLV HL HB k0
        go_wp2_with fail
        go_loopg [7, 8, 9, 10, 11, 12] i (fun q v7 v8 v9 v10 v11 v12 w' => ∃ (a m : Nat) (A8 : Option Addr) (c8 : Nat), v7 = .int .i64 (a : Int) ∧ v8 = .slice A8 m c8 ∧ Aside0 (a ≤ i ∧ i - a ≤ q ∧ m = gend f i a - a) ∧ Aside0 (LkAt LT LE w' p p (seg f a (gend f i a)) (seg f (gend f i a) i)) ∧ Aside0 ((Kd.int .i64).C w' A8 m (ids a (gend f i a))) ∧ Aside0 (Below w.heap.size w w'))
        case atStart => exact ⟨0, gend f i 0 - 0, A8, c8, rfl, rfl, ⟨by omega⟩, HL4, HC8, HB4⟩
        case round =>
          clear HC8 HL4 HB4
          obtain ⟨a, m, A8, c8, rfl, rfl, HI, HL, HC, HB⟩ := hrel
          have hi := HI.out
          by_cases hlt : a < i
          · obtain ⟨g, rfl⟩ : ∃ g, gk = g + 1 := ⟨gk - 1, by omega⟩
            obtain ⟨g1, g2, g3, g4⟩ := gend_spec f i hlt
            have HS := Aside0.mk (st2_start f i hlt)
            have HST := Aside0.mk (fun j h1 h2 => leave_st f i (i := j) hlt h1 h2)
            have HSL := Aside0.mk (fun j h2 => st2_len f i (i := j) hlt h2)
            have HSM := Aside0.mk (fun j h2 => st2_mid f i (a := a) (i := j) h2)
            have HSE := Aside0.mk (st2_end f i a)
            have k0 : ((a : Int) < (i : Int)) = True := eq_true (by omega)
            have ka : ((a : Int) < (ll : Int)) = True := eq_true (by omega)
            have kw : IntKind.i64.wrap ((a : Int) + 1) = ((a + 1 : Nat) : Int) := by rw [IntKind.wrap_i64]; omega
            obtain ⟨ad, e1, ha⟩ := bool_at (Kd.C_below HR.out HB.out) a (by omega)
            subst e1
            rw [HF.out a] at ha
            obtain ⟨e, he⟩ : ∃ q, gend f i a = q := ⟨_, rfl⟩
            rw [he] at g1 g2 g3 g4 hi HL HC HST HSL HSM HS HSE
            have HGE := Aside0.mk he
            have HG := Aside0.mk (And.intro g1 (And.intro g2 (And.intro g3 g4)))
            clear g3 g4 he
            go_upto_block 4 with fail
            go_cut [9] (fun s9 wx => wr = wx ∧ s9 = .int .i64 (e : Int))
            case first =>
              go_wp2_with fail
              go_loopg [9] i (fun q v9 w' => ∃ k : Nat, v9 = .int .i64 (k : Int) ∧ Aside0 (a < k ∧ k ≤ e ∧ e - k ≤ q) ∧ Aside0 (wr = w'))
              case atStart => exact ⟨a + 1, by simp, ⟨by omega, by omega, by omega⟩, ⟨rfl⟩⟩
              case round =>
                obtain ⟨k, rfl, HK, HW⟩ := hrel
                have hw := HW.out
                subst hw
                clear HW
                have hk := HK.out
                obtain ⟨g1, g2, g3, g4⟩ := HG.out
                by_cases hke : k < e
                · obtain ⟨g5, rfl⟩ : ∃ g5, gk = g5 + 1 := ⟨gk - 1, by omega⟩
                  have hff := g3 k hk.1 hke
                  obtain ⟨ad2, e1, hb2⟩ := bool_at (Kd.C_below HR.out HB.out) k (by omega)
                  injection e1 with e1
                  subst e1
                  rw [HF.out k, hff.2] at hb2
                  rw [hff.1] at ha
                  have k1 : ((k : Int) < (i : Int)) = True := eq_true (by omega)
                  have k2 : ((k : Int) < (ll : Int)) = True := eq_true (by omega)
                  have kv : IntKind.i64.wrap ((k : Int) + 1) = ((k + 1 : Nat) : Int) := by rw [IntKind.wrap_i64]; omega
                  clear hff g3 g4 hk hi
                  go_wp2_with fail
                  go_roundg g5
                  case measure => omega
                  case rel => exact ⟨k + 1, by simp, ⟨by have := HK.out; omega⟩, ⟨rfl⟩⟩
                · have hke2 : k = e := by omega
                  subst hke2
                  clear hk hi hke
                  cases hfa : f a with
                  | true =>
                    rw [hfa] at ha
                    clear g3 g4 hfa
                    go_wp2_with fail
                    go_meet
                    exact ⟨rfl, rfl⟩
                  | false =>
                    rw [hfa] at ha
                    by_cases hki : k = i
                    · have k1 : ((k : Int) < (i : Int)) = False := eq_false (by omega)
                      clear g3 g4 hfa hki
                      go_wp2_with fail
                      go_meet
                      exact ⟨rfl, rfl⟩
                    · have hfk : f k = true := by
                        rcases g4 with g4 | g4 | g4
                        · omega
                        · exact g4
                        · rw [hfa] at g4; cases g4
                      obtain ⟨ad2, e1, hb2⟩ := bool_at (Kd.C_below HR.out HB.out) k (by omega)
                      injection e1 with e1
                      subst e1
                      rw [HF.out k, hfk] at hb2
                      have k1 : ((k : Int) < (i : Int)) = True := eq_true (by omega)
                      have k2 : ((k : Int) < (ll : Int)) = True := eq_true (by omega)
                      clear g3 g4 hfa hfk hki
                      go_wp2_with fail
                      go_meet
                      exact ⟨rfl, rfl⟩
            case rest =>
              obtain ⟨rfl, rfl⟩ := hcut
              have km : IntKind.i64.wrap ((e : Int) - (a : Int)) = (m : Int) := by rw [IntKind.wrap_i64]; omega
              have kb : ((m : Int) != (m : Int)) = false := by simp
              have HMM := Aside0.mk hi.2.2
              have HLL := Aside0.mk hll
              clear hi ha
              go_wp2_with fail
              go_loopg [10] m (fun q v10 w' => ∃ j : Nat, v10 = .int .i64 (j : Int) ∧ Aside0 (j + q = m) ∧ Aside0 (wr = w'))
              case atStart => exact ⟨0, rfl, ⟨by omega⟩, ⟨rfl⟩⟩
              case round =>
                obtain ⟨j, rfl, HJ, HW⟩ := hrel
                have hw := HW.out
                subst hw
                clear HW
                have hj := HJ.out
                by_cases hjm : j < m
                · obtain ⟨g5, rfl⟩ : ∃ g5, gk = g5 + 1 := ⟨gk - 1, by omega⟩
                  obtain ⟨a8, e1, hcj⟩ := Kd.at_int HC.out (j : Int) (by omega) (by omega)
                  subst e1
                  rw [Int.toNat_natCast, ids_rd (by rw [← HMM.out]; exact hjm)] at hcj
                  have kj : ((j : Int) < (m : Int)) = True := eq_true (by omega)
                  have ks : IntKind.i64.wrap ((a : Int) + (j : Int)) = ((a + j : Nat) : Int) := by have := HMM.out; rw [IntKind.wrap_i64]; omega
                  have kt : IntKind.i64.wrap (((a + j : Nat) : Int) + 2) = ((a + j + 2 : Nat) : Int) := by have := HMM.out; rw [IntKind.wrap_i64]; omega
                  have ku : IntKind.i64.wrap ((j : Int) + 1) = ((j + 1 : Nat) : Int) := by have := HMM.out; rw [IntKind.wrap_i64]; omega
                  obtain ⟨aj, haj⟩ : ∃ q, a + j = q := ⟨_, rfl⟩
                  rw [haj] at ks kt hcj
                  obtain ⟨aj2, haj2⟩ : ∃ q, aj + 2 = q := ⟨_, rfl⟩
                  rw [haj2] at kt hcj
                  have kz : ((aj2 : Int) != (aj2 : Int)) = false := by simp
                  clear haj haj2 hj
                  go_wp2_with fail
                  go_roundg g5
                  case measure => omega
                  case rel => exact ⟨j + 1, by simp, ⟨by have := HJ.out; omega⟩, ⟨rfl⟩⟩
                · have hjj : j = m := by omega
                  subst hjj
                  have kj : ((j : Int) < (j : Int)) = False := eq_false (by omega)
                  clear hj hjm HJ km kb
                  go_wp2_with fail
                  go_loopg [11, 12] i (fun q v11 v12 w' => ∃ (t : Nat) (A11 : Option Addr) (c11 n11 : Nat), v12 = .int .i64 (t : Int) ∧ v11 = .slice A11 n11 c11 ∧ Aside0 (a ≤ t ∧ t ≤ e ∧ e - t ≤ q ∧ n11 = (st2 f i a t).2.length) ∧ Aside0 (LkAt LT LE w' p p (st2 f i a t).1.1 (st2 f i a t).1.2) ∧ Aside0 ((Kd.int .i64).C w' A11 n11 (st2 f i a t).2) ∧ Aside0 (Below w.heap.size w w'))
                  case atStart => exact ⟨a, none, 0, 0, rfl, rfl, ⟨by rw [HS.out]; exact ⟨by omega, by omega, by omega, rfl⟩⟩, ⟨by rw [HS.out]; exact HL.out⟩, ⟨by rw [HS.out]; exact ⟨rfl, by simp, fun h => absurd h (Nat.lt_irrefl 0)⟩⟩, HB⟩
                  case round =>
                    clear HL HC HB
                    obtain ⟨t, A11, c11, n11, rfl, rfl, HT, HL, HC, HB⟩ := hrel
                    have ht := HT.out
                    by_cases hte : t < e
                    · obtain ⟨g6, rfl⟩ : ∃ g6, gk = g6 + 1 := ⟨gk - 1, by omega⟩
                      have HLV := Aside0.mk (leave_calls HL.out ((t + 2 : Nat) : Int) (by have := HSL.out t (by omega); omega))
                      change Aside0 (Calls _ _ _ _ fun e w' => ∃ v : Value, e = .returned v ∧ Kd.R _ _ _ _ _ v (leaveL (st2 f i a t).1 ((t + 2 : Nat) : Int)).2 ∧ LkAt _ _ w' p p (leaveL (st2 f i a t).1 ((t + 2 : Nat) : Int)).1.1 (leaveL (st2 f i a t).1 ((t + 2 : Nat) : Int)).1.2 ∧ _) at HLV
                      rw [HST.out t ht.1 hte] at HLV
                      have kt0 : ((t : Int) < (e : Int)) = True := eq_true (by omega)
                      have kt1 : IntKind.i64.wrap ((t : Int) + 2) = ((t + 2 : Nat) : Int) := by rw [IntKind.wrap_i64]; omega
                      have kt2 : IntKind.i64.wrap ((t : Int) + 1) = ((t + 1 : Nat) : Int) := by rw [IntKind.wrap_i64]; omega
                      obtain ⟨t2, ht2⟩ : ∃ q, t + 2 = q := ⟨_, rfl⟩
                      rw [ht2] at kt1 HLV
                      clear ht2
                      go_wp2_with fail
                      refine HLV.out.mono ?_
                      rintro e_ w6 ⟨v6, rfl, ho, hl, hb, _⟩
                      obtain ⟨A6, c6, rfl⟩ := Kd.R_slice ho
                      have HC6 := Aside0.mk (Kd.R_reads' ho).2.2
                      have HL6 := Aside0.mk hl
                      have HB6 := Aside0.mk (HB.out.trans (hb.mono HPW.out))
                      clear ho hl hb HLV HL HB HC
                      by_cases ht1 : t + 1 < e
                      · have hm0 := HSM.out (t + 1) ht1
                        have HM0 := Aside0.mk hm0
                        have kt3 : (((t + 1 : Nat) : Int) < (e : Int)) = True := eq_true (by omega)
                        obtain ⟨t1, ht11⟩ : ∃ q, t + 1 = q := ⟨_, rfl⟩
                        rw [ht11] at hm0 HM0 kt2 kt3 HC6 HL6 ⊢
                        rw [hm0] at HC6 ⊢
                        have HT1 := Aside0.mk ht11
                        have HEE : Aside0 (t1 < e) := ⟨by omega⟩
                        clear hm0 ht11 ht ht1
                        go_wp2_with fail
                        go_roundg g6
                        case measure => omega
                        case rel => exact ⟨t1, A6, c6, 0, by first | rfl | (simp; done) | (have := HT1.out; simp; omega), rfl, ⟨by have := HT.out; have := HT1.out; have := HEE.out; rw [HM0.out]; exact ⟨by omega, by omega, by omega, rfl⟩⟩, HL6, ⟨by rw [HM0.out]; exact HC6.out⟩, HB6⟩
                      · have kt3 : (((t + 1 : Nat) : Int) < (e : Int)) = False := eq_false (by omega)
                        obtain ⟨n6, hn6⟩ : ∃ q, (st2 f i a (t + 1)).2.length = q := ⟨_, rfl⟩
                        rw [hn6] at HC6 ⊢
                        have HN6 := Aside0.mk hn6
                        obtain ⟨t1, ht11⟩ : ∃ q, t + 1 = q := ⟨_, rfl⟩
                        rw [ht11] at HN6 kt2 kt3 HC6 HL6
                        have HT1 := Aside0.mk ht11
                        have HTE : Aside0 (t < e) := ⟨hte⟩
                        clear hn6 ht ht1 ht11
                        go_wp2_with fail
                        go_roundg g6
                        case measure => omega
                        case rel => exact ⟨t1, A6, c6, n6, by first | rfl | (simp; done) | (have := HT1.out; simp; omega), rfl, ⟨by have := HT.out; have := HT1.out; have := HTE.out; exact ⟨by omega, by omega, by omega, HN6.out.symm⟩⟩, HL6, HC6, HB6⟩
                    · have htt : t = e := by omega
                      subst htt
                      have kt0 : ((t : Int) < (t : Int)) = False := eq_false (by omega)
                      have hse := HSE.out
                      rw [hse] at HL HC ht
                      have hn := ht.2.2.2
                      rw [ids_len] at hn
                      have HNN := Aside0.mk hn
                      clear hse ht hte hn
                      go_wp2_with fail
                      go_roundg g
                      case measure => omega
                      case rel => exact ⟨t, n11, A11, c11, rfl, rfl, ⟨by have := HI.out; exact ⟨by omega, by omega, HNN.out⟩⟩, HL, HC, HB⟩
          · have hai : a = i := by omega
            subst hai
            have k0 : ((a : Int) < (a : Int)) = False := eq_false (by omega)
            rw [gend_n, seg_nil] at HL
            rw [gend_n, Nat.sub_self] at hi
            have hm0 := hi.2.2
            subst hm0
            have HWT := Aside0.mk (waiting_calls HL.out (by simp))
            clear hi hlt HI
            go_wp2_with fail
            refine HWT.out.mono ?_
            rintro e_ w9 ⟨v9, rfl, ho, hb⟩
            obtain ⟨A9, c9, rfl⟩ := Kd.R_slice ho
            have HB9 := Aside0.mk (below_step HB.out hb)
            clear ho hb
            go_wp2
            go_ret
            exact ⟨rfl, HB9.out⟩
end Go.Proofs.Ytopclgpimabpcaa.LqWalk
