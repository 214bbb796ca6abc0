/- Contract of Leave. -/
import Derived.Test.YtopclgpimabpcaaProg
import Derived.Below
import Derived.Deep.Draws
import Derived.Deep.AppendLies
import Derived.Maps.AppendAt
import Derived.OwnWalk
import Derived.Laws.BytesArg
import Derived.Laws.MakeOwn
import Derived.Laws.OwnMore
import Derived.Deep.OwnRows
import Derived.Tactics
import Derived.Lib.ConvBytes
import Derived.Laws.Slices
import Derived.WalkKit
import Derived.KernelRfl
import Derived.RowKit3
import Derived.Deep.LoopGhost
import Derived.Deep.QuietTactic
import Derived.BigQuiet
import Derived.WideLaws
import Derived.Deep.DeepCutAuto
import Derived.Deep.CutBlock
import Derived.Deep.RegionHeld3
import Derived.Laws.Rows
import Derived.Lib.AppendStr
import Derived.ArgAppend
import Derived.Laws.IdiomCopy
import Derived.OrdersHeld
import Derived.Laws.BitsLemmas
import Derived.RowKit
import Derived.Deep.DeepCutAuto
import Derived.WalkSpells
import Derived.Outline
import Derived.Test.YtopclgpimabpcaaWWords
import Derived.Test.YtopclgpimabpcaaWLast
import Derived.Test.YtopclgpimabpcaaWMore
import Derived.Test.YtopclgpimabpcaaWArr
import Derived.Test.YtopclgpimabpcaaWTab
import Derived.Test.YtopclgpimabpcaaWZeros
import Derived.Test.YtopclgpimabpcaaWRepsOne
import Derived.Test.YtopclgpimabpcaaLkE
namespace Go.Proofs.Ytopclgpimabpcaa.LkF
open Go.RowKit Go.Proofs.YtopclgpimabpcaaW.PrintWords Go.Proofs.YtopclgpimabpcaaW.PrintLast Go.Proofs.YtopclgpimabpcaaW.PrintMore Go.Proofs.Ytopclgpimabpcaa.Mix Go.Proofs.Ytopclgpimabpcaa.MixB Go.Proofs.Ytopclgpimabpcaa.MixT Go.Proofs.Ytopclgpimabpcaa.LkA Go.Proofs.Ytopclgpimabpcaa.LkB Go.Proofs.Ytopclgpimabpcaa.LkC Go.Proofs.Ytopclgpimabpcaa.LkD Go.Proofs.Ytopclgpimabpcaa.LkE
set_option linter.unusedSimpArgs false
set_option linter.unusedVariables false
attribute [local go_sem] max2_int min2_int max_two min_two

/-- Who waits is let in as far as may be. -/
def grantL : List (Int × Bool) → List (Int × Bool) → LS × List Int
  | hs, [] => ((hs, []), [])
  | hs, o :: ws => if mayL hs o.2 = true then ((grantL (hs ++ [o]) ws).1, o.1 :: (grantL (hs ++ [o]) ws).2) else ((hs, o :: ws), [])
def leaveL (s : LS) (who : Int) : LS × List Int :=
  if isIn who s.1 = true then grantL (s.1.eraseIdx (findL who s.1).toNat) s.2
  else if isIn who s.2 = true then grantL s.1 (s.2.eraseIdx (findL who s.2).toNat)
  else (s, [])
theorem findF_lt (id : Int) : ∀ (os : List (Int × Bool)) (i : Nat), 0 ≤ findF id i os → (i : Int) ≤ findF id i os ∧ findF id i os < (i + os.length : Nat) := by
  intro os
  induction os with
  | nil => intro i h; simp [findF] at h
  | cons o os ih =>
    intro i h
    unfold findF at h ⊢
    by_cases ho : o.1 = id
    · rw [if_pos ho] at h ⊢; simp only [List.length_cons]; omega
    · rw [if_neg ho] at h ⊢
      have := ih (i + 1) h
      simp only [List.length_cons]
      omega
theorem find_lt {id : Int} {os : List (Int × Bool)} (h : isIn id os = true) : ∃ k : Nat, findL id os = (k : Int) ∧ k < os.length := by
  have h0 : 0 ≤ findF id 0 os := by rw [findF_ge]; exact h
  have := findF_lt id os 0 h0
  refine ⟨(findL id os).toNat, ?_, ?_⟩
  · unfold findL; omega
  · unfold findL; omega
theorem find_neg {id : Int} {os : List (Int × Bool)} (h : isIn id os = false) : findL id os < 0 := by
  unfold findL
  rcases (by omega : findF id 0 os < 0 ∨ 0 ≤ findF id 0 os) with h1 | h1
  · exact h1
  · have : (0 ≤ findF id 0 os) := h1
    rw [findF_ge] at this
    unfold isIn at h
    rw [h] at this
    cases this
theorem own_same (A : Option Addr) (n m c : Nat) : (Value.slice A n c).ownBlock = (Value.slice A m c).ownBlock := by cases A <;> rfl
theorem Q_reok {E : Nat} {w : World} {B : Nat} {ok ok' : Nat → Prop} {v : Value} {os : List (Int × Bool)} (h : KOne.Q E w B ok v os) (hok : ∀ k, v.ownBlock = some k → ok' k) : KOne.Q E w B ok' v os := Q_of_q (q_of_Q h) hok
theorem lk_other {S E : Nat} (hS : S ≠ 3) (hE : E ≠ 3) {w w' : World} {B p : Nat} {hs ws : List (Int × Bool)} (h : LkAt S E w B p hs ws) {row : Option Nat} (hg : w.grownBy w' row) (ht : ∀ k, row = some k → ∃ cells, w.heap[k]? = some (.cells cells 3 (0, 0))) : LkAt S E w' B p hs ws :=
  lk_kt ⟨hS, hS⟩ ⟨hE, hE⟩ h (Kt.grown hg ht)
theorem Kt.newer {S E : Nat} {w w1 w2 : World} {row : Option Nat} (h : Kt S E w w1) (hg : w1.grownBy w2 row) (hr : ∀ k, row = some k → w.heap.size ≤ k) : Kt S E w w2 :=
  fun g o hb ha => blk_grown (h g o hb ha) hg (fun e => by have := hr g e.symm; have := blk_lt hb; omega)
theorem Q_addr {E : Nat} {w : World} {B n c : Nat} {ok : Nat → Prop} {A : Option Addr} {os : List (Int × Bool)} (h : KOne.Q E w B ok (.slice A n c) os) (hn : 0 < os.length) : ∃ x xo cells, A = some ⟨x, xo, none⟩ ∧ B ≤ x ∧ w.heap[x]? = some (.cells cells E (0, 0)) := by
  rcases (q_of_Q h).2 with ⟨h0, _⟩ | ⟨g, off, cap, cur, hv, hbg, hg, _⟩
  · omega
  · injection hv with ha
    exact ⟨g, off * 2, cur, ha, hbg, hg⟩
theorem cell_heap {w w' : World} {g o : Nat} (h : w'.heap[g]? = w.heap[g]?) : w'.cell? ⟨g, o, none⟩ = w.cell? ⟨g, o, none⟩ := by
  simp only [World.cell?, h]
theorem leave_nil (who : Int) (w : World) : Calls Try.prog 24 #[.pointer none, .int .i64 who] w fun e w' => e = .returned (.slice none 0 0) ∧ w = w' := by
  go_enter Try.func24, Try.ntmps24
  go_wp2
  go_ret
  exact ⟨rfl, rfl⟩
theorem grant_nil (hs : List (Int × Bool)) : grantL hs [] = ((hs, []), []) := rfl
theorem grant_go {hs ws : List (Int × Bool)} {o : Int × Bool} (h : mayL hs o.2 = true) : grantL hs (o :: ws) = ((grantL (hs ++ [o]) ws).1, o.1 :: (grantL (hs ++ [o]) ws).2) := by
  rw [grantL, if_pos h]
theorem grant_stop {hs ws : List (Int × Bool)} {o : Int × Bool} (h : mayL hs o.2 = false) : grantL hs (o :: ws) = ((hs, o :: ws), []) := by
  rw [grantL, if_neg (by rw [h]; simp)]
set_option maxRecDepth 100000 in
set_option maxHeartbeats 2000000 in
theorem leave_calls {w : World} {B p : Nat} {hs ws : List (Int × Bool)} (h : LkAt 72 76 w B p hs ws) (who : Int) (hl : hs.length + ws.length ≤ 100000) :
    Calls Try.prog 24 #[.pointer (some ⟨p, 0, none⟩), .int .i64 who] w fun e w' => ∃ v : Value, e = .returned v ∧ Kd.R (Kd.int .i64) 3 w' w.heap.size (fun _ => True) v (leaveL (hs, ws) who).2 ∧ LkAt 72 76 w' B p (leaveL (hs, ws) who).1.1 (leaveL (hs, ws) who).1.2 ∧ Below B w w' ∧ Kt 72 76 w w' := by
  obtain ⟨A1, c1, A2, c2, h2, l1, l2, r1, r2, hBp, q1, q2⟩ := lk_reads h
  have HLK := Aside0.mk h
  have x0 : w.cell? ⟨p, 0, none⟩ = some (.slice A1 hs.length c1) := blk_cell h2 0
  have x1 : w.cell? ⟨p, 1, none⟩ = some (.slice A2 ws.length c2) := blk_cell h2 1
  have HF1 := Aside0.mk (find_calls A1 c1 hs who w r1 (by omega))
  have HF2 := Aside0.mk (fun w1 (hb : Below w.heap.size w w1) => find_calls A2 c2 ws who w1 (Kd.C_below r2 hb) (by omega))
  have HBK := Aside0.mk h2
  have HBP := Aside0.mk hBp
  have hbB : B ≤ w.heap.size := by have := blk_lt h2; omega
  have HBB := Aside0.mk hbB
  have HQ12 := Aside0.mk (And.intro q1 q2)
  have HNB0 := Aside0.mk hl
  clear h h2 r1 r2 q1 q2 hBp hbB
  obtain ⟨R, hR⟩ : ∃ q, leaveL (hs, ws) who = q := ⟨_, rfl⟩
  rw [hR]
  unfold leaveL at hR
  simp only [] at hR
  have HRR := Aside0.mk hR
  clear hR
  go_enter Try.func24, Try.ntmps24
  go_wp2_with fail
  refine HF1.out.mono ?_
  rintro e_ w1 ⟨rfl, hb⟩
  have HB1 := Aside0.mk hb
  have y0 : w1.cell? ⟨p, 0, none⟩ = some (.slice A1 hs.length c1) := pw_cell_below hb x0
  have y1 : w1.cell? ⟨p, 1, none⟩ = some (.slice A2 ws.length c2) := pw_cell_below hb x1
  clear hb
  go_upto_if 17 with fail
  go_cut [5, 6] (fun _ _ wx => ∃ hs1 ws1 : List (Int × Bool), Aside0 (grantL hs1 ws1 = R ∧ hs1.length + ws1.length ≤ 100000) ∧ Aside0 (LkAt 72 76 wx B p hs1 ws1) ∧ Aside0 (Below B w wx) ∧ Aside0 (Kt 72 76 w wx))
  case first =>
    cases hi1 : isIn who hs with
    | true =>
      rw [hi1, if_pos rfl] at HRR
      obtain ⟨k, hk, hkl⟩ := find_lt hi1
      rw [hk, Int.toNat_natCast] at HRR
      rw [hk]
      have k0 : ((0 : Int) ≤ (k : Int)) = True := eq_true (by omega)
      have kw : IntKind.i64.wrap ((k : Int) + 1) = ((k + 1 : Nat) : Int) := by rw [IntKind.wrap_i64]; omega
      have HD := Aside0.mk (delete_calls A1 c1 hs hs.length k rfl B w1 (Q_reok (Kd.Q_below HQ12.out.1 HB1.out) (fun _ _ => trivial)) hkl (by omega))
      have HKL := Aside0.mk hkl
      clear hi1 hk hkl
      go_wp2_with fail
      refine HD.out.mono ?_
      rintro e_ w2 ⟨rfl, hq, hg⟩
      have hp1 := blk_below HBK.out HB1.out
      have hp2 := blk_grown hp1 hg (Kd.Q_ne (Kd.Q_below HQ12.out.1 HB1.out) hp1 (by decide))
      have z0 : w2.cell? ⟨p, 0, none⟩ = some (.slice A1 hs.length c1) := blk_cell hp2 0
      have zf : w2.frozen? ⟨p, 0, none⟩ = false := blk_frozen hp2 0
      have ho := Kd.Q_grown (Kd.Q_below HQ12.out.2 HB1.out) hg (fun k hk => hk)
      have hq' := Q_reok (ok' := fun k => some k ≠ (Value.slice A2 ws.length c2).ownBlock) hq (fun k hk => HQ12.out.1.1 k (by rw [own_same A1 _ (hs.length - 1)]; exact hk))
      have ho' := Kd.Q_mono (ok' := fun k => some k ≠ (Value.slice A1 (hs.length - 1) c1).ownBlock) ho (fun k hk => by rw [own_same A1 _ hs.length]; exact hk)
      have HLF := Aside0.mk (lk_put0 (by decide) HBP.out hp2 hq' ho')
      have HBF : Aside0 (Below B w (w2.setCell ⟨p, 0, none⟩ (.slice A1 (hs.length - 1) c1))) := ⟨((HB1.out.mono HBB.out).grown hg (by have := HB1.out.size; have := HBB.out; omega) (fun k hk => Kd.Q_base HQ12.out.1 k hk)).setCell HBP.out _⟩
      have HKF : Aside0 (Kt 72 76 w (w2.setCell ⟨p, 0, none⟩ (.slice A1 (hs.length - 1) c1))) := ⟨((Kt.below HB1.out).trans (Kt.grown hg (fun k hk => Kd.Q_typed (Kd.Q_below HQ12.out.1 HB1.out) k hk))).trans (Kt.set hp2 0 _)⟩
      clear hq hg hp1 hp2 ho hq' ho'
      go_wp2_with fail
      go_meet
      have hel : (hs.eraseIdx k).length = hs.length - 1 := List.length_eraseIdx_of_lt HKL.out
      exact ⟨(hs.eraseIdx k), ws, ⟨HRR.out, by have := HNB0.out; have := HKL.out; omega⟩, HLF, HBF, HKF⟩
    | false =>
      rw [hi1, if_neg (by simp)] at HRR
      have k0 : (0 ≤ findL who hs) = False := eq_false (by have := find_neg hi1; omega)
      have kd : decide (0 ≤ findL who hs) = false := decide_eq_false (by have := find_neg hi1; omega)
      rw [kd]
      clear kd
      generalize findL who hs = f1 at *
      clear hi1
      go_wp2_with fail
      refine (HF2.out w1 HB1.out).mono ?_
      rintro e_ w3 ⟨rfl, hb⟩
      have HB3 := Aside0.mk (below_step HB1.out hb)
      have y0 : w3.cell? ⟨p, 0, none⟩ = some (.slice A1 hs.length c1) := pw_cell_below HB3.out x0
      have y1 : w3.cell? ⟨p, 1, none⟩ = some (.slice A2 ws.length c2) := pw_cell_below HB3.out x1
      have HBW1 := HB1
      clear hb HB1
      have HB1 := HB3
      cases hi2 : isIn who ws with
      | true =>
        rw [hi2, if_pos rfl] at HRR
        obtain ⟨k, hk, hkl⟩ := find_lt hi2
        rw [hk, Int.toNat_natCast] at HRR
        rw [hk]
        have k0 : ((0 : Int) ≤ (k : Int)) = True := eq_true (by omega)
        have kw : IntKind.i64.wrap ((k : Int) + 1) = ((k + 1 : Nat) : Int) := by rw [IntKind.wrap_i64]; omega
        have HD := Aside0.mk (delete_calls A2 c2 ws ws.length k rfl B w3 (Q_reok (Kd.Q_below HQ12.out.2 HB1.out) (fun _ _ => trivial)) hkl (by omega))
        have HKL := Aside0.mk hkl
        clear hi2 hk hkl
        go_wp2_with fail
        refine HD.out.mono ?_
        rintro e_ w2 ⟨rfl, hq, hg⟩
        have hp1 := blk_below HBK.out HB1.out
        have hp2 := blk_grown hp1 hg (Kd.Q_ne (Kd.Q_below HQ12.out.2 HB1.out) hp1 (by decide))
        have z0 : w2.cell? ⟨p, 1, none⟩ = some (.slice A2 ws.length c2) := blk_cell hp2 1
        have zf : w2.frozen? ⟨p, 1, none⟩ = false := blk_frozen hp2 1
        have ho := Kd.Q_grown (Kd.Q_below HQ12.out.1 HB1.out) hg (fun k hk => hk)
        have hq' := Q_reok (ok' := fun k => some k ≠ (Value.slice A1 hs.length c1).ownBlock) hq (fun k hk => HQ12.out.2.1 k (by rw [own_same A2 _ (ws.length - 1)]; exact hk))
        have ho' := Kd.Q_mono (ok' := fun k => some k ≠ (Value.slice A2 (ws.length - 1) c2).ownBlock) ho (fun k hk => by rw [own_same A2 _ ws.length]; exact hk)
        have HLF := Aside0.mk (lk_put1 (by decide) HBP.out hp2 hq' ho')
        have HBF : Aside0 (Below B w (w2.setCell ⟨p, 1, none⟩ (.slice A2 (ws.length - 1) c2))) := ⟨((HB1.out.mono HBB.out).grown hg (by have := HB1.out.size; have := HBB.out; omega) (fun k hk => Kd.Q_base HQ12.out.2 k hk)).setCell HBP.out _⟩
        have HKF : Aside0 (Kt 72 76 w (w2.setCell ⟨p, 1, none⟩ (.slice A2 (ws.length - 1) c2))) := ⟨((Kt.below HB1.out).trans (Kt.grown hg (fun k hk => Kd.Q_typed (Kd.Q_below HQ12.out.2 HB1.out) k hk))).trans (Kt.set hp2 1 _)⟩
        clear hq hg hp1 hp2 ho hq' ho'
        go_wp2_with fail
        go_meet
        have hel : (ws.eraseIdx k).length = ws.length - 1 := List.length_eraseIdx_of_lt HKL.out
        exact ⟨hs, (ws.eraseIdx k), ⟨HRR.out, by have := HNB0.out; have := HKL.out; omega⟩, HLF, HBF, HKF⟩
      | false =>
        rw [hi2, if_neg (by simp)] at HRR
        have k2 : (0 ≤ findL who ws) = False := eq_false (by have := find_neg hi2; omega)
        generalize findL who ws = f2 at *
        clear hi2
        go_wp2_with fail
        go_ret
        refine ⟨_, rfl, ?_⟩
        rw [← HRR.out]
        exact ⟨Kd.R_nil _ _ _ _ _, lk_below HLK.out HB1.out, HB1.out.mono HBB.out, Kt.below HB1.out⟩
  case rest =>
    clear HF1 HF2 HBK HQ12 HNB0 HRR HB1 x0 x1 y0 y1 HLK
    obtain ⟨hs1, ws1, HG, HL1, HB1, HK1⟩ := hcut
    clear hl l1 l2
    go_wp2_with fail
    go_loopg [7] ws1.length (fun q v7 w' => ∃ (hs2 ws2 : List (Int × Bool)) (came : List Int), Aside0 (ws2.length = q ∧ (grantL hs2 ws2).1 = R.1 ∧ came ++ (grantL hs2 ws2).2 = R.2 ∧ hs2.length + ws2.length ≤ 100000 ∧ came.length + ws2.length ≤ 100000) ∧ Aside0 (LkAt 72 76 w' B p hs2 ws2) ∧ Aside0 (Kd.R (Kd.int .i64) 3 w' w.heap.size (fun _ => True) v7 came) ∧ Aside0 (Below B w w' ∧ w.heap.size ≤ w'.heap.size) ∧ Aside0 (Kt 72 76 w w'))
    case atStart => exact ⟨hs1, ws1, [], ⟨rfl, by rw [HG.out.1], by rw [HG.out.1]; rfl, HG.out.2, by have := HG.out.2; simp only [List.length_nil]; omega⟩, HL1, ⟨Kd.R_nil _ _ _ _ _⟩, ⟨HB1.out, HB1.out.size⟩, HK1⟩
    case round =>
      clear HG HL1 HB1 HK1
      obtain ⟨hs2, ws2, came, HI, HL, HO, HBR, HKR⟩ := hrel
      have hi := HI.out
      obtain ⟨A1, c1, A2, c2, h2, l1, l2, r1, r2, _, q1, q2⟩ := lk_reads HL.out
      have x0 : wr.cell? ⟨p, 0, none⟩ = some (.slice A1 hs2.length c1) := blk_cell h2 0
      have x1 : wr.cell? ⟨p, 1, none⟩ = some (.slice A2 ws2.length c2) := blk_cell h2 1
      cases ws2 with
      | nil =>
        rw [grant_nil, List.append_nil] at hi
        have HR1 := Aside0.mk (And.intro hi.2.1 hi.2.2.1)
        clear hi h2 r1 r2 q1 q2
        go_wp2_with fail
        go_ret
        exact ⟨_, rfl, by rw [← HR1.out.2]; exact HO.out, by rw [← HR1.out.1]; exact HL.out, HBR.out.1, HKR.out⟩
      | cons o ws3 =>
        obtain ⟨f, rfl⟩ : ∃ f, gk = f + 1 := ⟨gk - 1, by have := hi.1; simp only [List.length_cons] at this; omega⟩
        obtain ⟨x, xo, cur, e1, hBx, hxb⟩ := Q_addr q2 (by simp)
        subst e1
        obtain ⟨ad, e1, z0, z1⟩ := one_at r2 0 (by simp)
        injection e1 with e1
        subst e1
        obtain ⟨who1, wt⟩ := o
        have z0' : wr.cell? ⟨x, xo, none⟩ = some (.int .i64 who1) := by simpa [Addr.add] using z0
        have z1' : wr.cell? ⟨x, xo + 1, none⟩ = some (.bool wt) := by simpa [Addr.add] using z1
        obtain ⟨n1, hn1⟩ : ∃ q, hs2.length = q := ⟨_, rfl⟩
        obtain ⟨n2, hn2⟩ : ∃ q, ((who1, wt) :: ws3).length = q := ⟨_, rfl⟩
        have hn3 : n2 = ws3.length + 1 := by rw [← hn2]; rfl
        rw [hn1] at x0 h2 q1 q2 l1
        rw [hn2] at x1 h2 q1 q2 l2
        have kn : (0 < n2) = True := eq_true (by omega)
        have HMAY := Aside0.mk (may_calls HL.out wt)
        have HN12 := Aside0.mk (And.intro hn1 hn2)
        have HN3 := Aside0.mk hn3
        clear z0 z1 r1 r2 hn1 hn2 hn3
        cases hm : mayL hs2 wt with
        | false =>
          rw [grant_stop (o := (who1, wt)) hm, List.append_nil] at hi
          have HR1 := Aside0.mk (And.intro hi.2.1 hi.2.2.1)
          rw [hm] at HMAY
          clear hi h2 q1 q2 hm hxb
          go_wp2_with fail
          refine HMAY.out.mono ?_
          rintro e_ w6 ⟨rfl, rfl⟩
          go_wp2_with fail
          go_ret
          exact ⟨_, rfl, by rw [← HR1.out.2]; exact HO.out, by rw [← HR1.out.1]; exact HL.out, HBR.out.1, HKR.out⟩
        | true =>
          rw [grant_go (o := (who1, wt)) hm] at hi
          have HG := Aside0.mk hi
          rw [hm] at HMAY
          have HPB := Aside0.mk h2
          have HQ1 := Aside0.mk q1
          have HQ2 := Aside0.mk q2
          have HXN : Aside0 (some x ≠ (Value.slice A1 n1 c1).ownBlock) := ⟨q2.1 x (by simp [Value.ownBlock])⟩
          have HXP : Aside0 (x ≠ p) := ⟨fun e_ => by subst e_; rw [h2] at hxb; injection hxb with hxb; injection hxb with _ e2; exact absurd e2 (by decide)⟩
          have HXD := Aside0.mk hxb
          have HB := Aside0.mk (Below.refl wr.heap.size wr)
          have HBS : Aside0 (B ≤ wr.heap.size) := ⟨by have := HBR.out.2; have := HBB.out; omega⟩
          have HNB : Aside0 (hs2.length ≤ 100000) := ⟨by have := hi.2.2.2.1; omega⟩
          clear hi hm h2 q1 q2 hxb
          go_wp2_with fail
          refine HMAY.out.mono ?_
          rintro e_ w6 ⟨rfl, rfl⟩
          go_upto_region 12 with fail
          go_cut [] (fun wx => Aside0 (LkAt 72 76 wx B p (hs2 ++ [(who1, wt)]) ((who1, wt) :: ws3)) ∧ Aside0 (Below B wr wx) ∧ Aside0 (Kt 72 76 wr wx) ∧ Aside0 (Kd.R (Kd.int .i64) 3 wx w.heap.size (fun _ => True) u7 came))
          case first =>
            refine wp_region_tree (fun w_ w1_ => w1_.heap[x]? = w_.heap[x]? ∧ w1_.cell? ⟨p, 1, none⟩ = w_.cell? ⟨p, 1, none⟩) (.rd 0 (.rd 1 (.rd 2 (.rd 3 (.rd 5 (.rd 6 (.rd 7 (.rd 8 (.rd 9 (.rd 10 (.two 4 11 (.ef 11 (.ef 12 (.rd 13 (.rd 14 (.ef 15 .nil))))) (.ef 4 (.ef 12 (.rd 13 (.rd 14 (.ef 15 .nil)))))))))))))))) (by kernel_rfl) (by kernel_rfl) (fun _ => ⟨rfl, rfl⟩) (fun h h' => ⟨h'.1.trans h.1, h'.2.trans h.2⟩) (fun wd hhp_ hbw_ => ?_)
            have HBd := Aside0.mk (below_step HB.out hbw_)
            have hpd := blk_below HPB.out hbw_
            have HPd := Aside0.mk hpd
            have HPa := Aside0.mk (blk_below hpd ((Below.refl wd.heap.size wd).alloc (Nat.le_refl _) (.cells #[.int .i64 who1, .bool wt] 76 (0, 0))))
            have HQd := Aside0.mk (Kd.Q_below HQ1.out hbw_)
            have HOd := Aside0.mk (Kd.Q_below HQ2.out hbw_)
            have HXd := Aside0.mk (blk_below HXD.out hbw_)
            have HXa := Aside0.mk (blk_below HXd.out ((Below.refl wd.heap.size wd).alloc (Nat.le_refl _) (.cells #[.int .i64 who1, .bool wt] 76 (0, 0))))
            have c_d : wd.cell? ⟨p, 0, none⟩ = some (.slice A1 n1 c1) := blk_cell HPd.out 0
            have c_a : (wd.alloc (.cells #[.int .i64 who1, .bool wt] 76 (0, 0))).cell? ⟨p, 0, none⟩ = some (.slice A1 n1 c1) := blk_cell HPa.out 0
            clear hhp_ hbw_ hpd
            have zd0 : wd.cell? ⟨x, xo, none⟩ = some (.int .i64 who1) := (cell_heap (HXd.out.trans HXD.out.symm)).trans z0'
            have zd1 : wd.cell? ⟨x, xo + 1, none⟩ = some (.bool wt) := (cell_heap (HXd.out.trans HXD.out.symm)).trans z1'
            (refine t_read (o := { dst := some 65, op := Op.move (Operand.tmp 0), type := 43, pos := "lock.go:59", after := #[], guard := none }) rfl (by first | rfl | (simp [Region.wanted, yielded]; done)) (by intro w_ hE_; (try dsimp only at hE_); first | (go_simp; done) | (go_simp; rfl)) ?_)
            (try simp only [Act.put, List.setIfInBounds_toArray, List.set_cons_zero, List.set_cons_succ])
            (refine t_read (o := { dst := some 66, op := Op.move (Operand.tmp 0), type := 43, pos := "lock.go:59", after := #[], guard := none }) rfl (by first | rfl | (simp [Region.wanted, yielded]; done)) (by intro w_ hE_; (try dsimp only at hE_); first | (go_simp; done) | (go_simp; rfl)) ?_)
            (try simp only [Act.put, List.setIfInBounds_toArray, List.set_cons_zero, List.set_cons_succ])
            (refine t_read (o := { dst := some 67, op := Op.nilCheck (Operand.tmp 66), type := 0, pos := "lock.go:59", after := #[{ on := 1, ground := Ground.data }], guard := none }) rfl (by first | rfl | (simp [Region.wanted, yielded]; done)) (by intro w_ hE_; (try dsimp only at hE_); first | (go_simp; done) | (go_simp; rfl)) ?_)
            (try simp only [Act.put, List.setIfInBounds_toArray, List.set_cons_zero, List.set_cons_succ])
            (refine t_read (o := { dst := some 68, op := Op.fieldAddr 72 (Operand.tmp 67) 0, type := 0, pos := "lock.go:59", after := #[{ on := 2, ground := Ground.data }], guard := none }) rfl (by first | rfl | (simp [Region.wanted, yielded]; done)) (by intro w_ hE_; (try dsimp only at hE_); first | (go_simp; done) | (go_simp; rfl)) ?_)
            (try simp only [Act.put, List.setIfInBounds_toArray, List.set_cons_zero, List.set_cons_succ])
            (refine t_read (o := { dst := some 70, op := Op.move (Operand.tmp 0), type := 43, pos := "lock.go:59", after := #[], guard := none }) rfl (by first | rfl | (simp [Region.wanted, yielded]; done)) (by intro w_ hE_; (try dsimp only at hE_); first | (go_simp; done) | (go_simp; rfl)) ?_)
            (try simp only [Act.put, List.setIfInBounds_toArray, List.set_cons_zero, List.set_cons_succ])
            (refine t_read (o := { dst := some 71, op := Op.nilCheck (Operand.tmp 70), type := 0, pos := "lock.go:59", after := #[{ on := 5, ground := Ground.data }], guard := none }) rfl (by first | rfl | (simp [Region.wanted, yielded]; done)) (by intro w_ hE_; (try dsimp only at hE_); first | (go_simp; done) | (go_simp; rfl)) ?_)
            (try simp only [Act.put, List.setIfInBounds_toArray, List.set_cons_zero, List.set_cons_succ])
            (refine t_read (o := { dst := some 72, op := Op.fieldAddr 72 (Operand.tmp 71) 1, type := 0, pos := "lock.go:59", after := #[{ on := 6, ground := Ground.data }], guard := none }) rfl (by first | rfl | (simp [Region.wanted, yielded]; done)) (by intro w_ hE_; (try dsimp only at hE_); first | (go_simp; done) | (go_simp; rfl)) ?_)
            (try simp only [Act.put, List.setIfInBounds_toArray, List.set_cons_zero, List.set_cons_succ])
            (refine t_read (o := { dst := some 73, op := Op.load 70 (Operand.tmp 72), type := 70, pos := "lock.go:59", after := #[{ on := 7, ground := Ground.data }], guard := none }) rfl (by first | rfl | (simp [Region.wanted, yielded]; done)) (by intro w_ hE_; (try dsimp only at hE_); have c1_ : w_.cell? ⟨p, 1, none⟩ = some (.slice (some ⟨x, xo, none⟩) n2 c2) := hE_.2.trans (blk_cell HPd.out 1); clear hE_; first | (go_simp; done) | (go_simp; rfl)) ?_)
            (try simp only [Act.put, List.setIfInBounds_toArray, List.set_cons_zero, List.set_cons_succ])
            (refine t_read (o := { dst := some 74, op := Op.indexAddr 70 (Operand.tmp 73) (Operand.const (Value.int IntKind.i64 0)), type := 0, pos := "lock.go:59", after := #[{ on := 8, ground := Ground.data }], guard := none }) rfl (by first | rfl | (simp [Region.wanted, yielded]; done)) (by intro w_ hE_; (try dsimp only at hE_); first | (go_simp; done) | (go_simp; rfl)) ?_)
            (try simp only [Act.put, List.setIfInBounds_toArray, List.set_cons_zero, List.set_cons_succ])
            (refine t_read (o := { dst := some 75, op := Op.load 76 (Operand.tmp 74), type := 76, pos := "lock.go:59", after := #[{ on := 9, ground := Ground.data }], guard := none }) rfl (by first | rfl | (simp [Region.wanted, yielded]; done)) (by intro w_ hE_; (try dsimp only at hE_); have a0_ := (cell_heap (o := xo) hE_.1).trans zd0; have a1_ := (cell_heap (o := xo + 1) hE_.1).trans zd1; clear hE_; first | (go_simp; done) | (go_simp; rfl)) ?_)
            (try simp only [Act.put, List.setIfInBounds_toArray, List.set_cons_zero, List.set_cons_succ])
            refine t_two ?_ ?_
            · refine s_val (o := { dst := some 69, op := Op.load 70 (Operand.tmp 68), type := 70, pos := "lock.go:59", after := #[{ on := 3, ground := Ground.data }], guard := none }) (w1 := wd) rfl (by first | rfl | (simp [Region.wanted, yielded]; done)) (by first | (go_simp; done) | (go_simp; rfl)) (⟨rfl, rfl⟩) ?_
              (try simp only [Act.put, List.setIfInBounds_toArray, List.set_cons_zero, List.set_cons_succ])
              refine t_ef ?_
              refine s_val (o := { dst := some 76, op := Op.buildSlice 70 1 #[(0, Operand.tmp 75)], type := 70, pos := "lock.go:59", after := #[{ on := 10, ground := Ground.data }], guard := none }) (w1 := (wd.alloc (.cells #[.int .i64 who1, .bool wt] 76 (0, 0)))) rfl (by first | rfl | (simp [Region.wanted, yielded]; done)) (by first | (go_simp; done) | (go_simp; rfl)) (⟨HXa.out.trans HXd.out.symm, (blk_cell HPa.out 1).trans (blk_cell HPd.out 1).symm⟩) ?_
              (try simp only [Act.put, List.setIfInBounds_toArray, List.set_cons_zero, List.set_cons_succ])
              refine t_ef ?_
              refine s_list (o := { dst := some 77, op := Op.call { callee := Callee.builtin Builtin.append, args := #[Operand.tmp 69, Operand.tmp 76], argTypes := #[70, 70] }, type := 70, pos := "lock.go:59", after := #[{ on := 4, ground := Ground.data }, { on := 11, ground := Ground.data }], guard := none }) rfl (by first | rfl | (simp [Region.wanted, yielded]; done)) ?_
              refine Kd.Q_append KOne (w0 := wd) (B) rfl (.tmp 69) (.tmp 76) 70 76 (.agg #[.int .i64 0, .bool false]) 16 rfl Try.underlying70 info76 rfl (by decide) (by decide) (.slice A1 n1 c1) hs2 (who1, wt) [.int .i64 who1, .bool wt] (fun k => some k ≠ ((.slice (some ⟨x, xo, none⟩) n2 c2) : Value).ownBlock) (fun _ => False) rfl rfl (one_M _) (fun _ hk => hk.elim) (fun k hk e_ => by have := Kd.Q_lt HOd.out k e_.symm; omega) HQd.out ⟨rfl, rfl, rfl, Nat.le_refl _, fun _ _ => rfl⟩ (by have := blk_lt HPd.out; have := HBP.out; omega) (by have := HNB.out; omega) ?_
              intro v3 w4 ho hb hg hat
              obtain ⟨os4, hos4⟩ : ∃ q, hs2 ++ [(who1, wt)] = q := ⟨_, rfl⟩
              rw [hos4] at ho
              obtain ⟨A4, c4, e4, _⟩ := Kd.Q_slice ho
              subst e4
              have HEQ4 := Aside0.mk hos4
              clear hos4
              have hpa4 := blk_grown HPd.out hg (Kd.Q_ne HQd.out HPd.out (by decide))
              have hx4 := blk_grown HXd.out hg (fun e_ => HXN.out e_)
              refine ⟨⟨hx4.trans HXa.out.symm, (blk_cell hpa4 1).trans (blk_cell HPa.out 1).symm⟩, ?_⟩
              have HQ4 := Aside0.mk ho
              have HO4 := Aside0.mk (Kd.Q_after (v := (.slice A1 n1 c1)) (v1 := (.slice A4 os4.length c4)) (Kd.Q_mono HOd.out (fun k hk => hk) |> fun h => Kd.Q_mono (Kd.Q_bound h) (fun k hk => ⟨trivial, hk.1⟩) (ok' := fun k => True ∧ some k ≠ ((.slice A1 n1 c1) : Value).ownBlock)) hg hat)
              have HB4 := Aside0.mk hb
              have HG4 := Aside0.mk hg
              have HP4 := Aside0.mk hpa4
              have HX4 := Aside0.mk hx4
              have c_4 : w4.cell? ⟨p, 0, none⟩ = some (.slice A1 n1 c1) := blk_cell hpa4 0
              have f_4 : w4.frozen? ⟨p, 0, none⟩ = false := blk_frozen hpa4 0
              clear ho hb hg hat hpa4 hx4 c_d c_a
              (try simp only [Act.put, List.setIfInBounds_toArray, List.set_cons_zero, List.set_cons_succ])
              (refine t_read (o := { dst := some 78, op := Op.nilCheck (Operand.tmp 65), type := 0, pos := "lock.go:59", after := #[{ on := 0, ground := Ground.data }, { on := 0, ground := Ground.phase }, { on := 1, ground := Ground.phase }, { on := 2, ground := Ground.phase }, { on := 3, ground := Ground.phase }, { on := 4, ground := Ground.phase }, { on := 5, ground := Ground.phase }, { on := 6, ground := Ground.phase }, { on := 7, ground := Ground.phase }, { on := 8, ground := Ground.phase }, { on := 9, ground := Ground.phase }, { on := 10, ground := Ground.phase }, { on := 11, ground := Ground.phase }, { on := 12, ground := Ground.phase }], guard := none }) rfl (by first | rfl | (simp [Region.wanted, yielded]; done)) (by intro w_ hE_; (try dsimp only at hE_); first | (go_simp; done) | (go_simp; rfl)) ?_)
              (try simp only [Act.put, List.setIfInBounds_toArray, List.set_cons_zero, List.set_cons_succ])
              (refine t_read (o := { dst := some 79, op := Op.fieldAddr 72 (Operand.tmp 78) 0, type := 0, pos := "lock.go:59", after := #[{ on := 13, ground := Ground.data }, { on := 0, ground := Ground.phase }, { on := 1, ground := Ground.phase }, { on := 2, ground := Ground.phase }, { on := 3, ground := Ground.phase }, { on := 4, ground := Ground.phase }, { on := 5, ground := Ground.phase }, { on := 6, ground := Ground.phase }, { on := 7, ground := Ground.phase }, { on := 8, ground := Ground.phase }, { on := 9, ground := Ground.phase }, { on := 10, ground := Ground.phase }, { on := 11, ground := Ground.phase }, { on := 12, ground := Ground.phase }], guard := none }) rfl (by first | rfl | (simp [Region.wanted, yielded]; done)) (by intro w_ hE_; (try dsimp only at hE_); first | (go_simp; done) | (go_simp; rfl)) ?_)
              (try simp only [Act.put, List.setIfInBounds_toArray, List.set_cons_zero, List.set_cons_succ])
              refine t_ef ?_
              refine s_store (o := { dst := none, op := Op.store 70 (Operand.tmp 79) (Operand.tmp 77), type := 0, pos := "lock.go:59", after := #[{ on := 14, ground := Ground.data }, { on := 12, ground := Ground.data }, { on := 12, ground := Ground.chain }, { on := 0, ground := Ground.phase }, { on := 1, ground := Ground.phase }, { on := 2, ground := Ground.phase }, { on := 3, ground := Ground.phase }, { on := 4, ground := Ground.phase }, { on := 5, ground := Ground.phase }, { on := 6, ground := Ground.phase }, { on := 7, ground := Ground.phase }, { on := 8, ground := Ground.phase }, { on := 9, ground := Ground.phase }, { on := 10, ground := Ground.phase }, { on := 11, ground := Ground.phase }, { on := 12, ground := Ground.phase }], guard := none }) (w1 := w4.setCell ⟨p, 0, none⟩ (.slice A4 os4.length c4)) rfl (by first | rfl | (simp [Region.wanted, yielded]; done)) (by first | (go_simp; done) | (go_simp; rfl)) (⟨Below.heap_setCell w4 ⟨p, 0, none⟩ (.slice A4 os4.length c4) x HXP.out, (blk_cell (blk_set HP4.out 0 (.slice A4 os4.length c4)) 1).trans (blk_cell HP4.out 1).symm⟩) ?_
              (try simp only [Act.put, List.setIfInBounds_toArray, List.set_cons_zero, List.set_cons_succ])
              refine t_nil ?_
              have HLF := Aside0.mk (lk_put0 (by decide) HBP.out HP4.out HQ4.out (Kd.Q_mono HO4.out (fun _ h_ => h_.2)))
              have HBF : Aside0 (Below B wr (w4.setCell ⟨p, 0, none⟩ (.slice A4 os4.length c4))) := ⟨((HBd.out.mono HBS.out).trans HB4.out).setCell HBP.out _⟩
              have HKF : Aside0 (Kt 72 76 wr (w4.setCell ⟨p, 0, none⟩ (.slice A4 os4.length c4))) := ⟨((Kt.below HBd.out).trans (Kt.grown HG4.out (fun k hk => Kd.Q_typed HQd.out k hk))).trans (Kt.set HP4.out 0 _)⟩
              have HRF := Aside0.mk (Kd.R_set (Kd.R_over' (v := (Value.slice A1 n1 c1)) (Kd.R_below HO.out HBd.out) (fun k hk => Kd.Q_typed HQd.out k hk) (by intro q hq; have hq : q ∈ [3] := hq; simp at hq; omega) HG4.out) HP4.out (by intro q hq; have hq : q ∈ [3] := hq; simp at hq; omega) 0 (.slice A4 os4.length c4))
              clear HBd HPd HPa HQd HOd HXd HXa HQ4 HO4 HB4 HG4 HP4 HX4
              generalize w4.setCell ⟨p, 0, none⟩ (.slice A4 os4.length c4) = w5 at *
              go_wp2_with fail
              go_meet
              exact ⟨⟨by rw [HEQ4.out]; exact HLF.out⟩, HBF, HKF, HRF⟩
            · refine s_val (o := { dst := some 76, op := Op.buildSlice 70 1 #[(0, Operand.tmp 75)], type := 70, pos := "lock.go:59", after := #[{ on := 10, ground := Ground.data }], guard := none }) (w1 := (wd.alloc (.cells #[.int .i64 who1, .bool wt] 76 (0, 0)))) rfl (by first | rfl | (simp [Region.wanted, yielded]; done)) (by first | (go_simp; done) | (go_simp; rfl)) (⟨HXa.out.trans HXd.out.symm, (blk_cell HPa.out 1).trans (blk_cell HPd.out 1).symm⟩) ?_
              (try simp only [Act.put, List.setIfInBounds_toArray, List.set_cons_zero, List.set_cons_succ])
              refine t_ef ?_
              refine s_val (o := { dst := some 69, op := Op.load 70 (Operand.tmp 68), type := 70, pos := "lock.go:59", after := #[{ on := 3, ground := Ground.data }], guard := none }) (w1 := (wd.alloc (.cells #[.int .i64 who1, .bool wt] 76 (0, 0)))) rfl (by first | rfl | (simp [Region.wanted, yielded]; done)) (by first | (go_simp; done) | (go_simp; rfl)) (⟨rfl, rfl⟩) ?_
              (try simp only [Act.put, List.setIfInBounds_toArray, List.set_cons_zero, List.set_cons_succ])
              refine t_ef ?_
              refine s_list (o := { dst := some 77, op := Op.call { callee := Callee.builtin Builtin.append, args := #[Operand.tmp 69, Operand.tmp 76], argTypes := #[70, 70] }, type := 70, pos := "lock.go:59", after := #[{ on := 4, ground := Ground.data }, { on := 11, ground := Ground.data }], guard := none }) rfl (by first | rfl | (simp [Region.wanted, yielded]; done)) ?_
              refine Kd.Q_append KOne (w0 := wd) (B) rfl (.tmp 69) (.tmp 76) 70 76 (.agg #[.int .i64 0, .bool false]) 16 rfl Try.underlying70 info76 rfl (by decide) (by decide) (.slice A1 n1 c1) hs2 (who1, wt) [.int .i64 who1, .bool wt] (fun k => some k ≠ ((.slice (some ⟨x, xo, none⟩) n2 c2) : Value).ownBlock) (fun _ => False) rfl rfl (one_M _) (fun _ hk => hk.elim) (fun k hk e_ => by have := Kd.Q_lt HOd.out k e_.symm; omega) HQd.out ⟨rfl, rfl, rfl, Nat.le_refl _, fun _ _ => rfl⟩ (by have := blk_lt HPd.out; have := HBP.out; omega) (by have := HNB.out; omega) ?_
              intro v3 w4 ho hb hg hat
              obtain ⟨os4, hos4⟩ : ∃ q, hs2 ++ [(who1, wt)] = q := ⟨_, rfl⟩
              rw [hos4] at ho
              obtain ⟨A4, c4, e4, _⟩ := Kd.Q_slice ho
              subst e4
              have HEQ4 := Aside0.mk hos4
              clear hos4
              have hpa4 := blk_grown HPd.out hg (Kd.Q_ne HQd.out HPd.out (by decide))
              have hx4 := blk_grown HXd.out hg (fun e_ => HXN.out e_)
              refine ⟨⟨hx4.trans HXa.out.symm, (blk_cell hpa4 1).trans (blk_cell HPa.out 1).symm⟩, ?_⟩
              have HQ4 := Aside0.mk ho
              have HO4 := Aside0.mk (Kd.Q_after (v := (.slice A1 n1 c1)) (v1 := (.slice A4 os4.length c4)) (Kd.Q_mono HOd.out (fun k hk => hk) |> fun h => Kd.Q_mono (Kd.Q_bound h) (fun k hk => ⟨trivial, hk.1⟩) (ok' := fun k => True ∧ some k ≠ ((.slice A1 n1 c1) : Value).ownBlock)) hg hat)
              have HB4 := Aside0.mk hb
              have HG4 := Aside0.mk hg
              have HP4 := Aside0.mk hpa4
              have HX4 := Aside0.mk hx4
              have c_4 : w4.cell? ⟨p, 0, none⟩ = some (.slice A1 n1 c1) := blk_cell hpa4 0
              have f_4 : w4.frozen? ⟨p, 0, none⟩ = false := blk_frozen hpa4 0
              clear ho hb hg hat hpa4 hx4 c_d c_a
              (try simp only [Act.put, List.setIfInBounds_toArray, List.set_cons_zero, List.set_cons_succ])
              (refine t_read (o := { dst := some 78, op := Op.nilCheck (Operand.tmp 65), type := 0, pos := "lock.go:59", after := #[{ on := 0, ground := Ground.data }, { on := 0, ground := Ground.phase }, { on := 1, ground := Ground.phase }, { on := 2, ground := Ground.phase }, { on := 3, ground := Ground.phase }, { on := 4, ground := Ground.phase }, { on := 5, ground := Ground.phase }, { on := 6, ground := Ground.phase }, { on := 7, ground := Ground.phase }, { on := 8, ground := Ground.phase }, { on := 9, ground := Ground.phase }, { on := 10, ground := Ground.phase }, { on := 11, ground := Ground.phase }, { on := 12, ground := Ground.phase }], guard := none }) rfl (by first | rfl | (simp [Region.wanted, yielded]; done)) (by intro w_ hE_; (try dsimp only at hE_); first | (go_simp; done) | (go_simp; rfl)) ?_)
              (try simp only [Act.put, List.setIfInBounds_toArray, List.set_cons_zero, List.set_cons_succ])
              (refine t_read (o := { dst := some 79, op := Op.fieldAddr 72 (Operand.tmp 78) 0, type := 0, pos := "lock.go:59", after := #[{ on := 13, ground := Ground.data }, { on := 0, ground := Ground.phase }, { on := 1, ground := Ground.phase }, { on := 2, ground := Ground.phase }, { on := 3, ground := Ground.phase }, { on := 4, ground := Ground.phase }, { on := 5, ground := Ground.phase }, { on := 6, ground := Ground.phase }, { on := 7, ground := Ground.phase }, { on := 8, ground := Ground.phase }, { on := 9, ground := Ground.phase }, { on := 10, ground := Ground.phase }, { on := 11, ground := Ground.phase }, { on := 12, ground := Ground.phase }], guard := none }) rfl (by first | rfl | (simp [Region.wanted, yielded]; done)) (by intro w_ hE_; (try dsimp only at hE_); first | (go_simp; done) | (go_simp; rfl)) ?_)
              (try simp only [Act.put, List.setIfInBounds_toArray, List.set_cons_zero, List.set_cons_succ])
              refine t_ef ?_
              refine s_store (o := { dst := none, op := Op.store 70 (Operand.tmp 79) (Operand.tmp 77), type := 0, pos := "lock.go:59", after := #[{ on := 14, ground := Ground.data }, { on := 12, ground := Ground.data }, { on := 12, ground := Ground.chain }, { on := 0, ground := Ground.phase }, { on := 1, ground := Ground.phase }, { on := 2, ground := Ground.phase }, { on := 3, ground := Ground.phase }, { on := 4, ground := Ground.phase }, { on := 5, ground := Ground.phase }, { on := 6, ground := Ground.phase }, { on := 7, ground := Ground.phase }, { on := 8, ground := Ground.phase }, { on := 9, ground := Ground.phase }, { on := 10, ground := Ground.phase }, { on := 11, ground := Ground.phase }, { on := 12, ground := Ground.phase }], guard := none }) (w1 := w4.setCell ⟨p, 0, none⟩ (.slice A4 os4.length c4)) rfl (by first | rfl | (simp [Region.wanted, yielded]; done)) (by first | (go_simp; done) | (go_simp; rfl)) (⟨Below.heap_setCell w4 ⟨p, 0, none⟩ (.slice A4 os4.length c4) x HXP.out, (blk_cell (blk_set HP4.out 0 (.slice A4 os4.length c4)) 1).trans (blk_cell HP4.out 1).symm⟩) ?_
              (try simp only [Act.put, List.setIfInBounds_toArray, List.set_cons_zero, List.set_cons_succ])
              refine t_nil ?_
              have HLF := Aside0.mk (lk_put0 (by decide) HBP.out HP4.out HQ4.out (Kd.Q_mono HO4.out (fun _ h_ => h_.2)))
              have HBF : Aside0 (Below B wr (w4.setCell ⟨p, 0, none⟩ (.slice A4 os4.length c4))) := ⟨((HBd.out.mono HBS.out).trans HB4.out).setCell HBP.out _⟩
              have HKF : Aside0 (Kt 72 76 wr (w4.setCell ⟨p, 0, none⟩ (.slice A4 os4.length c4))) := ⟨((Kt.below HBd.out).trans (Kt.grown HG4.out (fun k hk => Kd.Q_typed HQd.out k hk))).trans (Kt.set HP4.out 0 _)⟩
              have HRF := Aside0.mk (Kd.R_set (Kd.R_over' (v := (Value.slice A1 n1 c1)) (Kd.R_below HO.out HBd.out) (fun k hk => Kd.Q_typed HQd.out k hk) (by intro q hq; have hq : q ∈ [3] := hq; simp at hq; omega) HG4.out) HP4.out (by intro q hq; have hq : q ∈ [3] := hq; simp at hq; omega) 0 (.slice A4 os4.length c4))
              clear HBd HPd HPa HQd HOd HXd HXa HQ4 HO4 HB4 HG4 HP4 HX4
              generalize w4.setCell ⟨p, 0, none⟩ (.slice A4 os4.length c4) = w5 at *
              go_wp2_with fail
              go_meet
              exact ⟨⟨by rw [HEQ4.out]; exact HLF.out⟩, HBF, HKF, HRF⟩
          case rest =>
            clear HPB HQ1 HQ2 HXN HXP HXD HNB x0 x1 z0' z1' HL HO l1 l2
            obtain ⟨HL6, HB6, HK6, HO6⟩ := hcut
            have HWB := Aside0.mk (HBR.out.1.trans HB6.out)
            have HWK := Aside0.mk (HKR.out.trans HK6.out)
            have HWS : Aside0 (w.heap.size ≤ wc.heap.size) := ⟨Nat.le_trans HBR.out.2 HB6.out.size⟩
            clear HBR HKR HB6 HK6 HB
            obtain ⟨A3, c3, A4, c4, h2, l1, l2, r1, r2, _, q1, q2⟩ := lk_reads HL6.out
            have x1 : wc.cell? ⟨p, 1, none⟩ = some (.slice A4 ((who1, wt) :: ws3).length c4) := blk_cell h2 1
            obtain ⟨y, yo, cur2, e1, hBy, hyb⟩ := Q_addr q2 (by simp)
            subst e1
            obtain ⟨ad, e1, z0, z1⟩ := one_at r2 0 (by simp)
            injection e1 with e1
            subst e1
            have z0' : wc.cell? ⟨y, yo, none⟩ = some (.int .i64 who1) := by simpa [Addr.add] using z0
            rw [HN12.out.2] at x1 l2
            have HBQ := Aside0.mk (Below.refl w.heap.size wc)
            have HCL : Aside0 (came.length ≤ 100000) := ⟨by have := HG.out.2.2.2.2; omega⟩
            clear z0 z1 r1 r2 q1 q2 h2 hyb l1 l2
            have HX1 := HL6
            obtain ⟨i0, hi0, _, hsz, _⟩ := info_parts info76
            go_wp2_with ((with_reducible refine gate_builtin (b := .append) (xs := #[.tmp 80, .tmp 88]) rfl ?_); at_builtin; go_must (refine Kd.R_append (Kd.int .i64) (w0 := wc) (w.heap.size) rfl (.tmp 80) (.tmp 88) 27 3 (.int .i64 0) 8 rfl Try.underlying27 info3 rfl (by decide) (by omega) u7 came who1 [.int .i64 who1] (fun _ => True) (fun _ => False) rfl rfl rfl (fun _ hk => hk.elim) (fun _ _ => trivial) HO6.out HBQ.out HWS.out (by have := HCL.out; omega) ?_; intro v7 w7 ho hb hg hat; have HO7 := Aside0.mk ho; have HBN := Aside0.mk hb; have HL7 := Aside0.mk (lk_other (by decide) (by decide) HX1.out hg (fun k hk => Kd.R_typed HO6.out k hk)); have HWB7 := Aside0.mk (HWB.out.grown hg (by have := HWS.out; have := HBB.out; omega) (fun k hk => by have := Kd.R_base HO6.out k hk; have := HBB.out; omega)); have HWK7 := Aside0.mk (Kt.newer HWK.out hg (fun k hk => Kd.R_base HO6.out k hk)); have HWS7 := Aside0.mk (Nat.le_trans HWS.out hg.size); obtain ⟨A5, c5, A6, c6, h7, _, l6, _, _, _, p1, p2⟩ := lk_reads HL7.out; rw [HN12.out.2] at h7 l6 p1 p2; have x7 : w7.cell? ⟨p, 1, none⟩ = some (.slice A6 n2 c6) := blk_cell h7 1; have xf : w7.frozen? ⟨p, 1, none⟩ = false := blk_frozen h7 1; have HP7 := Aside0.mk h7; have HQ7 := Aside0.mk (And.intro p1 p2); have hsl := cut_from (P := Try.prog) 70 76 .i64 Try.underlying70 hi0 2 hsz A6 n2 c6 1 (by decide) (by have := HN3.out; omega); have hqd := Kd.Q_drop (k := 1) p2 (by simp); rw [show (Int.toNat 1) = 1 from rfl] at hsl; obtain ⟨A8, hA8⟩ : ∃ q, (if c6 = 1 then A6 else A6.map (·.add (1 * 2))) = q := ⟨_, rfl⟩; rw [hA8] at hsl; rw [show (if c6 = 1 then A6 else A6.map (·.add (1 * KOne.sz))) = A8 from hA8] at hqd; have HQ8 := Aside0.mk hqd; have HOB : Aside0 ((Value.slice A8 (n2 - 1) (c6 - 1)).ownBlock = (Value.slice A6 n2 c6).ownBlock) := ⟨by rw [← hA8]; cases A6 <;> (split <;> simp [Value.ownBlock, Addr.add] <;> (try split <;> rfl))⟩; clear hA8 hqd h7 p1 p2 x1 z0'; clear ho hb hg hat))
            go_roundg f
            case measure => omega
            case rel =>
              refine ⟨hs2 ++ [(who1, wt)], ws3, came ++ [who1], ⟨by have := HG.out.1; simp only [List.length_cons] at this; omega, HG.out.2.1, by rw [List.append_assoc]; exact HG.out.2.2.1, ?_, ?_⟩, ⟨?_⟩, ⟨?_⟩, ⟨HWB7.out.setCell HBP.out _, ?_⟩, ⟨HWK7.out.trans (Kt.set HP7.out 1 _)⟩⟩
              · have := HG.out.2.2.2.1
                simp only [List.length_append, List.length_cons, List.length_nil] at this ⊢
                omega
              · have := HG.out.2.2.2.2
                simp only [List.length_append, List.length_cons, List.length_nil] at this ⊢
                omega
              · exact lk_put1 (by decide) HBP.out HP7.out HQ8.out (Kd.Q_mono HQ7.out.1 (fun k hk => by rw [HOB.out]; exact hk))
              · exact Kd.R_set HO7.out HP7.out (by intro q hq; have hq : q ∈ [3] := hq; simp at hq; omega) 1 _
              · have := HWS7.out
                simpa [World.setCell] using this
end Go.Proofs.Ytopclgpimabpcaa.LkF
