/- LockEnds: whoever asks, if all that have it leave, has it in the end; nobody is passed over by who came later: it answers true. No condition. -/
import Derived.Test.YtopclgpimabpcaaProg
import Derived.Below
import Derived.Deep.Draws
import Derived.Deep.AppendLies
import Derived.Maps.AppendAt
import Derived.OwnWalk
import Derived.Laws.BytesArg
import Derived.Laws.MakeOwn
import Derived.Laws.OwnMore
import Derived.Deep.OwnRows
import Derived.Tactics
import Derived.Lib.ConvBytes
import Derived.Laws.Slices
import Derived.WalkKit
import Derived.KernelRfl
import Derived.RowKit3
import Derived.Deep.LoopGhost
import Derived.Deep.QuietTactic
import Derived.BigQuiet
import Derived.WideLaws
import Derived.Deep.DeepCutAuto
import Derived.Deep.CutBlock
import Derived.Deep.RegionHeld3
import Derived.Laws.Rows
import Derived.Lib.AppendStr
import Derived.ArgAppend
import Derived.Laws.IdiomCopy
import Derived.OrdersHeld
import Derived.Laws.BitsLemmas
import Derived.RowKit
import Derived.Deep.DeepCutAuto
import Derived.WalkSpells
import Derived.Outline
import Derived.Test.YtopclgpimabpcaaWWords
import Derived.Test.YtopclgpimabpcaaWLast
import Derived.Test.YtopclgpimabpcaaWMore
import Derived.Test.YtopclgpimabpcaaWArr
import Derived.Test.YtopclgpimabpcaaWTab
import Derived.Test.YtopclgpimabpcaaWZeros
import Derived.Test.YtopclgpimabpcaaWRepsOne
import Derived.Test.YtopclgpimabpcaaLqWalk
import Derived.Test.YtopclgpimabpcaaLkQ
namespace Go.Proofs.Ytopclgpimabpcaa.LeWalk
open Go.RowKit Go.Proofs.YtopclgpimabpcaaW.PrintWords Go.Proofs.YtopclgpimabpcaaW.PrintLast Go.Proofs.YtopclgpimabpcaaW.PrintMore Go.Proofs.Ytopclgpimabpcaa.Mix Go.Proofs.Ytopclgpimabpcaa.MixB Go.Proofs.Ytopclgpimabpcaa.MixT Go.Proofs.Ytopclgpimabpcaa.LkA Go.Proofs.Ytopclgpimabpcaa.LkB Go.Proofs.Ytopclgpimabpcaa.LkC Go.Proofs.Ytopclgpimabpcaa.LkD Go.Proofs.Ytopclgpimabpcaa.LkE Go.Proofs.Ytopclgpimabpcaa.LkF Go.Proofs.Ytopclgpimabpcaa.LkG Go.Proofs.Ytopclgpimabpcaa.LkQ Go.Proofs.Ytopclgpimabpcaa.InA Go.Proofs.Ytopclgpimabpcaa.LqWalk
set_option linter.unusedSimpArgs false
set_option linter.unusedVariables false
attribute [local go_sem] max2_int min2_int max_two min_two

theorem info4 : (Try.prog.info? 4).map (fun i => (i.zero, i.size, i.bytes)) = some (some (.bool false), 1, 1) := by kernel_rfl
/-- A row of the call's own of another type stays behind a lock's work. -/
theorem R_kt {α : Type} {d : Kd α} {e S E : Nat} {w w' : World} {base : Nat} {ok : Nat → Prop} {v : Value} {xs : List α} (hE : d.E = []) (h1 : e ≠ S) (h2 : e ≠ E) (h : d.R e w base ok v xs) (hk : Kt S E w w') : d.R e w' base ok v xs := by
  refine Kd.R_mono (Kd.R_move (Kd.R_bound h) (fun k hk' => ?_)) (fun _ hk' => hk'.1)
  obtain ⟨_, _, _, q, hq, cells, hc⟩ := hk'
  rw [hE] at hq
  have hq' : q = e := by simpa using hq
  subst hq'
  rw [hk k _ hc (fun cs t he => by injection he with _ e2; subst e2; exact ⟨h1, h2⟩), hc]
theorem bl_put {w0 wx : World} {Nb g n c p : Nat} {bs : List Bool} {hs ws : List (Int × Bool)} (hR : Kd.bool.R 4 wx Nb (fun _ => True) (.slice (some ⟨g, 0, none⟩) n c) bs) (hL : LkAt LT LE wx p p hs ws) (hB : Below w0.heap.size w0 wx) (hN : w0.heap.size ≤ Nb) (j : Nat) (hj : j < n) (b : Bool) :
    wx.cell? ⟨g, j, none⟩ = some (.bool (bs.getD j false)) ∧ wx.frozen? ⟨g, j, none⟩ = false ∧ Kd.bool.R 4 (wx.setCell ⟨g, j, none⟩ (.bool b)) Nb (fun _ => True) (.slice (some ⟨g, 0, none⟩) n c) (bs.set j b) ∧ LkAt LT LE (wx.setCell ⟨g, j, none⟩ (.bool b)) p p hs ws ∧ Below w0.heap.size w0 (wx.setCell ⟨g, j, none⟩ (.bool b)) ∧
      ∃ cells, wx.heap[g]? = some (.cells cells 4 (0, 0)) := by
  have hn := (Kd.R_reads' hR).1
  subst hn
  obtain ⟨g', c', e1, hbg, hgl, cells, hcells⟩ := Kd.R_form hR (by omega)
  injection e1 with e1 _ e2
  injection e1 with e1
  injection e1 with e1
  subst e1
  subst e2
  have hcl := Kd.R_cell false hR (j : Int) (by omega) (by omega)
  obtain ⟨hpr, hpg⟩ := Kd.R_put hR (j : Int) b
  rw [Int.toNat_natCast] at hcl hpr hpg
  obtain ⟨hc1, hc2⟩ := hcl
  refine ⟨?_, hc2, hpr, lk_kt (S' := 4) (E' := 4) ⟨by decide, by decide⟩ ⟨by decide, by decide⟩ hL (Kt.set hcells j _), hB.setCell (show w0.heap.size ≤ g by omega) _, cells, hcells⟩
  rw [hc1]
  unfold rdOf
  rw [Int.toNat_natCast]
set_option maxRecDepth 100000 in
set_option maxHeartbeats 2000000 in
theorem walk (A : Option Addr) (c : Nat) (l : List Bool) (A2 : Option Addr) (c2 : Nat) (l2 : List Int) (w : World) (hr : Kd.bool.C w A l.length l) (hc : l.length ≤ c) (hg : l.length ≤ maxLen ∧ ∀ p ∈ l, True)
    (hr2 : (Kd.int .i64).C w A2 l2.length l2) (hc2 : l2.length ≤ c2) (hm2 : l2.length * 8 ≤ 140737488351232) (hw2 : ∀ x ∈ l2, (Lit.int .i64 x).wf = true) :
    Calls Try.prog 10 #[.slice A l.length c, .slice A2 l2.length c2] w fun e w' => e = .returned (.bool true) ∧ Below w.heap.size w w' := by
  have HR := Aside0.mk hr
  have HR2 := Aside0.mk hr2
  have hll : l.length ≤ 9223372036854775807 := by have := hg.1; unfold maxLen at this; omega
  obtain ⟨f, hf⟩ : ∃ f : Nat → Bool, (fun i => l.getD i false) = f := ⟨_, rfl⟩
  have HF : Aside0 (∀ i, l.getD i false = f i) := ⟨fun i => by rw [← hf]⟩
  obtain ⟨n, hn⟩ : ∃ n : Nat, min l.length 15 = n := ⟨_, rfl⟩
  have hnl : n ≤ 15 ∧ n ≤ l.length := by omega
  have kmin : min (l.length : Int) 15 = (n : Int) := by omega
  have HN := Aside0.mk hnl
  obtain ⟨ll, hl2⟩ : ∃ q, l.length = q := ⟨_, rfl⟩
  rw [hl2] at HR HN hll kmin hnl ⊢
  obtain ⟨ln, hln⟩ : ∃ q, l2.length = q := ⟨_, rfl⟩
  have HLN := Aside0.mk (show ln ≤ 140737488351232 by omega)
  rw [hln] at HR2 ⊢
  clear hr hc hg hf hn hl2 hr2 hc2 hm2 hw2 hln
  go_enter Try.func10, Try.ntmps10
  go_wp2_with fail
  refine (begun_calls w).mono ?_
  rintro e_ w1 ⟨rfl, hb⟩
  have HB1 := Aside0.mk hb
  clear hb
  go_wp2_with fail
  refine (new_calls w1).mono ?_
  rintro e_ w2 ⟨rfl, hl, hb⟩
  obtain ⟨p, hp⟩ : ∃ q, w1.heap.size = q := ⟨_, rfl⟩
  have HB2 := Aside0.mk (below_step HB1.out hb)
  rw [hp] at hl ⊢
  have HL2 := Aside0.mk hl
  have HPW : Aside0 (w.heap.size ≤ p) := ⟨by have := HB1.out.size; omega⟩
  clear hl hb hp HB1
  go_upto_region 5 with fail
  go_cut [7] (fun s7 wx => w2 = wx ∧ s7 = .int .i64 (n : Int))
  case first =>
    have KM := Aside0.mk kmin
    clear kmin
    go_wp2_with fail
    all_goals go_meet
    all_goals refine ⟨rfl, ?_⟩
    all_goals have := KM.out
    all_goals first | rw [show (ll : Int) = (n : Int) by omega] | rw [show (15 : Int) = (n : Int) by omega]
  case rest =>
    obtain ⟨rfl, rfl⟩ := hcut
    clear kmin
    go_wp2_with fail
    go_loopg [8] n (fun q v8 w' => ∃ (i m : Nat), v8 = .int .i64 (i : Int) ∧ Aside0 (i + q = n ∧ m ≤ i ∧ (0 < i → 0 < m)) ∧ Aside0 (LkAt LT LE w' p p (sg f 0 m) (sg f m i)) ∧ Aside0 (Below w.heap.size w w'))
    case atStart => exact ⟨0, 0, rfl, ⟨by omega, by omega, fun h => by omega⟩, ⟨by rw [sg_nil]; exact HL2.out⟩, HB2⟩
    case round =>
      clear HL2 HB2
      obtain ⟨i, m, rfl, HI, HL, HB⟩ := hrel
      have hi := HI.out
      by_cases hlt : i < n
      · obtain ⟨g, rfl⟩ : ∃ g, gk = g + 1 := ⟨gk - 1, by omega⟩
        obtain ⟨ad, e1, hcell⟩ := bool_at (Kd.C_below HR.out HB.out) i (by have := HN.out; omega)
        subst e1
        rw [HF.out i] at hcell
        have k0 : ((i : Int) < (n : Int)) = True := eq_true (by omega)
        have k1 : ((i : Int) < (ll : Int)) = True := eq_true (by have := HN.out; omega)
        have kw : IntKind.i64.wrap ((i : Int) + 1) = ((i + 1 : Nat) : Int) := by rw [IntKind.wrap_i64]; omega
        obtain ⟨m', r', hask, hm1, hm2⟩ := ask_go f hi.2.1 hi.2.2
        have HQ := Aside0.mk (ask_calls HL.out ((i + 1 : Nat) : Int) (f i) (by rw [sg_len, sg_len]; omega))
        rw [hask] at HQ
        have HM := Aside0.mk (And.intro hm1 hm2)
        obtain ⟨i1, hi1⟩ : ∃ q, i + 1 = q := ⟨_, rfl⟩
        rw [hi1] at kw HQ
        have HI1 := Aside0.mk hi1
        clear hi1 hi hask hm1 hm2
        go_wp2_with fail
        refine HQ.out.mono ?_
        rintro e_ w4 ⟨rfl, hl, hb, _⟩
        have HL4 := Aside0.mk hl
        have HB4 := Aside0.mk (HB.out.trans (hb.mono HPW.out))
        clear hl hb
        go_wp2_with fail
        go_roundg g
        case measure => omega
        case rel => exact ⟨i1, m', by first | rfl | (simp; done) | (have := HI1.out; simp; omega), ⟨by have := HI.out; have := HI1.out; have := HM.out; omega⟩, HL4, HB4⟩
      · have hin : i = n := by omega
        subst hin
        have k0 : ((i : Int) < (i : Int)) = False := eq_false (by omega)
        have kw : IntKind.i64.wrap ((i : Int) + 1) = ((i + 1 : Nat) : Int) := by rw [IntKind.wrap_i64]; omega
        have HMI := Aside0.mk (And.intro hi.2.1 hi.2.2)
        have HBR := Aside0.mk (Below.refl wr.heap.size wr)
        clear hi hlt HI
        go_wp2_with ((with_reducible refine gate_dst (N := 40) rfl ?_); go_must (refine Kd.R_make (Kd.bool) (w0 := wr) (wr.heap.size) 4 ?hg (N := 40) ?hd 57 (.tmp 39) (.tmp 39) ?ho_ (((i + 1 : Nat) : Int)) ?hx_ ?hy_ Try.underlying57 (.bool false) 1 info4 rfl (by decide) (by decide) (false) (ok := fun _ => True) (okp := fun _ => True) ?hz_ (fun _ hk => hk) trivial (by omega) ?hl_ (HBR.out) (Below.size (HBR.out)) ?_; (case hd => rfl); (case hg => rfl); (case ho_ => rfl); (case hx_ => first | (go_simp; done) | (go_simp; rfl)); (case hy_ => first | (go_simp; done) | (go_simp; rfl)); (case hz_ => first | rfl | exact ⟨rfl⟩ | trivial); (case hl_ => omega); intro vd w5 ho3 hb hg_ hnew_; have HX := Aside0.mk ho3; have HBX := Aside0.mk hb; have HL5 := Aside0.mk (lk_below HL.out hb); have HB5 := Aside0.mk (below_step HB.out hb); rw [Int.toNat_natCast, bl_zero] at ho3; obtain ⟨A9, c9, ev_⟩ := Kd.R_slice ho3; rw [bl_len] at ev_; subst ev_; have HX9 := Aside0.mk ho3; clear ho3 hb hg_ hnew_))
        obtain ⟨g, c', e1, hbg, hgl, _⟩ := Kd.R_form HX9.out (by rw [bl_len]; omega)
        injection e1 with e1 _ e2
        subst e1
        clear e2 hgl
        obtain ⟨n, hnn⟩ : ∃ q, i = q := ⟨_, rfl⟩
        subst hnn
        obtain ⟨Nb, hNb⟩ : ∃ q, wr.heap.size = q := ⟨_, rfl⟩
        rw [hNb] at HX9
        have HNB : Aside0 (w.heap.size ≤ Nb) := ⟨by have := HB.out.size; omega⟩
        obtain ⟨np, hnp⟩ : ∃ q, i + 1 = q := ⟨_, rfl⟩
        have HNP := Aside0.mk hnp
        rw [hnp] at HX9 kw ⊢
        clear HX HL HB k0 HBX HBR hNb hnp hbg
        go_wp2_with fail
        go_loopg [10] i (fun q v10 w' => ∃ j : Nat, v10 = .int .i64 (j : Int) ∧ Aside0 (1 ≤ j ∧ j + q = i + 1) ∧ Aside0 (LkAt LT LE w' p p (sg f 0 m) (sg f m i)) ∧ Aside0 (Kd.bool.R 4 w' Nb (fun _ => True) (.slice (some ⟨g, 0, none⟩) np c9) (bl i (fun t => decide (1 ≤ t ∧ t ≤ m ∧ t < j)))) ∧ Aside0 (Below w.heap.size w w'))
        case atStart => exact ⟨1, rfl, ⟨by omega⟩, HL5, ⟨by rw [bl_congr (Q := fun _ => false) (fun t ht => decide_eq_false (by omega))]; exact HX9.out⟩, HB5⟩
        case round =>
          clear HL5 HX9 HB5
          obtain ⟨j, rfl, HJ, HL, HO, HB⟩ := hrel
          have hj := HJ.out
          by_cases hji : j ≤ i
          · obtain ⟨g5, rfl⟩ : ∃ g5, gk = g5 + 1 := ⟨gk - 1, by omega⟩
            have k1 : ((j : Int) ≤ (i : Int)) = True := eq_true (by omega)
            have k2 : ((j : Int) < (np : Int)) = True := eq_true (by have := HNP.out; omega)
            have kj : IntKind.i64.wrap ((j : Int) + 1) = ((j + 1 : Nat) : Int) := by rw [IntKind.wrap_i64]; omega
            have HH := Aside0.mk (has_calls HL.out (j : Int) (by rw [sg_len]; have := HMI.out; omega))
            rw [isIn_sg f hj.1] at HH
            obtain ⟨b, hbb⟩ : ∃ q, decide (0 < j ∧ j ≤ m) = q := ⟨_, rfl⟩
            rw [hbb] at HH
            have HBB := Aside0.mk hbb
            clear hbb hj
            go_wp2_with fail
            refine HH.out.mono ?_
            rintro e_ w6 ⟨rfl, hb⟩
            obtain ⟨x1, x2, x3, x4, x5, _⟩ := bl_put (Kd.R_below HO.out hb) (lk_below HL.out hb) (below_step HB.out hb) HNB.out j (by have := HNP.out; omega) b
            have HO6 := Aside0.mk x3
            have HL6 := Aside0.mk x4
            have HB6 := Aside0.mk x5
            clear hb HO HL HB HH x3 x4 x5
            go_wp2_with fail
            go_roundg g5
            case measure => omega
            case rel =>
              refine ⟨j + 1, by simp, ⟨by have := HJ.out; omega⟩, HL6, ⟨?_⟩, HB6⟩
              have := HO6.out
              rw [bl_set, bl_congr (Q := fun t => decide (1 ≤ t ∧ t ≤ m ∧ t < j + 1))] at this
              · exact this
              · intro t ht
                have hj := HJ.out
                by_cases h : t = j
                · subst h
                  rw [if_pos rfl, ← HBB.out]
                  exact decide_eq_decide.2 (by omega)
                · rw [if_neg h]
                  exact decide_eq_decide.2 (by omega)
          · have k1 : ((j : Int) ≤ (i : Int)) = False := eq_false (by omega)
            rw [bl_congr (Q := fun t => decide (1 ≤ t ∧ t ≤ m)) (fun t ht => decide_eq_decide.2 (by omega))] at HO
            clear hj hji HJ
            go_wp2_with fail
            go_loopg [11, 12, 13, 14, 15, 16] 40 (fun q v11 v12 v13 v14 v15 v16 w' => ∃ (k m : Nat) (hs : List (Int × Bool)), v11 = .int .i64 (k : Int) ∧ Aside0 (k + q = 40 ∧ m ≤ i ∧ Ups hs m ∧ (hs = [] → m = i) ∧ k + hs.length + (i - m) = i) ∧ Aside0 (LkAt LT LE w' p p hs (sg f m i)) ∧ Aside0 (Kd.bool.R 4 w' Nb (fun _ => True) (.slice (some ⟨g, 0, none⟩) np c9) (bl i (fun t => decide (1 ≤ t ∧ t ≤ m)))) ∧ Aside0 (Below w.heap.size w w'))
            case atStart => exact ⟨0, m, sg f 0 m, rfl, ⟨by omega, HMI.out.1, ups_sg f m, fun h => by have h2 := congrArg List.length h; rw [sg_len] at h2; simp at h2; have := HMI.out; omega, by rw [sg_len]; have := HMI.out; omega⟩, HL, HO, HB⟩
            case round =>
              clear HL HO HB k1
              obtain ⟨k, m, hs, rfl, HK, HL, HO, HB⟩ := hrel
              have hk := HK.out
              obtain ⟨g5, rfl⟩ : ∃ g5, gk = g5 + 1 := ⟨gk - 1, by omega⟩
              have kk : ((k : Int) < 40) = True := eq_true (by omega)
              have kk1 : IntKind.i64.wrap ((k : Int) + 1) = ((k + 1 : Nat) : Int) := by rw [IntKind.wrap_i64]; omega
              clear hk
              go_wp2_with fail
              go_loopg [12, 13] i (fun q v12 v13 w' => ∃ (j : Nat) (who : Int), v13 = .int .i64 (j : Int) ∧ v12 = .int .i64 who ∧ Aside0 (1 ≤ j ∧ j + q = i + 1 ∧ ((who = 0 ∧ ∀ t : Nat, 1 ≤ t → t < j → isIn (t : Int) hs = false) ∨ (1 ≤ who ∧ isIn who hs = true))) ∧ Aside0 (LkAt LT LE w' p p hs (sg f m i)) ∧ Aside0 (Kd.bool.R 4 w' Nb (fun _ => True) (.slice (some ⟨g, 0, none⟩) np c9) (bl i (fun t => decide (1 ≤ t ∧ t ≤ m)))) ∧ Aside0 (Below w.heap.size w w'))
              case atStart => exact ⟨1, 0, rfl, rfl, ⟨by omega, by omega, .inl ⟨rfl, fun t h1 h2 => by omega⟩⟩, HL, HO, HB⟩
              case round =>
                clear HL HO HB
                obtain ⟨j, who, rfl, rfl, HJ, HL, HO, HB⟩ := hrel
                have hj := HJ.out
                by_cases hji : j ≤ i
                · obtain ⟨g6, rfl⟩ : ∃ g6, gk = g6 + 1 := ⟨gk - 1, by omega⟩
                  have k1 : ((j : Int) ≤ (i : Int)) = True := eq_true (by omega)
                  have kj : IntKind.i64.wrap ((j : Int) + 1) = ((j + 1 : Nat) : Int) := by rw [IntKind.wrap_i64]; omega
                  have HH := Aside0.mk (has_calls HL.out (j : Int) (by have := HK.out; omega))
                  have hbc : isIn (j : Int) hs = true ∨ isIn (j : Int) hs = false := by cases isIn (j : Int) hs <;> simp
                  rcases hbc with hb0 | hb0
                  · rw [hb0] at HH
                    have HY : Aside0 (∀ q, j + 1 + q = i + 1 → 1 ≤ j + 1 ∧ j + 1 + q = i + 1 ∧ (((j : Int) = 0 ∧ ∀ t : Nat, 1 ≤ t → t < j + 1 → isIn (t : Int) hs = false) ∨ (1 ≤ (j : Int) ∧ isIn (j : Int) hs = true))) := ⟨fun q hq => ⟨by omega, hq, .inr ⟨by omega, hb0⟩⟩⟩
                    have HYN : Aside0 (who ≠ 0 → ∀ q, j + 1 + q = i + 1 → 1 ≤ j + 1 ∧ j + 1 + q = i + 1 ∧ ((who = 0 ∧ ∀ t : Nat, 1 ≤ t → t < j + 1 → isIn (t : Int) hs = false) ∨ (1 ≤ who ∧ isIn who hs = true))) := ⟨fun h0 q hq => ⟨by omega, hq, .inr (by rcases hj.2.2 with h | h; exact absurd h.1 h0; exact h)⟩⟩
                    clear hb0 hj
                    go_wp2_with fail
                    refine HH.out.mono ?_
                    rintro e_ w6 ⟨rfl, hb⟩
                    have HL6 := Aside0.mk (lk_below HL.out hb)
                    have HO6 := Aside0.mk (Kd.R_below HO.out hb)
                    have HB6 := Aside0.mk (below_step HB.out hb)
                    clear hb HL HO HB HH
                    by_cases hw0 : who = 0
                    · have b0 : (who == 0) = true := by simp [hw0]
                      clear hw0
                      go_wp2_with fail
                      go_roundg g6
                      case measure => omega
                      case rel => exact ⟨j + 1, j, by simp, rfl, ⟨HY.out _ (by have := HJ.out.2.1; omega)⟩, HL6, HO6, HB6⟩
                    · have b0 : (who == 0) = false := beq_eq_false_iff_ne.2 hw0
                      have HW0 := Aside0.mk hw0
                      clear hw0
                      by_cases hkl : k < ln
                      · obtain ⟨a2, e1, hcy⟩ := Kd.at_int (Kd.C_below HR2.out HB6.out) (k : Int) (by omega) (by omega)
                        subst e1
                        rw [Int.toNat_natCast] at hcy
                        generalize rd l2 (k : Int) = y at *
                        have kl : ((k : Int) < (ln : Int)) = True := eq_true (by omega)
                        clear hkl
                        go_wp2_with fail
                        all_goals
                          go_roundg g6
                          case measure => omega
                          case rel => first | exact ⟨j + 1, j, by simp, rfl, ⟨HY.out _ (by have := HJ.out.2.1; omega)⟩, HL6, HO6, HB6⟩ | exact ⟨j + 1, who, by simp, rfl, ⟨HYN.out HW0.out _ (by have := HJ.out.2.1; omega)⟩, HL6, HO6, HB6⟩
                      · have kl : ((k : Int) < (ln : Int)) = False := eq_false (by omega)
                        clear hkl
                        go_wp2_with fail
                        go_roundg g6
                        case measure => omega
                        case rel => exact ⟨j + 1, who, by simp, rfl, ⟨HYN.out HW0.out _ (by have := HJ.out.2.1; omega)⟩, HL6, HO6, HB6⟩
                  · rw [hb0] at HH
                    have HY : Aside0 (∀ q, j + 1 + q = i + 1 → 1 ≤ j + 1 ∧ j + 1 + q = i + 1 ∧ ((who = 0 ∧ ∀ t : Nat, 1 ≤ t → t < j + 1 → isIn (t : Int) hs = false) ∨ (1 ≤ who ∧ isIn who hs = true))) := ⟨fun q hq => ⟨by omega, hq, by
                      rcases hj.2.2 with h | h
                      · exact .inl ⟨h.1, fun t h1 h2 => by
                          rcases Nat.lt_or_ge t j with h3 | h3
                          · exact h.2 t h1 h3
                          · rw [show t = j by omega]; exact hb0⟩
                      · exact .inr h⟩⟩
                    clear hb0 hj
                    go_wp2_with fail
                    refine HH.out.mono ?_
                    rintro e_ w6 ⟨rfl, hb⟩
                    have HL6 := Aside0.mk (lk_below HL.out hb)
                    have HO6 := Aside0.mk (Kd.R_below HO.out hb)
                    have HB6 := Aside0.mk (below_step HB.out hb)
                    clear hb HL HO HB HH
                    go_wp2_with fail
                    go_roundg g6
                    case measure => omega
                    case rel => exact ⟨j + 1, who, by simp, rfl, ⟨HY.out _ (by have := HJ.out.2.1; omega)⟩, HL6, HO6, HB6⟩
                · have k1 : ((j : Int) ≤ (i : Int)) = False := eq_false (by omega)
                  by_cases hw0 : who = 0
                  · have b0 : (who == 0) = true := by simp [hw0]
                    have hn0 : hs = [] := ups_nil HK.out.2.2.1 HK.out.2.1 (fun t h1 h2 => by
                      rcases hj.2.2 with h | h
                      · exact h.2 t h1 (by omega)
                      · omega)
                    have hmi : m = i := HK.out.2.2.2.1 hn0
                    subst hmi
                    rw [sg_nil] at HL
                    clear hn0 hw0 hj hji HJ
                    go_wp2_with fail
                    go_loopg [17] m (fun q v17 w' => ∃ t : Nat, v17 = .int .i64 (t : Int) ∧ Aside0 (1 ≤ t ∧ t + q = m + 1) ∧ Aside0 (wr = w'))
                    case atStart => exact ⟨1, rfl, ⟨by omega⟩, ⟨rfl⟩⟩
                    case round =>
                      obtain ⟨t, rfl, HT, HW⟩ := hrel
                      have hw := HW.out
                      subst hw
                      clear HW
                      have ht := HT.out
                      by_cases htm : t ≤ m
                      · obtain ⟨g7, rfl⟩ : ∃ g7, gk = g7 + 1 := ⟨gk - 1, by omega⟩
                        obtain ⟨y1, y2, _⟩ := bl_put HO.out HL.out HB.out HNB.out t (by have := HNP.out; omega) true
                        rw [bl_get htm, decide_eq_true (by omega)] at y1
                        have k2 : ((t : Int) ≤ (m : Int)) = True := eq_true (by omega)
                        have k3 : ((t : Int) < (np : Int)) = True := eq_true (by have := HNP.out; omega)
                        have kj : IntKind.i64.wrap ((t : Int) + 1) = ((t + 1 : Nat) : Int) := by rw [IntKind.wrap_i64]; omega
                        clear ht
                        go_wp2_with fail
                        go_roundg g7
                        case measure => omega
                        case rel => exact ⟨t + 1, by simp, ⟨by have := HT.out; omega⟩, ⟨rfl⟩⟩
                      · have k2 : ((t : Int) ≤ (m : Int)) = False := eq_false (by omega)
                        have HWT := Aside0.mk (waiting_calls HL.out (by simp))
                        clear ht htm
                        go_wp2_with fail
                        refine HWT.out.mono ?_
                        rintro e_ w9 ⟨v9, rfl, ho, hb⟩
                        obtain ⟨A9, c9, rfl⟩ := Kd.R_slice ho
                        have HB9 := Aside0.mk (below_step HB.out hb)
                        clear ho hb
                        go_wp2
                        go_ret
                        exact ⟨rfl, HB9.out⟩
                  · have b0 : (who == 0) = false := beq_eq_false_iff_ne.2 hw0
                    have hwi : isIn who hs = true := by
                      rcases hj.2.2 with h | h
                      · exact absurd h.1 hw0
                      · exact h.2
                    obtain ⟨m', hs', hm1, hm2, hlv, hu', hn', hsz⟩ := leave_go f HK.out.2.1 HK.out.2.2.1 hwi
                    have HLV := Aside0.mk (leave_calls HL.out who (by rw [sg_len]; have := HK.out; omega))
                    rw [hlv] at HLV
                    have HMM := Aside0.mk (And.intro hm1 hm2)
                    have HNK : Aside0 (k + 1 + g5 = 40 ∧ m' ≤ i ∧ Ups hs' m' ∧ (hs' = [] → m' = i) ∧ k + 1 + hs'.length + (i - m') = i) := ⟨by have := HK.out; exact ⟨by omega, hm2, hu', hn', by omega⟩⟩
                    clear hw0 hwi hj hji hm1 hm2 hlv hu' hn' hsz HJ
                    go_wp2_with fail
                    refine HLV.out.mono ?_
                    rintro e_ w6 ⟨v6, rfl, ho, hl, hb, hkt⟩
                    obtain ⟨A6, c6, rfl⟩ := Kd.R_slice ho
                    have HV6 := Aside0.mk ho
                    have HL6 := Aside0.mk hl
                    have HB6 := Aside0.mk (HB.out.trans (hb.mono HPW.out))
                    have HO6 := Aside0.mk (R_kt rfl (by decide) (by decide) HO.out hkt)
                    obtain ⟨n6, hn6⟩ : ∃ q, (idl m m').length = q := ⟨_, rfl⟩
                    have HN6 : Aside0 (n6 = m' - m) := ⟨by rw [← hn6, idl_len]⟩
                    rw [hn6] at HV6 ⊢
                    clear ho hl hb hkt HLV HL HB HO hn6
                    obtain ⟨Nv, hNv⟩ : ∃ q, wr.heap.size = q := ⟨_, rfl⟩
                    rw [hNv] at HV6
                    go_wp2_with fail
                    go_loopg [15, 16] n6 (fun q v15 v16 w' => ∃ t : Nat, v15 = .int .i64 (t : Int) ∧ Aside0 (t + q = n6) ∧ Aside0 (LkAt LT LE w' p p hs' (sg f m' i)) ∧ Aside0 (Kd.bool.R 4 w' Nb (fun _ => True) (.slice (some ⟨g, 0, none⟩) np c9) (bl i (fun s => decide (1 ≤ s ∧ s ≤ m + t)))) ∧ Aside0 (Kd.R (Kd.int .i64) 3 w' Nv (fun _ => True) (.slice A6 n6 c6) (idl m m')) ∧ Aside0 (Below w.heap.size w w'))
                    case atStart => exact ⟨0, rfl, ⟨by omega⟩, HL6, HO6, HV6, HB6⟩
                    case round =>
                      clear HL6 HO6 HV6 HB6
                      obtain ⟨t, rfl, HT, HL, HO, HV, HB⟩ := hrel
                      have ht := HT.out
                      by_cases htn : t < n6
                      · obtain ⟨g7, rfl⟩ : ∃ g7, gk = g7 + 1 := ⟨gk - 1, by omega⟩
                        obtain ⟨a6, e1, hct⟩ := Kd.at_int (show (Kd.int .i64).C wr A6 n6 (idl m m') by have h := (Kd.R_reads' HV.out); rw [← h.1] at h; exact h.2.2) (t : Int) (by omega) (by omega)
                        subst e1
                        rw [Int.toNat_natCast, idl_rd (by rw [← HN6.out]; exact htn)] at hct
                        obtain ⟨x, hx⟩ : ∃ q, m + t + 1 = q := ⟨_, rfl⟩
                        rw [hx] at hct
                        have HXX := Aside0.mk hx
                        have hxi : x ≤ i := by have := HN6.out; have := HMM.out; omega
                        obtain ⟨x1, x2, x3, x4, x5, cells, hcells⟩ := bl_put HO.out HL.out HB.out HNB.out x (by have := HNP.out; omega) true
                        have hv7 := Kd.R_set HV.out hcells (by intro q hq; have hq : q ∈ [3] := hq; simp at hq; omega) x (.bool true)
                        rw [bl_set, bl_congr (Q := fun s => decide (1 ≤ s ∧ s ≤ m + (t + 1))) (fun s hs => by
                          by_cases h : s = x
                          · rw [if_pos h]; exact (decide_eq_true (by omega)).symm
                          · rw [if_neg h]; exact decide_eq_decide.2 (by omega))] at x3
                        have HO7 := Aside0.mk x3
                        have HL7 := Aside0.mk x4
                        have HB7 := Aside0.mk x5
                        have HV7 := Aside0.mk hv7
                        have k2 : ((t : Int) < (n6 : Int)) = True := eq_true (by omega)
                        have k3 : ((x : Int) < (np : Int)) = True := eq_true (by have := HNP.out; omega)
                        have kj : IntKind.i64.wrap ((t : Int) + 1) = ((t + 1 : Nat) : Int) := by have := HN6.out; have := HMM.out; rw [IntKind.wrap_i64]; omega
                        have hct7 : (wr.setCell ⟨g, x, none⟩ (.bool true)).cell? (a6.add t) = some (.int .i64 (x : Int)) := by
                          obtain ⟨a6', e1, hct'⟩ := Kd.at_int (show (Kd.int .i64).C (wr.setCell ⟨g, x, none⟩ (.bool true)) (some a6) n6 (idl m m') by have h := (Kd.R_reads' hv7); rw [← h.1] at h; exact h.2.2) (t : Int) (by omega) (by omega)
                          injection e1 with e1
                          subst e1
                          rw [Int.toNat_natCast, idl_rd (by rw [← HN6.out]; exact htn), hx] at hct'
                          exact hct'
                        clear x3 x4 x5 hcells hv7 ht hx hxi HL HO HV HB
                        go_wp2_with fail
                        generalize wr.setCell ⟨g, x, none⟩ (.bool true) = w7 at *
                        clear x1 x2 hct
                        go_loopg [16] i (fun q v16 w' => ∃ r : Nat, v16 = .int .i64 (r : Int) ∧ Aside0 (1 ≤ r ∧ r ≤ x ∧ x - r ≤ q) ∧ Aside0 (w7 = w'))
                        case atStart => exact ⟨1, rfl, ⟨by have := HXX.out; have := HN6.out; have := HMM.out; omega⟩, ⟨rfl⟩⟩
                        case round =>
                          obtain ⟨r, rfl, HRR, HW⟩ := hrel
                          have hw := HW.out
                          subst hw
                          clear HW
                          have hr := HRR.out
                          by_cases hrx : r < x
                          · obtain ⟨g8, rfl⟩ : ∃ g8, gk = g8 + 1 := ⟨gk - 1, by omega⟩
                            have hri : r ≤ i := by have := HXX.out; have := HN6.out; have := HMM.out; omega
                            obtain ⟨y1, y2, _⟩ := bl_put HO7.out HL7.out HB7.out HNB.out r (by have := HNP.out; omega) true
                            rw [bl_get hri, decide_eq_true (by have := HXX.out; omega)] at y1
                            have k4 : ((r : Int) < (x : Int)) = True := eq_true (by omega)
                            have k5 : ((r : Int) < (np : Int)) = True := eq_true (by have := HNP.out; omega)
                            have k6 : IntKind.i64.wrap ((r : Int) + 1) = ((r + 1 : Nat) : Int) := by rw [IntKind.wrap_i64]; omega
                            clear hr hri
                            go_wp2_with fail
                            go_roundg g8
                            case measure => omega
                            case rel => exact ⟨r + 1, by simp, ⟨by have := HRR.out; omega⟩, ⟨rfl⟩⟩
                          · have hrr : r = x := by omega
                            subst hrr
                            have k4 : ((r : Int) < (r : Int)) = False := eq_false (by omega)
                            clear hr hrx
                            go_wp2_with fail
                            go_roundg g7
                            case measure => omega
                            case rel => exact ⟨t + 1, by simp, ⟨by have := HT.out; omega⟩, HL7, HO7, HV7, HB7⟩
                      · have k2 : ((t : Int) < (n6 : Int)) = False := eq_false (by omega)
                        have hmt : m + t = m' := by have := HN6.out; have := HMM.out; omega
                        rw [hmt] at HO
                        clear ht htn hmt
                        go_wp2_with fail
                        go_roundg g5
                        case measure => omega
                        case rel => exact ⟨k + 1, m', hs', by simp, HNK, HL, HO, HB⟩
end Go.Proofs.Ytopclgpimabpcaa.LeWalk
