/- EditEnds: which edits may be, at the ends of each of their numbers: it answers true. No condition. -/
import Derived.Test.YtfojeegepfjbiaaProg
import Derived.Below
import Derived.Deep.Draws
import Derived.Deep.AppendLies
import Derived.Maps.AppendAt
import Derived.OwnWalk
import Derived.Laws.BytesArg
import Derived.Laws.MakeOwn
import Derived.Laws.OwnMore
import Derived.Deep.OwnRows
import Derived.Tactics
import Derived.Lib.ConvBytes
import Derived.Laws.Slices
import Derived.WalkKit
import Derived.KernelRfl
import Derived.RowKit3
import Derived.Deep.LoopGhost
import Derived.Deep.QuietTactic
import Derived.BigQuiet
import Derived.WideLaws
import Derived.Deep.DeepCutAuto
import Derived.Deep.CutBlock
import Derived.Deep.RegionHeld3
import Derived.Laws.Rows
import Derived.Lib.AppendStr
import Derived.ArgAppend
import Derived.Laws.IdiomCopy
import Derived.OrdersHeld
import Derived.Laws.BitsLemmas
import Derived.RowKit
import Derived.Deep.RegionWith
import Derived.Deep.DeepCutAuto
import Derived.WalkSpells
import Derived.Outline
import Derived.Test.YtfojeegepfjbiaaWWords
import Derived.Test.YtfojeegepfjbiaaWLast
import Derived.Test.YtfojeegepfjbiaaWMore
import Derived.Test.YtfojeegepfjbiaaWArr
import Derived.Test.YtfojeegepfjbiaaWTab
import Derived.Test.YtfojeegepfjbiaaWZeros
import Derived.Test.YtfojeegepfjbiaaWRepsOne
import Derived.Test.YtfojeegepfjbiaaEdO
namespace Go.Proofs.Ytfojeegepfjbiaa.EeWalk
open Go.RowKit Go.Proofs.YtfojeegepfjbiaaW.PrintWords Go.Proofs.YtfojeegepfjbiaaW.PrintLast Go.Proofs.YtfojeegepfjbiaaW.PrintMore Go.Proofs.Ytfojeegepfjbiaa.Mix Go.Proofs.Ytfojeegepfjbiaa.MixB Go.Proofs.Ytfojeegepfjbiaa.MixT Go.Proofs.Ytfojeegepfjbiaa.Nm Go.Proofs.Ytfojeegepfjbiaa.NmA Go.Proofs.Ytfojeegepfjbiaa.NmB Go.Proofs.Ytfojeegepfjbiaa.NmC Go.Proofs.Ytfojeegepfjbiaa.NmH Go.Proofs.Ytfojeegepfjbiaa.CrP Go.Proofs.Ytfojeegepfjbiaa.CrA Go.Proofs.Ytfojeegepfjbiaa.CrB Go.Proofs.Ytfojeegepfjbiaa.CrC Go.Proofs.Ytfojeegepfjbiaa.CrD Go.Proofs.Ytfojeegepfjbiaa.CrE Go.Proofs.Ytfojeegepfjbiaa.CrG Go.Proofs.Ytfojeegepfjbiaa.CrH Go.Proofs.Ytfojeegepfjbiaa.CrI Go.Proofs.Ytfojeegepfjbiaa.EdZ Go.Proofs.Ytfojeegepfjbiaa.EdA Go.Proofs.Ytfojeegepfjbiaa.EdB Go.Proofs.Ytfojeegepfjbiaa.EdC Go.Proofs.Ytfojeegepfjbiaa.EdD Go.Proofs.Ytfojeegepfjbiaa.EdE Go.Proofs.Ytfojeegepfjbiaa.EdF Go.Proofs.Ytfojeegepfjbiaa.EdG Go.Proofs.Ytfojeegepfjbiaa.EdH Go.Proofs.Ytfojeegepfjbiaa.EdI Go.Proofs.Ytfojeegepfjbiaa.EdJ Go.Proofs.Ytfojeegepfjbiaa.EdK Go.Proofs.Ytfojeegepfjbiaa.EdL Go.Proofs.Ytfojeegepfjbiaa.EdM Go.Proofs.Ytfojeegepfjbiaa.EdN Go.Proofs.Ytfojeegepfjbiaa.EdO
set_option linter.unusedSimpArgs false
set_option linter.unusedVariables false
attribute [local go_sem] max2_int min2_int max_two min_two

def edE (a0 a1 a2 a3 a4 a5 : Int) : EdT := (a0, a1, [(a2, false, a3, a4, a5, 0)], [], [], [])
theorem edE_good (a0 a1 a2 a3 a4 a5 : Int) : edGood (edE a0 a1 a2 a3 a4 a5) := by
  refine ⟨fun s hs => ?_, fun s hs => by simp [edE] at hs⟩
  have h1 : s = (a2, false, a3, a4, a5, 0) := by simpa [edE] using hs
  rw [h1]
  exact ⟨Int.le_refl 0, show (0 : Int) < 4294967296 by decide⟩
theorem edE_ok (a0 a1 a2 a3 a4 a5 : Int) : edOk (edE a0 a1 a2 a3 a4 a5) = true ↔ (0 ≤ a0 ∧ a0 ≤ 1125899906842624) ∧ (0 ≤ a1 ∧ a1 ≤ 1125899906842624) ∧ (1 ≤ a2 ∧ a2 ≤ 1125899906842624) ∧ (0 ≤ a3 ∧ a3 ≤ 1125899906842624) ∧ (0 ≤ a4 ∧ a4 ≤ 3) ∧ 0 ≤ a5 ∧ a5 ≤ 4194304 := by
  rw [ed_iff]
  constructor
  · rintro ⟨h1, _, _, _, h5, _⟩
    have h6 := (seg_iff _).1 (h5 (a2, false, a3, a4, a5, 0) (by simp [edE]))
    have h7 : 0 ≤ a0 ∧ a0 ≤ 1125899906842624 ∧ 0 ≤ a1 ∧ a1 ≤ 1125899906842624 := h1
    dsimp only at h6
    omega
  · intro h
    refine ⟨show 0 ≤ a0 ∧ a0 ≤ 1125899906842624 ∧ 0 ≤ a1 ∧ a1 ≤ 1125899906842624 by omega, by simp [edE], by simp [edE], by simp [edE], fun s hs => ?_, by simp [edE]⟩
    have h1 : s = (a2, false, a3, a4, a5, 0) := by simpa [edE] using hs
    rw [h1, seg_iff]
    dsimp only
    omega
set_option maxRecDepth 100000 in
set_option maxHeartbeats 4000000 in
theorem walk (a0 a1 a2 a3 a4 a5 : Int) (w : World) (v0 : (Lit.int .i64 a0).wf = true) (v1 : (Lit.int .i64 a1).wf = true) (v2 : (Lit.int .i64 a2).wf = true) (v3 : (Lit.int .i64 a3).wf = true) (v4 : (Lit.int .i64 a4).wf = true) (v5 : (Lit.int .i64 a5).wf = true) :
    Calls Try.prog 17 #[.int .i64 a0, .int .i64 a1, .int .i64 a2, .int .i64 a3, .int .i64 a4, .int .i64 a5] w fun e w' => e = .returned (.bool true) ∧ Below w.heap.size w w' := by
  clear v0 v1 v2 v3 v4 v5
  have hio := edE_ok a0 a1 a2 a3 a4 a5
  obtain ⟨P, hP⟩ : ∃ q, edOk (edE a0 a1 a2 a3 a4 a5) = q := ⟨_, rfl⟩
  rw [hP] at hio
  have HPT : Aside0 ((0 ≤ a0 ∧ a0 ≤ 1125899906842624) ∧ (0 ≤ a1 ∧ a1 ≤ 1125899906842624) ∧ (1 ≤ a2 ∧ a2 ≤ 1125899906842624) ∧ (0 ≤ a3 ∧ a3 ≤ 1125899906842624) ∧ (0 ≤ a4 ∧ a4 ≤ 3) ∧ 0 ≤ a5 ∧ a5 ≤ 4194304 → P = true) := ⟨fun h => hio.2 h⟩
  have HPF : Aside0 (¬ ((0 ≤ a0 ∧ a0 ≤ 1125899906842624) ∧ (0 ≤ a1 ∧ a1 ≤ 1125899906842624) ∧ (1 ≤ a2 ∧ a2 ≤ 1125899906842624) ∧ (0 ≤ a3 ∧ a3 ≤ 1125899906842624) ∧ (0 ≤ a4 ∧ a4 ≤ 3) ∧ 0 ≤ a5 ∧ a5 ≤ 4194304) → P = false) := ⟨fun h => by cases P with | false => rfl | true => exact absurd (hio.1 rfl) h⟩
  have HPE := Aside0.mk hP
  clear hio hP
  go_enter Try.func17, Try.ntmps17
  go_wp2_with fail
  refine (begun_calls w).mono ?_
  rintro e_ w1 ⟨rfl, hb⟩
  have HB1 := Aside0.mk hb
  have hl := (Below.refl w1.heap.size w1).alloc (Nat.le_refl _) (.cells #[.int .i64 a2, .bool false, .int .i64 a3, .int .i64 a4, .int .i64 a5, .int .u32 0] 77 (0, 0))
  have hsl := seg_lit w1 77 a2 a3 a4 a5 0 false
  obtain ⟨wl, hwl⟩ : ∃ q, w1.alloc (.cells #[.int .i64 a2, .bool false, .int .i64 a3, .int .i64 a4, .int .i64 a5, .int .u32 0] 77 (0, 0)) = q := ⟨_, rfl⟩
  rw [hwl] at hl hsl
  have hx3 := blk_new wl (.cells #[.int .i64 a0, .int .i64 a1, .slice (some ⟨w1.heap.size, 0, none⟩) 1 1, .slice none 0 0, .slice none 0 0, .slice none 0 0] 66 (0, 0))
  have hbx := (Below.refl wl.heap.size wl).alloc (Nat.le_refl _) (.cells #[.int .i64 a0, .int .i64 a1, .slice (some ⟨w1.heap.size, 0, none⟩) 1 1, .slice none 0 0, .slice none 0 0, .slice none 0 0] 66 (0, 0))
  obtain ⟨w2, hw2⟩ : ∃ q, wl.alloc (.cells #[.int .i64 a0, .int .i64 a1, .slice (some ⟨w1.heap.size, 0, none⟩) 1 1, .slice none 0 0, .slice none 0 0, .slice none 0 0] 66 (0, 0)) = q := ⟨_, rfl⟩
  rw [hw2] at hx3 hbx
  obtain ⟨x, hx⟩ : ∃ q, wl.heap.size = q := ⟨_, rfl⟩
  have hEA : EdAt w2 (.agg #[.int .i64 a0, .int .i64 a1, .slice (some ⟨w1.heap.size, 0, none⟩) 1 1, .slice none 0 0, .slice none 0 0, .slice none 0 0]) (edE a0 a1 a2 a3 a4 a5) :=
    ⟨_, 1, none, 0, none, 0, none, 0, rfl, ⟨Nat.le_refl _, Nat.le_refl _, Nat.le_refl _, Nat.le_refl _⟩, Kd.C_below hsl hbx, nil_C _ _, nil_C _ _, nil_C _ _⟩
  have HEA := Aside0.mk hEA
  have HB2 := Aside0.mk (below_step HB1.out (below_step hl hbx))
  rw [hx] at hx3
  have HX := Aside0.mk hx3
  have hf1 := blk_frozen hx3 1
  have hf2 := blk_frozen hx3 2
  have hf3 := blk_frozen hx3 3
  have hf4 := blk_frozen hx3 4
  have hf5 := blk_frozen hx3 5
  have hw_2 : w2.setCell ⟨x, 2, none⟩ (.slice (some ⟨w1.heap.size, 0, none⟩) 1 1) = w2 := setCell_same hx3 rfl
  have hw_3 : w2.setCell ⟨x, 3, none⟩ (.slice none 0 0) = w2 := setCell_same hx3 rfl
  have hw_4 : w2.setCell ⟨x, 4, none⟩ (.slice none 0 0) = w2 := setCell_same hx3 rfl
  have hw_5 : w2.setCell ⟨x, 5, none⟩ (.slice none 0 0) = w2 := setCell_same hx3 rfl
  have x0 : w2.cell? ⟨x, 0, none⟩ = some (.int .i64 a0) := blk_cell hx3 0
  have x1 : w2.cell? ⟨x, 1, none⟩ = some (.int .i64 a1) := blk_cell hx3 1
  have x2 : w2.cell? ⟨x, 2, none⟩ = some (.slice (some ⟨w1.heap.size, 0, none⟩) 1 1) := blk_cell hx3 2
  have x3 : w2.cell? ⟨x, 3, none⟩ = some (.slice none 0 0) := blk_cell hx3 3
  have x4 : w2.cell? ⟨x, 4, none⟩ = some (.slice none 0 0) := blk_cell hx3 4
  have x5 : w2.cell? ⟨x, 5, none⟩ = some (.slice none 0 0) := blk_cell hx3 5
  clear hb hl hsl hbx hx3 hEA
  go_upto_region 5 with fail
  go_cut [15] (fun s15 wx => wx = w2 ∧ s15 = .bool P)
  case first =>
    by_cases q0 : ¬ (0 ≤ a0)
    · have k0 : (0 ≤ a0) = False := eq_false q0
      have kd : P = false := HPF.out (fun h => q0 (by omega))
      clear q0
      go_wp2_with fail
      go_meet
      exact ⟨rfl, by rw [kd]⟩
    · have q0 : 0 ≤ a0 := Decidable.not_not.1 q0
      have k0 : (0 ≤ a0) = True := eq_true q0
      by_cases q1 : ¬ (a0 ≤ 1125899906842624)
      · have k1 : (a0 ≤ 1125899906842624) = False := eq_false q1
        have kd : P = false := HPF.out (fun h => q1 (by omega))
        clear q1
        go_wp2_with fail
        go_meet
        exact ⟨rfl, by rw [kd]⟩
      · have q1 : a0 ≤ 1125899906842624 := Decidable.not_not.1 q1
        have k1 : (a0 ≤ 1125899906842624) = True := eq_true q1
        by_cases q2 : ¬ (0 ≤ a1)
        · have k2 : (0 ≤ a1) = False := eq_false q2
          have kd : P = false := HPF.out (fun h => q2 (by omega))
          clear q2
          go_wp2_with fail
          go_meet
          exact ⟨rfl, by rw [kd]⟩
        · have q2 : 0 ≤ a1 := Decidable.not_not.1 q2
          have k2 : (0 ≤ a1) = True := eq_true q2
          by_cases q3 : ¬ (a1 ≤ 1125899906842624)
          · have k3 : (a1 ≤ 1125899906842624) = False := eq_false q3
            have kd : P = false := HPF.out (fun h => q3 (by omega))
            clear q3
            go_wp2_with fail
            go_meet
            exact ⟨rfl, by rw [kd]⟩
          · have q3 : a1 ≤ 1125899906842624 := Decidable.not_not.1 q3
            have k3 : (a1 ≤ 1125899906842624) = True := eq_true q3
            by_cases q4 : ¬ (1 ≤ a2)
            · have k4 : (1 ≤ a2) = False := eq_false q4
              have kd : P = false := HPF.out (fun h => q4 (by omega))
              clear q4
              go_wp2_with fail
              go_meet
              exact ⟨rfl, by rw [kd]⟩
            · have q4 : 1 ≤ a2 := Decidable.not_not.1 q4
              have k4 : (1 ≤ a2) = True := eq_true q4
              by_cases q5 : ¬ (a2 ≤ 1125899906842624)
              · have k5 : (a2 ≤ 1125899906842624) = False := eq_false q5
                have kd : P = false := HPF.out (fun h => q5 (by omega))
                clear q5
                go_wp2_with fail
                go_meet
                exact ⟨rfl, by rw [kd]⟩
              · have q5 : a2 ≤ 1125899906842624 := Decidable.not_not.1 q5
                have k5 : (a2 ≤ 1125899906842624) = True := eq_true q5
                by_cases q6 : ¬ (0 ≤ a3)
                · have k6 : (0 ≤ a3) = False := eq_false q6
                  have kd : P = false := HPF.out (fun h => q6 (by omega))
                  clear q6
                  go_wp2_with fail
                  go_meet
                  exact ⟨rfl, by rw [kd]⟩
                · have q6 : 0 ≤ a3 := Decidable.not_not.1 q6
                  have k6 : (0 ≤ a3) = True := eq_true q6
                  by_cases q7 : ¬ (a3 ≤ 1125899906842624)
                  · have k7 : (a3 ≤ 1125899906842624) = False := eq_false q7
                    have kd : P = false := HPF.out (fun h => q7 (by omega))
                    clear q7
                    go_wp2_with fail
                    go_meet
                    exact ⟨rfl, by rw [kd]⟩
                  · have q7 : a3 ≤ 1125899906842624 := Decidable.not_not.1 q7
                    have k7 : (a3 ≤ 1125899906842624) = True := eq_true q7
                    by_cases q8 : ¬ (0 ≤ a4)
                    · have k8 : (0 ≤ a4) = False := eq_false q8
                      have kd : P = false := HPF.out (fun h => q8 (by omega))
                      clear q8
                      go_wp2_with fail
                      go_meet
                      exact ⟨rfl, by rw [kd]⟩
                    · have q8 : 0 ≤ a4 := Decidable.not_not.1 q8
                      have k8 : (0 ≤ a4) = True := eq_true q8
                      by_cases q9 : ¬ (a4 ≤ 3)
                      · have k9 : (a4 ≤ 3) = False := eq_false q9
                        have kd : P = false := HPF.out (fun h => q9 (by omega))
                        clear q9
                        go_wp2_with fail
                        go_meet
                        exact ⟨rfl, by rw [kd]⟩
                      · have q9 : a4 ≤ 3 := Decidable.not_not.1 q9
                        have k9 : (a4 ≤ 3) = True := eq_true q9
                        by_cases q10 : ¬ (0 ≤ a5)
                        · have k10 : (0 ≤ a5) = False := eq_false q10
                          have kd : P = false := HPF.out (fun h => q10 (by omega))
                          clear q10
                          go_wp2_with fail
                          go_meet
                          exact ⟨rfl, by rw [kd]⟩
                        · have q10 : 0 ≤ a5 := Decidable.not_not.1 q10
                          have k10 : (0 ≤ a5) = True := eq_true q10
                          by_cases q11 : ¬ (a5 ≤ 4194304)
                          · have k11 : (a5 ≤ 4194304) = False := eq_false q11
                            have kd : P = false := HPF.out (fun h => q11 (by omega))
                            clear q11
                            go_wp2_with fail
                            go_meet
                            exact ⟨rfl, by rw [kd]⟩
                          · have q11 : a5 ≤ 4194304 := Decidable.not_not.1 q11
                            have k11 : (a5 ≤ 4194304) = True := eq_true q11
                            have kd : P = true := HPT.out (by omega)
                            clear q0 q1 q2 q3 q4 q5 q6 q7 q8 q9 q10 q11
                            go_wp2_with fail
                            go_meet
                            exact ⟨rfl, by rw [kd]⟩
  case rest =>
    obtain ⟨rfl, rfl⟩ := hcut
    clear HPT HPF hf1 hf2 hf3 hf4 hf5 hw_2 hw_3 hw_4 hw_5
    cases P with
    | false =>
      have hc := EdH.encode_bad _ _ wc HEA.out HPE.out
      go_wp2_with fail
      refine hc.mono ?_
      rintro e_ w3 ⟨rfl, hb⟩
      have HB3 := Aside0.mk (below_step HB2.out hb)
      clear hb hc
      go_wp2
      go_ret
      exact ⟨by first | rfl | simp, HB3.out⟩
    | true =>
      have hew : EdW (edE a0 a1 a2 a3 a4 a5) := ⟨HPE.out, edE_good _ _ _ _ _ _⟩
      have hc := EdH.encode_ok _ _ wc HEA.out hew.1 hew.2
      have hrs := escan_one hew
      have hby : Bys (sealL (textL (edE a0 a1 a2 a3 a4 a5))) := bys_sealL (bys_text hew.1 hew.2).1
      have hln : (sealL (textL (edE a0 a1 a2 a3 a4 a5))).length ≤ 1000000 := by rw [sealL_len]; have := (bys_text hew.1 hew.2).2; omega
      generalize sealL (textL (edE a0 a1 a2 a3 a4 a5)) = b at *
      have HSC := Aside0.mk (fun A c w h1 h2 => escan_calls A c b hby w h1 h2 (by omega))
      rw [hrs] at HSC
      clear hrs hby hln hew
      go_wp2_with fail
      refine hc.mono ?_
      rintro e_ w3 ⟨v3, rfl, ho, hb⟩
      obtain ⟨A3, c3, rfl⟩ := Kd.R_slice ho
      obtain ⟨_, h1, h2⟩ := Kd.R_reads' ho
      have H12 := Aside0.mk (And.intro h2 h1)
      have HB3 := Aside0.mk (below_step HB2.out hb)
      have HX3 := Aside0.mk (blk_below HX.out hb)
      have HE3 := Aside0.mk (ed_below HEA.out hb)
      clear ho hb h1 h2 hc x0 x1 x2 x3 x4 x5
      obtain ⟨nb, hnb⟩ : ∃ q, b.length = q := ⟨_, rfl⟩
      rw [hnb] at HSC H12 ⊢
      clear hnb
      go_wp2_with fail
      refine (HSC.out A3 c3 w3 H12.out.1 H12.out.2).mono ?_
      rintro e_ w4 ⟨v4, rfl, ho, hb⟩
      obtain ⟨A4, c4, rfl⟩ := Kd.R_slice ho
      obtain ⟨ad, B1, d1, B2, d2, B3, d3, B4, d4, e1, p0, p1, p2, p3, p4, p5, hed, hsg⟩ := ed_at (Kd.R_reads' ho).2.2 0 (by simp)
      subst e1
      have HB4 := Aside0.mk (below_step HB3.out hb)
      have HX4 := Aside0.mk (blk_below HX3.out hb)
      have HE4 := Aside0.mk (ed_below HE3.out hb)
      have HED := Aside0.mk (show EdAt w4 (.agg #[.int .i64 a0, .int .i64 a1, .slice B1 1 d1, .slice B2 0 d2, .slice B3 0 d3, .slice B4 0 d4]) (edE a0 a1 a2 a3 a4 a5) from hed)
      have p0' : w4.cell? ad = some (.int .i64 a0) := by simpa [edE, Addr.add] using p0
      have p1' : w4.cell? ⟨ad.block, ad.off + 1, none⟩ = some (.int .i64 a1) := by simpa [edE, Addr.add] using p1
      have p2' : w4.cell? ⟨ad.block, ad.off + 2, none⟩ = some (.slice B1 1 d1) := by simpa [edE, Addr.add] using p2
      have p3' : w4.cell? ⟨ad.block, ad.off + 3, none⟩ = some (.slice B2 0 d2) := by simpa [edE, Addr.add] using p3
      have p4' : w4.cell? ⟨ad.block, ad.off + 4, none⟩ = some (.slice B3 0 d3) := by simpa [edE, Addr.add] using p4
      have p5' : w4.cell? ⟨ad.block, ad.off + 5, none⟩ = some (.slice B4 0 d4) := by simpa [edE, Addr.add] using p5
      clear ho hb p0 p1 p2 p3 p4 p5 hed hsg HSC
      go_wp2_with fail
      refine wp_region_mix (fun w_ w1_ => Below w_.heap.size w_ w1_) [(false, 0), (false, 1), (false, 2), (false, 3), (false, 4), (false, 5), (false, 6), (false, 7), (false, 8), (false, 9), (false, 10), (false, 11), (false, 12), (false, 13), (false, 14), (false, 15), (false, 16), (false, 17), (false, 18), (false, 19), (false, 20), (true, 21), (false, 22), (false, 23)] (by kernel_rfl) (by kernel_rfl) (fun _ => Below.refl _ _) (fun h h' => below_step h h') (fun wd hhp_ hbw_ => ?_)
      have HBd := Aside0.mk (below_step HB4.out hbw_)
      have HXd := Aside0.mk (blk_below HX4.out hbw_)
      have HEd := Aside0.mk (ed_below HE4.out hbw_)
      have HDd := Aside0.mk (ed_below HED.out hbw_)
      have g0 := pw_cell_below hbw_ p0'
      have g1 := pw_cell_below hbw_ p1'
      have g2 := pw_cell_below hbw_ p2'
      have g3 := pw_cell_below hbw_ p3'
      have g4 := pw_cell_below hbw_ p4'
      have g5 := pw_cell_below hbw_ p5'
      clear hhp_ hbw_ p0' p1' p2' p3' p4' p5'
      (refine mix_read (o := { dst := some 99, op := Op.move (Operand.tmp 17), type := 47, pos := "wide.go:22", after := #[], guard := none }) rfl (by first | rfl | (simp [Region.wanted, yielded]; done)) (by intro w_ hE_; (try dsimp only at hE_); first | (go_simp; done) | (go_simp; rfl)) ?_)
      (try simp only [Act.put, List.setIfInBounds_toArray, List.set_cons_zero, List.set_cons_succ])
      (refine mix_read (o := { dst := some 100, op := Op.binOp BinOp.eql 47 (Operand.tmp 99) (Operand.const (Value.int IntKind.i64 0)) 47, type := 4, pos := "wide.go:22", after := #[{ on := 0, ground := Ground.data }], guard := none }) rfl (by first | rfl | (simp [Region.wanted, yielded]; done)) (by intro w_ hE_; (try dsimp only at hE_); first | (go_simp; done) | (go_simp; rfl)) ?_)
      (try simp only [Act.put, List.setIfInBounds_toArray, List.set_cons_zero, List.set_cons_succ])
      (refine mix_read (o := { dst := some 101, op := Op.move (Operand.tmp 100), type := 4, pos := "wide.go:22", after := #[{ on := 1, ground := Ground.data }], guard := none }) rfl (by first | rfl | (simp [Region.wanted, yielded]; done)) (by intro w_ hE_; (try dsimp only at hE_); first | (go_simp; done) | (go_simp; rfl)) ?_)
      (try simp only [Act.put, List.setIfInBounds_toArray, List.set_cons_zero, List.set_cons_succ])
      first | (refine mix_read (o := { dst := some 102, op := Op.move (Operand.tmp 20), type := 4, pos := "wide.go:22", after := #[{ on := 2, ground := Ground.guard }], guard := some (2, true) }) rfl (by first | rfl | (simp [Region.wanted, yielded]; done)) (by intro w_ hE_; (try dsimp only at hE_); first | (go_simp; done) | (go_simp; rfl)) ?_) | (refine mix_skip (o := { dst := some 102, op := Op.move (Operand.tmp 20), type := 4, pos := "wide.go:22", after := #[{ on := 2, ground := Ground.guard }], guard := some (2, true) }) rfl (by first | rfl | (simp [Region.wanted, yielded]; done)) ?_)
      (try simp only [Act.put, List.setIfInBounds_toArray, List.set_cons_zero, List.set_cons_succ])
      (refine mix_read (o := { dst := some 103, op := Op.pick (Operand.tmp 101) (Operand.tmp 102) (Operand.const (Value.bool false)), type := 4, pos := "wide.go:22", after := #[{ on := 2, ground := Ground.data }, { on := 3, ground := Ground.data }], guard := none }) rfl (by first | rfl | (simp [Region.wanted, yielded]; done)) (by intro w_ hE_; (try dsimp only at hE_); first | (go_simp; done) | (go_simp; rfl)) ?_)
      (try simp only [Act.put, List.setIfInBounds_toArray, List.set_cons_zero, List.set_cons_succ])
      (refine mix_read (o := { dst := some 104, op := Op.move (Operand.tmp 103), type := 4, pos := "wide.go:22", after := #[{ on := 4, ground := Ground.data }, { on := 2, ground := Ground.chain }], guard := none }) rfl (by first | rfl | (simp [Region.wanted, yielded]; done)) (by intro w_ hE_; (try dsimp only at hE_); first | (go_simp; done) | (go_simp; rfl)) ?_)
      (try simp only [Act.put, List.setIfInBounds_toArray, List.set_cons_zero, List.set_cons_succ])
      first | (refine mix_read (o := { dst := some 105, op := Op.move (Operand.tmp 19), type := 3, pos := "wide.go:22", after := #[{ on := 5, ground := Ground.guard }], guard := some (5, true) }) rfl (by first | rfl | (simp [Region.wanted, yielded]; done)) (by intro w_ hE_; (try dsimp only at hE_); first | (go_simp; done) | (go_simp; rfl)) ?_) | (refine mix_skip (o := { dst := some 105, op := Op.move (Operand.tmp 19), type := 3, pos := "wide.go:22", after := #[{ on := 5, ground := Ground.guard }], guard := some (5, true) }) rfl (by first | rfl | (simp [Region.wanted, yielded]; done)) ?_)
      (try simp only [Act.put, List.setIfInBounds_toArray, List.set_cons_zero, List.set_cons_succ])
      first | (refine mix_read (o := { dst := some 106, op := Op.move (Operand.tmp 16), type := 22, pos := "wide.go:22", after := #[{ on := 5, ground := Ground.guard }], guard := some (5, true) }) rfl (by first | rfl | (simp [Region.wanted, yielded]; done)) (by intro w_ hE_; (try dsimp only at hE_); first | (go_simp; done) | (go_simp; rfl)) ?_) | (refine mix_skip (o := { dst := some 106, op := Op.move (Operand.tmp 16), type := 22, pos := "wide.go:22", after := #[{ on := 5, ground := Ground.guard }], guard := some (5, true) }) rfl (by first | rfl | (simp [Region.wanted, yielded]; done)) ?_)
      (try simp only [Act.put, List.setIfInBounds_toArray, List.set_cons_zero, List.set_cons_succ])
      first | (refine mix_read (o := { dst := some 107, op := Op.call { callee := Callee.builtin Builtin.len, args := #[Operand.tmp 106], argTypes := #[22] }, type := 3, pos := "wide.go:22", after := #[{ on := 7, ground := Ground.data }, { on := 5, ground := Ground.guard }], guard := some (5, true) }) rfl (by first | rfl | (simp [Region.wanted, yielded]; done)) (by intro w_ hE_; (try dsimp only at hE_); first | (go_simp; done) | (go_simp; rfl)) ?_) | (refine mix_skip (o := { dst := some 107, op := Op.call { callee := Callee.builtin Builtin.len, args := #[Operand.tmp 106], argTypes := #[22] }, type := 3, pos := "wide.go:22", after := #[{ on := 7, ground := Ground.data }, { on := 5, ground := Ground.guard }], guard := some (5, true) }) rfl (by first | rfl | (simp [Region.wanted, yielded]; done)) ?_)
      (try simp only [Act.put, List.setIfInBounds_toArray, List.set_cons_zero, List.set_cons_succ])
      first | (refine mix_read (o := { dst := some 108, op := Op.binOp BinOp.eql 3 (Operand.tmp 105) (Operand.tmp 107) 3, type := 4, pos := "wide.go:22", after := #[{ on := 6, ground := Ground.data }, { on := 8, ground := Ground.data }, { on := 5, ground := Ground.guard }], guard := some (5, true) }) rfl (by first | rfl | (simp [Region.wanted, yielded]; done)) (by intro w_ hE_; (try dsimp only at hE_); first | (go_simp; done) | (go_simp; rfl)) ?_) | (refine mix_skip (o := { dst := some 108, op := Op.binOp BinOp.eql 3 (Operand.tmp 105) (Operand.tmp 107) 3, type := 4, pos := "wide.go:22", after := #[{ on := 6, ground := Ground.data }, { on := 8, ground := Ground.data }, { on := 5, ground := Ground.guard }], guard := some (5, true) }) rfl (by first | rfl | (simp [Region.wanted, yielded]; done)) ?_)
      (try simp only [Act.put, List.setIfInBounds_toArray, List.set_cons_zero, List.set_cons_succ])
      (refine mix_read (o := { dst := some 109, op := Op.pick (Operand.tmp 104) (Operand.tmp 108) (Operand.const (Value.bool false)), type := 4, pos := "wide.go:22", after := #[{ on := 5, ground := Ground.data }, { on := 9, ground := Ground.data }], guard := none }) rfl (by first | rfl | (simp [Region.wanted, yielded]; done)) (by intro w_ hE_; (try dsimp only at hE_); first | (go_simp; done) | (go_simp; rfl)) ?_)
      (try simp only [Act.put, List.setIfInBounds_toArray, List.set_cons_zero, List.set_cons_succ])
      (refine mix_read (o := { dst := some 110, op := Op.move (Operand.tmp 109), type := 4, pos := "wide.go:22", after := #[{ on := 10, ground := Ground.data }, { on := 5, ground := Ground.chain }], guard := none }) rfl (by first | rfl | (simp [Region.wanted, yielded]; done)) (by intro w_ hE_; (try dsimp only at hE_); first | (go_simp; done) | (go_simp; rfl)) ?_)
      (try simp only [Act.put, List.setIfInBounds_toArray, List.set_cons_zero, List.set_cons_succ])
      first | (refine mix_read (o := { dst := some 111, op := Op.move (Operand.tmp 18), type := 71, pos := "wide.go:22", after := #[{ on := 11, ground := Ground.guard }], guard := some (11, true) }) rfl (by first | rfl | (simp [Region.wanted, yielded]; done)) (by intro w_ hE_; (try dsimp only at hE_); first | (go_simp; done) | (go_simp; rfl)) ?_) | (refine mix_skip (o := { dst := some 111, op := Op.move (Operand.tmp 18), type := 71, pos := "wide.go:22", after := #[{ on := 11, ground := Ground.guard }], guard := some (11, true) }) rfl (by first | rfl | (simp [Region.wanted, yielded]; done)) ?_)
      (try simp only [Act.put, List.setIfInBounds_toArray, List.set_cons_zero, List.set_cons_succ])
      first | (refine mix_read (o := { dst := some 112, op := Op.call { callee := Callee.builtin Builtin.len, args := #[Operand.tmp 111], argTypes := #[71] }, type := 3, pos := "wide.go:22", after := #[{ on := 12, ground := Ground.data }, { on := 11, ground := Ground.guard }], guard := some (11, true) }) rfl (by first | rfl | (simp [Region.wanted, yielded]; done)) (by intro w_ hE_; (try dsimp only at hE_); first | (go_simp; done) | (go_simp; rfl)) ?_) | (refine mix_skip (o := { dst := some 112, op := Op.call { callee := Callee.builtin Builtin.len, args := #[Operand.tmp 111], argTypes := #[71] }, type := 3, pos := "wide.go:22", after := #[{ on := 12, ground := Ground.data }, { on := 11, ground := Ground.guard }], guard := some (11, true) }) rfl (by first | rfl | (simp [Region.wanted, yielded]; done)) ?_)
      (try simp only [Act.put, List.setIfInBounds_toArray, List.set_cons_zero, List.set_cons_succ])
      first | (refine mix_read (o := { dst := some 113, op := Op.binOp BinOp.eql 3 (Operand.tmp 112) (Operand.const (Value.int IntKind.i64 1)) 3, type := 4, pos := "wide.go:22", after := #[{ on := 13, ground := Ground.data }, { on := 11, ground := Ground.guard }], guard := some (11, true) }) rfl (by first | rfl | (simp [Region.wanted, yielded]; done)) (by intro w_ hE_; (try dsimp only at hE_); first | (go_simp; done) | (go_simp; rfl)) ?_) | (refine mix_skip (o := { dst := some 113, op := Op.binOp BinOp.eql 3 (Operand.tmp 112) (Operand.const (Value.int IntKind.i64 1)) 3, type := 4, pos := "wide.go:22", after := #[{ on := 13, ground := Ground.data }, { on := 11, ground := Ground.guard }], guard := some (11, true) }) rfl (by first | rfl | (simp [Region.wanted, yielded]; done)) ?_)
      (try simp only [Act.put, List.setIfInBounds_toArray, List.set_cons_zero, List.set_cons_succ])
      (refine mix_read (o := { dst := some 114, op := Op.pick (Operand.tmp 110) (Operand.tmp 113) (Operand.const (Value.bool false)), type := 4, pos := "wide.go:22", after := #[{ on := 11, ground := Ground.data }, { on := 14, ground := Ground.data }], guard := none }) rfl (by first | rfl | (simp [Region.wanted, yielded]; done)) (by intro w_ hE_; (try dsimp only at hE_); first | (go_simp; done) | (go_simp; rfl)) ?_)
      (try simp only [Act.put, List.setIfInBounds_toArray, List.set_cons_zero, List.set_cons_succ])
      (refine mix_read (o := { dst := some 115, op := Op.move (Operand.tmp 114), type := 4, pos := "wide.go:22", after := #[{ on := 15, ground := Ground.data }, { on := 11, ground := Ground.chain }], guard := none }) rfl (by first | rfl | (simp [Region.wanted, yielded]; done)) (by intro w_ hE_; (try dsimp only at hE_); first | (go_simp; done) | (go_simp; rfl)) ?_)
      (try simp only [Act.put, List.setIfInBounds_toArray, List.set_cons_zero, List.set_cons_succ])
      first | (refine mix_read (o := { dst := some 116, op := Op.move (Operand.tmp 18), type := 71, pos := "wide.go:22", after := #[{ on := 16, ground := Ground.guard }], guard := some (16, true) }) rfl (by first | rfl | (simp [Region.wanted, yielded]; done)) (by intro w_ hE_; (try dsimp only at hE_); first | (go_simp; done) | (go_simp; rfl)) ?_) | (refine mix_skip (o := { dst := some 116, op := Op.move (Operand.tmp 18), type := 71, pos := "wide.go:22", after := #[{ on := 16, ground := Ground.guard }], guard := some (16, true) }) rfl (by first | rfl | (simp [Region.wanted, yielded]; done)) ?_)
      (try simp only [Act.put, List.setIfInBounds_toArray, List.set_cons_zero, List.set_cons_succ])
      first | (refine mix_read (o := { dst := some 117, op := Op.indexAddr 71 (Operand.tmp 116) (Operand.const (Value.int IntKind.i64 0)), type := 0, pos := "wide.go:22", after := #[{ on := 17, ground := Ground.data }, { on := 16, ground := Ground.guard }], guard := some (16, true) }) rfl (by first | rfl | (simp [Region.wanted, yielded]; done)) (by intro w_ hE_; (try dsimp only at hE_); first | (go_simp; done) | (go_simp; rfl)) ?_) | (refine mix_skip (o := { dst := some 117, op := Op.indexAddr 71 (Operand.tmp 116) (Operand.const (Value.int IntKind.i64 0)), type := 0, pos := "wide.go:22", after := #[{ on := 17, ground := Ground.data }, { on := 16, ground := Ground.guard }], guard := some (16, true) }) rfl (by first | rfl | (simp [Region.wanted, yielded]; done)) ?_)
      (try simp only [Act.put, List.setIfInBounds_toArray, List.set_cons_zero, List.set_cons_succ])
      first | (refine mix_read (o := { dst := some 118, op := Op.load 66 (Operand.tmp 117), type := 66, pos := "wide.go:22", after := #[{ on := 18, ground := Ground.data }, { on := 16, ground := Ground.guard }], guard := some (16, true) }) rfl (by first | rfl | (simp [Region.wanted, yielded]; done)) (by intro w_ hE_; (try dsimp only at hE_); have z0_ := pw_cell_below hE_ g0; have z1_ := pw_cell_below hE_ g1; have z2_ := pw_cell_below hE_ g2; have z3_ := pw_cell_below hE_ g3; have z4_ := pw_cell_below hE_ g4; have z5_ := pw_cell_below hE_ g5; first | (go_simp; done) | (go_simp; rfl)) ?_) | (refine mix_skip (o := { dst := some 118, op := Op.load 66 (Operand.tmp 117), type := 66, pos := "wide.go:22", after := #[{ on := 18, ground := Ground.data }, { on := 16, ground := Ground.guard }], guard := some (16, true) }) rfl (by first | rfl | (simp [Region.wanted, yielded]; done)) ?_)
      (try simp only [Act.put, List.setIfInBounds_toArray, List.set_cons_zero, List.set_cons_succ])
      first | (refine mix_read (o := { dst := some 119, op := Op.load 66 (Operand.tmp 14), type := 66, pos := "wide.go:22", after := #[{ on := 16, ground := Ground.guard }], guard := some (16, true) }) rfl (by first | rfl | (simp [Region.wanted, yielded]; done)) (by intro w_ hE_; (try dsimp only at hE_); have hx_ := blk_below HXd.out hE_; have z0_ : w_.cell? ⟨x, 0, none⟩ = some (.int .i64 a0) := blk_cell hx_ 0; have z1_ : w_.cell? ⟨x, 1, none⟩ = some (.int .i64 a1) := blk_cell hx_ 1; have z2_ : w_.cell? ⟨x, 2, none⟩ = some (.slice (some ⟨w1.heap.size, 0, none⟩) 1 1) := blk_cell hx_ 2; have z3_ : w_.cell? ⟨x, 3, none⟩ = some (.slice none 0 0) := blk_cell hx_ 3; have z4_ : w_.cell? ⟨x, 4, none⟩ = some (.slice none 0 0) := blk_cell hx_ 4; have z5_ : w_.cell? ⟨x, 5, none⟩ = some (.slice none 0 0) := blk_cell hx_ 5; first | (go_simp; done) | (go_simp; rfl)) ?_) | (refine mix_skip (o := { dst := some 119, op := Op.load 66 (Operand.tmp 14), type := 66, pos := "wide.go:22", after := #[{ on := 16, ground := Ground.guard }], guard := some (16, true) }) rfl (by first | rfl | (simp [Region.wanted, yielded]; done)) ?_)
      (try simp only [Act.put, List.setIfInBounds_toArray, List.set_cons_zero, List.set_cons_succ])
      refine mix_call (o := { dst := some 120, op := Op.call { callee := Callee.value (Operand.func 48), args := #[Operand.tmp 118, Operand.tmp 119], argTypes := #[66, 66] }, type := 4, pos := "wide.go:22", after := #[{ on := 19, ground := Ground.data }, { on := 20, ground := Ground.data }, { on := 16, ground := Ground.chain }, { on := 16, ground := Ground.guard }], guard := some (16, true) }) rfl (by first | rfl | (simp [Region.wanted, yielded]; done)) (by first | (go_simp; done) | (go_simp; exact ⟨rfl, rfl⟩) | (go_simp; rfl)) ?_
      refine (eqe_same _ _ _ wd HDd.out HEd.out).mono ?_
      rintro e_ w5 ⟨rfl, hb⟩
      refine ⟨_, rfl, hb, ?_⟩
      have HB5 := Aside0.mk (below_step HBd.out hb)
      clear hb
      (try simp only [Act.put, List.setIfInBounds_toArray, List.set_cons_zero, List.set_cons_succ])
      (refine mix_read (o := { dst := some 121, op := Op.pick (Operand.tmp 115) (Operand.tmp 120) (Operand.const (Value.bool false)), type := 4, pos := "wide.go:22", after := #[{ on := 16, ground := Ground.data }, { on := 21, ground := Ground.data }], guard := none }) rfl (by first | rfl | (simp [Region.wanted, yielded]; done)) (by intro w_ hE_; (try dsimp only at hE_); first | (go_simp; done) | (go_simp; rfl)) ?_)
      (try simp only [Act.put, List.setIfInBounds_toArray, List.set_cons_zero, List.set_cons_succ])
      (refine mix_read (o := { dst := some 12, op := Op.assign (Operand.tmp 121), type := 4, pos := "wide.go:22", after := #[{ on := 22, ground := Ground.data }, { on := 21, ground := Ground.chain }, { on := 0, ground := Ground.phase }, { on := 1, ground := Ground.phase }, { on := 2, ground := Ground.phase }, { on := 3, ground := Ground.phase }, { on := 4, ground := Ground.phase }, { on := 5, ground := Ground.phase }, { on := 6, ground := Ground.phase }, { on := 7, ground := Ground.phase }, { on := 8, ground := Ground.phase }, { on := 9, ground := Ground.phase }, { on := 10, ground := Ground.phase }, { on := 11, ground := Ground.phase }, { on := 12, ground := Ground.phase }, { on := 13, ground := Ground.phase }, { on := 14, ground := Ground.phase }, { on := 15, ground := Ground.phase }, { on := 16, ground := Ground.phase }, { on := 17, ground := Ground.phase }, { on := 18, ground := Ground.phase }, { on := 19, ground := Ground.phase }, { on := 20, ground := Ground.phase }, { on := 21, ground := Ground.phase }, { on := 22, ground := Ground.phase }], guard := none }) rfl (by first | rfl | (simp [Region.wanted, yielded]; done)) (by intro w_ hE_; (try dsimp only at hE_); first | (go_simp; done) | (go_simp; rfl)) ?_)
      (try simp only [Act.put, List.setIfInBounds_toArray, List.set_cons_zero, List.set_cons_succ])
      refine mix_nil ?_
      (try simp only [Exit.then])
      go_wp2
      go_ret
      exact ⟨by first | rfl | simp, HB5.out⟩
end Go.Proofs.Ytfojeegepfjbiaa.EeWalk
