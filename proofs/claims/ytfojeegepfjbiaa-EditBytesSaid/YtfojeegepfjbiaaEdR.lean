/- Contract of the reference MayEdit. -/
import Derived.Test.YtfojeegepfjbiaaProg
import Derived.Below
import Derived.Deep.Draws
import Derived.Deep.AppendLies
import Derived.Maps.AppendAt
import Derived.OwnWalk
import Derived.Laws.BytesArg
import Derived.Laws.MakeOwn
import Derived.Laws.OwnMore
import Derived.Deep.OwnRows
import Derived.Tactics
import Derived.Lib.ConvBytes
import Derived.Laws.Slices
import Derived.WalkKit
import Derived.KernelRfl
import Derived.RowKit3
import Derived.Deep.LoopGhost
import Derived.Deep.QuietTactic
import Derived.BigQuiet
import Derived.WideLaws
import Derived.Deep.DeepCutAuto
import Derived.Deep.CutBlock
import Derived.Deep.RegionHeld3
import Derived.Laws.Rows
import Derived.Lib.AppendStr
import Derived.ArgAppend
import Derived.Laws.IdiomCopy
import Derived.OrdersHeld
import Derived.Laws.BitsLemmas
import Derived.RowKit
import Derived.Deep.RegionWith
import Derived.Deep.DeepCutAuto
import Derived.WalkSpells
import Derived.Outline
import Derived.Test.YtfojeegepfjbiaaWWords
import Derived.Test.YtfojeegepfjbiaaWLast
import Derived.Test.YtfojeegepfjbiaaWMore
import Derived.Test.YtfojeegepfjbiaaWArr
import Derived.Test.YtfojeegepfjbiaaWTab
import Derived.Test.YtfojeegepfjbiaaWZeros
import Derived.Test.YtfojeegepfjbiaaWRepsOne
import Derived.Test.YtfojeegepfjbiaaEdP
namespace Go.Proofs.Ytfojeegepfjbiaa.EdR
open Go.RowKit Go.Proofs.YtfojeegepfjbiaaW.PrintWords Go.Proofs.YtfojeegepfjbiaaW.PrintLast Go.Proofs.YtfojeegepfjbiaaW.PrintMore Go.Proofs.Ytfojeegepfjbiaa.Mix Go.Proofs.Ytfojeegepfjbiaa.MixB Go.Proofs.Ytfojeegepfjbiaa.MixT Go.Proofs.Ytfojeegepfjbiaa.Nm Go.Proofs.Ytfojeegepfjbiaa.NmA Go.Proofs.Ytfojeegepfjbiaa.NmB Go.Proofs.Ytfojeegepfjbiaa.NmC Go.Proofs.Ytfojeegepfjbiaa.NmH Go.Proofs.Ytfojeegepfjbiaa.CrP Go.Proofs.Ytfojeegepfjbiaa.CrA Go.Proofs.Ytfojeegepfjbiaa.CrB Go.Proofs.Ytfojeegepfjbiaa.CrC Go.Proofs.Ytfojeegepfjbiaa.CrD Go.Proofs.Ytfojeegepfjbiaa.CrE Go.Proofs.Ytfojeegepfjbiaa.CrG Go.Proofs.Ytfojeegepfjbiaa.CrH Go.Proofs.Ytfojeegepfjbiaa.CrI Go.Proofs.Ytfojeegepfjbiaa.EdZ Go.Proofs.Ytfojeegepfjbiaa.EdA Go.Proofs.Ytfojeegepfjbiaa.EdB Go.Proofs.Ytfojeegepfjbiaa.EdC Go.Proofs.Ytfojeegepfjbiaa.EdD Go.Proofs.Ytfojeegepfjbiaa.EdE Go.Proofs.Ytfojeegepfjbiaa.EdF Go.Proofs.Ytfojeegepfjbiaa.EdG Go.Proofs.Ytfojeegepfjbiaa.EdH Go.Proofs.Ytfojeegepfjbiaa.EdI Go.Proofs.Ytfojeegepfjbiaa.EdJ Go.Proofs.Ytfojeegepfjbiaa.EdK Go.Proofs.Ytfojeegepfjbiaa.EdL Go.Proofs.Ytfojeegepfjbiaa.EdM Go.Proofs.Ytfojeegepfjbiaa.EdN Go.Proofs.Ytfojeegepfjbiaa.EdO Go.Proofs.Ytfojeegepfjbiaa.EdP
set_option linter.unusedSimpArgs false
set_option linter.unusedVariables false
attribute [local go_sem] max2_int min2_int max_two min_two

theorem bool_and {E a b : Bool} (h : E = true ↔ a = true ∧ b = true) : E = (a && b) := by
  cases E <;> cases a <;> cases b <;> simp_all
theorem seg_ok (n g m z u : Int) (sl : Bool) : segOk (n, sl, g, m, z, u) = true ↔ 1 ≤ n ∧ n ≤ 1125899906842624 ∧ 0 ≤ g ∧ g ≤ 1125899906842624 ∧ 0 ≤ m ∧ m ≤ 3 ∧ 0 ≤ z ∧ z ≤ 4194304 := by
  rw [seg_iff]
  dsimp only
  omega
theorem par_ok {g z u : Int} {ns zs : List Int} : parOk (g, ns, zs, z, u) = true ↔ (1 ≤ g ∧ g ≤ 1125899906842624 ∧ 1 ≤ (ns.length : Int) ∧ (ns.length : Int) ≤ (3 : Int) ∧ zs.length = ns.length ∧ 0 ≤ z ∧ z ≤ 4194304) ∧ ∀ j, j < ns.length → 1 ≤ ns.getD j 0 ∧ ns.getD j 0 ≤ 1125899906842624 ∧ 0 ≤ zs.getD j 0 ∧ zs.getD j 0 ≤ 4194304 ∧ (ns.take j).contains (ns.getD j 0) = false := by
  rw [par_iff]
  dsimp only
  constructor
  · rintro ⟨h1, h2, h3, h4, h5, h6⟩
    refine ⟨by omega, fun j hj => ?_⟩
    obtain ⟨a, b, c⟩ := h6 j hj
    have := h3 _ (getD_mem (d := 0) hj)
    exact ⟨by omega, by omega, by omega, by omega, a⟩
  · rintro ⟨h1, h2⟩
    refine ⟨by omega, by omega, fun n hn => ?_, by omega, by omega, fun k hk => ?_⟩
    · obtain ⟨k, hk, e⟩ := List.mem_iff_getElem.1 hn
      have := h2 k hk
      rw [List.getD_eq_getElem?_getD, List.getElem?_eq_getElem hk] at this
      simp only [Option.getD_some, e] at this
      omega
    · obtain ⟨a, b, c, d, e⟩ := h2 k hk
      exact ⟨e, by omega, by omega⟩
theorem all_getD {α : Type} {d : α} {xs : List α} {f : α → Bool} : (∀ x ∈ xs, f x = true) ↔ ∀ i, i < xs.length → f (xs.getD i d) = true := by
  constructor
  · intro h i hi
    exact h _ (getD_mem hi)
  · intro h x hx
    obtain ⟨k, hk, e⟩ := List.mem_iff_getElem.1 hx
    have := h k hk
    rw [List.getD_eq_getElem?_getD, List.getElem?_eq_getElem hk] at this
    simpa only [Option.getD_some, e] using this
theorem ed_ok (e : EdT) : edOk e = true ↔ ((0 ≤ e.1 ∧ e.1 ≤ 1125899906842624 ∧ 0 ≤ e.2.1 ∧ e.2.1 ≤ 1125899906842624) ∧ e.2.2.1.length ≤ 60 ∧ e.2.2.2.1.length ≤ 60 ∧ e.2.2.2.2.1.length ≤ 60 ∧ e.2.2.2.2.2.length ≤ 60) ∧ (∀ i, i < e.2.2.1.length → segOk (e.2.2.1.getD i seg0) = true) ∧ (∀ i, i < e.2.2.2.2.1.length → parOk (e.2.2.2.2.1.getD i par0) = true) ∧ inL 1 1125899906842624 e.2.2.2.1 = true ∧ inL 1 1125899906842624 e.2.2.2.2.2 = true := by
  rw [ed_iff, all_getD (d := seg0), all_getD (d := par0), in_iff, in_iff]
  constructor
  · rintro ⟨h1, h2, h3, h4, h5, h6⟩
    exact ⟨⟨h1, h2⟩, h5, h6, h3, h4⟩
  · rintro ⟨⟨h1, h2⟩, h5, h6, h3, h4⟩
    exact ⟨h1, h2, h3, h4, h5, h6⟩
set_option maxRecDepth 100000 in
set_option maxHeartbeats 4000000 in
theorem may_calls (e : EdT) (v : Value) (w : World) (h : EdAt w v e) :
    Calls Try.prog 45 #[v] w fun x w' => x = .returned (.bool (edOk e)) ∧ Below w.heap.size w w' := by
  obtain ⟨A1, c1, A2, c2, A3, c3, A4, c4, rfl, hl, r1, r2, r3, r4⟩ := h
  obtain ⟨nx, sq, ads, dls, prs, drs⟩ := e
  have hE := ed_ok (nx, sq, ads, dls, prs, drs)
  obtain ⟨E, he⟩ : ∃ q, edOk (nx, sq, ads, dls, prs, drs) = q := ⟨_, rfl⟩
  rw [he] at hE ⊢
  dsimp only at hl r1 r2 r3 r4 hE
  show Calls _ _ #[.agg #[.int .i64 nx, .int .i64 sq, .slice A1 ads.length c1, .slice A2 dls.length c2, .slice A3 prs.length c3, .slice A4 drs.length c4]] _ _
  have HR1 := Aside0.mk (fun w (h : (Kd.int .i64).C w A2 dls.length dls) => range50_calls A2 c2 dls w h)
  have HR2 := Aside0.mk (fun w (h : (Kd.int .i64).C w A4 drs.length drs) => range50_calls A4 c4 drs w h)
  obtain ⟨m1, hm1⟩ : ∃ q, ads.length = q := ⟨_, rfl⟩
  obtain ⟨m2, hm2⟩ : ∃ q, dls.length = q := ⟨_, rfl⟩
  obtain ⟨m3, hm3⟩ : ∃ q, prs.length = q := ⟨_, rfl⟩
  obtain ⟨m4, hm4⟩ : ∃ q, drs.length = q := ⟨_, rfl⟩
  rw [hm1] at r1
  rw [hm2] at r2 HR1
  rw [hm3] at r3
  rw [hm4] at r4 HR2
  rw [hm1, hm2, hm3, hm4] at hE ⊢
  generalize inL 1 1125899906842624 dls = b1 at *
  generalize inL 1 1125899906842624 drs = b2 at *
  have HE := Aside0.mk hE
  have hb0 := (Below.refl w.heap.size w).alloc (Nat.le_refl _) (.cells #[.int .i64 nx, .int .i64 sq, .slice A1 m1 c1, .slice A2 m2 c2, .slice A3 m3 c3, .slice A4 m4 c4] 66 (0, 0))
  have hp0 := blk_new w (.cells #[.int .i64 nx, .int .i64 sq, .slice A1 m1 c1, .slice A2 m2 c2, .slice A3 m3 c3, .slice A4 m4 c4] 66 (0, 0))
  obtain ⟨w1, hw1⟩ : ∃ q, w.alloc (.cells #[.int .i64 nx, .int .i64 sq, .slice A1 m1 c1, .slice A2 m2 c2, .slice A3 m3 c3, .slice A4 m4 c4] 66 (0, 0)) = q := ⟨_, rfl⟩
  obtain ⟨x, hx⟩ : ∃ q, w.heap.size = q := ⟨_, rfl⟩
  rw [hw1] at hb0 hp0
  have HRR := Aside0.mk (And.intro (Kd.C_below r1 hb0) (And.intro (Kd.C_below r2 hb0) (And.intro (Kd.C_below r3 hb0) (Kd.C_below r4 hb0))))
  have HM : Aside0 (m1 ≤ 9223372036854775807 ∧ m3 ≤ 9223372036854775807) := ⟨r1.2.1, r3.2.1⟩
  rw [hx] at hp0
  have HX := Aside0.mk hp0
  have HB1 := Aside0.mk (show Below x w w1 by rw [← hx]; exact hb0)
  have HBA1 := HB1
  have HXS : Aside0 (x ≤ w1.heap.size) := ⟨by have := hb0.size; omega⟩
  obtain ⟨P, hP⟩ : ∃ q, decide (0 ≤ nx ∧ nx ≤ 1125899906842624 ∧ 0 ≤ sq ∧ sq ≤ 1125899906842624 ∧ (m1 : Int) ≤ (60 : Int) ∧ (m2 : Int) ≤ (60 : Int) ∧ (m3 : Int) ≤ (60 : Int) ∧ (m4 : Int) ≤ (60 : Int)) = q := ⟨_, rfl⟩
  have HPT : Aside0 ((0 ≤ nx ∧ nx ≤ 1125899906842624 ∧ 0 ≤ sq ∧ sq ≤ 1125899906842624 ∧ (m1 : Int) ≤ (60 : Int) ∧ (m2 : Int) ≤ (60 : Int) ∧ (m3 : Int) ≤ (60 : Int) ∧ (m4 : Int) ≤ (60 : Int)) → P = true) := ⟨fun h => by rw [← hP]; exact decide_eq_true h⟩
  have HPF : Aside0 (¬ (0 ≤ nx ∧ nx ≤ 1125899906842624 ∧ 0 ≤ sq ∧ sq ≤ 1125899906842624 ∧ (m1 : Int) ≤ (60 : Int) ∧ (m2 : Int) ≤ (60 : Int) ∧ (m3 : Int) ≤ (60 : Int) ∧ (m4 : Int) ≤ (60 : Int)) → P = false) := ⟨fun h => by rw [← hP]; exact decide_eq_false h⟩
  have HP0 : Aside0 (P = true → 0 ≤ nx ∧ nx ≤ 1125899906842624 ∧ 0 ≤ sq ∧ sq ≤ 1125899906842624 ∧ (m1 : Int) ≤ (60 : Int) ∧ (m2 : Int) ≤ (60 : Int) ∧ (m3 : Int) ≤ (60 : Int) ∧ (m4 : Int) ≤ (60 : Int)) := ⟨fun h => of_decide_eq_true (by rw [hP]; exact h)⟩
  have HPE : Aside0 (P = false → E = false) := ⟨fun h => by
    rw [← hP, decide_eq_false_iff_not] at h
    cases E with
    | false => rfl
    | true => exfalso; have := (hE.1 rfl).1; omega⟩
  have x0 : w1.cell? ⟨x, 0, none⟩ = some (.int .i64 nx) := blk_cell hp0 0
  have x1 : w1.cell? ⟨x, 1, none⟩ = some (.int .i64 sq) := blk_cell hp0 1
  have x2 : w1.cell? ⟨x, 2, none⟩ = some (.slice A1 m1 c1) := blk_cell hp0 2
  have x3 : w1.cell? ⟨x, 3, none⟩ = some (.slice A2 m2 c2) := blk_cell hp0 3
  have x4 : w1.cell? ⟨x, 4, none⟩ = some (.slice A3 m3 c3) := blk_cell hp0 4
  have x5 : w1.cell? ⟨x, 5, none⟩ = some (.slice A4 m4 c4) := blk_cell hp0 5
  clear hl r1 r2 r3 r4 he hE hb0 hp0 hP hm1 hm2 hm3 hm4
  go_enter Try.func45, Try.ntmps45
  go_upto_region 1 with fail
  go_cut [49] (fun s49 wx => wx = w1 ∧ s49 = .bool (!P))
  case first =>
    as_aux_lemma =>
      by_cases q0 : nx < 0
      · have k0 : (nx < 0) = True := eq_true q0
        have kd : P = false := HPF.out (by omega)
        clear q0
        go_wp2_with fail
        go_meet
        exact ⟨rfl, by rw [kd]; rfl⟩
      · have k0 : (nx < 0) = False := eq_false q0
        by_cases q1 : 1125899906842624 < nx
        · have k1 : (1125899906842624 < nx) = True := eq_true q1
          have kd : P = false := HPF.out (by omega)
          clear q0
          clear q1
          go_wp2_with fail
          go_meet
          exact ⟨rfl, by rw [kd]; rfl⟩
        · have k1 : (1125899906842624 < nx) = False := eq_false q1
          by_cases q2 : sq < 0
          · have k2 : (sq < 0) = True := eq_true q2
            have kd : P = false := HPF.out (by omega)
            clear q0
            clear q1
            clear q2
            go_wp2_with fail
            go_meet
            exact ⟨rfl, by rw [kd]; rfl⟩
          · have k2 : (sq < 0) = False := eq_false q2
            by_cases q3 : 1125899906842624 < sq
            · have k3 : (1125899906842624 < sq) = True := eq_true q3
              have kd : P = false := HPF.out (by omega)
              clear q0
              clear q1
              clear q2
              clear q3
              go_wp2_with fail
              go_meet
              exact ⟨rfl, by rw [kd]; rfl⟩
            · have k3 : (1125899906842624 < sq) = False := eq_false q3
              by_cases q4 : (60 : Int) < (m1 : Int)
              · have k4 : ((60 : Int) < (m1 : Int)) = True := eq_true q4
                have kd : P = false := HPF.out (by omega)
                clear q0
                clear q1
                clear q2
                clear q3
                clear q4
                go_wp2_with fail
                go_meet
                exact ⟨rfl, by rw [kd]; rfl⟩
              · have k4 : ((60 : Int) < (m1 : Int)) = False := eq_false q4
                by_cases q5 : (60 : Int) < (m2 : Int)
                · have k5 : ((60 : Int) < (m2 : Int)) = True := eq_true q5
                  have kd : P = false := HPF.out (by omega)
                  clear q0
                  clear q1
                  clear q2
                  clear q3
                  clear q4
                  clear q5
                  go_wp2_with fail
                  go_meet
                  exact ⟨rfl, by rw [kd]; rfl⟩
                · have k5 : ((60 : Int) < (m2 : Int)) = False := eq_false q5
                  by_cases q6 : (60 : Int) < (m3 : Int)
                  · have k6 : ((60 : Int) < (m3 : Int)) = True := eq_true q6
                    have kd : P = false := HPF.out (by omega)
                    clear q0
                    clear q1
                    clear q2
                    clear q3
                    clear q4
                    clear q5
                    clear q6
                    go_wp2_with fail
                    go_meet
                    exact ⟨rfl, by rw [kd]; rfl⟩
                  · have k6 : ((60 : Int) < (m3 : Int)) = False := eq_false q6
                    by_cases q7 : (60 : Int) < (m4 : Int)
                    · have k7 : ((60 : Int) < (m4 : Int)) = True := eq_true q7
                      have kd : P = false := HPF.out (by omega)
                      clear q0
                      clear q1
                      clear q2
                      clear q3
                      clear q4
                      clear q5
                      clear q6
                      clear q7
                      go_wp2_with fail
                      go_meet
                      exact ⟨rfl, by rw [kd]; rfl⟩
                    · have k7 : ((60 : Int) < (m4 : Int)) = False := eq_false q7
                      have kd : P = true := HPT.out (by omega)
                      clear q0
                      clear q1
                      clear q2
                      clear q3
                      clear q4
                      clear q5
                      clear q6
                      clear q7
                      go_wp2_with fail
                      go_meet
                      exact ⟨rfl, by rw [kd]; rfl⟩
  case rest =>
    obtain ⟨h1_, rfl⟩ := hcut
    subst wc
    clear HPT HPF
    cases P with
    | false =>
      go_wp2
      go_ret
      exact ⟨by rw [HPE.out (by first | rfl | trivial)]; rfl, HB1.out⟩
    | true =>
      clear HPE
      go_wp2_with fail
      go_loopg [3, 4] m1 (fun q v3 v4 w' => ∃ i : Nat, v3 = .int .i64 (i : Int) ∧ Aside0 (i + q = m1) ∧ Aside0 (∀ k, k < i → segOk (ads.getD k seg0) = true) ∧ Aside0 (Below w1.heap.size w1 w'))
      case atStart => exact ⟨0, rfl, ⟨by omega⟩, ⟨fun k hk => absurd hk (Nat.not_lt_zero k)⟩, ⟨Below.refl _ _⟩⟩
      case round =>
        clear x0 x1 x2 x3 x4 x5
        obtain ⟨i, rfl, HI, HS, HB⟩ := hrel
        have hix := HI.out
        have hxr := blk_below HX.out HB.out
        have HXr := Aside0.mk hxr
        by_cases hlt : i < m1
        · obtain ⟨f, rfl⟩ : ∃ f, gk = f + 1 := ⟨gk - 1, by omega⟩
          obtain ⟨ad, e_, y0, y1, y2, y3, y4, y5⟩ := seg_at (Kd.C_below HRR.out.1 HB.out) i hlt
          subst e_
          have x2 : wr.cell? ⟨x, 2, none⟩ = some (.slice (some ad) m1 c1) := blk_cell hxr 2
          have HSE : Aside0 (segOk (ads.getD i seg0) = false → E = false) := ⟨fun h => by
            cases E with
            | false => rfl
            | true => exfalso; have := (HE.out.1 rfl).2.1 i hlt; rw [h] at this; exact absurd this (by decide)⟩
          obtain ⟨s, hs⟩ : ∃ q, ads.getD i seg0 = q := ⟨_, rfl⟩
          rw [hs] at y0 y1 y2 y3 y4 y5 HSE
          have HSS := Aside0.mk hs
          obtain ⟨n, sl, g, m, z, u⟩ := s
          dsimp only at y0 y1 y2 y3 y4 y5
          have hsok := seg_ok n g m z u sl
          obtain ⟨P, hP⟩ : ∃ q, segOk (n, sl, g, m, z, u) = q := ⟨_, rfl⟩
          rw [hP] at hsok HSE
          have HPQ := Aside0.mk hP
          have HPT : Aside0 ((1 ≤ n ∧ n ≤ 1125899906842624 ∧ 0 ≤ g ∧ g ≤ 1125899906842624 ∧ 0 ≤ m ∧ m ≤ 3 ∧ 0 ≤ z ∧ z ≤ 4194304) → P = true) := ⟨fun h => hsok.2 h⟩
          have HPF : Aside0 (¬ (1 ≤ n ∧ n ≤ 1125899906842624 ∧ 0 ≤ g ∧ g ≤ 1125899906842624 ∧ 0 ≤ m ∧ m ≤ 3 ∧ 0 ≤ z ∧ z ≤ 4194304) → P = false) := ⟨fun h => by
            cases P with
            | false => rfl
            | true => exact absurd (hsok.1 rfl) h⟩
          have hs3 := blk_new wr (.cells #[.int .i64 n, .bool sl, .int .i64 g, .int .i64 m, .int .i64 z, .int .u32 u] 77 (0, 0))
          have hbs := (Below.refl wr.heap.size wr).alloc (Nat.le_refl _) (.cells #[.int .i64 n, .bool sl, .int .i64 g, .int .i64 m, .int .i64 z, .int .u32 u] 77 (0, 0))
          obtain ⟨ws, hws⟩ : ∃ q, wr.alloc (.cells #[.int .i64 n, .bool sl, .int .i64 g, .int .i64 m, .int .i64 z, .int .u32 u] 77 (0, 0)) = q := ⟨_, rfl⟩
          obtain ⟨p, hp⟩ : ∃ q, wr.heap.size = q := ⟨_, rfl⟩
          rw [hws] at hs3 hbs
          have HBs := Aside0.mk (below_step HB.out hbs)
          rw [hp] at hs3
          have z0 : ws.cell? ⟨p, 0, none⟩ = some (.int .i64 n) := blk_cell hs3 0
          have z2 : ws.cell? ⟨p, 2, none⟩ = some (.int .i64 g) := blk_cell hs3 2
          have z3 : ws.cell? ⟨p, 3, none⟩ = some (.int .i64 m) := blk_cell hs3 3
          have z4 : ws.cell? ⟨p, 4, none⟩ = some (.int .i64 z) := blk_cell hs3 4
          have k0 : ((i : Int) < (m1 : Int)) = True := eq_true (by omega)
          have kw : IntKind.i64.wrap ((i : Int) + 1) = (i : Int) + 1 := by have := HM.out; rw [IntKind.wrap_i64]; omega
          clear hix hxr hsok hP hs3 hbs HB hs
          go_upto_region 7 with fail
          go_cut [99] (fun s99 wx => wx = ws ∧ s99 = .bool (!P))
          case first =>
            as_aux_lemma =>
              by_cases q0 : n < 1
              · have k0 : (n < 1) = True := eq_true q0
                have kd : P = false := HPF.out (by omega)
                clear q0
                go_wp2_with fail
                go_meet
                exact ⟨rfl, by rw [kd]; rfl⟩
              · have k0 : (n < 1) = False := eq_false q0
                by_cases q1 : 1125899906842624 < n
                · have k1 : (1125899906842624 < n) = True := eq_true q1
                  have kd : P = false := HPF.out (by omega)
                  clear q0
                  clear q1
                  go_wp2_with fail
                  go_meet
                  exact ⟨rfl, by rw [kd]; rfl⟩
                · have k1 : (1125899906842624 < n) = False := eq_false q1
                  by_cases q2 : g < 0
                  · have k2 : (g < 0) = True := eq_true q2
                    have kd : P = false := HPF.out (by omega)
                    clear q0
                    clear q1
                    clear q2
                    go_wp2_with fail
                    go_meet
                    exact ⟨rfl, by rw [kd]; rfl⟩
                  · have k2 : (g < 0) = False := eq_false q2
                    by_cases q3 : 1125899906842624 < g
                    · have k3 : (1125899906842624 < g) = True := eq_true q3
                      have kd : P = false := HPF.out (by omega)
                      clear q0
                      clear q1
                      clear q2
                      clear q3
                      go_wp2_with fail
                      go_meet
                      exact ⟨rfl, by rw [kd]; rfl⟩
                    · have k3 : (1125899906842624 < g) = False := eq_false q3
                      by_cases q4 : m < 0
                      · have k4 : (m < 0) = True := eq_true q4
                        have kd : P = false := HPF.out (by omega)
                        clear q0
                        clear q1
                        clear q2
                        clear q3
                        clear q4
                        go_wp2_with fail
                        go_meet
                        exact ⟨rfl, by rw [kd]; rfl⟩
                      · have k4 : (m < 0) = False := eq_false q4
                        by_cases q5 : 3 < m
                        · have k5 : (3 < m) = True := eq_true q5
                          have kd : P = false := HPF.out (by omega)
                          clear q0
                          clear q1
                          clear q2
                          clear q3
                          clear q4
                          clear q5
                          go_wp2_with fail
                          go_meet
                          exact ⟨rfl, by rw [kd]; rfl⟩
                        · have k5 : (3 < m) = False := eq_false q5
                          by_cases q6 : z < 0
                          · have k6 : (z < 0) = True := eq_true q6
                            have kd : P = false := HPF.out (by omega)
                            clear q0
                            clear q1
                            clear q2
                            clear q3
                            clear q4
                            clear q5
                            clear q6
                            go_wp2_with fail
                            go_meet
                            exact ⟨rfl, by rw [kd]; rfl⟩
                          · have k6 : (z < 0) = False := eq_false q6
                            by_cases q7 : 4194304 < z
                            · have k7 : (4194304 < z) = True := eq_true q7
                              have kd : P = false := HPF.out (by omega)
                              clear q0
                              clear q1
                              clear q2
                              clear q3
                              clear q4
                              clear q5
                              clear q6
                              clear q7
                              go_wp2_with fail
                              go_meet
                              exact ⟨rfl, by rw [kd]; rfl⟩
                            · have k7 : (4194304 < z) = False := eq_false q7
                              have kd : P = true := HPT.out (by omega)
                              clear q0
                              clear q1
                              clear q2
                              clear q3
                              clear q4
                              clear q5
                              clear q6
                              clear q7
                              go_wp2_with fail
                              go_meet
                              exact ⟨rfl, by rw [kd]; rfl⟩
          case rest =>
            obtain ⟨h1_, rfl⟩ := hcut
            subst wc
            clear HPT HPF z0 z2 z3 z4
            cases P with
            | false =>
              go_wp2
              go_ret
              exact ⟨by rw [HSE.out (by first | rfl | trivial)]; rfl, (by first | exact HBA1.out.trans (HBs.out.mono HXS.out) | (rw [hx]; exact HBA1.out.trans (HBs.out.mono HXS.out)))⟩
            | true =>
              go_wp2_with fail
              go_roundg f
              case measure => omega
              case rel => exact ⟨i + 1, by simp, ⟨by have := HI.out; omega⟩, ⟨fun k hk => by
                by_cases e_ : k = i
                · subst e_; rw [HSS.out]; exact HPQ.out
                · exact HS.out k (by omega)⟩, HBs⟩
        · have k0 : ((i : Int) < (m1 : Int)) = False := eq_false (by omega)
          obtain rfl : i = m1 := by omega
          have x2 : wr.cell? ⟨x, 2, none⟩ = some (.slice A1 i c1) := blk_cell hxr 2
          have HSA := HS
          have HBA := HB
          clear hix hlt HI HS HB
          go_wp2_with fail
          clear x2 k0
          go_loopg [5, 6, 7] m3 (fun q v5 v6 v7 w' => ∃ i : Nat, v5 = .int .i64 (i : Int) ∧ Aside0 (i + q = m3) ∧ Aside0 (∀ k, k < i → parOk (prs.getD k par0) = true) ∧ Aside0 (Below w1.heap.size w1 w'))
          case atStart => exact ⟨0, rfl, ⟨by omega⟩, ⟨fun k hk => absurd hk (Nat.not_lt_zero k)⟩, HBA⟩
          case round =>
            clear HBA hxr HXr
            obtain ⟨l, rfl, HI, HS, HB⟩ := hrel
            have hix := HI.out
            have hxr := blk_below HX.out HB.out
            have HXr := Aside0.mk hxr
            by_cases hlt : l < m3
            · obtain ⟨f, rfl⟩ : ∃ f, gk = f + 1 := ⟨gk - 1, by omega⟩
              obtain ⟨ad, P1, d1, P2, d2, e_, y0, y1, y2, y3, y4, l1, l2, s1, s2⟩ := par_at (Kd.C_below HRR.out.2.2.1 HB.out) l hlt
              subst e_
              have x2 : World.cell? _ ⟨x, 4, none⟩ = some (.slice (some ad) m3 c3) := blk_cell hxr 4
              have HSE : Aside0 (parOk (prs.getD l par0) = false → E = false) := ⟨fun h => by
                cases E with
                | false => rfl
                | true => exfalso; have := (HE.out.1 rfl).2.2.1 l hlt; rw [h] at this; exact absurd this (by decide)⟩
              obtain ⟨s, hs⟩ : ∃ q, prs.getD l par0 = q := ⟨_, rfl⟩
              rw [hs] at y0 y1 y2 y3 y4 l1 l2 s1 s2 HSE
              have HSS := Aside0.mk hs
              obtain ⟨g, ns, zs, z, u⟩ := s
              dsimp only at y0 y1 y2 y3 y4 l1 l2 s1 s2
              have hpok := par_ok (g := g) (z := z) (u := u) (ns := ns) (zs := zs)
              obtain ⟨PE, hPE⟩ : ∃ q, parOk (g, ns, zs, z, u) = q := ⟨_, rfl⟩
              rw [hPE] at hpok HSE
              have HPQ := Aside0.mk hPE
              have HTO := Aside0.mk (fun m hm => to64 P1 d1 ns m hm l1)
              obtain ⟨n1, hn1⟩ : ∃ q, ns.length = q := ⟨_, rfl⟩
              obtain ⟨n2, hn2⟩ : ∃ q, zs.length = q := ⟨_, rfl⟩
              have HN1 := Aside0.mk hn1
              rw [hn1] at y1 s1 HTO
              rw [hn2] at y2 s2
              rw [hn1, hn2] at hpok
              have HPK := Aside0.mk hpok
              obtain ⟨P, hP⟩ : ∃ q, decide (1 ≤ g ∧ g ≤ 1125899906842624 ∧ 1 ≤ (n1 : Int) ∧ (n1 : Int) ≤ (3 : Int) ∧ n2 = n1 ∧ 0 ≤ z ∧ z ≤ 4194304) = q := ⟨_, rfl⟩
              have HPT : Aside0 ((1 ≤ g ∧ g ≤ 1125899906842624 ∧ 1 ≤ (n1 : Int) ∧ (n1 : Int) ≤ (3 : Int) ∧ n2 = n1 ∧ 0 ≤ z ∧ z ≤ 4194304) → P = true) := ⟨fun h => by rw [← hP]; exact decide_eq_true h⟩
              have HPF : Aside0 (¬ (1 ≤ g ∧ g ≤ 1125899906842624 ∧ 1 ≤ (n1 : Int) ∧ (n1 : Int) ≤ (3 : Int) ∧ n2 = n1 ∧ 0 ≤ z ∧ z ≤ 4194304) → P = false) := ⟨fun h => by rw [← hP]; exact decide_eq_false h⟩
              have HP1 : Aside0 (P = true → 1 ≤ g ∧ g ≤ 1125899906842624 ∧ 1 ≤ (n1 : Int) ∧ (n1 : Int) ≤ (3 : Int) ∧ n2 = n1 ∧ 0 ≤ z ∧ z ≤ 4194304) := ⟨fun h => of_decide_eq_true (by rw [hP]; exact h)⟩
              have HP2 : Aside0 (P = false → PE = false) := ⟨fun h => by
                rw [← hP, decide_eq_false_iff_not] at h
                cases PE with
                | false => rfl
                | true => exfalso; exact h (hpok.1 rfl).1⟩
              have hs3 := blk_new wr (.cells #[.int .i64 g, .slice P1 n1 d1, .slice P2 n2 d2, .int .i64 z, .int .u32 u] 90 (0, 0))
              have hbs := (Below.refl wr.heap.size wr).alloc (Nat.le_refl _) (.cells #[.int .i64 g, .slice P1 n1 d1, .slice P2 n2 d2, .int .i64 z, .int .u32 u] 90 (0, 0))
              obtain ⟨ws, hws⟩ : ∃ q, wr.alloc (.cells #[.int .i64 g, .slice P1 n1 d1, .slice P2 n2 d2, .int .i64 z, .int .u32 u] 90 (0, 0)) = q := ⟨_, rfl⟩
              obtain ⟨p, hp⟩ : ∃ q, wr.heap.size = q := ⟨_, rfl⟩
              rw [hws] at hs3 hbs
              have HT1 := Aside0.mk (Kd.C_below s1 hbs)
              have HT2 := Aside0.mk (Kd.C_below s2 hbs)
              have HBs := Aside0.mk (below_step HB.out hbs)
              have HWS : Aside0 (x ≤ ws.heap.size) := ⟨by have := HXS.out; have := HB.out.size; have := hbs.size; omega⟩
              rw [hp] at hs3
              have HP := Aside0.mk hs3
              have z0 : ws.cell? ⟨p, 0, none⟩ = some (.int .i64 g) := blk_cell hs3 0
              have z1 : ws.cell? ⟨p, 1, none⟩ = some (.slice P1 n1 d1) := blk_cell hs3 1
              have z2 : ws.cell? ⟨p, 2, none⟩ = some (.slice P2 n2 d2) := blk_cell hs3 2
              have z3 : ws.cell? ⟨p, 3, none⟩ = some (.int .i64 z) := blk_cell hs3 3
              have k0 : ((l : Int) < (m3 : Int)) = True := eq_true (by omega)
              have kw : IntKind.i64.wrap ((l : Int) + 1) = (l : Int) + 1 := by have := HM.out; rw [IntKind.wrap_i64]; omega
              have HX2 := Aside0.mk (blk_below HXr.out hbs)
              clear hix hxr hpok hP hPE hs3 hbs HB hs l1 l2 s1 s2 hn1 hn2
              go_upto_region 13 with fail
              go_cut [150] (fun s150 wx => wx = ws ∧ s150 = .bool (!P))
              case first =>
                as_aux_lemma =>
                  by_cases q0 : g < 1
                  · have k0 : (g < 1) = True := eq_true q0
                    have kd : P = false := HPF.out (by omega)
                    clear q0
                    go_wp2_with fail
                    go_meet
                    exact ⟨rfl, by rw [kd]; rfl⟩
                  · have k0 : (g < 1) = False := eq_false q0
                    by_cases q1 : 1125899906842624 < g
                    · have k1 : (1125899906842624 < g) = True := eq_true q1
                      have kd : P = false := HPF.out (by omega)
                      clear q0
                      clear q1
                      go_wp2_with fail
                      go_meet
                      exact ⟨rfl, by rw [kd]; rfl⟩
                    · have k1 : (1125899906842624 < g) = False := eq_false q1
                      by_cases q2 : (n1 : Int) < 1
                      · have k2 : ((n1 : Int) < 1) = True := eq_true q2
                        have kd : P = false := HPF.out (by omega)
                        clear q0
                        clear q1
                        clear q2
                        go_wp2_with fail
                        go_meet
                        exact ⟨rfl, by rw [kd]; rfl⟩
                      · have k2 : ((n1 : Int) < 1) = False := eq_false q2
                        by_cases q3 : (3 : Int) < (n1 : Int)
                        · have k3 : ((3 : Int) < (n1 : Int)) = True := eq_true q3
                          have kd : P = false := HPF.out (by omega)
                          clear q0
                          clear q1
                          clear q2
                          clear q3
                          go_wp2_with fail
                          go_meet
                          exact ⟨rfl, by rw [kd]; rfl⟩
                        · have k3 : ((3 : Int) < (n1 : Int)) = False := eq_false q3
                          by_cases q4 : n2 ≠ n1
                          · have k4 : ((n2 : Int) != (n1 : Int)) = true := bne_iff_ne.2 (by omega)
                            have kd : P = false := HPF.out (by omega)
                            clear q0
                            clear q1
                            clear q2
                            clear q3
                            clear q4
                            go_wp2_with fail
                            go_meet
                            exact ⟨rfl, by rw [kd]; rfl⟩
                          · have k4 : ((n2 : Int) != (n1 : Int)) = false := bne_eq_false_iff_eq.2 (by omega)
                            by_cases q5 : z < 0
                            · have k5 : (z < 0) = True := eq_true q5
                              have kd : P = false := HPF.out (by omega)
                              clear q0
                              clear q1
                              clear q2
                              clear q3
                              clear q4
                              clear q5
                              go_wp2_with fail
                              go_meet
                              exact ⟨rfl, by rw [kd]; rfl⟩
                            · have k5 : (z < 0) = False := eq_false q5
                              by_cases q6 : 4194304 < z
                              · have k6 : (4194304 < z) = True := eq_true q6
                                have kd : P = false := HPF.out (by omega)
                                clear q0
                                clear q1
                                clear q2
                                clear q3
                                clear q4
                                clear q5
                                clear q6
                                go_wp2_with fail
                                go_meet
                                exact ⟨rfl, by rw [kd]; rfl⟩
                              · have k6 : (4194304 < z) = False := eq_false q6
                                have kd : P = true := HPT.out (by omega)
                                clear q0
                                clear q1
                                clear q2
                                clear q3
                                clear q4
                                clear q5
                                clear q6
                                go_wp2_with fail
                                go_meet
                                exact ⟨rfl, by rw [kd]; rfl⟩
              case rest =>
                obtain ⟨h1_, rfl⟩ := hcut
                subst wc
                clear HPT HPF z0 z2 z3 x2 y0 y1 y2 y3 y4 k0
                cases P with
                | false =>
                  go_wp2
                  go_ret
                  exact ⟨by rw [HSE.out (HP2.out (by first | rfl | trivial))]; rfl, (by first | exact HBA1.out.trans (HBs.out.mono HXS.out) | (rw [hx]; exact HBA1.out.trans (HBs.out.mono HXS.out)))⟩
                | true =>
                  have hp1 := HP1.out (by first | rfl | trivial)
                  obtain rfl : n2 = n1 := hp1.2.2.2.2.1
                  have HPA := Aside0.mk hp1
                  clear hp1 HP1 HP2
                  go_wp2_with fail
                  clear z1
                  go_loopg [7] n2 (fun q v7 w' => ∃ j : Nat, v7 = .int .i64 (j : Int) ∧ Aside0 (j + q = n2) ∧ Aside0 (∀ k, k < j → 1 ≤ ns.getD k 0 ∧ ns.getD k 0 ≤ 1125899906842624 ∧ 0 ≤ zs.getD k 0 ∧ zs.getD k 0 ≤ 4194304 ∧ (ns.take k).contains (ns.getD k 0) = false) ∧ Aside0 (Below ws.heap.size ws w'))
                  case atStart => exact ⟨0, rfl, ⟨by omega⟩, ⟨fun k hk => absurd hk (Nat.not_lt_zero k)⟩, ⟨Below.refl _ _⟩⟩
                  case round =>
                    have HSP := HS
                    clear HS
                    obtain ⟨j, rfl, HJ, HS, HBr⟩ := hrel
                    have hjx := HJ.out
                    have HPr := Aside0.mk (blk_below HP.out HBr.out)
                    have c1_ : wr.cell? ⟨p, 1, none⟩ = some (.slice P1 n2 d1) := blk_cell HPr.out 1
                    by_cases hjt : j < n2
                    · obtain ⟨fj, rfl⟩ : ∃ f', gk = f' + 1 := ⟨gk - 1, by omega⟩
                      have k1 : ((j : Int) < (n2 : Int)) = True := eq_true (by omega)
                      have kj : IntKind.i64.wrap ((j : Int) + 1) = (j : Int) + 1 := by have := HPA.out; rw [IntKind.wrap_i64]; omega
                      obtain ⟨ad1, e_, h01⟩ := i64_at (Kd.C_below HT1.out HBr.out) j hjt
                      subst e_
                      obtain ⟨ad2, e_, h02⟩ := i64_at (Kd.C_below HT2.out HBr.out) j hjt
                      subst e_
                      have hto := HTO.out j (by omega)
                      have HTK : Aside0 ((Kd.int .i64).C ws (some ad1) (ns.take j).length (ns.take j)) := ⟨C_take j (by rw [HN1.out]; exact HT1.out)⟩
                      have HHC := Aside0.mk (fun w h => has_calls (some ad1) d1 (ns.take j) (ns.getD j 0) w h)
                      have hpj : ¬ (1 ≤ ns.getD j 0 ∧ ns.getD j 0 ≤ 1125899906842624 ∧ 0 ≤ zs.getD j 0 ∧ zs.getD j 0 ≤ 4194304 ∧ (ns.take j).contains (ns.getD j 0) = false) → PE = false := fun h => by
                        have h1 := HPK.out
                        cases PE with
                        | false => rfl
                        | true => exact absurd ((h1.1 rfl).2 j hjt) h
                      obtain ⟨o, ho⟩ : ∃ q, ns.getD j 0 = q := ⟨_, rfl⟩
                      obtain ⟨o2, ho2⟩ : ∃ q, zs.getD j 0 = q := ⟨_, rfl⟩
                      rw [ho] at h01 hpj HHC
                      rw [ho2] at h02 hpj
                      obtain ⟨hh, hhh⟩ : ∃ q, (ns.take j).contains o = q := ⟨_, rfl⟩
                      rw [hhh] at hpj HHC
                      have HOO := Aside0.mk (And.intro ho (And.intro ho2 hhh))
                      have HPJ := Aside0.mk hpj
                      have HPX := HSE
                      have HBZ : Aside0 (Below x w ws) := ⟨by first | exact HBA1.out.trans (HBs.out.mono HXS.out) | (rw [← hx]; exact HBA1.out.trans (HBs.out.mono (by have := HXS.out; omega)))⟩
                      have HBr2 := HBr
                      obtain ⟨tk, htk⟩ : ∃ q, ns.take j = q := ⟨_, rfl⟩
                      rw [htk] at hto HTK HHC
                      clear ho ho2 hhh hpj hjx htk
                      as_aux_lemma =>
                        by_cases q0 : o < 1
                        · have k2 : (o < 1) = True := eq_true q0
                          have kd : PE = false := HPJ.out (by omega)
                          clear q0
                          as_aux_lemma =>
                            go_wp2_with fail
                            refine wp_region_mix (fun w_ w1_ => w_ = w1_) [(false, 0), (false, 1), (false, 2), (false, 3), (false, 4), (false, 5), (false, 6), (false, 7), (false, 8), (false, 9), (false, 10), (false, 11), (false, 12), (false, 13), (false, 14), (false, 15), (false, 16), (false, 17), (false, 18), (false, 19), (false, 20), (false, 21), (false, 22), (false, 23), (false, 24), (false, 25), (false, 26), (false, 27), (false, 28), (false, 29), (false, 30), (false, 31), (false, 32), (false, 33), (false, 34), (false, 35), (false, 36), (false, 37), (false, 38), (false, 39), (true, 40), (false, 41)] (by kernel_rfl) (by kernel_rfl) (fun _ => rfl) (fun h h' => h.trans h') (fun wd hhp_ hbw_ => ?_)
                            have hpw := blk_below HPr.out hbw_
                            have y1_ : wd.cell? ⟨p, 1, none⟩ = some (.slice (some ad1) n2 d1) := blk_cell hpw 1
                            have y2_ : wd.cell? ⟨p, 2, none⟩ = some (.slice (some ad2) n2 d2) := blk_cell hpw 2
                            have y3_ := pw_cell_below hbw_ h01
                            have y4_ := pw_cell_below hbw_ h02
                            have HBw := Aside0.mk (below_step HBr.out hbw_)
                            clear hhp_ hbw_ hpw h01 h02
                            (refine mix_read (o := { dst := some 158, op := Op.fieldAddr 90 (Operand.tmp 6) 1, type := 0, pos := "ref.go:219", after := #[], guard := none }) rfl (by first | rfl | (simp [Region.wanted, yielded]; done)) (by intro w_ hE_; (try dsimp only at hE_); subst hE_; first | (go_simp; done) | (go_simp; rfl)) ?_)
                            (try simp only [Act.put, List.setIfInBounds_toArray, List.set_cons_zero, List.set_cons_succ])
                            (refine mix_read (o := { dst := some 159, op := Op.load 63 (Operand.tmp 158), type := 63, pos := "ref.go:219", after := #[{ on := 0, ground := Ground.data }], guard := none }) rfl (by first | rfl | (simp [Region.wanted, yielded]; done)) (by intro w_ hE_; (try dsimp only at hE_); subst hE_; first | (go_simp; done) | (go_simp; rfl)) ?_)
                            (try simp only [Act.put, List.setIfInBounds_toArray, List.set_cons_zero, List.set_cons_succ])
                            (refine mix_read (o := { dst := some 160, op := Op.move (Operand.tmp 7), type := 3, pos := "ref.go:219", after := #[], guard := none }) rfl (by first | rfl | (simp [Region.wanted, yielded]; done)) (by intro w_ hE_; (try dsimp only at hE_); subst hE_; first | (go_simp; done) | (go_simp; rfl)) ?_)
                            (try simp only [Act.put, List.setIfInBounds_toArray, List.set_cons_zero, List.set_cons_succ])
                            (refine mix_read (o := { dst := some 161, op := Op.indexAddr 63 (Operand.tmp 159) (Operand.tmp 160), type := 0, pos := "ref.go:219", after := #[{ on := 1, ground := Ground.data }, { on := 2, ground := Ground.data }], guard := none }) rfl (by first | rfl | (simp [Region.wanted, yielded]; done)) (by intro w_ hE_; (try dsimp only at hE_); subst hE_; first | (go_simp; done) | (go_simp; rfl)) ?_)
                            (try simp only [Act.put, List.setIfInBounds_toArray, List.set_cons_zero, List.set_cons_succ])
                            (refine mix_read (o := { dst := some 162, op := Op.load 2 (Operand.tmp 161), type := 2, pos := "ref.go:219", after := #[{ on := 3, ground := Ground.data }], guard := none }) rfl (by first | rfl | (simp [Region.wanted, yielded]; done)) (by intro w_ hE_; (try dsimp only at hE_); subst hE_; first | (go_simp; done) | (go_simp; rfl)) ?_)
                            (try simp only [Act.put, List.setIfInBounds_toArray, List.set_cons_zero, List.set_cons_succ])
                            (refine mix_read (o := { dst := some 163, op := Op.binOp BinOp.lss 2 (Operand.tmp 162) (Operand.const (Value.int IntKind.i64 1)) 2, type := 4, pos := "ref.go:219", after := #[{ on := 4, ground := Ground.data }], guard := none }) rfl (by first | rfl | (simp [Region.wanted, yielded]; done)) (by intro w_ hE_; (try dsimp only at hE_); subst hE_; first | (go_simp; done) | (go_simp; rfl)) ?_)
                            (try simp only [Act.put, List.setIfInBounds_toArray, List.set_cons_zero, List.set_cons_succ])
                            (refine mix_read (o := { dst := some 164, op := Op.move (Operand.tmp 163), type := 4, pos := "ref.go:219", after := #[{ on := 5, ground := Ground.data }], guard := none }) rfl (by first | rfl | (simp [Region.wanted, yielded]; done)) (by intro w_ hE_; (try dsimp only at hE_); subst hE_; first | (go_simp; done) | (go_simp; rfl)) ?_)
                            (try simp only [Act.put, List.setIfInBounds_toArray, List.set_cons_zero, List.set_cons_succ])
                            refine mix_skip (o := { dst := some 165, op := Op.fieldAddr 90 (Operand.tmp 6) 1, type := 0, pos := "ref.go:219", after := #[{ on := 6, ground := Ground.guard }], guard := some (6, false) }) rfl (by first | rfl | (simp [Region.wanted, yielded]; done)) ?_
                            (try simp only [Act.put, List.setIfInBounds_toArray, List.set_cons_zero, List.set_cons_succ])
                            refine mix_skip (o := { dst := some 166, op := Op.load 63 (Operand.tmp 165), type := 63, pos := "ref.go:219", after := #[{ on := 7, ground := Ground.data }, { on := 6, ground := Ground.guard }], guard := some (6, false) }) rfl (by first | rfl | (simp [Region.wanted, yielded]; done)) ?_
                            (try simp only [Act.put, List.setIfInBounds_toArray, List.set_cons_zero, List.set_cons_succ])
                            refine mix_skip (o := { dst := some 167, op := Op.move (Operand.tmp 7), type := 3, pos := "ref.go:219", after := #[{ on := 6, ground := Ground.guard }], guard := some (6, false) }) rfl (by first | rfl | (simp [Region.wanted, yielded]; done)) ?_
                            (try simp only [Act.put, List.setIfInBounds_toArray, List.set_cons_zero, List.set_cons_succ])
                            refine mix_skip (o := { dst := some 168, op := Op.indexAddr 63 (Operand.tmp 166) (Operand.tmp 167), type := 0, pos := "ref.go:219", after := #[{ on := 8, ground := Ground.data }, { on := 9, ground := Ground.data }, { on := 6, ground := Ground.guard }], guard := some (6, false) }) rfl (by first | rfl | (simp [Region.wanted, yielded]; done)) ?_
                            (try simp only [Act.put, List.setIfInBounds_toArray, List.set_cons_zero, List.set_cons_succ])
                            refine mix_skip (o := { dst := some 169, op := Op.load 2 (Operand.tmp 168), type := 2, pos := "ref.go:219", after := #[{ on := 10, ground := Ground.data }, { on := 6, ground := Ground.guard }], guard := some (6, false) }) rfl (by first | rfl | (simp [Region.wanted, yielded]; done)) ?_
                            (try simp only [Act.put, List.setIfInBounds_toArray, List.set_cons_zero, List.set_cons_succ])
                            refine mix_skip (o := { dst := some 170, op := Op.binOp BinOp.gtr 2 (Operand.tmp 169) (Operand.const (Value.int IntKind.i64 1125899906842624)) 2, type := 4, pos := "ref.go:219", after := #[{ on := 11, ground := Ground.data }, { on := 6, ground := Ground.guard }], guard := some (6, false) }) rfl (by first | rfl | (simp [Region.wanted, yielded]; done)) ?_
                            (try simp only [Act.put, List.setIfInBounds_toArray, List.set_cons_zero, List.set_cons_succ])
                            (refine mix_read (o := { dst := some 171, op := Op.pick (Operand.tmp 164) (Operand.const (Value.bool true)) (Operand.tmp 170), type := 4, pos := "ref.go:219", after := #[{ on := 6, ground := Ground.data }, { on := 12, ground := Ground.data }], guard := none }) rfl (by first | rfl | (simp [Region.wanted, yielded]; done)) (by intro w_ hE_; (try dsimp only at hE_); subst hE_; first | (go_simp; done) | (go_simp; rfl)) ?_)
                            (try simp only [Act.put, List.setIfInBounds_toArray, List.set_cons_zero, List.set_cons_succ])
                            (refine mix_read (o := { dst := some 172, op := Op.move (Operand.tmp 171), type := 4, pos := "ref.go:219", after := #[{ on := 13, ground := Ground.data }, { on := 6, ground := Ground.chain }], guard := none }) rfl (by first | rfl | (simp [Region.wanted, yielded]; done)) (by intro w_ hE_; (try dsimp only at hE_); subst hE_; first | (go_simp; done) | (go_simp; rfl)) ?_)
                            (try simp only [Act.put, List.setIfInBounds_toArray, List.set_cons_zero, List.set_cons_succ])
                            refine mix_skip (o := { dst := some 173, op := Op.fieldAddr 90 (Operand.tmp 6) 2, type := 0, pos := "ref.go:219", after := #[{ on := 14, ground := Ground.guard }], guard := some (14, false) }) rfl (by first | rfl | (simp [Region.wanted, yielded]; done)) ?_
                            (try simp only [Act.put, List.setIfInBounds_toArray, List.set_cons_zero, List.set_cons_succ])
                            refine mix_skip (o := { dst := some 174, op := Op.load 60 (Operand.tmp 173), type := 60, pos := "ref.go:219", after := #[{ on := 15, ground := Ground.data }, { on := 14, ground := Ground.guard }], guard := some (14, false) }) rfl (by first | rfl | (simp [Region.wanted, yielded]; done)) ?_
                            (try simp only [Act.put, List.setIfInBounds_toArray, List.set_cons_zero, List.set_cons_succ])
                            refine mix_skip (o := { dst := some 175, op := Op.move (Operand.tmp 7), type := 3, pos := "ref.go:219", after := #[{ on := 14, ground := Ground.guard }], guard := some (14, false) }) rfl (by first | rfl | (simp [Region.wanted, yielded]; done)) ?_
                            (try simp only [Act.put, List.setIfInBounds_toArray, List.set_cons_zero, List.set_cons_succ])
                            refine mix_skip (o := { dst := some 176, op := Op.indexAddr 60 (Operand.tmp 174) (Operand.tmp 175), type := 0, pos := "ref.go:219", after := #[{ on := 16, ground := Ground.data }, { on := 17, ground := Ground.data }, { on := 14, ground := Ground.guard }], guard := some (14, false) }) rfl (by first | rfl | (simp [Region.wanted, yielded]; done)) ?_
                            (try simp only [Act.put, List.setIfInBounds_toArray, List.set_cons_zero, List.set_cons_succ])
                            refine mix_skip (o := { dst := some 177, op := Op.load 3 (Operand.tmp 176), type := 3, pos := "ref.go:219", after := #[{ on := 18, ground := Ground.data }, { on := 14, ground := Ground.guard }], guard := some (14, false) }) rfl (by first | rfl | (simp [Region.wanted, yielded]; done)) ?_
                            (try simp only [Act.put, List.setIfInBounds_toArray, List.set_cons_zero, List.set_cons_succ])
                            refine mix_skip (o := { dst := some 178, op := Op.binOp BinOp.lss 3 (Operand.tmp 177) (Operand.const (Value.int IntKind.i64 0)) 3, type := 4, pos := "ref.go:219", after := #[{ on := 19, ground := Ground.data }, { on := 14, ground := Ground.guard }], guard := some (14, false) }) rfl (by first | rfl | (simp [Region.wanted, yielded]; done)) ?_
                            (try simp only [Act.put, List.setIfInBounds_toArray, List.set_cons_zero, List.set_cons_succ])
                            (refine mix_read (o := { dst := some 179, op := Op.pick (Operand.tmp 172) (Operand.const (Value.bool true)) (Operand.tmp 178), type := 4, pos := "ref.go:219", after := #[{ on := 14, ground := Ground.data }, { on := 20, ground := Ground.data }], guard := none }) rfl (by first | rfl | (simp [Region.wanted, yielded]; done)) (by intro w_ hE_; (try dsimp only at hE_); subst hE_; first | (go_simp; done) | (go_simp; rfl)) ?_)
                            (try simp only [Act.put, List.setIfInBounds_toArray, List.set_cons_zero, List.set_cons_succ])
                            (refine mix_read (o := { dst := some 180, op := Op.move (Operand.tmp 179), type := 4, pos := "ref.go:219", after := #[{ on := 21, ground := Ground.data }, { on := 14, ground := Ground.chain }], guard := none }) rfl (by first | rfl | (simp [Region.wanted, yielded]; done)) (by intro w_ hE_; (try dsimp only at hE_); subst hE_; first | (go_simp; done) | (go_simp; rfl)) ?_)
                            (try simp only [Act.put, List.setIfInBounds_toArray, List.set_cons_zero, List.set_cons_succ])
                            refine mix_skip (o := { dst := some 181, op := Op.fieldAddr 90 (Operand.tmp 6) 2, type := 0, pos := "ref.go:219", after := #[{ on := 22, ground := Ground.guard }], guard := some (22, false) }) rfl (by first | rfl | (simp [Region.wanted, yielded]; done)) ?_
                            (try simp only [Act.put, List.setIfInBounds_toArray, List.set_cons_zero, List.set_cons_succ])
                            refine mix_skip (o := { dst := some 182, op := Op.load 60 (Operand.tmp 181), type := 60, pos := "ref.go:219", after := #[{ on := 23, ground := Ground.data }, { on := 22, ground := Ground.guard }], guard := some (22, false) }) rfl (by first | rfl | (simp [Region.wanted, yielded]; done)) ?_
                            (try simp only [Act.put, List.setIfInBounds_toArray, List.set_cons_zero, List.set_cons_succ])
                            refine mix_skip (o := { dst := some 183, op := Op.move (Operand.tmp 7), type := 3, pos := "ref.go:219", after := #[{ on := 22, ground := Ground.guard }], guard := some (22, false) }) rfl (by first | rfl | (simp [Region.wanted, yielded]; done)) ?_
                            (try simp only [Act.put, List.setIfInBounds_toArray, List.set_cons_zero, List.set_cons_succ])
                            refine mix_skip (o := { dst := some 184, op := Op.indexAddr 60 (Operand.tmp 182) (Operand.tmp 183), type := 0, pos := "ref.go:219", after := #[{ on := 24, ground := Ground.data }, { on := 25, ground := Ground.data }, { on := 22, ground := Ground.guard }], guard := some (22, false) }) rfl (by first | rfl | (simp [Region.wanted, yielded]; done)) ?_
                            (try simp only [Act.put, List.setIfInBounds_toArray, List.set_cons_zero, List.set_cons_succ])
                            refine mix_skip (o := { dst := some 185, op := Op.load 3 (Operand.tmp 184), type := 3, pos := "ref.go:219", after := #[{ on := 26, ground := Ground.data }, { on := 22, ground := Ground.guard }], guard := some (22, false) }) rfl (by first | rfl | (simp [Region.wanted, yielded]; done)) ?_
                            (try simp only [Act.put, List.setIfInBounds_toArray, List.set_cons_zero, List.set_cons_succ])
                            refine mix_skip (o := { dst := some 186, op := Op.binOp BinOp.gtr 3 (Operand.tmp 185) (Operand.const (Value.int IntKind.i64 4194304)) 3, type := 4, pos := "ref.go:219", after := #[{ on := 27, ground := Ground.data }, { on := 22, ground := Ground.guard }], guard := some (22, false) }) rfl (by first | rfl | (simp [Region.wanted, yielded]; done)) ?_
                            (try simp only [Act.put, List.setIfInBounds_toArray, List.set_cons_zero, List.set_cons_succ])
                            (refine mix_read (o := { dst := some 187, op := Op.pick (Operand.tmp 180) (Operand.const (Value.bool true)) (Operand.tmp 186), type := 4, pos := "ref.go:219", after := #[{ on := 22, ground := Ground.data }, { on := 28, ground := Ground.data }], guard := none }) rfl (by first | rfl | (simp [Region.wanted, yielded]; done)) (by intro w_ hE_; (try dsimp only at hE_); subst hE_; first | (go_simp; done) | (go_simp; rfl)) ?_)
                            (try simp only [Act.put, List.setIfInBounds_toArray, List.set_cons_zero, List.set_cons_succ])
                            (refine mix_read (o := { dst := some 188, op := Op.move (Operand.tmp 187), type := 4, pos := "ref.go:219", after := #[{ on := 29, ground := Ground.data }, { on := 22, ground := Ground.chain }], guard := none }) rfl (by first | rfl | (simp [Region.wanted, yielded]; done)) (by intro w_ hE_; (try dsimp only at hE_); subst hE_; first | (go_simp; done) | (go_simp; rfl)) ?_)
                            (try simp only [Act.put, List.setIfInBounds_toArray, List.set_cons_zero, List.set_cons_succ])
                            refine mix_skip (o := { dst := some 189, op := Op.fieldAddr 90 (Operand.tmp 6) 1, type := 0, pos := "ref.go:219", after := #[{ on := 30, ground := Ground.guard }], guard := some (30, false) }) rfl (by first | rfl | (simp [Region.wanted, yielded]; done)) ?_
                            (try simp only [Act.put, List.setIfInBounds_toArray, List.set_cons_zero, List.set_cons_succ])
                            refine mix_skip (o := { dst := some 190, op := Op.load 63 (Operand.tmp 189), type := 63, pos := "ref.go:219", after := #[{ on := 31, ground := Ground.data }, { on := 30, ground := Ground.guard }], guard := some (30, false) }) rfl (by first | rfl | (simp [Region.wanted, yielded]; done)) ?_
                            (try simp only [Act.put, List.setIfInBounds_toArray, List.set_cons_zero, List.set_cons_succ])
                            refine mix_skip (o := { dst := some 191, op := Op.move (Operand.tmp 7), type := 3, pos := "ref.go:219", after := #[{ on := 30, ground := Ground.guard }], guard := some (30, false) }) rfl (by first | rfl | (simp [Region.wanted, yielded]; done)) ?_
                            (try simp only [Act.put, List.setIfInBounds_toArray, List.set_cons_zero, List.set_cons_succ])
                            refine mix_skip (o := { dst := some 192, op := Op.slice 63 (Operand.tmp 190) none (some (Operand.tmp 191)) none, type := 63, pos := "ref.go:219", after := #[{ on := 32, ground := Ground.data }, { on := 33, ground := Ground.data }, { on := 30, ground := Ground.guard }], guard := some (30, false) }) rfl (by first | rfl | (simp [Region.wanted, yielded]; done)) ?_
                            (try simp only [Act.put, List.setIfInBounds_toArray, List.set_cons_zero, List.set_cons_succ])
                            refine mix_skip (o := { dst := some 193, op := Op.fieldAddr 90 (Operand.tmp 6) 1, type := 0, pos := "ref.go:219", after := #[{ on := 30, ground := Ground.guard }], guard := some (30, false) }) rfl (by first | rfl | (simp [Region.wanted, yielded]; done)) ?_
                            (try simp only [Act.put, List.setIfInBounds_toArray, List.set_cons_zero, List.set_cons_succ])
                            refine mix_skip (o := { dst := some 194, op := Op.load 63 (Operand.tmp 193), type := 63, pos := "ref.go:219", after := #[{ on := 35, ground := Ground.data }, { on := 30, ground := Ground.guard }], guard := some (30, false) }) rfl (by first | rfl | (simp [Region.wanted, yielded]; done)) ?_
                            (try simp only [Act.put, List.setIfInBounds_toArray, List.set_cons_zero, List.set_cons_succ])
                            refine mix_skip (o := { dst := some 195, op := Op.move (Operand.tmp 7), type := 3, pos := "ref.go:219", after := #[{ on := 30, ground := Ground.guard }], guard := some (30, false) }) rfl (by first | rfl | (simp [Region.wanted, yielded]; done)) ?_
                            (try simp only [Act.put, List.setIfInBounds_toArray, List.set_cons_zero, List.set_cons_succ])
                            refine mix_skip (o := { dst := some 196, op := Op.indexAddr 63 (Operand.tmp 194) (Operand.tmp 195), type := 0, pos := "ref.go:219", after := #[{ on := 36, ground := Ground.data }, { on := 37, ground := Ground.data }, { on := 30, ground := Ground.guard }], guard := some (30, false) }) rfl (by first | rfl | (simp [Region.wanted, yielded]; done)) ?_
                            (try simp only [Act.put, List.setIfInBounds_toArray, List.set_cons_zero, List.set_cons_succ])
                            refine mix_skip (o := { dst := some 197, op := Op.load 2 (Operand.tmp 196), type := 2, pos := "ref.go:219", after := #[{ on := 38, ground := Ground.data }, { on := 30, ground := Ground.guard }], guard := some (30, false) }) rfl (by first | rfl | (simp [Region.wanted, yielded]; done)) ?_
                            (try simp only [Act.put, List.setIfInBounds_toArray, List.set_cons_zero, List.set_cons_succ])
                            refine mix_skip (o := { dst := some 198, op := Op.call { callee := Callee.value (Operand.func 61), args := #[Operand.tmp 192, Operand.tmp 197], argTypes := #[63, 2] }, type := 4, pos := "ref.go:219", after := #[{ on := 34, ground := Ground.data }, { on := 39, ground := Ground.data }, { on := 30, ground := Ground.chain }, { on := 30, ground := Ground.guard }], guard := some (30, false) }) rfl (by first | rfl | (simp [Region.wanted, yielded]; done)) ?_
                            (try simp only [Act.put, List.setIfInBounds_toArray, List.set_cons_zero, List.set_cons_succ])
                            (refine mix_read (o := { dst := some 199, op := Op.pick (Operand.tmp 188) (Operand.const (Value.bool true)) (Operand.tmp 198), type := 4, pos := "ref.go:219", after := #[{ on := 30, ground := Ground.data }, { on := 40, ground := Ground.data }], guard := none }) rfl (by first | rfl | (simp [Region.wanted, yielded]; done)) (by intro w_ hE_; (try dsimp only at hE_); subst hE_; first | (go_simp; done) | (go_simp; rfl)) ?_)
                            (try simp only [Act.put, List.setIfInBounds_toArray, List.set_cons_zero, List.set_cons_succ])
                            refine mix_nil ?_
                            (try simp only [Exit.then])
                            go_wp2
                            go_ret
                            exact ⟨by rw [HPX.out kd]; rfl, (by first | exact HBZ.out.trans (HBw.out.mono HWS.out) | (rw [hx]; exact HBZ.out.trans (HBw.out.mono HWS.out)))⟩
                        · have k2 : (o < 1) = False := eq_false q0
                          by_cases q1 : 1125899906842624 < o
                          · have k3 : (1125899906842624 < o) = True := eq_true q1
                            have kd : PE = false := HPJ.out (by omega)
                            clear q0
                            clear q1
                            as_aux_lemma =>
                              go_wp2_with fail
                              refine wp_region_mix (fun w_ w1_ => w_ = w1_) [(false, 0), (false, 1), (false, 2), (false, 3), (false, 4), (false, 5), (false, 6), (false, 7), (false, 8), (false, 9), (false, 10), (false, 11), (false, 12), (false, 13), (false, 14), (false, 15), (false, 16), (false, 17), (false, 18), (false, 19), (false, 20), (false, 21), (false, 22), (false, 23), (false, 24), (false, 25), (false, 26), (false, 27), (false, 28), (false, 29), (false, 30), (false, 31), (false, 32), (false, 33), (false, 34), (false, 35), (false, 36), (false, 37), (false, 38), (false, 39), (true, 40), (false, 41)] (by kernel_rfl) (by kernel_rfl) (fun _ => rfl) (fun h h' => h.trans h') (fun wd hhp_ hbw_ => ?_)
                              have hpw := blk_below HPr.out hbw_
                              have y1_ : wd.cell? ⟨p, 1, none⟩ = some (.slice (some ad1) n2 d1) := blk_cell hpw 1
                              have y2_ : wd.cell? ⟨p, 2, none⟩ = some (.slice (some ad2) n2 d2) := blk_cell hpw 2
                              have y3_ := pw_cell_below hbw_ h01
                              have y4_ := pw_cell_below hbw_ h02
                              have HBw := Aside0.mk (below_step HBr.out hbw_)
                              clear hhp_ hbw_ hpw h01 h02
                              (refine mix_read (o := { dst := some 158, op := Op.fieldAddr 90 (Operand.tmp 6) 1, type := 0, pos := "ref.go:219", after := #[], guard := none }) rfl (by first | rfl | (simp [Region.wanted, yielded]; done)) (by intro w_ hE_; (try dsimp only at hE_); subst hE_; first | (go_simp; done) | (go_simp; rfl)) ?_)
                              (try simp only [Act.put, List.setIfInBounds_toArray, List.set_cons_zero, List.set_cons_succ])
                              (refine mix_read (o := { dst := some 159, op := Op.load 63 (Operand.tmp 158), type := 63, pos := "ref.go:219", after := #[{ on := 0, ground := Ground.data }], guard := none }) rfl (by first | rfl | (simp [Region.wanted, yielded]; done)) (by intro w_ hE_; (try dsimp only at hE_); subst hE_; first | (go_simp; done) | (go_simp; rfl)) ?_)
                              (try simp only [Act.put, List.setIfInBounds_toArray, List.set_cons_zero, List.set_cons_succ])
                              (refine mix_read (o := { dst := some 160, op := Op.move (Operand.tmp 7), type := 3, pos := "ref.go:219", after := #[], guard := none }) rfl (by first | rfl | (simp [Region.wanted, yielded]; done)) (by intro w_ hE_; (try dsimp only at hE_); subst hE_; first | (go_simp; done) | (go_simp; rfl)) ?_)
                              (try simp only [Act.put, List.setIfInBounds_toArray, List.set_cons_zero, List.set_cons_succ])
                              (refine mix_read (o := { dst := some 161, op := Op.indexAddr 63 (Operand.tmp 159) (Operand.tmp 160), type := 0, pos := "ref.go:219", after := #[{ on := 1, ground := Ground.data }, { on := 2, ground := Ground.data }], guard := none }) rfl (by first | rfl | (simp [Region.wanted, yielded]; done)) (by intro w_ hE_; (try dsimp only at hE_); subst hE_; first | (go_simp; done) | (go_simp; rfl)) ?_)
                              (try simp only [Act.put, List.setIfInBounds_toArray, List.set_cons_zero, List.set_cons_succ])
                              (refine mix_read (o := { dst := some 162, op := Op.load 2 (Operand.tmp 161), type := 2, pos := "ref.go:219", after := #[{ on := 3, ground := Ground.data }], guard := none }) rfl (by first | rfl | (simp [Region.wanted, yielded]; done)) (by intro w_ hE_; (try dsimp only at hE_); subst hE_; first | (go_simp; done) | (go_simp; rfl)) ?_)
                              (try simp only [Act.put, List.setIfInBounds_toArray, List.set_cons_zero, List.set_cons_succ])
                              (refine mix_read (o := { dst := some 163, op := Op.binOp BinOp.lss 2 (Operand.tmp 162) (Operand.const (Value.int IntKind.i64 1)) 2, type := 4, pos := "ref.go:219", after := #[{ on := 4, ground := Ground.data }], guard := none }) rfl (by first | rfl | (simp [Region.wanted, yielded]; done)) (by intro w_ hE_; (try dsimp only at hE_); subst hE_; first | (go_simp; done) | (go_simp; rfl)) ?_)
                              (try simp only [Act.put, List.setIfInBounds_toArray, List.set_cons_zero, List.set_cons_succ])
                              (refine mix_read (o := { dst := some 164, op := Op.move (Operand.tmp 163), type := 4, pos := "ref.go:219", after := #[{ on := 5, ground := Ground.data }], guard := none }) rfl (by first | rfl | (simp [Region.wanted, yielded]; done)) (by intro w_ hE_; (try dsimp only at hE_); subst hE_; first | (go_simp; done) | (go_simp; rfl)) ?_)
                              (try simp only [Act.put, List.setIfInBounds_toArray, List.set_cons_zero, List.set_cons_succ])
                              first | (refine mix_read (o := { dst := some 165, op := Op.fieldAddr 90 (Operand.tmp 6) 1, type := 0, pos := "ref.go:219", after := #[{ on := 6, ground := Ground.guard }], guard := some (6, false) }) rfl (by first | rfl | (simp [Region.wanted, yielded]; done)) (by intro w_ hE_; (try dsimp only at hE_); subst hE_; first | (go_simp; done) | (go_simp; rfl)) ?_) | (refine mix_skip (o := { dst := some 165, op := Op.fieldAddr 90 (Operand.tmp 6) 1, type := 0, pos := "ref.go:219", after := #[{ on := 6, ground := Ground.guard }], guard := some (6, false) }) rfl (by first | rfl | (simp [Region.wanted, yielded]; done)) ?_)
                              (try simp only [Act.put, List.setIfInBounds_toArray, List.set_cons_zero, List.set_cons_succ])
                              first | (refine mix_read (o := { dst := some 166, op := Op.load 63 (Operand.tmp 165), type := 63, pos := "ref.go:219", after := #[{ on := 7, ground := Ground.data }, { on := 6, ground := Ground.guard }], guard := some (6, false) }) rfl (by first | rfl | (simp [Region.wanted, yielded]; done)) (by intro w_ hE_; (try dsimp only at hE_); subst hE_; first | (go_simp; done) | (go_simp; rfl)) ?_) | (refine mix_skip (o := { dst := some 166, op := Op.load 63 (Operand.tmp 165), type := 63, pos := "ref.go:219", after := #[{ on := 7, ground := Ground.data }, { on := 6, ground := Ground.guard }], guard := some (6, false) }) rfl (by first | rfl | (simp [Region.wanted, yielded]; done)) ?_)
                              (try simp only [Act.put, List.setIfInBounds_toArray, List.set_cons_zero, List.set_cons_succ])
                              first | (refine mix_read (o := { dst := some 167, op := Op.move (Operand.tmp 7), type := 3, pos := "ref.go:219", after := #[{ on := 6, ground := Ground.guard }], guard := some (6, false) }) rfl (by first | rfl | (simp [Region.wanted, yielded]; done)) (by intro w_ hE_; (try dsimp only at hE_); subst hE_; first | (go_simp; done) | (go_simp; rfl)) ?_) | (refine mix_skip (o := { dst := some 167, op := Op.move (Operand.tmp 7), type := 3, pos := "ref.go:219", after := #[{ on := 6, ground := Ground.guard }], guard := some (6, false) }) rfl (by first | rfl | (simp [Region.wanted, yielded]; done)) ?_)
                              (try simp only [Act.put, List.setIfInBounds_toArray, List.set_cons_zero, List.set_cons_succ])
                              first | (refine mix_read (o := { dst := some 168, op := Op.indexAddr 63 (Operand.tmp 166) (Operand.tmp 167), type := 0, pos := "ref.go:219", after := #[{ on := 8, ground := Ground.data }, { on := 9, ground := Ground.data }, { on := 6, ground := Ground.guard }], guard := some (6, false) }) rfl (by first | rfl | (simp [Region.wanted, yielded]; done)) (by intro w_ hE_; (try dsimp only at hE_); subst hE_; first | (go_simp; done) | (go_simp; rfl)) ?_) | (refine mix_skip (o := { dst := some 168, op := Op.indexAddr 63 (Operand.tmp 166) (Operand.tmp 167), type := 0, pos := "ref.go:219", after := #[{ on := 8, ground := Ground.data }, { on := 9, ground := Ground.data }, { on := 6, ground := Ground.guard }], guard := some (6, false) }) rfl (by first | rfl | (simp [Region.wanted, yielded]; done)) ?_)
                              (try simp only [Act.put, List.setIfInBounds_toArray, List.set_cons_zero, List.set_cons_succ])
                              first | (refine mix_read (o := { dst := some 169, op := Op.load 2 (Operand.tmp 168), type := 2, pos := "ref.go:219", after := #[{ on := 10, ground := Ground.data }, { on := 6, ground := Ground.guard }], guard := some (6, false) }) rfl (by first | rfl | (simp [Region.wanted, yielded]; done)) (by intro w_ hE_; (try dsimp only at hE_); subst hE_; first | (go_simp; done) | (go_simp; rfl)) ?_) | (refine mix_skip (o := { dst := some 169, op := Op.load 2 (Operand.tmp 168), type := 2, pos := "ref.go:219", after := #[{ on := 10, ground := Ground.data }, { on := 6, ground := Ground.guard }], guard := some (6, false) }) rfl (by first | rfl | (simp [Region.wanted, yielded]; done)) ?_)
                              (try simp only [Act.put, List.setIfInBounds_toArray, List.set_cons_zero, List.set_cons_succ])
                              first | (refine mix_read (o := { dst := some 170, op := Op.binOp BinOp.gtr 2 (Operand.tmp 169) (Operand.const (Value.int IntKind.i64 1125899906842624)) 2, type := 4, pos := "ref.go:219", after := #[{ on := 11, ground := Ground.data }, { on := 6, ground := Ground.guard }], guard := some (6, false) }) rfl (by first | rfl | (simp [Region.wanted, yielded]; done)) (by intro w_ hE_; (try dsimp only at hE_); subst hE_; first | (go_simp; done) | (go_simp; rfl)) ?_) | (refine mix_skip (o := { dst := some 170, op := Op.binOp BinOp.gtr 2 (Operand.tmp 169) (Operand.const (Value.int IntKind.i64 1125899906842624)) 2, type := 4, pos := "ref.go:219", after := #[{ on := 11, ground := Ground.data }, { on := 6, ground := Ground.guard }], guard := some (6, false) }) rfl (by first | rfl | (simp [Region.wanted, yielded]; done)) ?_)
                              (try simp only [Act.put, List.setIfInBounds_toArray, List.set_cons_zero, List.set_cons_succ])
                              (refine mix_read (o := { dst := some 171, op := Op.pick (Operand.tmp 164) (Operand.const (Value.bool true)) (Operand.tmp 170), type := 4, pos := "ref.go:219", after := #[{ on := 6, ground := Ground.data }, { on := 12, ground := Ground.data }], guard := none }) rfl (by first | rfl | (simp [Region.wanted, yielded]; done)) (by intro w_ hE_; (try dsimp only at hE_); subst hE_; first | (go_simp; done) | (go_simp; rfl)) ?_)
                              (try simp only [Act.put, List.setIfInBounds_toArray, List.set_cons_zero, List.set_cons_succ])
                              (refine mix_read (o := { dst := some 172, op := Op.move (Operand.tmp 171), type := 4, pos := "ref.go:219", after := #[{ on := 13, ground := Ground.data }, { on := 6, ground := Ground.chain }], guard := none }) rfl (by first | rfl | (simp [Region.wanted, yielded]; done)) (by intro w_ hE_; (try dsimp only at hE_); subst hE_; first | (go_simp; done) | (go_simp; rfl)) ?_)
                              (try simp only [Act.put, List.setIfInBounds_toArray, List.set_cons_zero, List.set_cons_succ])
                              refine mix_skip (o := { dst := some 173, op := Op.fieldAddr 90 (Operand.tmp 6) 2, type := 0, pos := "ref.go:219", after := #[{ on := 14, ground := Ground.guard }], guard := some (14, false) }) rfl (by first | rfl | (simp [Region.wanted, yielded]; done)) ?_
                              (try simp only [Act.put, List.setIfInBounds_toArray, List.set_cons_zero, List.set_cons_succ])
                              refine mix_skip (o := { dst := some 174, op := Op.load 60 (Operand.tmp 173), type := 60, pos := "ref.go:219", after := #[{ on := 15, ground := Ground.data }, { on := 14, ground := Ground.guard }], guard := some (14, false) }) rfl (by first | rfl | (simp [Region.wanted, yielded]; done)) ?_
                              (try simp only [Act.put, List.setIfInBounds_toArray, List.set_cons_zero, List.set_cons_succ])
                              refine mix_skip (o := { dst := some 175, op := Op.move (Operand.tmp 7), type := 3, pos := "ref.go:219", after := #[{ on := 14, ground := Ground.guard }], guard := some (14, false) }) rfl (by first | rfl | (simp [Region.wanted, yielded]; done)) ?_
                              (try simp only [Act.put, List.setIfInBounds_toArray, List.set_cons_zero, List.set_cons_succ])
                              refine mix_skip (o := { dst := some 176, op := Op.indexAddr 60 (Operand.tmp 174) (Operand.tmp 175), type := 0, pos := "ref.go:219", after := #[{ on := 16, ground := Ground.data }, { on := 17, ground := Ground.data }, { on := 14, ground := Ground.guard }], guard := some (14, false) }) rfl (by first | rfl | (simp [Region.wanted, yielded]; done)) ?_
                              (try simp only [Act.put, List.setIfInBounds_toArray, List.set_cons_zero, List.set_cons_succ])
                              refine mix_skip (o := { dst := some 177, op := Op.load 3 (Operand.tmp 176), type := 3, pos := "ref.go:219", after := #[{ on := 18, ground := Ground.data }, { on := 14, ground := Ground.guard }], guard := some (14, false) }) rfl (by first | rfl | (simp [Region.wanted, yielded]; done)) ?_
                              (try simp only [Act.put, List.setIfInBounds_toArray, List.set_cons_zero, List.set_cons_succ])
                              refine mix_skip (o := { dst := some 178, op := Op.binOp BinOp.lss 3 (Operand.tmp 177) (Operand.const (Value.int IntKind.i64 0)) 3, type := 4, pos := "ref.go:219", after := #[{ on := 19, ground := Ground.data }, { on := 14, ground := Ground.guard }], guard := some (14, false) }) rfl (by first | rfl | (simp [Region.wanted, yielded]; done)) ?_
                              (try simp only [Act.put, List.setIfInBounds_toArray, List.set_cons_zero, List.set_cons_succ])
                              (refine mix_read (o := { dst := some 179, op := Op.pick (Operand.tmp 172) (Operand.const (Value.bool true)) (Operand.tmp 178), type := 4, pos := "ref.go:219", after := #[{ on := 14, ground := Ground.data }, { on := 20, ground := Ground.data }], guard := none }) rfl (by first | rfl | (simp [Region.wanted, yielded]; done)) (by intro w_ hE_; (try dsimp only at hE_); subst hE_; first | (go_simp; done) | (go_simp; rfl)) ?_)
                              (try simp only [Act.put, List.setIfInBounds_toArray, List.set_cons_zero, List.set_cons_succ])
                              (refine mix_read (o := { dst := some 180, op := Op.move (Operand.tmp 179), type := 4, pos := "ref.go:219", after := #[{ on := 21, ground := Ground.data }, { on := 14, ground := Ground.chain }], guard := none }) rfl (by first | rfl | (simp [Region.wanted, yielded]; done)) (by intro w_ hE_; (try dsimp only at hE_); subst hE_; first | (go_simp; done) | (go_simp; rfl)) ?_)
                              (try simp only [Act.put, List.setIfInBounds_toArray, List.set_cons_zero, List.set_cons_succ])
                              refine mix_skip (o := { dst := some 181, op := Op.fieldAddr 90 (Operand.tmp 6) 2, type := 0, pos := "ref.go:219", after := #[{ on := 22, ground := Ground.guard }], guard := some (22, false) }) rfl (by first | rfl | (simp [Region.wanted, yielded]; done)) ?_
                              (try simp only [Act.put, List.setIfInBounds_toArray, List.set_cons_zero, List.set_cons_succ])
                              refine mix_skip (o := { dst := some 182, op := Op.load 60 (Operand.tmp 181), type := 60, pos := "ref.go:219", after := #[{ on := 23, ground := Ground.data }, { on := 22, ground := Ground.guard }], guard := some (22, false) }) rfl (by first | rfl | (simp [Region.wanted, yielded]; done)) ?_
                              (try simp only [Act.put, List.setIfInBounds_toArray, List.set_cons_zero, List.set_cons_succ])
                              refine mix_skip (o := { dst := some 183, op := Op.move (Operand.tmp 7), type := 3, pos := "ref.go:219", after := #[{ on := 22, ground := Ground.guard }], guard := some (22, false) }) rfl (by first | rfl | (simp [Region.wanted, yielded]; done)) ?_
                              (try simp only [Act.put, List.setIfInBounds_toArray, List.set_cons_zero, List.set_cons_succ])
                              refine mix_skip (o := { dst := some 184, op := Op.indexAddr 60 (Operand.tmp 182) (Operand.tmp 183), type := 0, pos := "ref.go:219", after := #[{ on := 24, ground := Ground.data }, { on := 25, ground := Ground.data }, { on := 22, ground := Ground.guard }], guard := some (22, false) }) rfl (by first | rfl | (simp [Region.wanted, yielded]; done)) ?_
                              (try simp only [Act.put, List.setIfInBounds_toArray, List.set_cons_zero, List.set_cons_succ])
                              refine mix_skip (o := { dst := some 185, op := Op.load 3 (Operand.tmp 184), type := 3, pos := "ref.go:219", after := #[{ on := 26, ground := Ground.data }, { on := 22, ground := Ground.guard }], guard := some (22, false) }) rfl (by first | rfl | (simp [Region.wanted, yielded]; done)) ?_
                              (try simp only [Act.put, List.setIfInBounds_toArray, List.set_cons_zero, List.set_cons_succ])
                              refine mix_skip (o := { dst := some 186, op := Op.binOp BinOp.gtr 3 (Operand.tmp 185) (Operand.const (Value.int IntKind.i64 4194304)) 3, type := 4, pos := "ref.go:219", after := #[{ on := 27, ground := Ground.data }, { on := 22, ground := Ground.guard }], guard := some (22, false) }) rfl (by first | rfl | (simp [Region.wanted, yielded]; done)) ?_
                              (try simp only [Act.put, List.setIfInBounds_toArray, List.set_cons_zero, List.set_cons_succ])
                              (refine mix_read (o := { dst := some 187, op := Op.pick (Operand.tmp 180) (Operand.const (Value.bool true)) (Operand.tmp 186), type := 4, pos := "ref.go:219", after := #[{ on := 22, ground := Ground.data }, { on := 28, ground := Ground.data }], guard := none }) rfl (by first | rfl | (simp [Region.wanted, yielded]; done)) (by intro w_ hE_; (try dsimp only at hE_); subst hE_; first | (go_simp; done) | (go_simp; rfl)) ?_)
                              (try simp only [Act.put, List.setIfInBounds_toArray, List.set_cons_zero, List.set_cons_succ])
                              (refine mix_read (o := { dst := some 188, op := Op.move (Operand.tmp 187), type := 4, pos := "ref.go:219", after := #[{ on := 29, ground := Ground.data }, { on := 22, ground := Ground.chain }], guard := none }) rfl (by first | rfl | (simp [Region.wanted, yielded]; done)) (by intro w_ hE_; (try dsimp only at hE_); subst hE_; first | (go_simp; done) | (go_simp; rfl)) ?_)
                              (try simp only [Act.put, List.setIfInBounds_toArray, List.set_cons_zero, List.set_cons_succ])
                              refine mix_skip (o := { dst := some 189, op := Op.fieldAddr 90 (Operand.tmp 6) 1, type := 0, pos := "ref.go:219", after := #[{ on := 30, ground := Ground.guard }], guard := some (30, false) }) rfl (by first | rfl | (simp [Region.wanted, yielded]; done)) ?_
                              (try simp only [Act.put, List.setIfInBounds_toArray, List.set_cons_zero, List.set_cons_succ])
                              refine mix_skip (o := { dst := some 190, op := Op.load 63 (Operand.tmp 189), type := 63, pos := "ref.go:219", after := #[{ on := 31, ground := Ground.data }, { on := 30, ground := Ground.guard }], guard := some (30, false) }) rfl (by first | rfl | (simp [Region.wanted, yielded]; done)) ?_
                              (try simp only [Act.put, List.setIfInBounds_toArray, List.set_cons_zero, List.set_cons_succ])
                              refine mix_skip (o := { dst := some 191, op := Op.move (Operand.tmp 7), type := 3, pos := "ref.go:219", after := #[{ on := 30, ground := Ground.guard }], guard := some (30, false) }) rfl (by first | rfl | (simp [Region.wanted, yielded]; done)) ?_
                              (try simp only [Act.put, List.setIfInBounds_toArray, List.set_cons_zero, List.set_cons_succ])
                              refine mix_skip (o := { dst := some 192, op := Op.slice 63 (Operand.tmp 190) none (some (Operand.tmp 191)) none, type := 63, pos := "ref.go:219", after := #[{ on := 32, ground := Ground.data }, { on := 33, ground := Ground.data }, { on := 30, ground := Ground.guard }], guard := some (30, false) }) rfl (by first | rfl | (simp [Region.wanted, yielded]; done)) ?_
                              (try simp only [Act.put, List.setIfInBounds_toArray, List.set_cons_zero, List.set_cons_succ])
                              refine mix_skip (o := { dst := some 193, op := Op.fieldAddr 90 (Operand.tmp 6) 1, type := 0, pos := "ref.go:219", after := #[{ on := 30, ground := Ground.guard }], guard := some (30, false) }) rfl (by first | rfl | (simp [Region.wanted, yielded]; done)) ?_
                              (try simp only [Act.put, List.setIfInBounds_toArray, List.set_cons_zero, List.set_cons_succ])
                              refine mix_skip (o := { dst := some 194, op := Op.load 63 (Operand.tmp 193), type := 63, pos := "ref.go:219", after := #[{ on := 35, ground := Ground.data }, { on := 30, ground := Ground.guard }], guard := some (30, false) }) rfl (by first | rfl | (simp [Region.wanted, yielded]; done)) ?_
                              (try simp only [Act.put, List.setIfInBounds_toArray, List.set_cons_zero, List.set_cons_succ])
                              refine mix_skip (o := { dst := some 195, op := Op.move (Operand.tmp 7), type := 3, pos := "ref.go:219", after := #[{ on := 30, ground := Ground.guard }], guard := some (30, false) }) rfl (by first | rfl | (simp [Region.wanted, yielded]; done)) ?_
                              (try simp only [Act.put, List.setIfInBounds_toArray, List.set_cons_zero, List.set_cons_succ])
                              refine mix_skip (o := { dst := some 196, op := Op.indexAddr 63 (Operand.tmp 194) (Operand.tmp 195), type := 0, pos := "ref.go:219", after := #[{ on := 36, ground := Ground.data }, { on := 37, ground := Ground.data }, { on := 30, ground := Ground.guard }], guard := some (30, false) }) rfl (by first | rfl | (simp [Region.wanted, yielded]; done)) ?_
                              (try simp only [Act.put, List.setIfInBounds_toArray, List.set_cons_zero, List.set_cons_succ])
                              refine mix_skip (o := { dst := some 197, op := Op.load 2 (Operand.tmp 196), type := 2, pos := "ref.go:219", after := #[{ on := 38, ground := Ground.data }, { on := 30, ground := Ground.guard }], guard := some (30, false) }) rfl (by first | rfl | (simp [Region.wanted, yielded]; done)) ?_
                              (try simp only [Act.put, List.setIfInBounds_toArray, List.set_cons_zero, List.set_cons_succ])
                              refine mix_skip (o := { dst := some 198, op := Op.call { callee := Callee.value (Operand.func 61), args := #[Operand.tmp 192, Operand.tmp 197], argTypes := #[63, 2] }, type := 4, pos := "ref.go:219", after := #[{ on := 34, ground := Ground.data }, { on := 39, ground := Ground.data }, { on := 30, ground := Ground.chain }, { on := 30, ground := Ground.guard }], guard := some (30, false) }) rfl (by first | rfl | (simp [Region.wanted, yielded]; done)) ?_
                              (try simp only [Act.put, List.setIfInBounds_toArray, List.set_cons_zero, List.set_cons_succ])
                              (refine mix_read (o := { dst := some 199, op := Op.pick (Operand.tmp 188) (Operand.const (Value.bool true)) (Operand.tmp 198), type := 4, pos := "ref.go:219", after := #[{ on := 30, ground := Ground.data }, { on := 40, ground := Ground.data }], guard := none }) rfl (by first | rfl | (simp [Region.wanted, yielded]; done)) (by intro w_ hE_; (try dsimp only at hE_); subst hE_; first | (go_simp; done) | (go_simp; rfl)) ?_)
                              (try simp only [Act.put, List.setIfInBounds_toArray, List.set_cons_zero, List.set_cons_succ])
                              refine mix_nil ?_
                              (try simp only [Exit.then])
                              go_wp2
                              go_ret
                              exact ⟨by rw [HPX.out kd]; rfl, (by first | exact HBZ.out.trans (HBw.out.mono HWS.out) | (rw [hx]; exact HBZ.out.trans (HBw.out.mono HWS.out)))⟩
                          · have k3 : (1125899906842624 < o) = False := eq_false q1
                            by_cases q2 : o2 < 0
                            · have k4 : (o2 < 0) = True := eq_true q2
                              have kd : PE = false := HPJ.out (by omega)
                              clear q0
                              clear q1
                              clear q2
                              as_aux_lemma =>
                                go_wp2_with fail
                                refine wp_region_mix (fun w_ w1_ => w_ = w1_) [(false, 0), (false, 1), (false, 2), (false, 3), (false, 4), (false, 5), (false, 6), (false, 7), (false, 8), (false, 9), (false, 10), (false, 11), (false, 12), (false, 13), (false, 14), (false, 15), (false, 16), (false, 17), (false, 18), (false, 19), (false, 20), (false, 21), (false, 22), (false, 23), (false, 24), (false, 25), (false, 26), (false, 27), (false, 28), (false, 29), (false, 30), (false, 31), (false, 32), (false, 33), (false, 34), (false, 35), (false, 36), (false, 37), (false, 38), (false, 39), (true, 40), (false, 41)] (by kernel_rfl) (by kernel_rfl) (fun _ => rfl) (fun h h' => h.trans h') (fun wd hhp_ hbw_ => ?_)
                                have hpw := blk_below HPr.out hbw_
                                have y1_ : wd.cell? ⟨p, 1, none⟩ = some (.slice (some ad1) n2 d1) := blk_cell hpw 1
                                have y2_ : wd.cell? ⟨p, 2, none⟩ = some (.slice (some ad2) n2 d2) := blk_cell hpw 2
                                have y3_ := pw_cell_below hbw_ h01
                                have y4_ := pw_cell_below hbw_ h02
                                have HBw := Aside0.mk (below_step HBr.out hbw_)
                                clear hhp_ hbw_ hpw h01 h02
                                (refine mix_read (o := { dst := some 158, op := Op.fieldAddr 90 (Operand.tmp 6) 1, type := 0, pos := "ref.go:219", after := #[], guard := none }) rfl (by first | rfl | (simp [Region.wanted, yielded]; done)) (by intro w_ hE_; (try dsimp only at hE_); subst hE_; first | (go_simp; done) | (go_simp; rfl)) ?_)
                                (try simp only [Act.put, List.setIfInBounds_toArray, List.set_cons_zero, List.set_cons_succ])
                                (refine mix_read (o := { dst := some 159, op := Op.load 63 (Operand.tmp 158), type := 63, pos := "ref.go:219", after := #[{ on := 0, ground := Ground.data }], guard := none }) rfl (by first | rfl | (simp [Region.wanted, yielded]; done)) (by intro w_ hE_; (try dsimp only at hE_); subst hE_; first | (go_simp; done) | (go_simp; rfl)) ?_)
                                (try simp only [Act.put, List.setIfInBounds_toArray, List.set_cons_zero, List.set_cons_succ])
                                (refine mix_read (o := { dst := some 160, op := Op.move (Operand.tmp 7), type := 3, pos := "ref.go:219", after := #[], guard := none }) rfl (by first | rfl | (simp [Region.wanted, yielded]; done)) (by intro w_ hE_; (try dsimp only at hE_); subst hE_; first | (go_simp; done) | (go_simp; rfl)) ?_)
                                (try simp only [Act.put, List.setIfInBounds_toArray, List.set_cons_zero, List.set_cons_succ])
                                (refine mix_read (o := { dst := some 161, op := Op.indexAddr 63 (Operand.tmp 159) (Operand.tmp 160), type := 0, pos := "ref.go:219", after := #[{ on := 1, ground := Ground.data }, { on := 2, ground := Ground.data }], guard := none }) rfl (by first | rfl | (simp [Region.wanted, yielded]; done)) (by intro w_ hE_; (try dsimp only at hE_); subst hE_; first | (go_simp; done) | (go_simp; rfl)) ?_)
                                (try simp only [Act.put, List.setIfInBounds_toArray, List.set_cons_zero, List.set_cons_succ])
                                (refine mix_read (o := { dst := some 162, op := Op.load 2 (Operand.tmp 161), type := 2, pos := "ref.go:219", after := #[{ on := 3, ground := Ground.data }], guard := none }) rfl (by first | rfl | (simp [Region.wanted, yielded]; done)) (by intro w_ hE_; (try dsimp only at hE_); subst hE_; first | (go_simp; done) | (go_simp; rfl)) ?_)
                                (try simp only [Act.put, List.setIfInBounds_toArray, List.set_cons_zero, List.set_cons_succ])
                                (refine mix_read (o := { dst := some 163, op := Op.binOp BinOp.lss 2 (Operand.tmp 162) (Operand.const (Value.int IntKind.i64 1)) 2, type := 4, pos := "ref.go:219", after := #[{ on := 4, ground := Ground.data }], guard := none }) rfl (by first | rfl | (simp [Region.wanted, yielded]; done)) (by intro w_ hE_; (try dsimp only at hE_); subst hE_; first | (go_simp; done) | (go_simp; rfl)) ?_)
                                (try simp only [Act.put, List.setIfInBounds_toArray, List.set_cons_zero, List.set_cons_succ])
                                (refine mix_read (o := { dst := some 164, op := Op.move (Operand.tmp 163), type := 4, pos := "ref.go:219", after := #[{ on := 5, ground := Ground.data }], guard := none }) rfl (by first | rfl | (simp [Region.wanted, yielded]; done)) (by intro w_ hE_; (try dsimp only at hE_); subst hE_; first | (go_simp; done) | (go_simp; rfl)) ?_)
                                (try simp only [Act.put, List.setIfInBounds_toArray, List.set_cons_zero, List.set_cons_succ])
                                first | (refine mix_read (o := { dst := some 165, op := Op.fieldAddr 90 (Operand.tmp 6) 1, type := 0, pos := "ref.go:219", after := #[{ on := 6, ground := Ground.guard }], guard := some (6, false) }) rfl (by first | rfl | (simp [Region.wanted, yielded]; done)) (by intro w_ hE_; (try dsimp only at hE_); subst hE_; first | (go_simp; done) | (go_simp; rfl)) ?_) | (refine mix_skip (o := { dst := some 165, op := Op.fieldAddr 90 (Operand.tmp 6) 1, type := 0, pos := "ref.go:219", after := #[{ on := 6, ground := Ground.guard }], guard := some (6, false) }) rfl (by first | rfl | (simp [Region.wanted, yielded]; done)) ?_)
                                (try simp only [Act.put, List.setIfInBounds_toArray, List.set_cons_zero, List.set_cons_succ])
                                first | (refine mix_read (o := { dst := some 166, op := Op.load 63 (Operand.tmp 165), type := 63, pos := "ref.go:219", after := #[{ on := 7, ground := Ground.data }, { on := 6, ground := Ground.guard }], guard := some (6, false) }) rfl (by first | rfl | (simp [Region.wanted, yielded]; done)) (by intro w_ hE_; (try dsimp only at hE_); subst hE_; first | (go_simp; done) | (go_simp; rfl)) ?_) | (refine mix_skip (o := { dst := some 166, op := Op.load 63 (Operand.tmp 165), type := 63, pos := "ref.go:219", after := #[{ on := 7, ground := Ground.data }, { on := 6, ground := Ground.guard }], guard := some (6, false) }) rfl (by first | rfl | (simp [Region.wanted, yielded]; done)) ?_)
                                (try simp only [Act.put, List.setIfInBounds_toArray, List.set_cons_zero, List.set_cons_succ])
                                first | (refine mix_read (o := { dst := some 167, op := Op.move (Operand.tmp 7), type := 3, pos := "ref.go:219", after := #[{ on := 6, ground := Ground.guard }], guard := some (6, false) }) rfl (by first | rfl | (simp [Region.wanted, yielded]; done)) (by intro w_ hE_; (try dsimp only at hE_); subst hE_; first | (go_simp; done) | (go_simp; rfl)) ?_) | (refine mix_skip (o := { dst := some 167, op := Op.move (Operand.tmp 7), type := 3, pos := "ref.go:219", after := #[{ on := 6, ground := Ground.guard }], guard := some (6, false) }) rfl (by first | rfl | (simp [Region.wanted, yielded]; done)) ?_)
                                (try simp only [Act.put, List.setIfInBounds_toArray, List.set_cons_zero, List.set_cons_succ])
                                first | (refine mix_read (o := { dst := some 168, op := Op.indexAddr 63 (Operand.tmp 166) (Operand.tmp 167), type := 0, pos := "ref.go:219", after := #[{ on := 8, ground := Ground.data }, { on := 9, ground := Ground.data }, { on := 6, ground := Ground.guard }], guard := some (6, false) }) rfl (by first | rfl | (simp [Region.wanted, yielded]; done)) (by intro w_ hE_; (try dsimp only at hE_); subst hE_; first | (go_simp; done) | (go_simp; rfl)) ?_) | (refine mix_skip (o := { dst := some 168, op := Op.indexAddr 63 (Operand.tmp 166) (Operand.tmp 167), type := 0, pos := "ref.go:219", after := #[{ on := 8, ground := Ground.data }, { on := 9, ground := Ground.data }, { on := 6, ground := Ground.guard }], guard := some (6, false) }) rfl (by first | rfl | (simp [Region.wanted, yielded]; done)) ?_)
                                (try simp only [Act.put, List.setIfInBounds_toArray, List.set_cons_zero, List.set_cons_succ])
                                first | (refine mix_read (o := { dst := some 169, op := Op.load 2 (Operand.tmp 168), type := 2, pos := "ref.go:219", after := #[{ on := 10, ground := Ground.data }, { on := 6, ground := Ground.guard }], guard := some (6, false) }) rfl (by first | rfl | (simp [Region.wanted, yielded]; done)) (by intro w_ hE_; (try dsimp only at hE_); subst hE_; first | (go_simp; done) | (go_simp; rfl)) ?_) | (refine mix_skip (o := { dst := some 169, op := Op.load 2 (Operand.tmp 168), type := 2, pos := "ref.go:219", after := #[{ on := 10, ground := Ground.data }, { on := 6, ground := Ground.guard }], guard := some (6, false) }) rfl (by first | rfl | (simp [Region.wanted, yielded]; done)) ?_)
                                (try simp only [Act.put, List.setIfInBounds_toArray, List.set_cons_zero, List.set_cons_succ])
                                first | (refine mix_read (o := { dst := some 170, op := Op.binOp BinOp.gtr 2 (Operand.tmp 169) (Operand.const (Value.int IntKind.i64 1125899906842624)) 2, type := 4, pos := "ref.go:219", after := #[{ on := 11, ground := Ground.data }, { on := 6, ground := Ground.guard }], guard := some (6, false) }) rfl (by first | rfl | (simp [Region.wanted, yielded]; done)) (by intro w_ hE_; (try dsimp only at hE_); subst hE_; first | (go_simp; done) | (go_simp; rfl)) ?_) | (refine mix_skip (o := { dst := some 170, op := Op.binOp BinOp.gtr 2 (Operand.tmp 169) (Operand.const (Value.int IntKind.i64 1125899906842624)) 2, type := 4, pos := "ref.go:219", after := #[{ on := 11, ground := Ground.data }, { on := 6, ground := Ground.guard }], guard := some (6, false) }) rfl (by first | rfl | (simp [Region.wanted, yielded]; done)) ?_)
                                (try simp only [Act.put, List.setIfInBounds_toArray, List.set_cons_zero, List.set_cons_succ])
                                (refine mix_read (o := { dst := some 171, op := Op.pick (Operand.tmp 164) (Operand.const (Value.bool true)) (Operand.tmp 170), type := 4, pos := "ref.go:219", after := #[{ on := 6, ground := Ground.data }, { on := 12, ground := Ground.data }], guard := none }) rfl (by first | rfl | (simp [Region.wanted, yielded]; done)) (by intro w_ hE_; (try dsimp only at hE_); subst hE_; first | (go_simp; done) | (go_simp; rfl)) ?_)
                                (try simp only [Act.put, List.setIfInBounds_toArray, List.set_cons_zero, List.set_cons_succ])
                                (refine mix_read (o := { dst := some 172, op := Op.move (Operand.tmp 171), type := 4, pos := "ref.go:219", after := #[{ on := 13, ground := Ground.data }, { on := 6, ground := Ground.chain }], guard := none }) rfl (by first | rfl | (simp [Region.wanted, yielded]; done)) (by intro w_ hE_; (try dsimp only at hE_); subst hE_; first | (go_simp; done) | (go_simp; rfl)) ?_)
                                (try simp only [Act.put, List.setIfInBounds_toArray, List.set_cons_zero, List.set_cons_succ])
                                first | (refine mix_read (o := { dst := some 173, op := Op.fieldAddr 90 (Operand.tmp 6) 2, type := 0, pos := "ref.go:219", after := #[{ on := 14, ground := Ground.guard }], guard := some (14, false) }) rfl (by first | rfl | (simp [Region.wanted, yielded]; done)) (by intro w_ hE_; (try dsimp only at hE_); subst hE_; first | (go_simp; done) | (go_simp; rfl)) ?_) | (refine mix_skip (o := { dst := some 173, op := Op.fieldAddr 90 (Operand.tmp 6) 2, type := 0, pos := "ref.go:219", after := #[{ on := 14, ground := Ground.guard }], guard := some (14, false) }) rfl (by first | rfl | (simp [Region.wanted, yielded]; done)) ?_)
                                (try simp only [Act.put, List.setIfInBounds_toArray, List.set_cons_zero, List.set_cons_succ])
                                first | (refine mix_read (o := { dst := some 174, op := Op.load 60 (Operand.tmp 173), type := 60, pos := "ref.go:219", after := #[{ on := 15, ground := Ground.data }, { on := 14, ground := Ground.guard }], guard := some (14, false) }) rfl (by first | rfl | (simp [Region.wanted, yielded]; done)) (by intro w_ hE_; (try dsimp only at hE_); subst hE_; first | (go_simp; done) | (go_simp; rfl)) ?_) | (refine mix_skip (o := { dst := some 174, op := Op.load 60 (Operand.tmp 173), type := 60, pos := "ref.go:219", after := #[{ on := 15, ground := Ground.data }, { on := 14, ground := Ground.guard }], guard := some (14, false) }) rfl (by first | rfl | (simp [Region.wanted, yielded]; done)) ?_)
                                (try simp only [Act.put, List.setIfInBounds_toArray, List.set_cons_zero, List.set_cons_succ])
                                first | (refine mix_read (o := { dst := some 175, op := Op.move (Operand.tmp 7), type := 3, pos := "ref.go:219", after := #[{ on := 14, ground := Ground.guard }], guard := some (14, false) }) rfl (by first | rfl | (simp [Region.wanted, yielded]; done)) (by intro w_ hE_; (try dsimp only at hE_); subst hE_; first | (go_simp; done) | (go_simp; rfl)) ?_) | (refine mix_skip (o := { dst := some 175, op := Op.move (Operand.tmp 7), type := 3, pos := "ref.go:219", after := #[{ on := 14, ground := Ground.guard }], guard := some (14, false) }) rfl (by first | rfl | (simp [Region.wanted, yielded]; done)) ?_)
                                (try simp only [Act.put, List.setIfInBounds_toArray, List.set_cons_zero, List.set_cons_succ])
                                first | (refine mix_read (o := { dst := some 176, op := Op.indexAddr 60 (Operand.tmp 174) (Operand.tmp 175), type := 0, pos := "ref.go:219", after := #[{ on := 16, ground := Ground.data }, { on := 17, ground := Ground.data }, { on := 14, ground := Ground.guard }], guard := some (14, false) }) rfl (by first | rfl | (simp [Region.wanted, yielded]; done)) (by intro w_ hE_; (try dsimp only at hE_); subst hE_; first | (go_simp; done) | (go_simp; rfl)) ?_) | (refine mix_skip (o := { dst := some 176, op := Op.indexAddr 60 (Operand.tmp 174) (Operand.tmp 175), type := 0, pos := "ref.go:219", after := #[{ on := 16, ground := Ground.data }, { on := 17, ground := Ground.data }, { on := 14, ground := Ground.guard }], guard := some (14, false) }) rfl (by first | rfl | (simp [Region.wanted, yielded]; done)) ?_)
                                (try simp only [Act.put, List.setIfInBounds_toArray, List.set_cons_zero, List.set_cons_succ])
                                first | (refine mix_read (o := { dst := some 177, op := Op.load 3 (Operand.tmp 176), type := 3, pos := "ref.go:219", after := #[{ on := 18, ground := Ground.data }, { on := 14, ground := Ground.guard }], guard := some (14, false) }) rfl (by first | rfl | (simp [Region.wanted, yielded]; done)) (by intro w_ hE_; (try dsimp only at hE_); subst hE_; first | (go_simp; done) | (go_simp; rfl)) ?_) | (refine mix_skip (o := { dst := some 177, op := Op.load 3 (Operand.tmp 176), type := 3, pos := "ref.go:219", after := #[{ on := 18, ground := Ground.data }, { on := 14, ground := Ground.guard }], guard := some (14, false) }) rfl (by first | rfl | (simp [Region.wanted, yielded]; done)) ?_)
                                (try simp only [Act.put, List.setIfInBounds_toArray, List.set_cons_zero, List.set_cons_succ])
                                first | (refine mix_read (o := { dst := some 178, op := Op.binOp BinOp.lss 3 (Operand.tmp 177) (Operand.const (Value.int IntKind.i64 0)) 3, type := 4, pos := "ref.go:219", after := #[{ on := 19, ground := Ground.data }, { on := 14, ground := Ground.guard }], guard := some (14, false) }) rfl (by first | rfl | (simp [Region.wanted, yielded]; done)) (by intro w_ hE_; (try dsimp only at hE_); subst hE_; first | (go_simp; done) | (go_simp; rfl)) ?_) | (refine mix_skip (o := { dst := some 178, op := Op.binOp BinOp.lss 3 (Operand.tmp 177) (Operand.const (Value.int IntKind.i64 0)) 3, type := 4, pos := "ref.go:219", after := #[{ on := 19, ground := Ground.data }, { on := 14, ground := Ground.guard }], guard := some (14, false) }) rfl (by first | rfl | (simp [Region.wanted, yielded]; done)) ?_)
                                (try simp only [Act.put, List.setIfInBounds_toArray, List.set_cons_zero, List.set_cons_succ])
                                (refine mix_read (o := { dst := some 179, op := Op.pick (Operand.tmp 172) (Operand.const (Value.bool true)) (Operand.tmp 178), type := 4, pos := "ref.go:219", after := #[{ on := 14, ground := Ground.data }, { on := 20, ground := Ground.data }], guard := none }) rfl (by first | rfl | (simp [Region.wanted, yielded]; done)) (by intro w_ hE_; (try dsimp only at hE_); subst hE_; first | (go_simp; done) | (go_simp; rfl)) ?_)
                                (try simp only [Act.put, List.setIfInBounds_toArray, List.set_cons_zero, List.set_cons_succ])
                                (refine mix_read (o := { dst := some 180, op := Op.move (Operand.tmp 179), type := 4, pos := "ref.go:219", after := #[{ on := 21, ground := Ground.data }, { on := 14, ground := Ground.chain }], guard := none }) rfl (by first | rfl | (simp [Region.wanted, yielded]; done)) (by intro w_ hE_; (try dsimp only at hE_); subst hE_; first | (go_simp; done) | (go_simp; rfl)) ?_)
                                (try simp only [Act.put, List.setIfInBounds_toArray, List.set_cons_zero, List.set_cons_succ])
                                refine mix_skip (o := { dst := some 181, op := Op.fieldAddr 90 (Operand.tmp 6) 2, type := 0, pos := "ref.go:219", after := #[{ on := 22, ground := Ground.guard }], guard := some (22, false) }) rfl (by first | rfl | (simp [Region.wanted, yielded]; done)) ?_
                                (try simp only [Act.put, List.setIfInBounds_toArray, List.set_cons_zero, List.set_cons_succ])
                                refine mix_skip (o := { dst := some 182, op := Op.load 60 (Operand.tmp 181), type := 60, pos := "ref.go:219", after := #[{ on := 23, ground := Ground.data }, { on := 22, ground := Ground.guard }], guard := some (22, false) }) rfl (by first | rfl | (simp [Region.wanted, yielded]; done)) ?_
                                (try simp only [Act.put, List.setIfInBounds_toArray, List.set_cons_zero, List.set_cons_succ])
                                refine mix_skip (o := { dst := some 183, op := Op.move (Operand.tmp 7), type := 3, pos := "ref.go:219", after := #[{ on := 22, ground := Ground.guard }], guard := some (22, false) }) rfl (by first | rfl | (simp [Region.wanted, yielded]; done)) ?_
                                (try simp only [Act.put, List.setIfInBounds_toArray, List.set_cons_zero, List.set_cons_succ])
                                refine mix_skip (o := { dst := some 184, op := Op.indexAddr 60 (Operand.tmp 182) (Operand.tmp 183), type := 0, pos := "ref.go:219", after := #[{ on := 24, ground := Ground.data }, { on := 25, ground := Ground.data }, { on := 22, ground := Ground.guard }], guard := some (22, false) }) rfl (by first | rfl | (simp [Region.wanted, yielded]; done)) ?_
                                (try simp only [Act.put, List.setIfInBounds_toArray, List.set_cons_zero, List.set_cons_succ])
                                refine mix_skip (o := { dst := some 185, op := Op.load 3 (Operand.tmp 184), type := 3, pos := "ref.go:219", after := #[{ on := 26, ground := Ground.data }, { on := 22, ground := Ground.guard }], guard := some (22, false) }) rfl (by first | rfl | (simp [Region.wanted, yielded]; done)) ?_
                                (try simp only [Act.put, List.setIfInBounds_toArray, List.set_cons_zero, List.set_cons_succ])
                                refine mix_skip (o := { dst := some 186, op := Op.binOp BinOp.gtr 3 (Operand.tmp 185) (Operand.const (Value.int IntKind.i64 4194304)) 3, type := 4, pos := "ref.go:219", after := #[{ on := 27, ground := Ground.data }, { on := 22, ground := Ground.guard }], guard := some (22, false) }) rfl (by first | rfl | (simp [Region.wanted, yielded]; done)) ?_
                                (try simp only [Act.put, List.setIfInBounds_toArray, List.set_cons_zero, List.set_cons_succ])
                                (refine mix_read (o := { dst := some 187, op := Op.pick (Operand.tmp 180) (Operand.const (Value.bool true)) (Operand.tmp 186), type := 4, pos := "ref.go:219", after := #[{ on := 22, ground := Ground.data }, { on := 28, ground := Ground.data }], guard := none }) rfl (by first | rfl | (simp [Region.wanted, yielded]; done)) (by intro w_ hE_; (try dsimp only at hE_); subst hE_; first | (go_simp; done) | (go_simp; rfl)) ?_)
                                (try simp only [Act.put, List.setIfInBounds_toArray, List.set_cons_zero, List.set_cons_succ])
                                (refine mix_read (o := { dst := some 188, op := Op.move (Operand.tmp 187), type := 4, pos := "ref.go:219", after := #[{ on := 29, ground := Ground.data }, { on := 22, ground := Ground.chain }], guard := none }) rfl (by first | rfl | (simp [Region.wanted, yielded]; done)) (by intro w_ hE_; (try dsimp only at hE_); subst hE_; first | (go_simp; done) | (go_simp; rfl)) ?_)
                                (try simp only [Act.put, List.setIfInBounds_toArray, List.set_cons_zero, List.set_cons_succ])
                                refine mix_skip (o := { dst := some 189, op := Op.fieldAddr 90 (Operand.tmp 6) 1, type := 0, pos := "ref.go:219", after := #[{ on := 30, ground := Ground.guard }], guard := some (30, false) }) rfl (by first | rfl | (simp [Region.wanted, yielded]; done)) ?_
                                (try simp only [Act.put, List.setIfInBounds_toArray, List.set_cons_zero, List.set_cons_succ])
                                refine mix_skip (o := { dst := some 190, op := Op.load 63 (Operand.tmp 189), type := 63, pos := "ref.go:219", after := #[{ on := 31, ground := Ground.data }, { on := 30, ground := Ground.guard }], guard := some (30, false) }) rfl (by first | rfl | (simp [Region.wanted, yielded]; done)) ?_
                                (try simp only [Act.put, List.setIfInBounds_toArray, List.set_cons_zero, List.set_cons_succ])
                                refine mix_skip (o := { dst := some 191, op := Op.move (Operand.tmp 7), type := 3, pos := "ref.go:219", after := #[{ on := 30, ground := Ground.guard }], guard := some (30, false) }) rfl (by first | rfl | (simp [Region.wanted, yielded]; done)) ?_
                                (try simp only [Act.put, List.setIfInBounds_toArray, List.set_cons_zero, List.set_cons_succ])
                                refine mix_skip (o := { dst := some 192, op := Op.slice 63 (Operand.tmp 190) none (some (Operand.tmp 191)) none, type := 63, pos := "ref.go:219", after := #[{ on := 32, ground := Ground.data }, { on := 33, ground := Ground.data }, { on := 30, ground := Ground.guard }], guard := some (30, false) }) rfl (by first | rfl | (simp [Region.wanted, yielded]; done)) ?_
                                (try simp only [Act.put, List.setIfInBounds_toArray, List.set_cons_zero, List.set_cons_succ])
                                refine mix_skip (o := { dst := some 193, op := Op.fieldAddr 90 (Operand.tmp 6) 1, type := 0, pos := "ref.go:219", after := #[{ on := 30, ground := Ground.guard }], guard := some (30, false) }) rfl (by first | rfl | (simp [Region.wanted, yielded]; done)) ?_
                                (try simp only [Act.put, List.setIfInBounds_toArray, List.set_cons_zero, List.set_cons_succ])
                                refine mix_skip (o := { dst := some 194, op := Op.load 63 (Operand.tmp 193), type := 63, pos := "ref.go:219", after := #[{ on := 35, ground := Ground.data }, { on := 30, ground := Ground.guard }], guard := some (30, false) }) rfl (by first | rfl | (simp [Region.wanted, yielded]; done)) ?_
                                (try simp only [Act.put, List.setIfInBounds_toArray, List.set_cons_zero, List.set_cons_succ])
                                refine mix_skip (o := { dst := some 195, op := Op.move (Operand.tmp 7), type := 3, pos := "ref.go:219", after := #[{ on := 30, ground := Ground.guard }], guard := some (30, false) }) rfl (by first | rfl | (simp [Region.wanted, yielded]; done)) ?_
                                (try simp only [Act.put, List.setIfInBounds_toArray, List.set_cons_zero, List.set_cons_succ])
                                refine mix_skip (o := { dst := some 196, op := Op.indexAddr 63 (Operand.tmp 194) (Operand.tmp 195), type := 0, pos := "ref.go:219", after := #[{ on := 36, ground := Ground.data }, { on := 37, ground := Ground.data }, { on := 30, ground := Ground.guard }], guard := some (30, false) }) rfl (by first | rfl | (simp [Region.wanted, yielded]; done)) ?_
                                (try simp only [Act.put, List.setIfInBounds_toArray, List.set_cons_zero, List.set_cons_succ])
                                refine mix_skip (o := { dst := some 197, op := Op.load 2 (Operand.tmp 196), type := 2, pos := "ref.go:219", after := #[{ on := 38, ground := Ground.data }, { on := 30, ground := Ground.guard }], guard := some (30, false) }) rfl (by first | rfl | (simp [Region.wanted, yielded]; done)) ?_
                                (try simp only [Act.put, List.setIfInBounds_toArray, List.set_cons_zero, List.set_cons_succ])
                                refine mix_skip (o := { dst := some 198, op := Op.call { callee := Callee.value (Operand.func 61), args := #[Operand.tmp 192, Operand.tmp 197], argTypes := #[63, 2] }, type := 4, pos := "ref.go:219", after := #[{ on := 34, ground := Ground.data }, { on := 39, ground := Ground.data }, { on := 30, ground := Ground.chain }, { on := 30, ground := Ground.guard }], guard := some (30, false) }) rfl (by first | rfl | (simp [Region.wanted, yielded]; done)) ?_
                                (try simp only [Act.put, List.setIfInBounds_toArray, List.set_cons_zero, List.set_cons_succ])
                                (refine mix_read (o := { dst := some 199, op := Op.pick (Operand.tmp 188) (Operand.const (Value.bool true)) (Operand.tmp 198), type := 4, pos := "ref.go:219", after := #[{ on := 30, ground := Ground.data }, { on := 40, ground := Ground.data }], guard := none }) rfl (by first | rfl | (simp [Region.wanted, yielded]; done)) (by intro w_ hE_; (try dsimp only at hE_); subst hE_; first | (go_simp; done) | (go_simp; rfl)) ?_)
                                (try simp only [Act.put, List.setIfInBounds_toArray, List.set_cons_zero, List.set_cons_succ])
                                refine mix_nil ?_
                                (try simp only [Exit.then])
                                go_wp2
                                go_ret
                                exact ⟨by rw [HPX.out kd]; rfl, (by first | exact HBZ.out.trans (HBw.out.mono HWS.out) | (rw [hx]; exact HBZ.out.trans (HBw.out.mono HWS.out)))⟩
                            · have k4 : (o2 < 0) = False := eq_false q2
                              by_cases q3 : 4194304 < o2
                              · have k5 : (4194304 < o2) = True := eq_true q3
                                have kd : PE = false := HPJ.out (by omega)
                                clear q0
                                clear q1
                                clear q2
                                clear q3
                                as_aux_lemma =>
                                  go_wp2_with fail
                                  refine wp_region_mix (fun w_ w1_ => w_ = w1_) [(false, 0), (false, 1), (false, 2), (false, 3), (false, 4), (false, 5), (false, 6), (false, 7), (false, 8), (false, 9), (false, 10), (false, 11), (false, 12), (false, 13), (false, 14), (false, 15), (false, 16), (false, 17), (false, 18), (false, 19), (false, 20), (false, 21), (false, 22), (false, 23), (false, 24), (false, 25), (false, 26), (false, 27), (false, 28), (false, 29), (false, 30), (false, 31), (false, 32), (false, 33), (false, 34), (false, 35), (false, 36), (false, 37), (false, 38), (false, 39), (true, 40), (false, 41)] (by kernel_rfl) (by kernel_rfl) (fun _ => rfl) (fun h h' => h.trans h') (fun wd hhp_ hbw_ => ?_)
                                  have hpw := blk_below HPr.out hbw_
                                  have y1_ : wd.cell? ⟨p, 1, none⟩ = some (.slice (some ad1) n2 d1) := blk_cell hpw 1
                                  have y2_ : wd.cell? ⟨p, 2, none⟩ = some (.slice (some ad2) n2 d2) := blk_cell hpw 2
                                  have y3_ := pw_cell_below hbw_ h01
                                  have y4_ := pw_cell_below hbw_ h02
                                  have HBw := Aside0.mk (below_step HBr.out hbw_)
                                  clear hhp_ hbw_ hpw h01 h02
                                  (refine mix_read (o := { dst := some 158, op := Op.fieldAddr 90 (Operand.tmp 6) 1, type := 0, pos := "ref.go:219", after := #[], guard := none }) rfl (by first | rfl | (simp [Region.wanted, yielded]; done)) (by intro w_ hE_; (try dsimp only at hE_); subst hE_; first | (go_simp; done) | (go_simp; rfl)) ?_)
                                  (try simp only [Act.put, List.setIfInBounds_toArray, List.set_cons_zero, List.set_cons_succ])
                                  (refine mix_read (o := { dst := some 159, op := Op.load 63 (Operand.tmp 158), type := 63, pos := "ref.go:219", after := #[{ on := 0, ground := Ground.data }], guard := none }) rfl (by first | rfl | (simp [Region.wanted, yielded]; done)) (by intro w_ hE_; (try dsimp only at hE_); subst hE_; first | (go_simp; done) | (go_simp; rfl)) ?_)
                                  (try simp only [Act.put, List.setIfInBounds_toArray, List.set_cons_zero, List.set_cons_succ])
                                  (refine mix_read (o := { dst := some 160, op := Op.move (Operand.tmp 7), type := 3, pos := "ref.go:219", after := #[], guard := none }) rfl (by first | rfl | (simp [Region.wanted, yielded]; done)) (by intro w_ hE_; (try dsimp only at hE_); subst hE_; first | (go_simp; done) | (go_simp; rfl)) ?_)
                                  (try simp only [Act.put, List.setIfInBounds_toArray, List.set_cons_zero, List.set_cons_succ])
                                  (refine mix_read (o := { dst := some 161, op := Op.indexAddr 63 (Operand.tmp 159) (Operand.tmp 160), type := 0, pos := "ref.go:219", after := #[{ on := 1, ground := Ground.data }, { on := 2, ground := Ground.data }], guard := none }) rfl (by first | rfl | (simp [Region.wanted, yielded]; done)) (by intro w_ hE_; (try dsimp only at hE_); subst hE_; first | (go_simp; done) | (go_simp; rfl)) ?_)
                                  (try simp only [Act.put, List.setIfInBounds_toArray, List.set_cons_zero, List.set_cons_succ])
                                  (refine mix_read (o := { dst := some 162, op := Op.load 2 (Operand.tmp 161), type := 2, pos := "ref.go:219", after := #[{ on := 3, ground := Ground.data }], guard := none }) rfl (by first | rfl | (simp [Region.wanted, yielded]; done)) (by intro w_ hE_; (try dsimp only at hE_); subst hE_; first | (go_simp; done) | (go_simp; rfl)) ?_)
                                  (try simp only [Act.put, List.setIfInBounds_toArray, List.set_cons_zero, List.set_cons_succ])
                                  (refine mix_read (o := { dst := some 163, op := Op.binOp BinOp.lss 2 (Operand.tmp 162) (Operand.const (Value.int IntKind.i64 1)) 2, type := 4, pos := "ref.go:219", after := #[{ on := 4, ground := Ground.data }], guard := none }) rfl (by first | rfl | (simp [Region.wanted, yielded]; done)) (by intro w_ hE_; (try dsimp only at hE_); subst hE_; first | (go_simp; done) | (go_simp; rfl)) ?_)
                                  (try simp only [Act.put, List.setIfInBounds_toArray, List.set_cons_zero, List.set_cons_succ])
                                  (refine mix_read (o := { dst := some 164, op := Op.move (Operand.tmp 163), type := 4, pos := "ref.go:219", after := #[{ on := 5, ground := Ground.data }], guard := none }) rfl (by first | rfl | (simp [Region.wanted, yielded]; done)) (by intro w_ hE_; (try dsimp only at hE_); subst hE_; first | (go_simp; done) | (go_simp; rfl)) ?_)
                                  (try simp only [Act.put, List.setIfInBounds_toArray, List.set_cons_zero, List.set_cons_succ])
                                  first | (refine mix_read (o := { dst := some 165, op := Op.fieldAddr 90 (Operand.tmp 6) 1, type := 0, pos := "ref.go:219", after := #[{ on := 6, ground := Ground.guard }], guard := some (6, false) }) rfl (by first | rfl | (simp [Region.wanted, yielded]; done)) (by intro w_ hE_; (try dsimp only at hE_); subst hE_; first | (go_simp; done) | (go_simp; rfl)) ?_) | (refine mix_skip (o := { dst := some 165, op := Op.fieldAddr 90 (Operand.tmp 6) 1, type := 0, pos := "ref.go:219", after := #[{ on := 6, ground := Ground.guard }], guard := some (6, false) }) rfl (by first | rfl | (simp [Region.wanted, yielded]; done)) ?_)
                                  (try simp only [Act.put, List.setIfInBounds_toArray, List.set_cons_zero, List.set_cons_succ])
                                  first | (refine mix_read (o := { dst := some 166, op := Op.load 63 (Operand.tmp 165), type := 63, pos := "ref.go:219", after := #[{ on := 7, ground := Ground.data }, { on := 6, ground := Ground.guard }], guard := some (6, false) }) rfl (by first | rfl | (simp [Region.wanted, yielded]; done)) (by intro w_ hE_; (try dsimp only at hE_); subst hE_; first | (go_simp; done) | (go_simp; rfl)) ?_) | (refine mix_skip (o := { dst := some 166, op := Op.load 63 (Operand.tmp 165), type := 63, pos := "ref.go:219", after := #[{ on := 7, ground := Ground.data }, { on := 6, ground := Ground.guard }], guard := some (6, false) }) rfl (by first | rfl | (simp [Region.wanted, yielded]; done)) ?_)
                                  (try simp only [Act.put, List.setIfInBounds_toArray, List.set_cons_zero, List.set_cons_succ])
                                  first | (refine mix_read (o := { dst := some 167, op := Op.move (Operand.tmp 7), type := 3, pos := "ref.go:219", after := #[{ on := 6, ground := Ground.guard }], guard := some (6, false) }) rfl (by first | rfl | (simp [Region.wanted, yielded]; done)) (by intro w_ hE_; (try dsimp only at hE_); subst hE_; first | (go_simp; done) | (go_simp; rfl)) ?_) | (refine mix_skip (o := { dst := some 167, op := Op.move (Operand.tmp 7), type := 3, pos := "ref.go:219", after := #[{ on := 6, ground := Ground.guard }], guard := some (6, false) }) rfl (by first | rfl | (simp [Region.wanted, yielded]; done)) ?_)
                                  (try simp only [Act.put, List.setIfInBounds_toArray, List.set_cons_zero, List.set_cons_succ])
                                  first | (refine mix_read (o := { dst := some 168, op := Op.indexAddr 63 (Operand.tmp 166) (Operand.tmp 167), type := 0, pos := "ref.go:219", after := #[{ on := 8, ground := Ground.data }, { on := 9, ground := Ground.data }, { on := 6, ground := Ground.guard }], guard := some (6, false) }) rfl (by first | rfl | (simp [Region.wanted, yielded]; done)) (by intro w_ hE_; (try dsimp only at hE_); subst hE_; first | (go_simp; done) | (go_simp; rfl)) ?_) | (refine mix_skip (o := { dst := some 168, op := Op.indexAddr 63 (Operand.tmp 166) (Operand.tmp 167), type := 0, pos := "ref.go:219", after := #[{ on := 8, ground := Ground.data }, { on := 9, ground := Ground.data }, { on := 6, ground := Ground.guard }], guard := some (6, false) }) rfl (by first | rfl | (simp [Region.wanted, yielded]; done)) ?_)
                                  (try simp only [Act.put, List.setIfInBounds_toArray, List.set_cons_zero, List.set_cons_succ])
                                  first | (refine mix_read (o := { dst := some 169, op := Op.load 2 (Operand.tmp 168), type := 2, pos := "ref.go:219", after := #[{ on := 10, ground := Ground.data }, { on := 6, ground := Ground.guard }], guard := some (6, false) }) rfl (by first | rfl | (simp [Region.wanted, yielded]; done)) (by intro w_ hE_; (try dsimp only at hE_); subst hE_; first | (go_simp; done) | (go_simp; rfl)) ?_) | (refine mix_skip (o := { dst := some 169, op := Op.load 2 (Operand.tmp 168), type := 2, pos := "ref.go:219", after := #[{ on := 10, ground := Ground.data }, { on := 6, ground := Ground.guard }], guard := some (6, false) }) rfl (by first | rfl | (simp [Region.wanted, yielded]; done)) ?_)
                                  (try simp only [Act.put, List.setIfInBounds_toArray, List.set_cons_zero, List.set_cons_succ])
                                  first | (refine mix_read (o := { dst := some 170, op := Op.binOp BinOp.gtr 2 (Operand.tmp 169) (Operand.const (Value.int IntKind.i64 1125899906842624)) 2, type := 4, pos := "ref.go:219", after := #[{ on := 11, ground := Ground.data }, { on := 6, ground := Ground.guard }], guard := some (6, false) }) rfl (by first | rfl | (simp [Region.wanted, yielded]; done)) (by intro w_ hE_; (try dsimp only at hE_); subst hE_; first | (go_simp; done) | (go_simp; rfl)) ?_) | (refine mix_skip (o := { dst := some 170, op := Op.binOp BinOp.gtr 2 (Operand.tmp 169) (Operand.const (Value.int IntKind.i64 1125899906842624)) 2, type := 4, pos := "ref.go:219", after := #[{ on := 11, ground := Ground.data }, { on := 6, ground := Ground.guard }], guard := some (6, false) }) rfl (by first | rfl | (simp [Region.wanted, yielded]; done)) ?_)
                                  (try simp only [Act.put, List.setIfInBounds_toArray, List.set_cons_zero, List.set_cons_succ])
                                  (refine mix_read (o := { dst := some 171, op := Op.pick (Operand.tmp 164) (Operand.const (Value.bool true)) (Operand.tmp 170), type := 4, pos := "ref.go:219", after := #[{ on := 6, ground := Ground.data }, { on := 12, ground := Ground.data }], guard := none }) rfl (by first | rfl | (simp [Region.wanted, yielded]; done)) (by intro w_ hE_; (try dsimp only at hE_); subst hE_; first | (go_simp; done) | (go_simp; rfl)) ?_)
                                  (try simp only [Act.put, List.setIfInBounds_toArray, List.set_cons_zero, List.set_cons_succ])
                                  (refine mix_read (o := { dst := some 172, op := Op.move (Operand.tmp 171), type := 4, pos := "ref.go:219", after := #[{ on := 13, ground := Ground.data }, { on := 6, ground := Ground.chain }], guard := none }) rfl (by first | rfl | (simp [Region.wanted, yielded]; done)) (by intro w_ hE_; (try dsimp only at hE_); subst hE_; first | (go_simp; done) | (go_simp; rfl)) ?_)
                                  (try simp only [Act.put, List.setIfInBounds_toArray, List.set_cons_zero, List.set_cons_succ])
                                  first | (refine mix_read (o := { dst := some 173, op := Op.fieldAddr 90 (Operand.tmp 6) 2, type := 0, pos := "ref.go:219", after := #[{ on := 14, ground := Ground.guard }], guard := some (14, false) }) rfl (by first | rfl | (simp [Region.wanted, yielded]; done)) (by intro w_ hE_; (try dsimp only at hE_); subst hE_; first | (go_simp; done) | (go_simp; rfl)) ?_) | (refine mix_skip (o := { dst := some 173, op := Op.fieldAddr 90 (Operand.tmp 6) 2, type := 0, pos := "ref.go:219", after := #[{ on := 14, ground := Ground.guard }], guard := some (14, false) }) rfl (by first | rfl | (simp [Region.wanted, yielded]; done)) ?_)
                                  (try simp only [Act.put, List.setIfInBounds_toArray, List.set_cons_zero, List.set_cons_succ])
                                  first | (refine mix_read (o := { dst := some 174, op := Op.load 60 (Operand.tmp 173), type := 60, pos := "ref.go:219", after := #[{ on := 15, ground := Ground.data }, { on := 14, ground := Ground.guard }], guard := some (14, false) }) rfl (by first | rfl | (simp [Region.wanted, yielded]; done)) (by intro w_ hE_; (try dsimp only at hE_); subst hE_; first | (go_simp; done) | (go_simp; rfl)) ?_) | (refine mix_skip (o := { dst := some 174, op := Op.load 60 (Operand.tmp 173), type := 60, pos := "ref.go:219", after := #[{ on := 15, ground := Ground.data }, { on := 14, ground := Ground.guard }], guard := some (14, false) }) rfl (by first | rfl | (simp [Region.wanted, yielded]; done)) ?_)
                                  (try simp only [Act.put, List.setIfInBounds_toArray, List.set_cons_zero, List.set_cons_succ])
                                  first | (refine mix_read (o := { dst := some 175, op := Op.move (Operand.tmp 7), type := 3, pos := "ref.go:219", after := #[{ on := 14, ground := Ground.guard }], guard := some (14, false) }) rfl (by first | rfl | (simp [Region.wanted, yielded]; done)) (by intro w_ hE_; (try dsimp only at hE_); subst hE_; first | (go_simp; done) | (go_simp; rfl)) ?_) | (refine mix_skip (o := { dst := some 175, op := Op.move (Operand.tmp 7), type := 3, pos := "ref.go:219", after := #[{ on := 14, ground := Ground.guard }], guard := some (14, false) }) rfl (by first | rfl | (simp [Region.wanted, yielded]; done)) ?_)
                                  (try simp only [Act.put, List.setIfInBounds_toArray, List.set_cons_zero, List.set_cons_succ])
                                  first | (refine mix_read (o := { dst := some 176, op := Op.indexAddr 60 (Operand.tmp 174) (Operand.tmp 175), type := 0, pos := "ref.go:219", after := #[{ on := 16, ground := Ground.data }, { on := 17, ground := Ground.data }, { on := 14, ground := Ground.guard }], guard := some (14, false) }) rfl (by first | rfl | (simp [Region.wanted, yielded]; done)) (by intro w_ hE_; (try dsimp only at hE_); subst hE_; first | (go_simp; done) | (go_simp; rfl)) ?_) | (refine mix_skip (o := { dst := some 176, op := Op.indexAddr 60 (Operand.tmp 174) (Operand.tmp 175), type := 0, pos := "ref.go:219", after := #[{ on := 16, ground := Ground.data }, { on := 17, ground := Ground.data }, { on := 14, ground := Ground.guard }], guard := some (14, false) }) rfl (by first | rfl | (simp [Region.wanted, yielded]; done)) ?_)
                                  (try simp only [Act.put, List.setIfInBounds_toArray, List.set_cons_zero, List.set_cons_succ])
                                  first | (refine mix_read (o := { dst := some 177, op := Op.load 3 (Operand.tmp 176), type := 3, pos := "ref.go:219", after := #[{ on := 18, ground := Ground.data }, { on := 14, ground := Ground.guard }], guard := some (14, false) }) rfl (by first | rfl | (simp [Region.wanted, yielded]; done)) (by intro w_ hE_; (try dsimp only at hE_); subst hE_; first | (go_simp; done) | (go_simp; rfl)) ?_) | (refine mix_skip (o := { dst := some 177, op := Op.load 3 (Operand.tmp 176), type := 3, pos := "ref.go:219", after := #[{ on := 18, ground := Ground.data }, { on := 14, ground := Ground.guard }], guard := some (14, false) }) rfl (by first | rfl | (simp [Region.wanted, yielded]; done)) ?_)
                                  (try simp only [Act.put, List.setIfInBounds_toArray, List.set_cons_zero, List.set_cons_succ])
                                  first | (refine mix_read (o := { dst := some 178, op := Op.binOp BinOp.lss 3 (Operand.tmp 177) (Operand.const (Value.int IntKind.i64 0)) 3, type := 4, pos := "ref.go:219", after := #[{ on := 19, ground := Ground.data }, { on := 14, ground := Ground.guard }], guard := some (14, false) }) rfl (by first | rfl | (simp [Region.wanted, yielded]; done)) (by intro w_ hE_; (try dsimp only at hE_); subst hE_; first | (go_simp; done) | (go_simp; rfl)) ?_) | (refine mix_skip (o := { dst := some 178, op := Op.binOp BinOp.lss 3 (Operand.tmp 177) (Operand.const (Value.int IntKind.i64 0)) 3, type := 4, pos := "ref.go:219", after := #[{ on := 19, ground := Ground.data }, { on := 14, ground := Ground.guard }], guard := some (14, false) }) rfl (by first | rfl | (simp [Region.wanted, yielded]; done)) ?_)
                                  (try simp only [Act.put, List.setIfInBounds_toArray, List.set_cons_zero, List.set_cons_succ])
                                  (refine mix_read (o := { dst := some 179, op := Op.pick (Operand.tmp 172) (Operand.const (Value.bool true)) (Operand.tmp 178), type := 4, pos := "ref.go:219", after := #[{ on := 14, ground := Ground.data }, { on := 20, ground := Ground.data }], guard := none }) rfl (by first | rfl | (simp [Region.wanted, yielded]; done)) (by intro w_ hE_; (try dsimp only at hE_); subst hE_; first | (go_simp; done) | (go_simp; rfl)) ?_)
                                  (try simp only [Act.put, List.setIfInBounds_toArray, List.set_cons_zero, List.set_cons_succ])
                                  (refine mix_read (o := { dst := some 180, op := Op.move (Operand.tmp 179), type := 4, pos := "ref.go:219", after := #[{ on := 21, ground := Ground.data }, { on := 14, ground := Ground.chain }], guard := none }) rfl (by first | rfl | (simp [Region.wanted, yielded]; done)) (by intro w_ hE_; (try dsimp only at hE_); subst hE_; first | (go_simp; done) | (go_simp; rfl)) ?_)
                                  (try simp only [Act.put, List.setIfInBounds_toArray, List.set_cons_zero, List.set_cons_succ])
                                  first | (refine mix_read (o := { dst := some 181, op := Op.fieldAddr 90 (Operand.tmp 6) 2, type := 0, pos := "ref.go:219", after := #[{ on := 22, ground := Ground.guard }], guard := some (22, false) }) rfl (by first | rfl | (simp [Region.wanted, yielded]; done)) (by intro w_ hE_; (try dsimp only at hE_); subst hE_; first | (go_simp; done) | (go_simp; rfl)) ?_) | (refine mix_skip (o := { dst := some 181, op := Op.fieldAddr 90 (Operand.tmp 6) 2, type := 0, pos := "ref.go:219", after := #[{ on := 22, ground := Ground.guard }], guard := some (22, false) }) rfl (by first | rfl | (simp [Region.wanted, yielded]; done)) ?_)
                                  (try simp only [Act.put, List.setIfInBounds_toArray, List.set_cons_zero, List.set_cons_succ])
                                  first | (refine mix_read (o := { dst := some 182, op := Op.load 60 (Operand.tmp 181), type := 60, pos := "ref.go:219", after := #[{ on := 23, ground := Ground.data }, { on := 22, ground := Ground.guard }], guard := some (22, false) }) rfl (by first | rfl | (simp [Region.wanted, yielded]; done)) (by intro w_ hE_; (try dsimp only at hE_); subst hE_; first | (go_simp; done) | (go_simp; rfl)) ?_) | (refine mix_skip (o := { dst := some 182, op := Op.load 60 (Operand.tmp 181), type := 60, pos := "ref.go:219", after := #[{ on := 23, ground := Ground.data }, { on := 22, ground := Ground.guard }], guard := some (22, false) }) rfl (by first | rfl | (simp [Region.wanted, yielded]; done)) ?_)
                                  (try simp only [Act.put, List.setIfInBounds_toArray, List.set_cons_zero, List.set_cons_succ])
                                  first | (refine mix_read (o := { dst := some 183, op := Op.move (Operand.tmp 7), type := 3, pos := "ref.go:219", after := #[{ on := 22, ground := Ground.guard }], guard := some (22, false) }) rfl (by first | rfl | (simp [Region.wanted, yielded]; done)) (by intro w_ hE_; (try dsimp only at hE_); subst hE_; first | (go_simp; done) | (go_simp; rfl)) ?_) | (refine mix_skip (o := { dst := some 183, op := Op.move (Operand.tmp 7), type := 3, pos := "ref.go:219", after := #[{ on := 22, ground := Ground.guard }], guard := some (22, false) }) rfl (by first | rfl | (simp [Region.wanted, yielded]; done)) ?_)
                                  (try simp only [Act.put, List.setIfInBounds_toArray, List.set_cons_zero, List.set_cons_succ])
                                  first | (refine mix_read (o := { dst := some 184, op := Op.indexAddr 60 (Operand.tmp 182) (Operand.tmp 183), type := 0, pos := "ref.go:219", after := #[{ on := 24, ground := Ground.data }, { on := 25, ground := Ground.data }, { on := 22, ground := Ground.guard }], guard := some (22, false) }) rfl (by first | rfl | (simp [Region.wanted, yielded]; done)) (by intro w_ hE_; (try dsimp only at hE_); subst hE_; first | (go_simp; done) | (go_simp; rfl)) ?_) | (refine mix_skip (o := { dst := some 184, op := Op.indexAddr 60 (Operand.tmp 182) (Operand.tmp 183), type := 0, pos := "ref.go:219", after := #[{ on := 24, ground := Ground.data }, { on := 25, ground := Ground.data }, { on := 22, ground := Ground.guard }], guard := some (22, false) }) rfl (by first | rfl | (simp [Region.wanted, yielded]; done)) ?_)
                                  (try simp only [Act.put, List.setIfInBounds_toArray, List.set_cons_zero, List.set_cons_succ])
                                  first | (refine mix_read (o := { dst := some 185, op := Op.load 3 (Operand.tmp 184), type := 3, pos := "ref.go:219", after := #[{ on := 26, ground := Ground.data }, { on := 22, ground := Ground.guard }], guard := some (22, false) }) rfl (by first | rfl | (simp [Region.wanted, yielded]; done)) (by intro w_ hE_; (try dsimp only at hE_); subst hE_; first | (go_simp; done) | (go_simp; rfl)) ?_) | (refine mix_skip (o := { dst := some 185, op := Op.load 3 (Operand.tmp 184), type := 3, pos := "ref.go:219", after := #[{ on := 26, ground := Ground.data }, { on := 22, ground := Ground.guard }], guard := some (22, false) }) rfl (by first | rfl | (simp [Region.wanted, yielded]; done)) ?_)
                                  (try simp only [Act.put, List.setIfInBounds_toArray, List.set_cons_zero, List.set_cons_succ])
                                  first | (refine mix_read (o := { dst := some 186, op := Op.binOp BinOp.gtr 3 (Operand.tmp 185) (Operand.const (Value.int IntKind.i64 4194304)) 3, type := 4, pos := "ref.go:219", after := #[{ on := 27, ground := Ground.data }, { on := 22, ground := Ground.guard }], guard := some (22, false) }) rfl (by first | rfl | (simp [Region.wanted, yielded]; done)) (by intro w_ hE_; (try dsimp only at hE_); subst hE_; first | (go_simp; done) | (go_simp; rfl)) ?_) | (refine mix_skip (o := { dst := some 186, op := Op.binOp BinOp.gtr 3 (Operand.tmp 185) (Operand.const (Value.int IntKind.i64 4194304)) 3, type := 4, pos := "ref.go:219", after := #[{ on := 27, ground := Ground.data }, { on := 22, ground := Ground.guard }], guard := some (22, false) }) rfl (by first | rfl | (simp [Region.wanted, yielded]; done)) ?_)
                                  (try simp only [Act.put, List.setIfInBounds_toArray, List.set_cons_zero, List.set_cons_succ])
                                  (refine mix_read (o := { dst := some 187, op := Op.pick (Operand.tmp 180) (Operand.const (Value.bool true)) (Operand.tmp 186), type := 4, pos := "ref.go:219", after := #[{ on := 22, ground := Ground.data }, { on := 28, ground := Ground.data }], guard := none }) rfl (by first | rfl | (simp [Region.wanted, yielded]; done)) (by intro w_ hE_; (try dsimp only at hE_); subst hE_; first | (go_simp; done) | (go_simp; rfl)) ?_)
                                  (try simp only [Act.put, List.setIfInBounds_toArray, List.set_cons_zero, List.set_cons_succ])
                                  (refine mix_read (o := { dst := some 188, op := Op.move (Operand.tmp 187), type := 4, pos := "ref.go:219", after := #[{ on := 29, ground := Ground.data }, { on := 22, ground := Ground.chain }], guard := none }) rfl (by first | rfl | (simp [Region.wanted, yielded]; done)) (by intro w_ hE_; (try dsimp only at hE_); subst hE_; first | (go_simp; done) | (go_simp; rfl)) ?_)
                                  (try simp only [Act.put, List.setIfInBounds_toArray, List.set_cons_zero, List.set_cons_succ])
                                  refine mix_skip (o := { dst := some 189, op := Op.fieldAddr 90 (Operand.tmp 6) 1, type := 0, pos := "ref.go:219", after := #[{ on := 30, ground := Ground.guard }], guard := some (30, false) }) rfl (by first | rfl | (simp [Region.wanted, yielded]; done)) ?_
                                  (try simp only [Act.put, List.setIfInBounds_toArray, List.set_cons_zero, List.set_cons_succ])
                                  refine mix_skip (o := { dst := some 190, op := Op.load 63 (Operand.tmp 189), type := 63, pos := "ref.go:219", after := #[{ on := 31, ground := Ground.data }, { on := 30, ground := Ground.guard }], guard := some (30, false) }) rfl (by first | rfl | (simp [Region.wanted, yielded]; done)) ?_
                                  (try simp only [Act.put, List.setIfInBounds_toArray, List.set_cons_zero, List.set_cons_succ])
                                  refine mix_skip (o := { dst := some 191, op := Op.move (Operand.tmp 7), type := 3, pos := "ref.go:219", after := #[{ on := 30, ground := Ground.guard }], guard := some (30, false) }) rfl (by first | rfl | (simp [Region.wanted, yielded]; done)) ?_
                                  (try simp only [Act.put, List.setIfInBounds_toArray, List.set_cons_zero, List.set_cons_succ])
                                  refine mix_skip (o := { dst := some 192, op := Op.slice 63 (Operand.tmp 190) none (some (Operand.tmp 191)) none, type := 63, pos := "ref.go:219", after := #[{ on := 32, ground := Ground.data }, { on := 33, ground := Ground.data }, { on := 30, ground := Ground.guard }], guard := some (30, false) }) rfl (by first | rfl | (simp [Region.wanted, yielded]; done)) ?_
                                  (try simp only [Act.put, List.setIfInBounds_toArray, List.set_cons_zero, List.set_cons_succ])
                                  refine mix_skip (o := { dst := some 193, op := Op.fieldAddr 90 (Operand.tmp 6) 1, type := 0, pos := "ref.go:219", after := #[{ on := 30, ground := Ground.guard }], guard := some (30, false) }) rfl (by first | rfl | (simp [Region.wanted, yielded]; done)) ?_
                                  (try simp only [Act.put, List.setIfInBounds_toArray, List.set_cons_zero, List.set_cons_succ])
                                  refine mix_skip (o := { dst := some 194, op := Op.load 63 (Operand.tmp 193), type := 63, pos := "ref.go:219", after := #[{ on := 35, ground := Ground.data }, { on := 30, ground := Ground.guard }], guard := some (30, false) }) rfl (by first | rfl | (simp [Region.wanted, yielded]; done)) ?_
                                  (try simp only [Act.put, List.setIfInBounds_toArray, List.set_cons_zero, List.set_cons_succ])
                                  refine mix_skip (o := { dst := some 195, op := Op.move (Operand.tmp 7), type := 3, pos := "ref.go:219", after := #[{ on := 30, ground := Ground.guard }], guard := some (30, false) }) rfl (by first | rfl | (simp [Region.wanted, yielded]; done)) ?_
                                  (try simp only [Act.put, List.setIfInBounds_toArray, List.set_cons_zero, List.set_cons_succ])
                                  refine mix_skip (o := { dst := some 196, op := Op.indexAddr 63 (Operand.tmp 194) (Operand.tmp 195), type := 0, pos := "ref.go:219", after := #[{ on := 36, ground := Ground.data }, { on := 37, ground := Ground.data }, { on := 30, ground := Ground.guard }], guard := some (30, false) }) rfl (by first | rfl | (simp [Region.wanted, yielded]; done)) ?_
                                  (try simp only [Act.put, List.setIfInBounds_toArray, List.set_cons_zero, List.set_cons_succ])
                                  refine mix_skip (o := { dst := some 197, op := Op.load 2 (Operand.tmp 196), type := 2, pos := "ref.go:219", after := #[{ on := 38, ground := Ground.data }, { on := 30, ground := Ground.guard }], guard := some (30, false) }) rfl (by first | rfl | (simp [Region.wanted, yielded]; done)) ?_
                                  (try simp only [Act.put, List.setIfInBounds_toArray, List.set_cons_zero, List.set_cons_succ])
                                  refine mix_skip (o := { dst := some 198, op := Op.call { callee := Callee.value (Operand.func 61), args := #[Operand.tmp 192, Operand.tmp 197], argTypes := #[63, 2] }, type := 4, pos := "ref.go:219", after := #[{ on := 34, ground := Ground.data }, { on := 39, ground := Ground.data }, { on := 30, ground := Ground.chain }, { on := 30, ground := Ground.guard }], guard := some (30, false) }) rfl (by first | rfl | (simp [Region.wanted, yielded]; done)) ?_
                                  (try simp only [Act.put, List.setIfInBounds_toArray, List.set_cons_zero, List.set_cons_succ])
                                  (refine mix_read (o := { dst := some 199, op := Op.pick (Operand.tmp 188) (Operand.const (Value.bool true)) (Operand.tmp 198), type := 4, pos := "ref.go:219", after := #[{ on := 30, ground := Ground.data }, { on := 40, ground := Ground.data }], guard := none }) rfl (by first | rfl | (simp [Region.wanted, yielded]; done)) (by intro w_ hE_; (try dsimp only at hE_); subst hE_; first | (go_simp; done) | (go_simp; rfl)) ?_)
                                  (try simp only [Act.put, List.setIfInBounds_toArray, List.set_cons_zero, List.set_cons_succ])
                                  refine mix_nil ?_
                                  (try simp only [Exit.then])
                                  go_wp2
                                  go_ret
                                  exact ⟨by rw [HPX.out kd]; rfl, (by first | exact HBZ.out.trans (HBw.out.mono HWS.out) | (rw [hx]; exact HBZ.out.trans (HBw.out.mono HWS.out)))⟩
                              · have k5 : (4194304 < o2) = False := eq_false q3
                                have HPG : Aside0 (1 ≤ o ∧ o ≤ 1125899906842624 ∧ 0 ≤ o2 ∧ o2 ≤ 4194304) := ⟨by omega⟩
                                clear q0 q1 q2 q3
                                go_wp2_with fail
                                refine wp_region_mix (fun w_ w1_ => Below w_.heap.size w_ w1_) [(false, 0), (false, 1), (false, 2), (false, 3), (false, 4), (false, 5), (false, 6), (false, 7), (false, 8), (false, 9), (false, 10), (false, 11), (false, 12), (false, 13), (false, 14), (false, 15), (false, 16), (false, 17), (false, 18), (false, 19), (false, 20), (false, 21), (false, 22), (false, 23), (false, 24), (false, 25), (false, 26), (false, 27), (false, 28), (false, 29), (false, 30), (false, 31), (false, 32), (false, 33), (false, 34), (false, 35), (false, 36), (false, 37), (false, 38), (false, 39), (true, 40), (false, 41)] (by kernel_rfl) (by kernel_rfl) (fun _ => Below.refl _ _) (fun h h' => below_step h h') (fun wd hhp_ hbw_ => ?_)
                                have hpw := blk_below HPr.out hbw_
                                have y1_ : wd.cell? ⟨p, 1, none⟩ = some (.slice (some ad1) n2 d1) := blk_cell hpw 1
                                have y2_ : wd.cell? ⟨p, 2, none⟩ = some (.slice (some ad2) n2 d2) := blk_cell hpw 2
                                have y3_ := pw_cell_below hbw_ h01
                                have y4_ := pw_cell_below hbw_ h02
                                have HBw := Aside0.mk (below_step HBr.out hbw_)
                                have HA_ : Aside0 (∀ w_, Below wd.heap.size wd w_ → w_.cell? ⟨p, 1, none⟩ = some (.slice (some ad1) n2 d1) ∧ w_.cell? ⟨p, 2, none⟩ = some (.slice (some ad2) n2 d2) ∧ w_.cell? (ad1.add j) = some (.int .i64 o) ∧ w_.cell? (ad2.add j) = some (.int .i64 o2)) := ⟨fun w_ h => ⟨pw_cell_below h y1_, pw_cell_below h y2_, pw_cell_below h y3_, pw_cell_below h y4_⟩⟩
                                have hbw2 := Aside0.mk hbw_
                                clear hhp_ hbw_ hpw h01 h02 y1_ y2_ y3_ y4_
                                (refine mix_read (o := { dst := some 158, op := Op.fieldAddr 90 (Operand.tmp 6) 1, type := 0, pos := "ref.go:219", after := #[], guard := none }) rfl (by first | rfl | (simp [Region.wanted, yielded]; done)) (by intro w_ hE_; (try dsimp only at hE_); first | (go_simp; done) | (go_simp; rfl)) ?_)
                                (try simp only [Act.put, List.setIfInBounds_toArray, List.set_cons_zero, List.set_cons_succ])
                                (refine mix_read (o := { dst := some 159, op := Op.load 63 (Operand.tmp 158), type := 63, pos := "ref.go:219", after := #[{ on := 0, ground := Ground.data }], guard := none }) rfl (by first | rfl | (simp [Region.wanted, yielded]; done)) (by intro w_ hE_; (try dsimp only at hE_); obtain ⟨z1_, z2_, z3_, z4_⟩ := HA_.out w_ hE_; first | (go_simp; done) | (go_simp; rfl)) ?_)
                                (try simp only [Act.put, List.setIfInBounds_toArray, List.set_cons_zero, List.set_cons_succ])
                                (refine mix_read (o := { dst := some 160, op := Op.move (Operand.tmp 7), type := 3, pos := "ref.go:219", after := #[], guard := none }) rfl (by first | rfl | (simp [Region.wanted, yielded]; done)) (by intro w_ hE_; (try dsimp only at hE_); first | (go_simp; done) | (go_simp; rfl)) ?_)
                                (try simp only [Act.put, List.setIfInBounds_toArray, List.set_cons_zero, List.set_cons_succ])
                                (refine mix_read (o := { dst := some 161, op := Op.indexAddr 63 (Operand.tmp 159) (Operand.tmp 160), type := 0, pos := "ref.go:219", after := #[{ on := 1, ground := Ground.data }, { on := 2, ground := Ground.data }], guard := none }) rfl (by first | rfl | (simp [Region.wanted, yielded]; done)) (by intro w_ hE_; (try dsimp only at hE_); first | (go_simp; done) | (go_simp; rfl)) ?_)
                                (try simp only [Act.put, List.setIfInBounds_toArray, List.set_cons_zero, List.set_cons_succ])
                                (refine mix_read (o := { dst := some 162, op := Op.load 2 (Operand.tmp 161), type := 2, pos := "ref.go:219", after := #[{ on := 3, ground := Ground.data }], guard := none }) rfl (by first | rfl | (simp [Region.wanted, yielded]; done)) (by intro w_ hE_; (try dsimp only at hE_); obtain ⟨z1_, z2_, z3_, z4_⟩ := HA_.out w_ hE_; first | (go_simp; done) | (go_simp; rfl)) ?_)
                                (try simp only [Act.put, List.setIfInBounds_toArray, List.set_cons_zero, List.set_cons_succ])
                                (refine mix_read (o := { dst := some 163, op := Op.binOp BinOp.lss 2 (Operand.tmp 162) (Operand.const (Value.int IntKind.i64 1)) 2, type := 4, pos := "ref.go:219", after := #[{ on := 4, ground := Ground.data }], guard := none }) rfl (by first | rfl | (simp [Region.wanted, yielded]; done)) (by intro w_ hE_; (try dsimp only at hE_); first | (go_simp; done) | (go_simp; rfl)) ?_)
                                (try simp only [Act.put, List.setIfInBounds_toArray, List.set_cons_zero, List.set_cons_succ])
                                (refine mix_read (o := { dst := some 164, op := Op.move (Operand.tmp 163), type := 4, pos := "ref.go:219", after := #[{ on := 5, ground := Ground.data }], guard := none }) rfl (by first | rfl | (simp [Region.wanted, yielded]; done)) (by intro w_ hE_; (try dsimp only at hE_); first | (go_simp; done) | (go_simp; rfl)) ?_)
                                (try simp only [Act.put, List.setIfInBounds_toArray, List.set_cons_zero, List.set_cons_succ])
                                first | (refine mix_read (o := { dst := some 165, op := Op.fieldAddr 90 (Operand.tmp 6) 1, type := 0, pos := "ref.go:219", after := #[{ on := 6, ground := Ground.guard }], guard := some (6, false) }) rfl (by first | rfl | (simp [Region.wanted, yielded]; done)) (by intro w_ hE_; (try dsimp only at hE_); first | (go_simp; done) | (go_simp; rfl)) ?_) | (refine mix_skip (o := { dst := some 165, op := Op.fieldAddr 90 (Operand.tmp 6) 1, type := 0, pos := "ref.go:219", after := #[{ on := 6, ground := Ground.guard }], guard := some (6, false) }) rfl (by first | rfl | (simp [Region.wanted, yielded]; done)) ?_)
                                (try simp only [Act.put, List.setIfInBounds_toArray, List.set_cons_zero, List.set_cons_succ])
                                first | (refine mix_read (o := { dst := some 166, op := Op.load 63 (Operand.tmp 165), type := 63, pos := "ref.go:219", after := #[{ on := 7, ground := Ground.data }, { on := 6, ground := Ground.guard }], guard := some (6, false) }) rfl (by first | rfl | (simp [Region.wanted, yielded]; done)) (by intro w_ hE_; (try dsimp only at hE_); obtain ⟨z1_, z2_, z3_, z4_⟩ := HA_.out w_ hE_; first | (go_simp; done) | (go_simp; rfl)) ?_) | (refine mix_skip (o := { dst := some 166, op := Op.load 63 (Operand.tmp 165), type := 63, pos := "ref.go:219", after := #[{ on := 7, ground := Ground.data }, { on := 6, ground := Ground.guard }], guard := some (6, false) }) rfl (by first | rfl | (simp [Region.wanted, yielded]; done)) ?_)
                                (try simp only [Act.put, List.setIfInBounds_toArray, List.set_cons_zero, List.set_cons_succ])
                                first | (refine mix_read (o := { dst := some 167, op := Op.move (Operand.tmp 7), type := 3, pos := "ref.go:219", after := #[{ on := 6, ground := Ground.guard }], guard := some (6, false) }) rfl (by first | rfl | (simp [Region.wanted, yielded]; done)) (by intro w_ hE_; (try dsimp only at hE_); first | (go_simp; done) | (go_simp; rfl)) ?_) | (refine mix_skip (o := { dst := some 167, op := Op.move (Operand.tmp 7), type := 3, pos := "ref.go:219", after := #[{ on := 6, ground := Ground.guard }], guard := some (6, false) }) rfl (by first | rfl | (simp [Region.wanted, yielded]; done)) ?_)
                                (try simp only [Act.put, List.setIfInBounds_toArray, List.set_cons_zero, List.set_cons_succ])
                                first | (refine mix_read (o := { dst := some 168, op := Op.indexAddr 63 (Operand.tmp 166) (Operand.tmp 167), type := 0, pos := "ref.go:219", after := #[{ on := 8, ground := Ground.data }, { on := 9, ground := Ground.data }, { on := 6, ground := Ground.guard }], guard := some (6, false) }) rfl (by first | rfl | (simp [Region.wanted, yielded]; done)) (by intro w_ hE_; (try dsimp only at hE_); first | (go_simp; done) | (go_simp; rfl)) ?_) | (refine mix_skip (o := { dst := some 168, op := Op.indexAddr 63 (Operand.tmp 166) (Operand.tmp 167), type := 0, pos := "ref.go:219", after := #[{ on := 8, ground := Ground.data }, { on := 9, ground := Ground.data }, { on := 6, ground := Ground.guard }], guard := some (6, false) }) rfl (by first | rfl | (simp [Region.wanted, yielded]; done)) ?_)
                                (try simp only [Act.put, List.setIfInBounds_toArray, List.set_cons_zero, List.set_cons_succ])
                                first | (refine mix_read (o := { dst := some 169, op := Op.load 2 (Operand.tmp 168), type := 2, pos := "ref.go:219", after := #[{ on := 10, ground := Ground.data }, { on := 6, ground := Ground.guard }], guard := some (6, false) }) rfl (by first | rfl | (simp [Region.wanted, yielded]; done)) (by intro w_ hE_; (try dsimp only at hE_); obtain ⟨z1_, z2_, z3_, z4_⟩ := HA_.out w_ hE_; first | (go_simp; done) | (go_simp; rfl)) ?_) | (refine mix_skip (o := { dst := some 169, op := Op.load 2 (Operand.tmp 168), type := 2, pos := "ref.go:219", after := #[{ on := 10, ground := Ground.data }, { on := 6, ground := Ground.guard }], guard := some (6, false) }) rfl (by first | rfl | (simp [Region.wanted, yielded]; done)) ?_)
                                (try simp only [Act.put, List.setIfInBounds_toArray, List.set_cons_zero, List.set_cons_succ])
                                first | (refine mix_read (o := { dst := some 170, op := Op.binOp BinOp.gtr 2 (Operand.tmp 169) (Operand.const (Value.int IntKind.i64 1125899906842624)) 2, type := 4, pos := "ref.go:219", after := #[{ on := 11, ground := Ground.data }, { on := 6, ground := Ground.guard }], guard := some (6, false) }) rfl (by first | rfl | (simp [Region.wanted, yielded]; done)) (by intro w_ hE_; (try dsimp only at hE_); first | (go_simp; done) | (go_simp; rfl)) ?_) | (refine mix_skip (o := { dst := some 170, op := Op.binOp BinOp.gtr 2 (Operand.tmp 169) (Operand.const (Value.int IntKind.i64 1125899906842624)) 2, type := 4, pos := "ref.go:219", after := #[{ on := 11, ground := Ground.data }, { on := 6, ground := Ground.guard }], guard := some (6, false) }) rfl (by first | rfl | (simp [Region.wanted, yielded]; done)) ?_)
                                (try simp only [Act.put, List.setIfInBounds_toArray, List.set_cons_zero, List.set_cons_succ])
                                (refine mix_read (o := { dst := some 171, op := Op.pick (Operand.tmp 164) (Operand.const (Value.bool true)) (Operand.tmp 170), type := 4, pos := "ref.go:219", after := #[{ on := 6, ground := Ground.data }, { on := 12, ground := Ground.data }], guard := none }) rfl (by first | rfl | (simp [Region.wanted, yielded]; done)) (by intro w_ hE_; (try dsimp only at hE_); first | (go_simp; done) | (go_simp; rfl)) ?_)
                                (try simp only [Act.put, List.setIfInBounds_toArray, List.set_cons_zero, List.set_cons_succ])
                                (refine mix_read (o := { dst := some 172, op := Op.move (Operand.tmp 171), type := 4, pos := "ref.go:219", after := #[{ on := 13, ground := Ground.data }, { on := 6, ground := Ground.chain }], guard := none }) rfl (by first | rfl | (simp [Region.wanted, yielded]; done)) (by intro w_ hE_; (try dsimp only at hE_); first | (go_simp; done) | (go_simp; rfl)) ?_)
                                (try simp only [Act.put, List.setIfInBounds_toArray, List.set_cons_zero, List.set_cons_succ])
                                first | (refine mix_read (o := { dst := some 173, op := Op.fieldAddr 90 (Operand.tmp 6) 2, type := 0, pos := "ref.go:219", after := #[{ on := 14, ground := Ground.guard }], guard := some (14, false) }) rfl (by first | rfl | (simp [Region.wanted, yielded]; done)) (by intro w_ hE_; (try dsimp only at hE_); first | (go_simp; done) | (go_simp; rfl)) ?_) | (refine mix_skip (o := { dst := some 173, op := Op.fieldAddr 90 (Operand.tmp 6) 2, type := 0, pos := "ref.go:219", after := #[{ on := 14, ground := Ground.guard }], guard := some (14, false) }) rfl (by first | rfl | (simp [Region.wanted, yielded]; done)) ?_)
                                (try simp only [Act.put, List.setIfInBounds_toArray, List.set_cons_zero, List.set_cons_succ])
                                first | (refine mix_read (o := { dst := some 174, op := Op.load 60 (Operand.tmp 173), type := 60, pos := "ref.go:219", after := #[{ on := 15, ground := Ground.data }, { on := 14, ground := Ground.guard }], guard := some (14, false) }) rfl (by first | rfl | (simp [Region.wanted, yielded]; done)) (by intro w_ hE_; (try dsimp only at hE_); obtain ⟨z1_, z2_, z3_, z4_⟩ := HA_.out w_ hE_; first | (go_simp; done) | (go_simp; rfl)) ?_) | (refine mix_skip (o := { dst := some 174, op := Op.load 60 (Operand.tmp 173), type := 60, pos := "ref.go:219", after := #[{ on := 15, ground := Ground.data }, { on := 14, ground := Ground.guard }], guard := some (14, false) }) rfl (by first | rfl | (simp [Region.wanted, yielded]; done)) ?_)
                                (try simp only [Act.put, List.setIfInBounds_toArray, List.set_cons_zero, List.set_cons_succ])
                                first | (refine mix_read (o := { dst := some 175, op := Op.move (Operand.tmp 7), type := 3, pos := "ref.go:219", after := #[{ on := 14, ground := Ground.guard }], guard := some (14, false) }) rfl (by first | rfl | (simp [Region.wanted, yielded]; done)) (by intro w_ hE_; (try dsimp only at hE_); first | (go_simp; done) | (go_simp; rfl)) ?_) | (refine mix_skip (o := { dst := some 175, op := Op.move (Operand.tmp 7), type := 3, pos := "ref.go:219", after := #[{ on := 14, ground := Ground.guard }], guard := some (14, false) }) rfl (by first | rfl | (simp [Region.wanted, yielded]; done)) ?_)
                                (try simp only [Act.put, List.setIfInBounds_toArray, List.set_cons_zero, List.set_cons_succ])
                                first | (refine mix_read (o := { dst := some 176, op := Op.indexAddr 60 (Operand.tmp 174) (Operand.tmp 175), type := 0, pos := "ref.go:219", after := #[{ on := 16, ground := Ground.data }, { on := 17, ground := Ground.data }, { on := 14, ground := Ground.guard }], guard := some (14, false) }) rfl (by first | rfl | (simp [Region.wanted, yielded]; done)) (by intro w_ hE_; (try dsimp only at hE_); first | (go_simp; done) | (go_simp; rfl)) ?_) | (refine mix_skip (o := { dst := some 176, op := Op.indexAddr 60 (Operand.tmp 174) (Operand.tmp 175), type := 0, pos := "ref.go:219", after := #[{ on := 16, ground := Ground.data }, { on := 17, ground := Ground.data }, { on := 14, ground := Ground.guard }], guard := some (14, false) }) rfl (by first | rfl | (simp [Region.wanted, yielded]; done)) ?_)
                                (try simp only [Act.put, List.setIfInBounds_toArray, List.set_cons_zero, List.set_cons_succ])
                                first | (refine mix_read (o := { dst := some 177, op := Op.load 3 (Operand.tmp 176), type := 3, pos := "ref.go:219", after := #[{ on := 18, ground := Ground.data }, { on := 14, ground := Ground.guard }], guard := some (14, false) }) rfl (by first | rfl | (simp [Region.wanted, yielded]; done)) (by intro w_ hE_; (try dsimp only at hE_); obtain ⟨z1_, z2_, z3_, z4_⟩ := HA_.out w_ hE_; first | (go_simp; done) | (go_simp; rfl)) ?_) | (refine mix_skip (o := { dst := some 177, op := Op.load 3 (Operand.tmp 176), type := 3, pos := "ref.go:219", after := #[{ on := 18, ground := Ground.data }, { on := 14, ground := Ground.guard }], guard := some (14, false) }) rfl (by first | rfl | (simp [Region.wanted, yielded]; done)) ?_)
                                (try simp only [Act.put, List.setIfInBounds_toArray, List.set_cons_zero, List.set_cons_succ])
                                first | (refine mix_read (o := { dst := some 178, op := Op.binOp BinOp.lss 3 (Operand.tmp 177) (Operand.const (Value.int IntKind.i64 0)) 3, type := 4, pos := "ref.go:219", after := #[{ on := 19, ground := Ground.data }, { on := 14, ground := Ground.guard }], guard := some (14, false) }) rfl (by first | rfl | (simp [Region.wanted, yielded]; done)) (by intro w_ hE_; (try dsimp only at hE_); first | (go_simp; done) | (go_simp; rfl)) ?_) | (refine mix_skip (o := { dst := some 178, op := Op.binOp BinOp.lss 3 (Operand.tmp 177) (Operand.const (Value.int IntKind.i64 0)) 3, type := 4, pos := "ref.go:219", after := #[{ on := 19, ground := Ground.data }, { on := 14, ground := Ground.guard }], guard := some (14, false) }) rfl (by first | rfl | (simp [Region.wanted, yielded]; done)) ?_)
                                (try simp only [Act.put, List.setIfInBounds_toArray, List.set_cons_zero, List.set_cons_succ])
                                (refine mix_read (o := { dst := some 179, op := Op.pick (Operand.tmp 172) (Operand.const (Value.bool true)) (Operand.tmp 178), type := 4, pos := "ref.go:219", after := #[{ on := 14, ground := Ground.data }, { on := 20, ground := Ground.data }], guard := none }) rfl (by first | rfl | (simp [Region.wanted, yielded]; done)) (by intro w_ hE_; (try dsimp only at hE_); first | (go_simp; done) | (go_simp; rfl)) ?_)
                                (try simp only [Act.put, List.setIfInBounds_toArray, List.set_cons_zero, List.set_cons_succ])
                                (refine mix_read (o := { dst := some 180, op := Op.move (Operand.tmp 179), type := 4, pos := "ref.go:219", after := #[{ on := 21, ground := Ground.data }, { on := 14, ground := Ground.chain }], guard := none }) rfl (by first | rfl | (simp [Region.wanted, yielded]; done)) (by intro w_ hE_; (try dsimp only at hE_); first | (go_simp; done) | (go_simp; rfl)) ?_)
                                (try simp only [Act.put, List.setIfInBounds_toArray, List.set_cons_zero, List.set_cons_succ])
                                first | (refine mix_read (o := { dst := some 181, op := Op.fieldAddr 90 (Operand.tmp 6) 2, type := 0, pos := "ref.go:219", after := #[{ on := 22, ground := Ground.guard }], guard := some (22, false) }) rfl (by first | rfl | (simp [Region.wanted, yielded]; done)) (by intro w_ hE_; (try dsimp only at hE_); first | (go_simp; done) | (go_simp; rfl)) ?_) | (refine mix_skip (o := { dst := some 181, op := Op.fieldAddr 90 (Operand.tmp 6) 2, type := 0, pos := "ref.go:219", after := #[{ on := 22, ground := Ground.guard }], guard := some (22, false) }) rfl (by first | rfl | (simp [Region.wanted, yielded]; done)) ?_)
                                (try simp only [Act.put, List.setIfInBounds_toArray, List.set_cons_zero, List.set_cons_succ])
                                first | (refine mix_read (o := { dst := some 182, op := Op.load 60 (Operand.tmp 181), type := 60, pos := "ref.go:219", after := #[{ on := 23, ground := Ground.data }, { on := 22, ground := Ground.guard }], guard := some (22, false) }) rfl (by first | rfl | (simp [Region.wanted, yielded]; done)) (by intro w_ hE_; (try dsimp only at hE_); obtain ⟨z1_, z2_, z3_, z4_⟩ := HA_.out w_ hE_; first | (go_simp; done) | (go_simp; rfl)) ?_) | (refine mix_skip (o := { dst := some 182, op := Op.load 60 (Operand.tmp 181), type := 60, pos := "ref.go:219", after := #[{ on := 23, ground := Ground.data }, { on := 22, ground := Ground.guard }], guard := some (22, false) }) rfl (by first | rfl | (simp [Region.wanted, yielded]; done)) ?_)
                                (try simp only [Act.put, List.setIfInBounds_toArray, List.set_cons_zero, List.set_cons_succ])
                                first | (refine mix_read (o := { dst := some 183, op := Op.move (Operand.tmp 7), type := 3, pos := "ref.go:219", after := #[{ on := 22, ground := Ground.guard }], guard := some (22, false) }) rfl (by first | rfl | (simp [Region.wanted, yielded]; done)) (by intro w_ hE_; (try dsimp only at hE_); first | (go_simp; done) | (go_simp; rfl)) ?_) | (refine mix_skip (o := { dst := some 183, op := Op.move (Operand.tmp 7), type := 3, pos := "ref.go:219", after := #[{ on := 22, ground := Ground.guard }], guard := some (22, false) }) rfl (by first | rfl | (simp [Region.wanted, yielded]; done)) ?_)
                                (try simp only [Act.put, List.setIfInBounds_toArray, List.set_cons_zero, List.set_cons_succ])
                                first | (refine mix_read (o := { dst := some 184, op := Op.indexAddr 60 (Operand.tmp 182) (Operand.tmp 183), type := 0, pos := "ref.go:219", after := #[{ on := 24, ground := Ground.data }, { on := 25, ground := Ground.data }, { on := 22, ground := Ground.guard }], guard := some (22, false) }) rfl (by first | rfl | (simp [Region.wanted, yielded]; done)) (by intro w_ hE_; (try dsimp only at hE_); first | (go_simp; done) | (go_simp; rfl)) ?_) | (refine mix_skip (o := { dst := some 184, op := Op.indexAddr 60 (Operand.tmp 182) (Operand.tmp 183), type := 0, pos := "ref.go:219", after := #[{ on := 24, ground := Ground.data }, { on := 25, ground := Ground.data }, { on := 22, ground := Ground.guard }], guard := some (22, false) }) rfl (by first | rfl | (simp [Region.wanted, yielded]; done)) ?_)
                                (try simp only [Act.put, List.setIfInBounds_toArray, List.set_cons_zero, List.set_cons_succ])
                                first | (refine mix_read (o := { dst := some 185, op := Op.load 3 (Operand.tmp 184), type := 3, pos := "ref.go:219", after := #[{ on := 26, ground := Ground.data }, { on := 22, ground := Ground.guard }], guard := some (22, false) }) rfl (by first | rfl | (simp [Region.wanted, yielded]; done)) (by intro w_ hE_; (try dsimp only at hE_); obtain ⟨z1_, z2_, z3_, z4_⟩ := HA_.out w_ hE_; first | (go_simp; done) | (go_simp; rfl)) ?_) | (refine mix_skip (o := { dst := some 185, op := Op.load 3 (Operand.tmp 184), type := 3, pos := "ref.go:219", after := #[{ on := 26, ground := Ground.data }, { on := 22, ground := Ground.guard }], guard := some (22, false) }) rfl (by first | rfl | (simp [Region.wanted, yielded]; done)) ?_)
                                (try simp only [Act.put, List.setIfInBounds_toArray, List.set_cons_zero, List.set_cons_succ])
                                first | (refine mix_read (o := { dst := some 186, op := Op.binOp BinOp.gtr 3 (Operand.tmp 185) (Operand.const (Value.int IntKind.i64 4194304)) 3, type := 4, pos := "ref.go:219", after := #[{ on := 27, ground := Ground.data }, { on := 22, ground := Ground.guard }], guard := some (22, false) }) rfl (by first | rfl | (simp [Region.wanted, yielded]; done)) (by intro w_ hE_; (try dsimp only at hE_); first | (go_simp; done) | (go_simp; rfl)) ?_) | (refine mix_skip (o := { dst := some 186, op := Op.binOp BinOp.gtr 3 (Operand.tmp 185) (Operand.const (Value.int IntKind.i64 4194304)) 3, type := 4, pos := "ref.go:219", after := #[{ on := 27, ground := Ground.data }, { on := 22, ground := Ground.guard }], guard := some (22, false) }) rfl (by first | rfl | (simp [Region.wanted, yielded]; done)) ?_)
                                (try simp only [Act.put, List.setIfInBounds_toArray, List.set_cons_zero, List.set_cons_succ])
                                (refine mix_read (o := { dst := some 187, op := Op.pick (Operand.tmp 180) (Operand.const (Value.bool true)) (Operand.tmp 186), type := 4, pos := "ref.go:219", after := #[{ on := 22, ground := Ground.data }, { on := 28, ground := Ground.data }], guard := none }) rfl (by first | rfl | (simp [Region.wanted, yielded]; done)) (by intro w_ hE_; (try dsimp only at hE_); first | (go_simp; done) | (go_simp; rfl)) ?_)
                                (try simp only [Act.put, List.setIfInBounds_toArray, List.set_cons_zero, List.set_cons_succ])
                                (refine mix_read (o := { dst := some 188, op := Op.move (Operand.tmp 187), type := 4, pos := "ref.go:219", after := #[{ on := 29, ground := Ground.data }, { on := 22, ground := Ground.chain }], guard := none }) rfl (by first | rfl | (simp [Region.wanted, yielded]; done)) (by intro w_ hE_; (try dsimp only at hE_); first | (go_simp; done) | (go_simp; rfl)) ?_)
                                (try simp only [Act.put, List.setIfInBounds_toArray, List.set_cons_zero, List.set_cons_succ])
                                first | (refine mix_read (o := { dst := some 189, op := Op.fieldAddr 90 (Operand.tmp 6) 1, type := 0, pos := "ref.go:219", after := #[{ on := 30, ground := Ground.guard }], guard := some (30, false) }) rfl (by first | rfl | (simp [Region.wanted, yielded]; done)) (by intro w_ hE_; (try dsimp only at hE_); first | (go_simp; done) | (go_simp; rfl)) ?_) | (refine mix_skip (o := { dst := some 189, op := Op.fieldAddr 90 (Operand.tmp 6) 1, type := 0, pos := "ref.go:219", after := #[{ on := 30, ground := Ground.guard }], guard := some (30, false) }) rfl (by first | rfl | (simp [Region.wanted, yielded]; done)) ?_)
                                (try simp only [Act.put, List.setIfInBounds_toArray, List.set_cons_zero, List.set_cons_succ])
                                first | (refine mix_read (o := { dst := some 190, op := Op.load 63 (Operand.tmp 189), type := 63, pos := "ref.go:219", after := #[{ on := 31, ground := Ground.data }, { on := 30, ground := Ground.guard }], guard := some (30, false) }) rfl (by first | rfl | (simp [Region.wanted, yielded]; done)) (by intro w_ hE_; (try dsimp only at hE_); obtain ⟨z1_, z2_, z3_, z4_⟩ := HA_.out w_ hE_; first | (go_simp; done) | (go_simp; rfl)) ?_) | (refine mix_skip (o := { dst := some 190, op := Op.load 63 (Operand.tmp 189), type := 63, pos := "ref.go:219", after := #[{ on := 31, ground := Ground.data }, { on := 30, ground := Ground.guard }], guard := some (30, false) }) rfl (by first | rfl | (simp [Region.wanted, yielded]; done)) ?_)
                                (try simp only [Act.put, List.setIfInBounds_toArray, List.set_cons_zero, List.set_cons_succ])
                                first | (refine mix_read (o := { dst := some 191, op := Op.move (Operand.tmp 7), type := 3, pos := "ref.go:219", after := #[{ on := 30, ground := Ground.guard }], guard := some (30, false) }) rfl (by first | rfl | (simp [Region.wanted, yielded]; done)) (by intro w_ hE_; (try dsimp only at hE_); first | (go_simp; done) | (go_simp; rfl)) ?_) | (refine mix_skip (o := { dst := some 191, op := Op.move (Operand.tmp 7), type := 3, pos := "ref.go:219", after := #[{ on := 30, ground := Ground.guard }], guard := some (30, false) }) rfl (by first | rfl | (simp [Region.wanted, yielded]; done)) ?_)
                                (try simp only [Act.put, List.setIfInBounds_toArray, List.set_cons_zero, List.set_cons_succ])
                                first | (refine mix_read (o := { dst := some 192, op := Op.slice 63 (Operand.tmp 190) none (some (Operand.tmp 191)) none, type := 63, pos := "ref.go:219", after := #[{ on := 32, ground := Ground.data }, { on := 33, ground := Ground.data }, { on := 30, ground := Ground.guard }], guard := some (30, false) }) rfl (by first | rfl | (simp [Region.wanted, yielded]; done)) (by intro w_ hE_; (try dsimp only at hE_); first | (go_simp; done) | (go_simp; rfl)) ?_) | (refine mix_skip (o := { dst := some 192, op := Op.slice 63 (Operand.tmp 190) none (some (Operand.tmp 191)) none, type := 63, pos := "ref.go:219", after := #[{ on := 32, ground := Ground.data }, { on := 33, ground := Ground.data }, { on := 30, ground := Ground.guard }], guard := some (30, false) }) rfl (by first | rfl | (simp [Region.wanted, yielded]; done)) ?_)
                                (try simp only [Act.put, List.setIfInBounds_toArray, List.set_cons_zero, List.set_cons_succ])
                                first | (refine mix_read (o := { dst := some 193, op := Op.fieldAddr 90 (Operand.tmp 6) 1, type := 0, pos := "ref.go:219", after := #[{ on := 30, ground := Ground.guard }], guard := some (30, false) }) rfl (by first | rfl | (simp [Region.wanted, yielded]; done)) (by intro w_ hE_; (try dsimp only at hE_); first | (go_simp; done) | (go_simp; rfl)) ?_) | (refine mix_skip (o := { dst := some 193, op := Op.fieldAddr 90 (Operand.tmp 6) 1, type := 0, pos := "ref.go:219", after := #[{ on := 30, ground := Ground.guard }], guard := some (30, false) }) rfl (by first | rfl | (simp [Region.wanted, yielded]; done)) ?_)
                                (try simp only [Act.put, List.setIfInBounds_toArray, List.set_cons_zero, List.set_cons_succ])
                                first | (refine mix_read (o := { dst := some 194, op := Op.load 63 (Operand.tmp 193), type := 63, pos := "ref.go:219", after := #[{ on := 35, ground := Ground.data }, { on := 30, ground := Ground.guard }], guard := some (30, false) }) rfl (by first | rfl | (simp [Region.wanted, yielded]; done)) (by intro w_ hE_; (try dsimp only at hE_); obtain ⟨z1_, z2_, z3_, z4_⟩ := HA_.out w_ hE_; first | (go_simp; done) | (go_simp; rfl)) ?_) | (refine mix_skip (o := { dst := some 194, op := Op.load 63 (Operand.tmp 193), type := 63, pos := "ref.go:219", after := #[{ on := 35, ground := Ground.data }, { on := 30, ground := Ground.guard }], guard := some (30, false) }) rfl (by first | rfl | (simp [Region.wanted, yielded]; done)) ?_)
                                (try simp only [Act.put, List.setIfInBounds_toArray, List.set_cons_zero, List.set_cons_succ])
                                first | (refine mix_read (o := { dst := some 195, op := Op.move (Operand.tmp 7), type := 3, pos := "ref.go:219", after := #[{ on := 30, ground := Ground.guard }], guard := some (30, false) }) rfl (by first | rfl | (simp [Region.wanted, yielded]; done)) (by intro w_ hE_; (try dsimp only at hE_); first | (go_simp; done) | (go_simp; rfl)) ?_) | (refine mix_skip (o := { dst := some 195, op := Op.move (Operand.tmp 7), type := 3, pos := "ref.go:219", after := #[{ on := 30, ground := Ground.guard }], guard := some (30, false) }) rfl (by first | rfl | (simp [Region.wanted, yielded]; done)) ?_)
                                (try simp only [Act.put, List.setIfInBounds_toArray, List.set_cons_zero, List.set_cons_succ])
                                first | (refine mix_read (o := { dst := some 196, op := Op.indexAddr 63 (Operand.tmp 194) (Operand.tmp 195), type := 0, pos := "ref.go:219", after := #[{ on := 36, ground := Ground.data }, { on := 37, ground := Ground.data }, { on := 30, ground := Ground.guard }], guard := some (30, false) }) rfl (by first | rfl | (simp [Region.wanted, yielded]; done)) (by intro w_ hE_; (try dsimp only at hE_); first | (go_simp; done) | (go_simp; rfl)) ?_) | (refine mix_skip (o := { dst := some 196, op := Op.indexAddr 63 (Operand.tmp 194) (Operand.tmp 195), type := 0, pos := "ref.go:219", after := #[{ on := 36, ground := Ground.data }, { on := 37, ground := Ground.data }, { on := 30, ground := Ground.guard }], guard := some (30, false) }) rfl (by first | rfl | (simp [Region.wanted, yielded]; done)) ?_)
                                (try simp only [Act.put, List.setIfInBounds_toArray, List.set_cons_zero, List.set_cons_succ])
                                first | (refine mix_read (o := { dst := some 197, op := Op.load 2 (Operand.tmp 196), type := 2, pos := "ref.go:219", after := #[{ on := 38, ground := Ground.data }, { on := 30, ground := Ground.guard }], guard := some (30, false) }) rfl (by first | rfl | (simp [Region.wanted, yielded]; done)) (by intro w_ hE_; (try dsimp only at hE_); obtain ⟨z1_, z2_, z3_, z4_⟩ := HA_.out w_ hE_; first | (go_simp; done) | (go_simp; rfl)) ?_) | (refine mix_skip (o := { dst := some 197, op := Op.load 2 (Operand.tmp 196), type := 2, pos := "ref.go:219", after := #[{ on := 38, ground := Ground.data }, { on := 30, ground := Ground.guard }], guard := some (30, false) }) rfl (by first | rfl | (simp [Region.wanted, yielded]; done)) ?_)
                                (try simp only [Act.put, List.setIfInBounds_toArray, List.set_cons_zero, List.set_cons_succ])
                                refine mix_call (o := { dst := some 198, op := Op.call { callee := Callee.value (Operand.func 61), args := #[Operand.tmp 192, Operand.tmp 197], argTypes := #[63, 2] }, type := 4, pos := "ref.go:219", after := #[{ on := 34, ground := Ground.data }, { on := 39, ground := Ground.data }, { on := 30, ground := Ground.chain }, { on := 30, ground := Ground.guard }], guard := some (30, false) }) rfl (by first | rfl | (simp [Region.wanted, yielded]; done)) (by first | (go_simp; done) | (go_simp; exact ⟨rfl, rfl⟩) | (go_simp; rfl)) ?_
                                refine (HHC.out _ (Kd.C_below HTK.out (below_step HBr2.out hbw2.out))).mono ?_
                                rintro e_ w5 ⟨rfl, hb⟩
                                have HB5 := Aside0.mk (below_step HBw.out hb)
                                refine ⟨_, rfl, hb, ?_⟩
                                clear hb
                                (try simp only [Act.put, List.setIfInBounds_toArray, List.set_cons_zero, List.set_cons_succ])
                                (refine mix_read (o := { dst := some 199, op := Op.pick (Operand.tmp 188) (Operand.const (Value.bool true)) (Operand.tmp 198), type := 4, pos := "ref.go:219", after := #[{ on := 30, ground := Ground.data }, { on := 40, ground := Ground.data }], guard := none }) rfl (by first | rfl | (simp [Region.wanted, yielded]; done)) (by intro w_ hE_; (try dsimp only at hE_); first | (go_simp; done) | (go_simp; rfl)) ?_)
                                (try simp only [Act.put, List.setIfInBounds_toArray, List.set_cons_zero, List.set_cons_succ])
                                refine mix_nil ?_
                                (try simp only [Exit.then])
                                cases hh with
                                | true =>
                                  have kd : PE = false := HPJ.out (fun h => absurd h.2.2.2.2 (by decide))
                                  go_wp2
                                  go_ret
                                  exact ⟨by rw [HPX.out kd]; rfl, (by first | exact HBZ.out.trans (HB5.out.mono HWS.out) | (rw [hx]; exact HBZ.out.trans (HB5.out.mono HWS.out)))⟩
                                | false =>
                                  go_wp2_with fail
                                  go_roundg fj
                                  case measure => omega
                                  case rel => exact ⟨j + 1, by simp, ⟨by have := HJ.out; omega⟩, ⟨fun k hk => by
                                    by_cases e_ : k = j
                                    · subst e_; rw [HOO.out.1, HOO.out.2.1]; exact ⟨HPG.out.1, HPG.out.2.1, HPG.out.2.2.1, HPG.out.2.2.2, HOO.out.2.2⟩
                                    · exact HS.out k (by omega)⟩, HB5⟩
                    · have k1 : ((j : Int) < (n2 : Int)) = False := eq_false (by omega)
                      have hjj : j = n2 := by omega
                      have HPT : Aside0 (PE = true) := ⟨HPK.out.2 ⟨HPA.out, fun k hk => HS.out k (by omega)⟩⟩
                      have HBE := Aside0.mk (HBs.out.trans (HBr.out.mono (by have := HBs.out.size; exact this)))
                      clear hjx hjt hjj
                      go_wp2_with fail
                      go_roundg f
                      case measure => omega
                      case rel => exact ⟨l + 1, by simp, ⟨by have := HI.out; omega⟩, ⟨fun k hk => by
                        by_cases e_ : k = l
                        · subst e_; rw [HSS.out, HPQ.out]; exact HPT.out
                        · exact HSP.out k (by omega)⟩, HBE⟩
            · have k0 : ((l : Int) < (m3 : Int)) = False := eq_false (by omega)
              obtain rfl : l = m3 := by omega
              have x2 : wr.cell? ⟨x, 4, none⟩ = some (.slice A3 l c3) := blk_cell hxr 4
              have x3 : wr.cell? ⟨x, 3, none⟩ = some (.slice A2 m2 c2) := blk_cell hxr 3
              have HR1r := Aside0.mk (HR1.out wr (Kd.C_below HRR.out.2.1 HB.out))
              have HXX := Aside0.mk hxr
              clear hix hxr hlt
              go_wp2_with fail
              refine HR1r.out.mono ?_
              rintro e_ w5 ⟨rfl, hb⟩
              have HX5 := Aside0.mk (blk_below HXX.out hb)
              have HB5 := Aside0.mk (below_step HB.out hb)
              have x5 : w5.cell? ⟨x, 5, none⟩ = some (.slice A4 m4 c4) := blk_cell HX5.out 5
              have HR2r := Aside0.mk (HR2.out w5 (Kd.C_below HRR.out.2.2.2 HB5.out))
              clear hb x2 x3 HR1r
              have HEE : Aside0 (E = (b1 && b2)) := ⟨by
                have h0 := HE.out
                have h1 := HP0.out (by first | rfl | trivial)
                have h2 : E = true ↔ b1 = true ∧ b2 = true := by
                  rw [h0]
                  constructor
                  · rintro ⟨_, _, _, h3, h4⟩; exact ⟨h3, h4⟩
                  · rintro ⟨h3, h4⟩; exact ⟨by omega, HSA.out, HS.out, h3, h4⟩
                exact bool_and h2⟩
              cases b1 with
              | false =>
                go_wp2
                go_ret
                exact ⟨by rw [HEE.out]; rfl, (by first | exact HBA1.out.trans (HB5.out.mono HXS.out) | (rw [hx]; exact HBA1.out.trans (HB5.out.mono HXS.out)))⟩
              | true =>
                go_wp2_with fail
                refine HR2r.out.mono ?_
                rintro e_ w6 ⟨rfl, hb⟩
                have HB6 := Aside0.mk (below_step HB5.out hb)
                clear hb
                go_wp2
                go_ret
                exact ⟨by rw [HEE.out]; rfl, (by first | exact HBA1.out.trans (HB6.out.mono HXS.out) | (rw [hx]; exact HBA1.out.trans (HB6.out.mono HXS.out)))⟩
end Go.Proofs.Ytfojeegepfjbiaa.EdR
