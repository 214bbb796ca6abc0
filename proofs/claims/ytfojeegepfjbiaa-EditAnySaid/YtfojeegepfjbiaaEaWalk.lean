/- EditAny: any bytes are edits as far as they go: it answers true. No condition. -/
import Derived.Test.YtfojeegepfjbiaaProg
import Derived.Below
import Derived.Deep.Draws
import Derived.Deep.AppendLies
import Derived.Maps.AppendAt
import Derived.OwnWalk
import Derived.Laws.BytesArg
import Derived.Laws.MakeOwn
import Derived.Laws.OwnMore
import Derived.Deep.OwnRows
import Derived.Tactics
import Derived.Lib.ConvBytes
import Derived.Laws.Slices
import Derived.WalkKit
import Derived.KernelRfl
import Derived.RowKit3
import Derived.Deep.LoopGhost
import Derived.Deep.QuietTactic
import Derived.BigQuiet
import Derived.WideLaws
import Derived.Deep.DeepCutAuto
import Derived.Deep.CutBlock
import Derived.Deep.RegionHeld3
import Derived.Laws.Rows
import Derived.Lib.AppendStr
import Derived.ArgAppend
import Derived.Laws.IdiomCopy
import Derived.OrdersHeld
import Derived.Laws.BitsLemmas
import Derived.RowKit
import Derived.Deep.RegionWith
import Derived.WalkSpells
import Derived.Outline
import Derived.Test.YtfojeegepfjbiaaWWords
import Derived.Test.YtfojeegepfjbiaaWLast
import Derived.Test.YtfojeegepfjbiaaWMore
import Derived.Test.YtfojeegepfjbiaaWArr
import Derived.Test.YtfojeegepfjbiaaWTab
import Derived.Test.YtfojeegepfjbiaaWZeros
import Derived.Test.YtfojeegepfjbiaaWRepsOne
import Derived.Test.YtfojeegepfjbiaaEdN
namespace Go.Proofs.Ytfojeegepfjbiaa.EaWalk
open Go.RowKit Go.Proofs.YtfojeegepfjbiaaW.PrintWords Go.Proofs.YtfojeegepfjbiaaW.PrintLast Go.Proofs.YtfojeegepfjbiaaW.PrintMore Go.Proofs.Ytfojeegepfjbiaa.Mix Go.Proofs.Ytfojeegepfjbiaa.MixB Go.Proofs.Ytfojeegepfjbiaa.MixT Go.Proofs.Ytfojeegepfjbiaa.Nm Go.Proofs.Ytfojeegepfjbiaa.NmA Go.Proofs.Ytfojeegepfjbiaa.NmB Go.Proofs.Ytfojeegepfjbiaa.NmC Go.Proofs.Ytfojeegepfjbiaa.NmH Go.Proofs.Ytfojeegepfjbiaa.CrP Go.Proofs.Ytfojeegepfjbiaa.CrA Go.Proofs.Ytfojeegepfjbiaa.CrB Go.Proofs.Ytfojeegepfjbiaa.CrC Go.Proofs.Ytfojeegepfjbiaa.CrD Go.Proofs.Ytfojeegepfjbiaa.CrE Go.Proofs.Ytfojeegepfjbiaa.CrG Go.Proofs.Ytfojeegepfjbiaa.CrH Go.Proofs.Ytfojeegepfjbiaa.CrI Go.Proofs.Ytfojeegepfjbiaa.EdZ Go.Proofs.Ytfojeegepfjbiaa.EdA Go.Proofs.Ytfojeegepfjbiaa.EdB Go.Proofs.Ytfojeegepfjbiaa.EdC Go.Proofs.Ytfojeegepfjbiaa.EdD Go.Proofs.Ytfojeegepfjbiaa.EdE Go.Proofs.Ytfojeegepfjbiaa.EdF Go.Proofs.Ytfojeegepfjbiaa.EdG Go.Proofs.Ytfojeegepfjbiaa.EdH Go.Proofs.Ytfojeegepfjbiaa.EdI Go.Proofs.Ytfojeegepfjbiaa.EdJ Go.Proofs.Ytfojeegepfjbiaa.EdK Go.Proofs.Ytfojeegepfjbiaa.EdL Go.Proofs.Ytfojeegepfjbiaa.EdM Go.Proofs.Ytfojeegepfjbiaa.EdN
set_option linter.unusedSimpArgs false
set_option linter.unusedVariables false
attribute [local go_sem] max2_int min2_int max_two min_two

theorem pars_at {α : Type} {f : List Int → Option α} : ∀ (ts : List (List Int)) (cut : Bool) (a : Nat), a ≤ (parsL f ts cut a).2.1 ∧ (parsL f ts cut a).2.1 ≤ a + (sealsL ts).length ∧ ((parsL f ts cut a).1 = [] → (parsL f ts cut a).2.1 = a) := by
  intro ts
  induction ts with
  | nil => intro cut a; simp [parsL, sealsL]
  | cons t ts ih =>
    intro cut a
    cases h : f t with
    | none => rw [pars_none h]; simp
    | some r =>
      rw [pars_some h]
      obtain ⟨h1, h2, h3⟩ := ih cut (a + (12 + t.length))
      rw [sealsL_cons, List.length_append, sealL_len]
      dsimp only
      refine ⟨by omega, by omega, fun e => by simp at e⟩
theorem first_len {l : List Int} (h : Bys l) (h0 : (firstL l).2.1 ≠ 0) : (firstL l).2.1 = 12 + (firstL l).1.length := by
  have hv := fourV_bd h
  unfold firstL at h0 ⊢
  split
  · rename_i c1; rw [if_pos c1] at h0; exact absurd rfl h0
  · rename_i c1; rw [if_neg c1] at h0
    split
    · rename_i c2; rw [if_pos c2] at h0; exact absurd rfl h0
    · rename_i c2; rw [if_neg c2] at h0
      split
      · rename_i c3; rw [if_pos c3] at h0; exact absurd rfl h0
      · rename_i c3; rw [if_neg c3] at h0
        split
        · rename_i c4; rw [if_pos c4] at h0; exact absurd rfl h0
        · simp only []
          unfold bodyL
          rw [List.length_drop, List.length_take]
          omega
theorem scan_within {l : List Int} (h : Bys l) : ∀ (f a : Nat), a ≤ l.length → a + (sealsL (scanF f l a).1).length ≤ l.length := by
  intro f
  induction f with
  | zero => intro a ha; simp [scanF, sealsL]; exact ha
  | succ f ih =>
    intro a ha
    rw [scanF_succ]
    split
    · simp [sealsL]; exact ha
    · rename_i h0
      have h1 := first_len (bys_drop h a) h0
      have h2 := firstL_le (bys_drop h a)
      rw [List.length_drop] at h2
      have h3 := ih (a + (firstL (l.drop a)).2.1) (by omega)
      simp only []
      rw [sealsL_cons, List.length_append, sealL_len]
      omega
theorem escan_bd {l : List Int} (h : Bys l) : (escanL l).2.1 ≤ l.length ∧ ((escanL l).1 = [] → (escanL l).2.1 = 0) ∧ (l.length < 12 → (escanL l).2.2 = true) := by
  have h1 := pars_at (f := parseE) (scanL l).1 (scanL l).2.2 0
  have h2 := scan_within h (l.length + 1) 0 (Nat.zero_le _)
  refine ⟨by have h3 := h1.2.1; have : (escanL l).2.1 ≤ 0 + (sealsL (scanL l).1).length := h3; have h4 : 0 + (sealsL (scanL l).1).length ≤ l.length := h2; omega, h1.2.2, fun hl => ?_⟩
  have hf : firstL l = ([], 0, true) := by unfold firstL; rw [if_pos hl]
  have hs : scanL l = ([], 0, true) := by
    unfold scanL
    rw [scanF_succ, List.drop_zero, hf]
    rfl
  unfold escanL
  rw [hs]
  rfl
set_option maxRecDepth 100000 in
set_option maxHeartbeats 1000000 in
theorem walk (A : Option Addr) (c : Nat) (l : List Int) (w : World) (hr : (Kd.int .u8).C w A l.length l) (hc : l.length ≤ c) (hm : l.length * 1 ≤ 140737488351232) (hw : ∀ x ∈ l, (Lit.int .u8 x).wf = true) :
    Calls Try.prog 16 #[.slice A l.length c] w fun e w' => e = .returned (.bool true) ∧ Below w.heap.size w w' := by
  have hby := bys_take (bys_wf hw) 200
  have hr2 := C_take 200 hr
  have hl3 : (l.take 200).length ≤ 200 := by rw [List.length_take]; omega
  have hlc : (l.take 200).length ≤ c := by rw [List.length_take]; omega
  have HS := Aside0.mk (fun w => short_calls A c l 200 hc w)
  generalize l.take 200 = t at *
  have HR := Aside0.mk hr2
  obtain ⟨g1, g2, g3⟩ := escan_bd hby
  have HSC := Aside0.mk (fun w h => escan_calls A c t hby w h hlc (by omega))
  generalize (escanL t).1 = L at *
  generalize (escanL t).2.1 = n at *
  generalize (escanL t).2.2 = ok at *
  have HL3 := Aside0.mk hl3
  clear hr hr2 hc hm hw hby hlc hl3
  obtain ⟨nt, hnt⟩ : ∃ q, t.length = q := ⟨_, rfl⟩
  rw [hnt] at HS HSC HR g1 g3 HL3
  clear hnt
  go_enter Try.func16, Try.ntmps16
  go_wp2_with fail
  refine (EdN.begun_calls w).mono ?_
  rintro e_ w1 ⟨rfl, hb⟩
  have HB1 := Aside0.mk hb
  clear hb
  go_wp2_with fail
  refine (HS.out w1).mono ?_
  rintro e_ w2 ⟨rfl, rfl⟩
  go_wp2_with fail
  refine (HSC.out w1 (Kd.C_below HR.out HB1.out)).mono ?_
  rintro e_ w2 ⟨v2, rfl, ho, hb⟩
  obtain ⟨A2, c2, rfl⟩ := Kd.R_slice ho
  have HB2 := Aside0.mk (below_step HB1.out hb)
  clear ho hb HB1 HSC HS HR
  have k0 : ((n : Int) ≤ (nt : Int)) = True := eq_true (by omega)
  obtain ⟨m, hm⟩ : ∃ q, L.length = q := ⟨_, rfl⟩
  rw [hm]
  have HM := Aside0.mk hm
  have HG := Aside0.mk (And.intro g2 g3)
  clear g1 g2 g3 hm
  by_cases q1 : 0 < m
  · cases ok with
    | true =>
      go_wp2
      go_ret
      exact ⟨by first | rfl | simp, HB2.out⟩
    | false =>
      have k2 : ((12 : Int) ≤ (nt : Int)) = True := eq_true (by have h1 := HG.out.2; by_cases hq : nt < 12; exact absurd (h1 hq) (by simp); omega)
      go_wp2
      go_ret
      exact ⟨by first | rfl | simp, HB2.out⟩
  · have hL : L = [] := List.eq_nil_of_length_eq_zero (by have := HM.out; omega)
    have hn := HG.out.1 hL
    subst hn
    cases ok with
    | true =>
      go_wp2
      go_ret
      exact ⟨by first | rfl | simp, HB2.out⟩
    | false =>
      have k2 : ((12 : Int) ≤ (nt : Int)) = True := eq_true (by have h1 := HG.out.2; by_cases hq : nt < 12; exact absurd (h1 hq) (by simp); omega)
      go_wp2
      go_ret
      exact ⟨by first | rfl | simp, HB2.out⟩
end Go.Proofs.Ytfojeegepfjbiaa.EaWalk
