/- TopOpenFails: the laws of its functions that the evaluator takes as given; no table as yet. No condition. -/
import Derived.Test.YtlpffldeogapmaaGreatDoorProg
import Derived.Below
import Derived.Deep.Draws
import Derived.Deep.AppendLies
import Derived.Maps.AppendAt
import Derived.OwnWalk
import Derived.Laws.BytesArg
import Derived.Laws.MakeOwn
import Derived.Laws.OwnMore
import Derived.Deep.OwnRows
import Derived.Tactics
import Derived.Lib.ConvBytes
import Derived.Laws.Slices
import Derived.WalkKit
import Derived.KernelRfl
import Derived.RowKit3
import Derived.Deep.LoopGhost
import Derived.Deep.QuietTactic
import Derived.BigQuiet
import Derived.WideLaws
import Derived.Deep.DeepCutAuto
import Derived.Deep.CutBlock
import Derived.Deep.RegionHeld3
import Derived.Laws.Rows
import Derived.Lib.AppendStr
import Derived.ArgAppend
import Derived.Laws.IdiomCopy
import Derived.OrdersHeld
import Derived.Laws.BitsLemmas
import Derived.RowKit
import Derived.WalkSpells
import Derived.Outline
import Derived.Test.YtlpffldeogapmaaGreatDoorWWords
import Derived.Test.YtlpffldeogapmaaGreatDoorWLast
import Derived.Test.YtlpffldeogapmaaGreatDoorWMore
import Derived.Test.YtlpffldeogapmaaGreatDoorWArr
import Derived.Test.YtlpffldeogapmaaGreatDoorWTab
import Derived.Test.YtlpffldeogapmaaGreatDoorWZeros
import Derived.Test.YtlpffldeogapmaaGreatDoorWRepsOne
import Derived.Test.YtlpffldeogapmaaGreatDoorEvZ
import Derived.Test.YtlpffldeogapmaaGreatDoorEuC
import Derived.Test.YtlpffldeogapmaaGreatDoorEuE
import Derived.Test.YtlpffldeogapmaaGreatDoorSm
import Derived.Test.YtlpffldeogapmaaGreatDoorMe
import Derived.Test.YtlpffldeogapmaaGreatDoorTc
namespace Go.Proofs.YtlpffldeogapmaaGreatDoor.Tf
open Go.RowKit Go.Proofs.YtlpffldeogapmaaGreatDoorW.PrintWords Go.Proofs.YtlpffldeogapmaaGreatDoorW.PrintLast Go.Proofs.YtlpffldeogapmaaGreatDoorW.PrintMore Go.Proofs.YtlpffldeogapmaaGreatDoor.Ev Go.Proofs.YtlpffldeogapmaaGreatDoor.EvZ Go.Proofs.YtlpffldeogapmaaGreatDoor.EuC Go.Proofs.YtlpffldeogapmaaGreatDoor.EuE Go.Proofs.YtlpffldeogapmaaGreatDoor.Sm Go.Proofs.YtlpffldeogapmaaGreatDoor.Me Go.Proofs.YtlpffldeogapmaaGreatDoor.Ta Go.Proofs.YtlpffldeogapmaaGreatDoor.Tb Go.Proofs.YtlpffldeogapmaaGreatDoor.Tc
set_option linter.unusedSimpArgs false
set_option linter.unusedVariables false
attribute [local go_sem] max2_int min2_int max_two min_two

open Go.MapKept
set_option linter.unusedSectionVars false
set_option maxRecDepth 1000000
variable [GO]
noncomputable section
def sm0 : Sums := fun g => ([(13, smallS), (197, usedS), (17, (sumS [])), (44, (sortFFN [58])), (286, (sortFF [300, 373] keyI)), (28, crT), (50, crF)] : List (Nat × FF)).lookup g
theorem sums0 : SumsOk Tryz.prog sm0 := fun g x h => by
  unfold sm0 at h
  simp only [List.lookup] at h
  split at h
  · rename_i q
    cases h; rw [eq_of_beq q]; exact small_ok
  · split at h
    · rename_i q
      cases h; rw [eq_of_beq q]; exact used_ok
    · split at h
      · rename_i q
        cases h; rw [eq_of_beq q]; exact (sum_ok (fun t h => by cases h))
      · split at h
        · rename_i q
          cases h; rw [eq_of_beq q]; exact sortSN_ok
        · split at h
          · rename_i q
            cases h; rw [eq_of_beq q]; exact sortI_ok
          · split at h
            · rename_i q
              cases h; rw [eq_of_beq q]; exact crT_ok
            · split at h
              · rename_i q
                cases h; rw [eq_of_beq q]; exact crF_ok
              · cases h

abbrev CH0 : CH := run Tryz.prog pls sm0 200
theorem ch0_ok : CHok Tryz.prog CH0 := runs sums0 200
def hG : H := .mk (put 5 1 .ri (dflt .no 5)) 2
def isTR (v : AV) (h : H) : R := isRi h (onB (fun b => b) v)
theorem hG_at (b : Nat) : hG.at b = if b = 1 then .ri else .no := by
  have h := H.at_put (ht := dflt .no 5) (nx := 2) (nx' := 2) (b := 1) (by decide) .ri b
  unfold hG
  rw [h]
  by_cases hb : b = 1
  · rw [if_pos hb, if_pos hb]
  · rw [if_neg hb, if_neg hb]
    unfold H.at
    split
    · exact get_dflt _ _ _
    · rfl
theorem VR_sm {ρ : Ren} {s : Int} (h0 : -9223372036854775808 ≤ s) (h1 : s < 9223372036854775808) {j n : Nat} (hj : (s.tmod n).natAbs = j) : VR ρ (.sm j n) (.int .i64 s) := by
  have hw : IntKind.i64.wrap s = s := by rw [IntKind.wrap_i64]; omega
  simp only [VR]
  exact ⟨s, by rw [hw], by rw [hw]; exact hj⟩
theorem VR_sr {ρ : Ren} {s : Int} (h0 : -9223372036854775808 ≤ s) (h1 : s < 9223372036854775808) {j n : Nat} (hj : j ≤ (s.tmod n).natAbs) : VR ρ (.sr j n) (.int .i64 s) := by
  have hw : IntKind.i64.wrap s = s := by rw [IntKind.wrap_i64]; omega
  simp only [VR]
  exact ⟨s, by rw [hw], by rw [hw]; exact hj⟩
theorem VR_any {ρ : Ren} {s : Int} (h0 : -9223372036854775808 ≤ s) (h1 : s < 9223372036854775808) : VR ρ (.ui .i64) (.int .i64 s) := by
  have hw : IntKind.i64.wrap s = s := by rw [IntKind.wrap_i64]; omega
  simp only [VR]
  exact ⟨s, by rw [hw]⟩
theorem VR_bb {ρ : Ren} (b : Bool) : VR ρ (.b b) (.bool b) := by simp only [VR]
/-- The law out of a run, where the caller's block is spoken of by none (no tails), or is block 1. -/
theorem end_of {cH : CH} (hc : CHok Tryz.prog cH) {f : Nat} {args : List AV} (e : cH f args hG isTR = true) {ρ : Ren} {vs : Array Value} {w : World} (hρ : ∀ b, b ≠ 1 → ρ b = none) (hob : ∀ l, ρ 1 = some l → w.heap[l.B]? = some GO.ob) (hv : VRs ρ args vs.toList) :
    Calls Tryz.prog f vs w fun e w' => e = .returned (.bool true) ∧ Below w.heap.size w w' := by
  have hno : ∀ b l, ρ b = some l → b = 1 := fun b l h => by
    by_cases hb : b = 1
    · exact hb
    · rw [hρ b hb] at h
      exact absurd h (by simp)
  have hr : HR ρ hG w := by
    refine ⟨fun b l h => ?_, fun b l h hn => ?_, fun b b' l l' h1 h2 _ _ _ => ?_, fun b hb => ?_⟩
    · rw [hno b l h]; decide
    · have hb := hno b l h
      subst hb
      refine ⟨_, hob l h, ?_⟩
      rw [hG_at, if_pos rfl]
      exact rfl
    · rw [hno b l h1, hno b' l' h2]
    · have hb : 2 ≤ b := hb
      rw [hG_at, if_neg (by omega)]
  refine (hc f args hG isTR e ρ vs w hr hv).mono ?_
  rintro e_ w' ⟨v', rfl, v, h', ρ', g1, g2, g3, g4⟩
  obtain ⟨hri, g1⟩ := isRi_true (show isRi h' (onB (fun b => b) v) = true from g1)
  obtain ⟨b, rfl, g5⟩ := onB_true g1
  have g5 : b = true := g5
  subst g5
  rw [VR_b g4]
  refine ⟨rfl, g3.below.os, g3.below.tape, g3.below.output, g3.below.size, fun k hk => ?_⟩
  by_cases hown : Own ρ hG k
  · obtain ⟨b, l, h1, h2, h3⟩ := hown
    have hb := hno b l h1
    subst hb
    obtain ⟨ob, b1, b2⟩ := g2.blk 1 l (g3.sub 1 l h1) (by rw [hri]; simp)
    rw [hri] at b2
    have b2 : ob = GO.ob := b2
    rw [← h3, b1, b2, hob l h1]
  · exact g3.keep k hk hown
end
end Go.Proofs.YtlpffldeogapmaaGreatDoor.Tf
