/- TopOpenFails: what the evaluator is asked, and the law out of its runs. No condition. -/
import Derived.Test.YtlpffldeogapmaaGreatDoorProg
import Derived.Below
import Derived.Deep.Draws
import Derived.Deep.AppendLies
import Derived.Maps.AppendAt
import Derived.OwnWalk
import Derived.Laws.BytesArg
import Derived.Laws.MakeOwn
import Derived.Laws.OwnMore
import Derived.Deep.OwnRows
import Derived.Tactics
import Derived.Lib.ConvBytes
import Derived.Laws.Slices
import Derived.WalkKit
import Derived.KernelRfl
import Derived.RowKit3
import Derived.Deep.LoopGhost
import Derived.Deep.QuietTactic
import Derived.BigQuiet
import Derived.WideLaws
import Derived.Deep.DeepCutAuto
import Derived.Deep.CutBlock
import Derived.Deep.RegionHeld3
import Derived.Laws.Rows
import Derived.Lib.AppendStr
import Derived.ArgAppend
import Derived.Laws.IdiomCopy
import Derived.OrdersHeld
import Derived.Laws.BitsLemmas
import Derived.RowKit
import Derived.WalkSpells
import Derived.Outline
import Derived.Test.YtlpffldeogapmaaGreatDoorWWords
import Derived.Test.YtlpffldeogapmaaGreatDoorWLast
import Derived.Test.YtlpffldeogapmaaGreatDoorWMore
import Derived.Test.YtlpffldeogapmaaGreatDoorWArr
import Derived.Test.YtlpffldeogapmaaGreatDoorWTab
import Derived.Test.YtlpffldeogapmaaGreatDoorWZeros
import Derived.Test.YtlpffldeogapmaaGreatDoorWRepsOne
import Derived.Test.YtlpffldeogapmaaGreatDoorTt
namespace Go.Proofs.YtlpffldeogapmaaGreatDoor.Tg
open Go.RowKit Go.Proofs.YtlpffldeogapmaaGreatDoorW.PrintWords Go.Proofs.YtlpffldeogapmaaGreatDoorW.PrintLast Go.Proofs.YtlpffldeogapmaaGreatDoorW.PrintMore Go.Proofs.YtlpffldeogapmaaGreatDoor.Ev Go.Proofs.YtlpffldeogapmaaGreatDoor.EvZ Go.Proofs.YtlpffldeogapmaaGreatDoor.EuC Go.Proofs.YtlpffldeogapmaaGreatDoor.EuE Go.Proofs.YtlpffldeogapmaaGreatDoor.Sm Go.Proofs.YtlpffldeogapmaaGreatDoor.Me Go.Proofs.YtlpffldeogapmaaGreatDoor.Ta Go.Proofs.YtlpffldeogapmaaGreatDoor.Tb Go.Proofs.YtlpffldeogapmaaGreatDoor.Tc Go.Proofs.YtlpffldeogapmaaGreatDoor.Tf Go.Proofs.YtlpffldeogapmaaGreatDoor.Tt
set_option linter.unusedSimpArgs false
set_option linter.unusedVariables false
attribute [local go_sem] max2_int min2_int max_two min_two

open Go.MapKept
set_option linter.unusedSectionVars false
set_option maxRecDepth 1000000
noncomputable section
section
variable [GO]
def sm : Sums := fun g => ([(13, smallS), (197, usedS), (17, (sumS [])), (44, (sortFFN [58])), (286, (sortFF [300, 373] keyI)), (28, crT), (50, crF), (379, encT)] : List (Nat × FF)).lookup g
theorem sums : SumsOk Tryz.prog sm := fun g x h => by
  unfold sm at h
  simp only [List.lookup] at h
  split at h
  · rename_i q
    cases h; rw [eq_of_beq q]; exact small_ok
  · split at h
    · rename_i q
      cases h; rw [eq_of_beq q]; exact used_ok
    · split at h
      · rename_i q
        cases h; rw [eq_of_beq q]; exact (sum_ok (fun t h => by cases h))
      · split at h
        · rename_i q
          cases h; rw [eq_of_beq q]; exact sortSN_ok
        · split at h
          · rename_i q
            cases h; rw [eq_of_beq q]; exact sortI_ok
          · split at h
            · rename_i q
              cases h; rw [eq_of_beq q]; exact crT_ok
            · split at h
              · rename_i q
                cases h; rw [eq_of_beq q]; exact crF_ok
              · split at h
                · rename_i q
                  cases h; rw [eq_of_beq q]; exact enc_ok
                · cases h

abbrev CHx : CH := run Tryz.prog pls sm 200
theorem chx_ok : CHok Tryz.prog CHx := runs sums 200
end
def runO (j : Nat) (fa : AV) (sl : Bool) : R := CHx 6 [.sm j 12, fa, .ui .i64, .us, .b sl] hG isTR
theorem law_run {j : Nat} {fa : AV} {sl : Bool} (hrun : runO j fa sl = true) (n f d : Int) (hn : -9223372036854775808 ≤ n ∧ n < 9223372036854775808) (hd : -9223372036854775808 ≤ d ∧ d < 9223372036854775808) (hj : (n.tmod 12).natAbs = j) (hfa : ∀ [GO] (ρ : Ren), VR ρ fa (.int .i64 f))
    (A : Option Addr) (c : Nat) (l : List Int) (w : World) (hR : (Kd.int .i64).C w A l.length l) (hc : l.length ≤ c) (hL : l.length ≤ 9223372036854775807) (hwf : ∀ n ∈ l, (Lit.int .i64 n).wf = true) :
    Calls Tryz.prog 6 #[.int .i64 n, .int .i64 f, .int .i64 d, .slice A l.length c, .bool sl] w fun e w' => e = .returned (.bool true) ∧ Below w.heap.size w w' := by
  by_cases hl : l.length = 0
  · refine end_of (ρ := fun _ => none) chx_ok hrun (fun _ _ => rfl) (fun _ h => by cases h) ?_
    simp only [VRs]
    exact ⟨_, _, rfl, VR_sm hn.1 hn.2 hj, _, _, rfl, hfa _, _, _, rfl, VR_any hd.1 hd.2, _, _, rfl, by simp only [VR]; exact ⟨A, l.length, c, rfl, hc, .inl hl⟩, _, _, rfl, VR_bb sl, rfl⟩
  · obtain ⟨ad, rfl, h0⟩ := Kd.at_int hR 0 (by omega) (by omega)
    rw [show ((0 : Int)).toNat = 0 from rfl, Addr.add_zero'] at h0
    obtain ⟨cs, elem, fz, hob, hsp⟩ : ∃ cs elem fz, w.heap[ad.block]? = some (.cells cs elem fz) ∧ ad.spot = none := by
      unfold World.cell? at h0
      cases hq : w.heap[ad.block]? with
      | none => rw [hq] at h0; cases h0
      | some ob =>
        rw [hq] at h0
        cases ob <;> try cases h0
        rename_i cs elem fz
        refine ⟨cs, elem, fz, rfl, ?_⟩
        cases hs : ad.spot with
        | none => rfl
        | some q => simp [hs] at h0
    letI : GO := ⟨.cells cs elem fz⟩
    refine end_of (ρ := fun b => if b = 1 then some ⟨ad.block, 0, 0⟩ else none) chx_ok hrun (fun b hb => if_neg hb) (fun l h => ?_) ?_
    · have h : some (⟨ad.block, 0, 0⟩ : Ev.Loc) = some l := h
      cases h
      exact hob
    · simp only [VRs]
      refine ⟨_, _, rfl, VR_sm hn.1 hn.2 hj, _, _, rfl, hfa _, _, _, rfl, VR_any hd.1 hd.2, _, _, rfl, ?_, _, _, rfl, VR_bb sl, rfl⟩
      simp only [VR]
      refine ⟨some ad, l.length, c, rfl, hc, .inr ⟨⟨ad.block, 0, 0⟩, ad.off, rfl, ?_, fun i hi => ?_⟩⟩
      · obtain ⟨b, o, s⟩ := ad
        have hsp : s = none := hsp
        rw [hsp]
      · obtain ⟨ad2, e2, h2⟩ := Kd.at_int hR (i : Int) (by omega) (by omega)
        cases e2
        simp only [Int.toNat_natCast] at h2
        have hwr : IntKind.i64.wrap (rd l (i : Int)) = rd l (i : Int) := by
          have hr : rd l (i : Int) = 0 ∨ rd l (i : Int) ∈ l := by
            unfold rd
            rw [List.getD_eq_getElem?_getD]
            cases hq : l[((i : Int)).toNat]? with
            | none => exact .inl rfl
            | some x => exact .inr (List.mem_of_getElem? hq)
          rcases hr with hr | hr
          · rw [hr, IntKind.wrap_i64]; omega
          · have := hwf _ hr
            simp [Lit.wf, IntKind.min, IntKind.max, IntKind.bits, IntKind.signed] at this
            rw [IntKind.wrap_i64]; omega
        refine ⟨rd l (i : Int), ?_⟩
        rw [hwr, ← h2]
        have hadd : (ad.add i).block = ad.block ∧ (ad.add i).off = ad.off + i ∧ (ad.add i).spot = none := by
          unfold Addr.add
          by_cases hi0 : i = 0
          · rw [if_pos hi0, hi0]; exact ⟨rfl, rfl, hsp⟩
          · rw [if_neg hi0]; exact ⟨rfl, rfl, rfl⟩
        unfold World.cell? goCell
        rw [hadd.1, hadd.2.1, hadd.2.2, hob]
        rfl
end
end Go.Proofs.YtlpffldeogapmaaGreatDoor.Tg
