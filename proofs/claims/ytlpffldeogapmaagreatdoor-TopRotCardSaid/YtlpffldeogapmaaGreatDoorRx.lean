/- TopRot, TopRepair: the laws of their functions that the evaluator takes as given; no table as yet. No condition. -/
import Derived.Test.YtlpffldeogapmaaGreatDoorProg
import Derived.Below
import Derived.Deep.Draws
import Derived.Deep.AppendLies
import Derived.Maps.AppendAt
import Derived.OwnWalk
import Derived.Laws.BytesArg
import Derived.Laws.MakeOwn
import Derived.Laws.OwnMore
import Derived.Deep.OwnRows
import Derived.Tactics
import Derived.Lib.ConvBytes
import Derived.Laws.Slices
import Derived.WalkKit
import Derived.KernelRfl
import Derived.RowKit3
import Derived.Deep.LoopGhost
import Derived.Deep.QuietTactic
import Derived.BigQuiet
import Derived.WideLaws
import Derived.Deep.DeepCutAuto
import Derived.Deep.CutBlock
import Derived.Deep.RegionHeld3
import Derived.Laws.Rows
import Derived.Lib.AppendStr
import Derived.ArgAppend
import Derived.Laws.IdiomCopy
import Derived.OrdersHeld
import Derived.Laws.BitsLemmas
import Derived.RowKit
import Derived.WalkSpells
import Derived.Outline
import Derived.Test.YtlpffldeogapmaaGreatDoorWWords
import Derived.Test.YtlpffldeogapmaaGreatDoorWLast
import Derived.Test.YtlpffldeogapmaaGreatDoorWMore
import Derived.Test.YtlpffldeogapmaaGreatDoorWArr
import Derived.Test.YtlpffldeogapmaaGreatDoorWTab
import Derived.Test.YtlpffldeogapmaaGreatDoorWZeros
import Derived.Test.YtlpffldeogapmaaGreatDoorWRepsOne
import Derived.Test.YtlpffldeogapmaaGreatDoorEvZ
import Derived.Test.YtlpffldeogapmaaGreatDoorEuC
import Derived.Test.YtlpffldeogapmaaGreatDoorEuE
import Derived.Test.YtlpffldeogapmaaGreatDoorSm
import Derived.Test.YtlpffldeogapmaaGreatDoorFo
import Derived.Test.YtlpffldeogapmaaGreatDoorMe
namespace Go.Proofs.YtlpffldeogapmaaGreatDoor.Rx
open Go.RowKit Go.Proofs.YtlpffldeogapmaaGreatDoorW.PrintWords Go.Proofs.YtlpffldeogapmaaGreatDoorW.PrintLast Go.Proofs.YtlpffldeogapmaaGreatDoorW.PrintMore Go.Proofs.YtlpffldeogapmaaGreatDoor.Ev Go.Proofs.YtlpffldeogapmaaGreatDoor.EvZ Go.Proofs.YtlpffldeogapmaaGreatDoor.EuC Go.Proofs.YtlpffldeogapmaaGreatDoor.EuE Go.Proofs.YtlpffldeogapmaaGreatDoor.Sm Go.Proofs.YtlpffldeogapmaaGreatDoor.Fo Go.Proofs.YtlpffldeogapmaaGreatDoor.Me
set_option linter.unusedSimpArgs false
set_option linter.unusedVariables false
attribute [local go_sem] max2_int min2_int max_two min_two

open Go.MapKept
set_option maxRecDepth 1000000
noncomputable section
/-! ### A sector that is not known: each that may be -/
def rotB (cH : CH) (l : List AV) (h : H) (k : AV → H → R) : R := (body Tryz.prog pls 16).run cH l h k
def rotX (cH : CH) (l : List AV) (h : H) (k : AV → H → R) (x : AV) : R :=
  AV.rec (motive_1 := fun _ => R) (motive_2 := fun _ => Unit) (rotB cH l h k) (rotB cH l h k) (fun _ => (rotB cH l h k)) (fun _ _ => (rotB cH l h k)) (fun _ _ => (rotB cH l h k)) (fun kd lo n => keq kd .i64 (gd (Nat.beq lo 9223372036854775808) (gd (Nat.blt 0 n) (gd (Nat.blt n 64) (nth 0 l (fun a0 => nth 1 l (fun a1 => nth 3 l (fun a3 => upto (fun s => rotB cH [a0, a1, .i .i64 s, a3] h k) n)))))))) (fun _ _ => (rotB cH l h k)) (fun _ _ _ _ => (rotB cH l h k)) (fun _ _ _ => (rotB cH l h k)) (fun _ _ => (rotB cH l h k)) (rotB cH l h k) (rotB cH l h k) (rotB cH l h k) (rotB cH l h k) (rotB cH l h k) (fun _ _ _ _ _ => (rotB cH l h k)) (fun _ _ _ => (rotB cH l h k)) (fun _ => (rotB cH l h k)) (fun _ _ => (rotB cH l h k)) (fun _ _ => (rotB cH l h k)) (fun _ => (rotB cH l h k)) (fun _ _ _ _ => (rotB cH l h k)) (fun _ _ => (rotB cH l h k)) (fun _ => (rotB cH l h k)) (fun _ _ => (rotB cH l h k)) () (fun _ _ _ _ => ()) x
def rotS : FF := ⟨fun cH l h k => gd (Nat.beq (llen l) 4) (nth 2 l (rotX cH l h k))⟩
theorem rot_ok : FnOk Tryz.prog 16 rotS := by
  intro cH hc args h F e ρ vs w hr hv
  obtain ⟨hl, e⟩ := gd_true (show gd (Nat.beq (llen args) 4) (nth 2 args (rotX cH args h F)) = true from e)
  obtain ⟨x, hx, e⟩ := nth_true e
  have hb := body_ok mixed_ok clone_ok all_ok 16
  cases x <;> try exact hb cH hc args h F e ρ vs w hr hv
  case rg kd lo n =>
    obtain ⟨hk, e1⟩ := keq_true (show keq kd .i64 (gd (Nat.beq lo 9223372036854775808) (gd (Nat.blt 0 n) (gd (Nat.blt n 64) (nth 0 args (fun a0 => nth 1 args (fun a1 => nth 3 args (fun a3 => upto (fun s => rotB cH [a0, a1, .i .i64 s, a3] h F) n))))))) = true from e)
    obtain ⟨g1, e2⟩ := gd_true e1
    obtain ⟨g2, e3⟩ := gd_true e2
    obtain ⟨g3, e4⟩ := gd_true e3
    obtain ⟨a0, h0, e5⟩ := nth_true e4
    obtain ⟨a1, h1, e6⟩ := nth_true e5
    obtain ⟨a3, h3, e7⟩ := nth_true e6
    have g1 : lo = 9223372036854775808 := Nat.eq_of_beq_eq_true g1
    simp only [Nat.blt_eq] at g2 g3
    subst hk
    obtain ⟨v0, p0, q0⟩ := hv.at 0 _ h0
    obtain ⟨v1, p1, q1⟩ := hv.at 1 _ h1
    obtain ⟨v2, p2, q2⟩ := hv.at 2 _ hx
    obtain ⟨v3, p3, q3⟩ := hv.at 3 _ h3
    have hn := hv.length
    rw [← llen_eq args, Nat.eq_of_beq_eq_true hl] at hn
    have hvs : vs = #[v0, v1, v2, v3] := by
      apply Array.toList_inj.1
      match hvl : vs.toList, hn, p0, p1, p2, p3 with
      | [a, b, c, d], _, p0, p1, p2, p3 => simp at p0 p1 p2 p3; rw [p0, p1, p2, p3]
    subst hvs
    obtain ⟨z, rfl, hz⟩ := VR_rg q2
    have hz := hz.resolve_left (by omega)
    have hf : (hf IntKind.i64 : Int) = 9223372036854775808 := rfl
    obtain ⟨s, hs⟩ : ∃ s : Nat, IntKind.i64.wrap z = (s : Int) := ⟨(IntKind.i64.wrap z).toNat, by omega⟩
    have hsn : s < n := by omega
    have hws : IntKind.i64.wrap (s : Int) = (s : Int) := wrap_id (by omega) (by have : (md IntKind.i64 : Int) = 18446744073709551616 := rfl; omega)
    have hv' : VRs ρ [a0, a1, .i .i64 s, a3] (#[v0, v1, .int .i64 (IntKind.i64.wrap z), v3]).toList := by
      simp only [VRs]
      exact ⟨_, _, rfl, q0, _, _, rfl, q1, _, _, rfl, by rw [hs, ← hws]; exact VR_mki (by show s < 18446744073709551616; omega), _, _, rfl, q3, rfl⟩
    exact hb cH hc _ h F (upto_true e7 s hsn) ρ _ w hr hv'
def sm0 : Sums := fun g => ([(13, smallS), (197, usedS), (17, (sumS [])), (44, (sortFFN [58])), (286, (sortFF [300, 373] keyI)), (16, rotS), (198, fourS)] : List (Nat × FF)).lookup g
theorem sums0 : SumsOk Tryz.prog sm0 := fun g x h => by
  unfold sm0 at h
  simp only [List.lookup] at h
  split at h
  · rename_i q
    cases h; rw [eq_of_beq q]; exact small_ok
  · split at h
    · rename_i q
      cases h; rw [eq_of_beq q]; exact used_ok
    · split at h
      · rename_i q
        cases h; rw [eq_of_beq q]; exact (sum_ok (fun t h => by cases h))
      · split at h
        · rename_i q
          cases h; rw [eq_of_beq q]; exact sortSN_ok
        · split at h
          · rename_i q
            cases h; rw [eq_of_beq q]; exact sortI_ok
          · split at h
            · rename_i q
              cases h; rw [eq_of_beq q]; exact rot_ok
            · split at h
              · rename_i q
                cases h; rw [eq_of_beq q]; exact four_ok
              · cases h

abbrev CH0 : CH := run Tryz.prog pls sm0 200
theorem ch0_ok : CHok Tryz.prog CH0 := runs sums0 200
/-! ### What is there at the beginning -/
def h1 : H := .mk (dflt .no 5) 1
def ρx (x : Nat) : Ren := fun b => if b = 0 then some ⟨x, 0, 0⟩ else none
theorem h1_at (b : Nat) : h1.at b = .no := by
  show H.at (.mk (dflt .no 5) 1) b = .no
  unfold H.at
  split
  · exact get_dflt _ _ _
  · rfl
theorem ρx_dom {x b : Nat} {l : Ev.Loc} (h : ρx x b = some l) : b < 1 := by
  unfold ρx at h
  split at h
  · rename_i hb; omega
  · cases h
theorem hrx (x : Nat) (w : World) : HR (ρx x) h1 w :=
  ⟨fun b l h => ρx_dom h, fun b l _ h => absurd (h1_at b) h, fun b _ _ _ _ _ h => absurd (h1_at b) h, fun b _ => h1_at b⟩
theorem extx_below {x : Nat} {h : H} {ρ : Ren} {w w' : World} (e : Ext (ρx x) h1 w ρ h w') : Below w.heap.size w w' :=
  ⟨e.below.os, e.below.tape, e.below.output, e.below.size, fun B hB => e.keep B hB (fun ⟨b, l, _, h2, _⟩ => absurd (h1_at b) h2)⟩
def isT (v : AV) (_ : H) : R := onB (fun b => b) v
theorem law_of {CHx : CH} (chx_ok : CHok Tryz.prog CHx) {f x : Nat} {args : List AV} {vs : Array Value} {w : World} (e : CHx f args h1 isT = true) (hv : VRs (ρx x) args vs.toList) : Calls Tryz.prog f vs w fun e w' => e = .returned (.bool true) ∧ Below w.heap.size w w' := by
  refine (chx_ok f args h1 isT e (ρx x) vs w (hrx x w) hv).mono ?_
  rintro e_ w' ⟨v', rfl, v, h', ρ', g1, g2, g3, g4⟩
  obtain ⟨b, rfl, g5⟩ := onB_true (show onB (fun b => b) v = true from g1)
  have g5 : b = true := g5
  subst g5
  rw [VR_b g4]
  exact ⟨rfl, extx_below g3⟩
theorem VR_x {x : Int} (h0 : 0 < x) (h1 : x < 256) : VR (ρx x.toNat) (.bx 0 0) (.int .u8 x) := by
  simp only [VR]
  refine ⟨⟨x.toNat, 0, 0⟩, rfl, by show 0 < x.toNat; omega, by show x.toNat < 256; omega, by decide, ?_⟩
  rw [bxv_0]
  congr 1
  show x = (((x.toNat + 0) % 256 : Nat) : Int)
  omega
theorem VR_0 {ρ : Ren} : VR ρ (.i .u8 0) (.int .u8 0) := VR_mki (k := .u8) (n := 0) (by decide)
theorem VR_nn {ρ : Ren} {s : Int} (h0 : 0 ≤ s) (h1 : s < 9223372036854775808) : VR ρ (.rg .i64 9223372036854775808 9223372036854775808) (.int .i64 s) := by
  have hw : IntKind.i64.wrap s = s := by rw [IntKind.wrap_i64]; omega
  have hf : (hf IntKind.i64 : Int) = 9223372036854775808 := rfl
  simp only [VR]
  exact ⟨s, by rw [hw], .inr (by rw [hw, hf]; omega)⟩
theorem VR_sm {ρ : Ren} {s : Int} (h0 : -9223372036854775808 ≤ s) (h1 : s < 9223372036854775808) {j n : Nat} (hj : (s.tmod n).natAbs = j) : VR ρ (.sm j n) (.int .i64 s) := by
  have hw : IntKind.i64.wrap s = s := by rw [IntKind.wrap_i64]; omega
  simp only [VR]
  exact ⟨s, by rw [hw], by rw [hw]; exact hj⟩
theorem VR_neg {ρ : Ren} {s : Int} (h0 : s < 0) (h1 : -9223372036854775808 ≤ s) : VR ρ (.rg .i64 0 9223372036854775808) (.int .i64 s) := by
  have hw : IntKind.i64.wrap s = s := by rw [IntKind.wrap_i64]; omega
  have hf : (hf IntKind.i64 : Int) = 9223372036854775808 := rfl
  simp only [VR]
  exact ⟨s, by rw [hw], .inr (by rw [hw, hf]; omega)⟩
theorem VR_any {ρ : Ren} {s : Int} (h0 : -9223372036854775808 ≤ s) (h1 : s < 9223372036854775808) : VR ρ (.ui .i64) (.int .i64 s) := by
  have hw : IntKind.i64.wrap s = s := by rw [IntKind.wrap_i64]; omega
  simp only [VR]
  exact ⟨s, by rw [hw]⟩
end
end Go.Proofs.YtlpffldeogapmaaGreatDoor.Rx
