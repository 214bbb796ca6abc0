/- The row of the law EditBytes: out of its walk. No condition. -/
import Derived.Test.YtfojeegepfjbiaaRows
import Derived.Test.YtfojeegepfjbiaaWSized
import Derived.Test.YtfojeegepfjbiaaOpn
import Derived.Test.YtfojeegepfjbiaaEbWalk
import Derived.WalkKit
import Derived.ProofKit
import Derived.OpenShut
import Derived.ShutString
import Derived.ChangeOld
import Derived.Below
import Derived.SizedLaws
namespace Go.Proofs.Ytfojeegepfjbiaa.editBytes
open Go.ChangeShapes Go.WideShapes Go.ChangeAt Go.RowKit Go.Proofs.YtfojeegepfjbiaaW.PrintWords
open Go.ChangeMaps (open_string shut_string)
set_option linter.unusedVariables false
theorem own : ownKnob Try.prog.godebug = none := by kernel_rfl
theorem laidOut : laidOutB Try.prog = true := by kernel_rfl
def IsRow (k : IntKind) (w : World) (a : Option Addr) (len cap : Nat) (zs : List Int) : Prop :=
  (a = none ∧ len = 0 ∧ cap = 0 ∧ zs = []) ∨
  ∃ x, a = some x ∧ len ≤ cap ∧ cap ≤ maxLen ∧ zs.length = cap ∧ (∀ i, i < zs.length → w.cell? (x.add i) = some (.int k (zs.getD i 0))) ∧ ∀ n ∈ zs, (Lit.int k n).wf = true
set_option maxRecDepth 100000 in
theorem lifted (os : Os) (started : os.Started) (H : Type) (enc : TypeId × Value → H) :
    ReturnsInHanded {} Try.checked os 14 .any (Rows.editBytesSpec.pre6 enc Try.prog Try.f14 Rows.editBytesRow.domain false) (Rows.editBytesSpec.post enc Try.prog Try.f14 false true false false) := by
  refine returnsInHanded_of_change_sized (C := Try.checked) own started (by kernel_rfl) Try.func14
    (ChangeSpec.witness6 (enc := enc) (C := Try.checked) false ⟨#[], #[.agg #[.int .i64 0, .int .i64 0, .slice none 0 0, .slice none 0 0, .slice none 0 0, .slice none 0 0], .agg #[.int .i64 0, .int .i64 0, .slice none 0 0, .slice none 0 0, .slice none 0 0, .slice none 0 0]], []⟩ 8 (by kernel_rfl) (by kernel_rfl) (by kernel_rfl) (by kernel_rfl)) ?_
  intro W base args ds gs before hval0 hW hcnd hsz0 _
  have hsz : (DataW.weightsEach Try.prog (Try.f14.params.toList ++ Rows.editBytesSpec.plain.varTypes Try.prog) (ds ++ gs)).all (· ≤ reachBytes) = true := hsz0
  have hval : ∀ (j : Nat) t v, Try.f14.params[j]? = some t → args[j]? = some v → Value.okWide Try.prog W .any base t v := hval0
  have hW' := hW
  obtain ⟨p, q, hA0, hV, rfl, hfz, hnd⟩ := hW
  have hA : DataW.TrodAll enc Try.prog W 0 (fun _ => true) true Try.f14.params.toList args.toList ds p := hA0
  rw [Try.params14] at hA hval hsz
  obtain ⟨v0, vs0, d0, ds0, p0, q0, hargs, rfl, rfl, h0, r0⟩ := trodAll_cons hA
  obtain ⟨v1, vs1, d1, ds1, p1, q1, rfl, rfl, rfl, h1, r1⟩ := trodAll_cons r0
  obtain ⟨rfl, rfl, rfl⟩ := trodAll_nil r1
  obtain rfl : args = #[v0, v1] := by cases args; simp_all
  obtain ⟨rfl, rfl⟩ := trodVars_none hV
  obtain ⟨a0, rfl, hsz0⟩ := okWide_struct Try.underlying66 (hval 0 66 v0 rfl rfl)
  have k0 := h0
  have lt0 : ∀ x ∈ p0, x.block < W.heap.size := by obtain ⟨m, hm⟩ := k0; exact DataW.trod_lt m _ _ _ hm
  obtain ⟨fu0, hf0⟩ := h0
  obtain ⟨l0, hk0, hg0⟩ := ((Opn.opens_struct Try.underlying66 (by kernel_rfl) (Opn.opensF_cons rfl (Opn.opens_int Try.underlying2 (by kernel_rfl)) (Opn.opensF_cons rfl (Opn.opens_int Try.underlying2 (by kernel_rfl)) (Opn.opensF_cons rfl (Opn.opens_slice Try.underlying62 (by kernel_rfl) (Opn.opens_struct Try.underlying77 (by kernel_rfl) (Opn.opensF_cons rfl (Opn.opens_int Try.underlying2 (by kernel_rfl)) (Opn.opensF_cons rfl (Opn.opens_bool Try.underlying4 (by kernel_rfl)) (Opn.opensF_cons rfl (Opn.opens_int Try.underlying2 (by kernel_rfl)) (Opn.opensF_cons rfl (Opn.opens_int Try.underlying3 (by kernel_rfl)) (Opn.opensF_cons rfl (Opn.opens_int Try.underlying3 (by kernel_rfl)) (Opn.opensF_one rfl (Opn.opens_int Try.underlying25 (by kernel_rfl))))))))) 77) (Opn.opensF_cons rfl (Opn.opens_slice Try.underlying63 (by kernel_rfl) (Opn.opens_int Try.underlying2 (by kernel_rfl)) 2) (Opn.opensF_cons rfl (Opn.opens_slice Try.underlying64 (by kernel_rfl) (Opn.opens_struct Try.underlying90 (by kernel_rfl) (Opn.opensF_cons rfl (Opn.opens_int Try.underlying2 (by kernel_rfl)) (Opn.opensF_cons rfl (Opn.opens_slice Try.underlying63 (by kernel_rfl) (Opn.opens_int Try.underlying2 (by kernel_rfl)) 2) (Opn.opensF_cons rfl (Opn.opens_slice Try.underlying60 (by kernel_rfl) (Opn.opens_int Try.underlying3 (by kernel_rfl)) 3) (Opn.opensF_cons rfl (Opn.opens_int Try.underlying3 (by kernel_rfl)) (Opn.opensF_one rfl (Opn.opens_int Try.underlying25 (by kernel_rfl)))))))) 90) (Opn.opensF_one rfl (Opn.opens_slice Try.underlying63 (by kernel_rfl) (Opn.opens_int Try.underlying2 (by kernel_rfl)) 2))))))))).2 _ _ _ _ _ _ _ hf0
  obtain ⟨a1, rfl, hsz1⟩ := okWide_struct Try.underlying66 (hval 1 66 v1 rfl rfl)
  have k1 := h1
  have lt1 : ∀ x ∈ p1, x.block < W.heap.size := by obtain ⟨m, hm⟩ := k1; exact DataW.trod_lt m _ _ _ hm
  obtain ⟨fu1, hf1⟩ := h1
  obtain ⟨l1, hk1, hg1⟩ := ((Opn.opens_struct Try.underlying66 (by kernel_rfl) (Opn.opensF_cons rfl (Opn.opens_int Try.underlying2 (by kernel_rfl)) (Opn.opensF_cons rfl (Opn.opens_int Try.underlying2 (by kernel_rfl)) (Opn.opensF_cons rfl (Opn.opens_slice Try.underlying62 (by kernel_rfl) (Opn.opens_struct Try.underlying77 (by kernel_rfl) (Opn.opensF_cons rfl (Opn.opens_int Try.underlying2 (by kernel_rfl)) (Opn.opensF_cons rfl (Opn.opens_bool Try.underlying4 (by kernel_rfl)) (Opn.opensF_cons rfl (Opn.opens_int Try.underlying2 (by kernel_rfl)) (Opn.opensF_cons rfl (Opn.opens_int Try.underlying3 (by kernel_rfl)) (Opn.opensF_cons rfl (Opn.opens_int Try.underlying3 (by kernel_rfl)) (Opn.opensF_one rfl (Opn.opens_int Try.underlying25 (by kernel_rfl))))))))) 77) (Opn.opensF_cons rfl (Opn.opens_slice Try.underlying63 (by kernel_rfl) (Opn.opens_int Try.underlying2 (by kernel_rfl)) 2) (Opn.opensF_cons rfl (Opn.opens_slice Try.underlying64 (by kernel_rfl) (Opn.opens_struct Try.underlying90 (by kernel_rfl) (Opn.opensF_cons rfl (Opn.opens_int Try.underlying2 (by kernel_rfl)) (Opn.opensF_cons rfl (Opn.opens_slice Try.underlying63 (by kernel_rfl) (Opn.opens_int Try.underlying2 (by kernel_rfl)) 2) (Opn.opensF_cons rfl (Opn.opens_slice Try.underlying60 (by kernel_rfl) (Opn.opens_int Try.underlying3 (by kernel_rfl)) 3) (Opn.opensF_cons rfl (Opn.opens_int Try.underlying3 (by kernel_rfl)) (Opn.opensF_one rfl (Opn.opens_int Try.underlying25 (by kernel_rfl)))))))) 90) (Opn.opensF_one rfl (Opn.opens_slice Try.underlying63 (by kernel_rfl) (Opn.opens_int Try.underlying2 (by kernel_rfl)) 2))))))))).2 _ _ _ _ _ _ _ hf1
  clear hA0 hval0 hsz0 hsz
  refine (EbWalk.walk a0 l0 a1 l1 W hk0 hg0 hk1 hg1).mono fun e W' ⟨he, bel⟩ => ?_
  subst he
  exact ⟨_, rfl, _, _, _, [], _, [], hW', trodAll_mk1 (shut_bool Try.underlying4 _), (trodAll_cons_mk (Below.trod laidOut (by kernel_rfl) (of_decide_eq_true (by kernel_rfl)) k0 bel lt0) (trodAll_cons_mk (Below.trod laidOut (by kernel_rfl) (of_decide_eq_true (by kernel_rfl)) k1 bel lt1) trodAll_mk0)), rfl, bel.frame _, fun h => by cases h⟩
theorem over : Rows.editBytesRow.holds Try.pinned (OpenSpec.ofChange Rows.editBytesSpec) :=
  OpenClaim.holds_of_wide 14 Try.f14 rfl rfl rfl rfl rfl rfl rfl ⟨rfl, rfl, rfl, rfl, rfl⟩ rfl rfl rfl rfl rfl (by kernel_rfl) Try.func14 (by kernel_rfl)
    (of_decide_eq_true (by kernel_rfl)) (by unfold Func.isWrapper; first | (rw [if_pos (by decide +kernel)]; kernel_rfl) | (rw [if_neg (by decide +kernel)]; exact ⟨rfl, rfl⟩))
    (fun os started H enc _ => lifted os started H enc)
theorem proved : Rows.EditBytesSaid := over
#print axioms proved
end Go.Proofs.Ytfojeegepfjbiaa.editBytes
namespace Go.Proofs.Ytfojeegepfjbiaa
theorem editBytes_holds : Rows.EditBytesSaid := editBytes.proved
end Go.Proofs.Ytfojeegepfjbiaa

