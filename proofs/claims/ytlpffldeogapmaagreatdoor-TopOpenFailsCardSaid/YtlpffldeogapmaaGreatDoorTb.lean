/- TopOpenFails: a code of which one piece is said by hand; T.crash, disk.FS.Crash in the evaluator, at tails of which nothing is known. No condition. -/
import Derived.Test.YtlpffldeogapmaaGreatDoorProg
import Derived.Below
import Derived.Deep.Draws
import Derived.Deep.AppendLies
import Derived.Maps.AppendAt
import Derived.OwnWalk
import Derived.Laws.BytesArg
import Derived.Laws.MakeOwn
import Derived.Laws.OwnMore
import Derived.Deep.OwnRows
import Derived.Tactics
import Derived.Lib.ConvBytes
import Derived.Laws.Slices
import Derived.WalkKit
import Derived.KernelRfl
import Derived.RowKit3
import Derived.Deep.LoopGhost
import Derived.Deep.QuietTactic
import Derived.BigQuiet
import Derived.WideLaws
import Derived.Deep.DeepCutAuto
import Derived.Deep.CutBlock
import Derived.Deep.RegionHeld3
import Derived.Laws.Rows
import Derived.Lib.AppendStr
import Derived.ArgAppend
import Derived.Laws.IdiomCopy
import Derived.OrdersHeld
import Derived.Laws.BitsLemmas
import Derived.RowKit
import Derived.WalkSpells
import Derived.Outline
import Derived.Test.YtlpffldeogapmaaGreatDoorWWords
import Derived.Test.YtlpffldeogapmaaGreatDoorWLast
import Derived.Test.YtlpffldeogapmaaGreatDoorWMore
import Derived.Test.YtlpffldeogapmaaGreatDoorWArr
import Derived.Test.YtlpffldeogapmaaGreatDoorWTab
import Derived.Test.YtlpffldeogapmaaGreatDoorWZeros
import Derived.Test.YtlpffldeogapmaaGreatDoorWRepsOne
import Derived.Test.YtlpffldeogapmaaGreatDoorTa
import Derived.Test.YtlpffldeogapmaaGreatDoorEvZ
namespace Go.Proofs.YtlpffldeogapmaaGreatDoor.Tb
open Go.RowKit Go.Proofs.YtlpffldeogapmaaGreatDoorW.PrintWords Go.Proofs.YtlpffldeogapmaaGreatDoorW.PrintLast Go.Proofs.YtlpffldeogapmaaGreatDoorW.PrintMore Go.Proofs.YtlpffldeogapmaaGreatDoor.Ev Go.Proofs.YtlpffldeogapmaaGreatDoor.EvZ Go.Proofs.YtlpffldeogapmaaGreatDoor.Ta
set_option linter.unusedSimpArgs false
set_option linter.unusedVariables false
attribute [local go_sem] max2_int min2_int max_two min_two

open Go.MapKept
set_option linter.unusedSectionVars false
variable [GO]
noncomputable section
variable {P : Program}
/-- A code, a piece of it by a way of its own. -/
def repC (P : Program) (pl : Nat → Option (List Pl)) (cc : CC) : List Nat → Code → CC
  | [], _ => cc
  | 0 :: p, .seq x y => ccQ (repC P pl cc p x) (compC P pl y)
  | (_ + 1) :: p, .seq x y => ccQ (compC P pl x) (repC P pl cc p y)
  | _ :: p, .block id x => ccB id (repC P pl cc p x)
  | _ :: p, .loop x => ccL (repC P pl cc p x)
  | _ :: _, _ => ccN
theorem rep_ok (hm : P.follows .mixedOrders = true) (hcl : CloneOk P) (pl : Nat → Option (List Pl)) {M N : Nat} (hM : M ≤ N) {cc : CC} : ∀ (p : List Nat) (c : Code), codeOk P pl M c = true → CodeS P N cc (subC p c) → CodeS P N (repC P pl cc p c) c
  | [], c, _, h => h
  | k :: p, c, hk, h => by
    have seqS : ∀ {a b : CC} {x y : Code}, CodeS P N a x → CodeS P N b y → CodeS P N (ccQ a b) (.seq x y) := fun {a b x y} h1 h2 => by
      intro cH E Z t h K hc e ρ a' w hs
      refine wp_seq (wp_mono (h1 cH E Z t h (fun t h => b.run cH E Z t h K) hc e ρ a' w hs) fun x a'' w' q => ?_)
      cases x <;> try exact q
      obtain ⟨t', h', ρ', q1, q2, q3⟩ := q
      exact wp_mono (h2 cH E Z t' h' K hc q3 ρ' a'' w' q1) (CQ.ext q2)
    cases c with
    | seq x y =>
      simp only [codeOk, Bool.and_eq_true] at hk
      cases k with
      | zero => exact seqS (rep_ok hm hcl pl hM p x hk.1 h) (code_ok hm hcl pl hM y hk.2)
      | succ k => exact seqS (code_ok hm hcl pl hM x hk.1) (rep_ok hm hcl pl hM p y hk.2 h)
    | block id x =>
      have h1 : CodeS P N (repC P pl cc p x) x := rep_ok hm hcl pl hM p x hk (by cases k <;> exact h)
      have e0 : repC P pl cc (k :: p) (.block id x) = ccB id (repC P pl cc p x) := by cases k <;> rfl
      rw [e0]
      intro cH E Z t h K hc e ρ a w hs
      refine wp_block (wp_mono (h1 cH (fun j t h => Bool.rec (motive := fun _ => R) (E j t h) (K t h) (Nat.beq j id)) Z t h K hc e ρ a w hs) fun x a' w' q => ?_)
      cases x <;> try exact q
      case exit j =>
        obtain ⟨t', h', ρ', q1, q2, q3⟩ := q
        show if j = id then Nxt N ρ h w K a' w' else Nxt N ρ h w (E j) a' w'
        by_cases hj : j = id
        · rw [if_pos hj]
          subst hj
          have q3 : (Bool.rec (motive := fun _ => R) (E j t' h') (K t' h') (Nat.beq j j)) = true := q3
          rw [Nat.beq_refl] at q3
          exact ⟨t', h', ρ', q1, q2, q3⟩
        · rw [if_neg hj]
          have q3 : (Bool.rec (motive := fun _ => R) (E j t' h') (K t' h') (Nat.beq j id)) = true := q3
          rw [show Nat.beq j id = false from (by cases hb : Nat.beq j id with | false => rfl | true => exact absurd (nbeq hb) hj)] at q3
          exact ⟨t', h', ρ', q1, q2, q3⟩
    | loop x =>
      have h1 : CodeS P N (repC P pl cc p x) x := rep_ok hm hcl pl hM p x hk (by cases k <;> exact h)
      have e0 : repC P pl cc (k :: p) (.loop x) = ccL (repC P pl cc p x) := by cases k <;> rfl
      rw [e0]
      intro cH E Z t h K hc e ρ a w hs
      obtain ⟨n, e⟩ := ccL_run e
      have key : ∀ (n : Nat) (t : T) (h : H) (ρ : Ren) (a : Act) (w : World), (Nat.rec (motive := fun _ => KT) (fun _ _ => false) (fun _ ih t h => (repC P pl cc p x).run cH E Z t h ih) n t h : R) = true → St N ρ t h a w → Code.rounds P x (CQ N ρ h w E Z K) n a w := by
        intro n
        induction n with
        | zero => intro t h ρ a w e _; exact (Bool.false_ne_true e).elim
        | succ n ih =>
          intro t h ρ a w e hs
          refine wp_mono (h1 cH E Z t h (fun t h => Nat.rec (motive := fun _ => KT) (fun _ _ => false) (fun _ ih t h => (repC P pl cc p x).run cH E Z t h ih) n t h) hc e ρ a w hs) fun y a' w' q => ?_
          cases y <;> try exact q
          obtain ⟨t', h', ρ', q1, q2, q3⟩ := q
          exact rounds_mono (CQ.ext q2) n a' w' (ih t' h' ρ' a' w' q3 q1)
      exact wp_loop_rounds n (key n t h ρ a w e hs)
    | skip => cases k <;> exact fun _ _ _ _ _ _ _ e _ _ _ _ => (Bool.false_ne_true e).elim
    | region _ _ _ => cases k <;> exact fun _ _ _ _ _ _ _ e _ _ _ _ => (Bool.false_ne_true e).elim
    | cond _ _ _ => cases k <;> exact fun _ _ _ _ _ _ _ e _ _ _ _ => (Bool.false_ne_true e).elim
    | rangeFunc _ _ _ _ => cases k <;> exact fun _ _ _ _ _ _ _ e _ _ _ _ => (Bool.false_ne_true e).elim
    | exit _ => cases k <;> exact fun _ _ _ _ _ _ _ e _ _ _ _ => (Bool.false_ne_true e).elim
    | scope _ => cases k <;> exact fun _ _ _ _ _ _ _ e _ _ _ _ => (Bool.false_ne_true e).elim
    | label _ => cases k <;> exact fun _ _ _ _ _ _ _ e _ _ _ _ => (Bool.false_ne_true e).elim
    | goto _ => cases k <;> exact fun _ _ _ _ _ _ _ e _ _ _ _ => (Bool.false_ne_true e).elim
    | ret => cases k <;> exact fun _ _ _ _ _ _ _ e _ _ _ _ => (Bool.false_ne_true e).elim
    | refuse _ => cases k <;> exact fun _ _ _ _ _ _ _ e _ _ _ _ => (Bool.false_ne_true e).elim
/-- A function, a piece of it by a way of its own. -/
def bodyR (P : Program) (pls : Plans) (g : Nat) (fn : Func) (c : Code) (cc : CC) (p : List Nat) : FF :=
  ⟨fun cH l h k => argsT l 0 T0 (fun t => (repC P (pls g) cc p c).run cH (fun _ _ _ => false) (fun t h => (resOf P fn.results.toList).run t h (fun v => k v h)) t h (fun t h => (resOf P fn.results.toList).run t h (fun v => k v h)))⟩
theorem bodyR_ok (hm : P.follows .mixedOrders = true) (hcl : CloneOk P) {pls : Plans} (hA : AllOk P pls) {g : Nat} {fn : Func} {c : Code} (hf : P.funcs[g]? = some fn) (hb : fn.body = some c) {cc : CC} {p : List Nat} (hcc : CodeS P fn.ntmps cc (subC p c))
    {cH : CH} (hc : CHok P cH) {args : List AV} {h : H} {F : AV → H → R} (e : (bodyR P pls g fn c cc p).run cH args h F = true) {ρ : Ren} {vs : Array Value} {w : World} (hr : HR ρ h w) (hv : VRs ρ args vs.toList) (hl : vs.size ≤ fn.ntmps) :
    Calls P g vs w fun e w' => ∃ v', e = .returned v' ∧ Res ρ h w F v' w' := by
  refine calls_of_wp hf hb ?_
  obtain ⟨t, e1, ht⟩ := argsT_run (show argsT args 0 T0 _ = true from e)
  have hN : vs.size + (fn.ntmps - vs.size) = fn.ntmps := by omega
  have hs : St fn.ntmps ρ t h { tmps := vs ++ Array.replicate (fn.ntmps - vs.size) undef, defers := [] } w := ⟨by have := SlR.enter hv ht (fn.ntmps - vs.size); rwa [hN] at this, hr, rfl⟩
  have fin : ∀ (a' : Act) (w' : World), Nxt fn.ntmps ρ h w (fun t h => (resOf P fn.results.toList).run t h (fun v => F v h)) a' w' →
      a'.defers = [] ∧ ∃ v, (results fn a'.tmps).run P w' = .ok v w' ∧ ∃ v', Ending.returned v = .returned v' ∧ Res ρ h w F v' w' := fun a' w' ⟨t', h', ρ', q1, q2, q3⟩ => by
    obtain ⟨v, g1, g2⟩ := resOf_ok q3
    obtain ⟨v', g3, g4⟩ := g2 _ ρ' a' w' q1.sl q1.hp
    exact ⟨q1.df, v', g3, v', rfl, v, h', ρ', g1, q1.hp, q2, g4⟩
  refine wp_mono (rep_ok hm hcl (pls g) (Nat.le_refl _) p c (hA g fn c hf hb) hcc cH _ _ t h _ hc e1 ρ _ w hs) fun x a' w' q => ?_
  cases x <;> try exact q.elim
  · exact fin a' w' q
  · obtain ⟨_, _, _, _, _, q⟩ := q
    exact (Bool.false_ne_true q).elim
  · exact fin a' w' q
end
end Go.Proofs.YtlpffldeogapmaaGreatDoor.Tb
