/- The evaluator's code and functions, against the model's. Own text. No condition of a claim. -/
import Derived.Test.YtlpffldeogapmaaGreatDoorEvT
import Derived.LoopN
import Derived.Scope
namespace Go.Proofs.YtlpffldeogapmaaGreatDoor.Ev
open Go Go.MapKept Go.RowKit
set_option linter.unusedVariables false
set_option linter.unusedSimpArgs false
set_option linter.unusedSectionVars false
variable [GO]
noncomputable section

/-! ### What is asked of the code, by the text alone -/
def opsN (N : Nat) (ops : Array Oper) : Bool := ops.toList.all fun o => match o.dst with | some d => Nat.blt d N | none => true
def codeOk (P : Program) (pl : Nat → Option (List Pl)) (N : Nat) : Code → Bool
  | .region id ops dr => opsN N ops && (match dr with
    | false => true
    | true => match pl id with
      | some l => ancOk ops (ancM ops.toList) && planOk P ops (ancM ops.toList) l [] []
      | none => true)
  | .seq a b => codeOk P pl N a && codeOk P pl N b
  | .cond _ a b => codeOk P pl N a && codeOk P pl N b
  | .block _ a => codeOk P pl N a
  | .loop a => codeOk P pl N a
  | .scope a => codeOk P pl N a
  | _ => true
theorem opsN_spec {M N : Nat} {ops : Array Oper} (h : opsN M ops = true) (hM : M ≤ N) : ∀ (i : Nat) o, ops[i]? = some o → ∀ n, o.dst = some n → n < N := fun i o ho n hn => by
  obtain ⟨hi, he⟩ := Array.getElem?_eq_some_iff.1 ho
  have hm : o ∈ ops.toList := by rw [← he]; exact Array.mem_toList_iff.2 (Array.getElem_mem hi)
  have h1 := List.all_eq_true.1 h o hm
  simp only [hn] at h1
  have : n < M := by simpa [Nat.blt_eq] using h1
  exact Nat.lt_of_lt_of_le this hM
def CQ (N : Nat) (ρ : Ren) (h : H) (w : World) (E : Nat → KT) (Z K : KT) : Exit → Act → World → Prop
  | .normal, a, w' => Nxt N ρ h w K a w'
  | .exit id, a, w' => Nxt N ρ h w (E id) a w'
  | .ret, a, w' => Nxt N ρ h w Z a w'
  | _, _, _ => False
theorem CQ.ext {N : Nat} {ρ ρ1 : Ren} {h h1 : H} {w w1 : World} {E : Nat → KT} {Z K : KT} (e : Ext ρ h w ρ1 h1 w1) : ∀ x a' w', CQ N ρ1 h1 w1 E Z K x a' w' → CQ N ρ h w E Z K x a' w' := by
  intro x a' w' q
  cases x <;> first | exact Nxt.ext e q | exact q
theorem rounds_mono {P : Program} {c : Code} {Q Q' : Exit → Act → World → Prop} (hq : ∀ e a w, Q e a w → Q' e a w) : ∀ (n : Nat) (a : Act) (w : World), Code.rounds P c Q n a w → Code.rounds P c Q' n a w
  | 0, _, _, h => h
  | n + 1, a, w, h => wp_mono (show c.wp P (Exit.then (Code.rounds P c Q n) Q) a w from h) fun e a' w' q => by
    cases e <;> first | exact rounds_mono hq n _ _ q | exact hq _ _ _ q
def CodeS (P : Program) (N : Nat) (cc : CC) (c : Code) : Prop :=
  ∀ (cH : CH) (E : Nat → KT) (Z : KT) (t : T) (h : H) (K : KT), CHok P cH → cc.run cH E Z t h K = true → ∀ (ρ : Ren) (a : Act) (w : World), St N ρ t h a w → c.wp P (CQ N ρ h w E Z K) a w
theorem VR_ub {ρ : Ren} {v : Value} (h : VR ρ .ub v) : ∃ b, v = .bool b := by simpa only [VR] using h
theorem ccL_run {a : CC} {cH : CH} {E : Nat → KT} {Z : KT} {t : T} {h : H} {K : KT} (e : (ccL a).run cH E Z t h K = true) : ∃ n, (Nat.rec (motive := fun _ => KT) (fun _ _ => false) (fun _ ih t h => a.run cH E Z t h ih) n t h : R) = true := by
  unfold ccL at e
  revert e
  generalize 1000000 = n
  intro e
  exact ⟨n, e⟩
theorem code_ok {P : Program} (hm : P.follows .mixedOrders = true) (hcl : CloneOk P) (pl : Nat → Option (List Pl)) {M N : Nat} (hM : M ≤ N) : ∀ c, codeOk P pl M c = true → CodeS P N (compC P pl c) c := by
  intro c
  induction c with
  | skip => exact fun _ cH E Z t h K hc e ρ a w hs => wp_skip ⟨t, h, ρ, hs, Ext.refl _ _ _, e⟩
  | region id ops dr =>
    intro hk cH E Z t h K hc e ρ a w hs
    simp only [codeOk, Bool.and_eq_true] at hk
    obtain ⟨h1, h2⟩ := hk
    cases dr with
    | false => exact plain_ok hcl (opsN_spec h1 hM) hc (show (plain P ops ops.toList).run cH t h K = true from e) hs _ fun a' w' q => q
    | true =>
      have e : (match pl id with | some l => ccR (drawn P ops l) | none => ccN).run cH E Z t h K = true := e
      cases hp : pl id with
      | none => rw [hp] at e; exact (Bool.false_ne_true e).elim
      | some l =>
        simp only [hp] at e h2
        simp only [Bool.and_eq_true] at h2
        exact drawn_ok hm hcl h2.1 h2.2 (opsN_spec h1 hM) hc (show (drawn P ops l).run cH t h K = true from e) hs _ fun a' w' q => q
  | seq x y ihx ihy =>
    intro hk cH E Z t h K hc e ρ a w hs
    simp only [codeOk, Bool.and_eq_true] at hk
    refine wp_seq (wp_mono (ihx hk.1 cH E Z t h (fun t h => (compC P pl y).run cH E Z t h K) hc e ρ a w hs) fun x a' w' q => ?_)
    cases x <;> try exact q
    obtain ⟨t', h', ρ', q1, q2, q3⟩ := q
    exact wp_mono (ihy hk.2 cH E Z t' h' K hc q3 ρ' a' w' q1) (CQ.ext q2)
  | cond c x y ihx ihy =>
    intro hk cH E Z t h K hc e ρ a w hs
    simp only [codeOk, Bool.and_eq_true] at hk
    have hv := hs.sl.op c
    rcases onBu_true (gt_run (show (gt c).run (onBu (Bool.rec false ((compC P pl y).run cH E Z t h K) ((compC P pl x).run cH E Z t h K)) (fun b => Bool.rec (motive := fun _ => R) ((compC P pl y).run cH E Z t h K) ((compC P pl x).run cH E Z t h K) b)) t = true from e)) with ⟨b, h1, h2⟩ | ⟨h1, h2⟩
    · rw [h1] at hv
      refine wp_cond (VR_b hv) ?_
      cases b
      · exact ihy hk.2 cH E Z t h K hc h2 ρ a w hs
      · exact ihx hk.1 cH E Z t h K hc h2 ρ a w hs
    · rw [h1] at hv
      obtain ⟨b, hb⟩ := VR_ub hv
      cases hx : (compC P pl x).run cH E Z t h K with
      | false => rw [hx] at h2; exact (Bool.false_ne_true h2).elim
      | true =>
        rw [hx] at h2
        refine wp_cond hb ?_
        cases b
        · exact ihy hk.2 cH E Z t h K hc h2 ρ a w hs
        · exact ihx hk.1 cH E Z t h K hc hx ρ a w hs
  | block id x ihx =>
    intro hk cH E Z t h K hc e ρ a w hs
    refine wp_block (wp_mono (ihx hk cH (fun j t h => Bool.rec (motive := fun _ => R) (E j t h) (K t h) (Nat.beq j id)) Z t h K hc e ρ a w hs) fun x a' w' q => ?_)
    cases x <;> try exact q
    case exit j =>
      obtain ⟨t', h', ρ', q1, q2, q3⟩ := q
      show if j = id then Nxt N ρ h w K a' w' else Nxt N ρ h w (E j) a' w'
      by_cases hj : j = id
      · rw [if_pos hj]
        subst hj
        have q3 : (Bool.rec (motive := fun _ => R) (E j t' h') (K t' h') (Nat.beq j j)) = true := q3
        rw [Nat.beq_refl] at q3
        exact ⟨t', h', ρ', q1, q2, q3⟩
      · rw [if_neg hj]
        have q3 : (Bool.rec (motive := fun _ => R) (E j t' h') (K t' h') (Nat.beq j id)) = true := q3
        rw [show Nat.beq j id = false from (by cases hb : Nat.beq j id with | false => rfl | true => exact absurd (nbeq hb) hj)] at q3
        exact ⟨t', h', ρ', q1, q2, q3⟩
  | loop x ihx =>
    intro hk cH E Z t h K hc e ρ a w hs
    have key : ∀ (n : Nat) (t : T) (h : H) (ρ : Ren) (a : Act) (w : World), (Nat.rec (motive := fun _ => KT) (fun _ _ => false) (fun _ ih t h => (compC P pl x).run cH E Z t h ih) n t h : R) = true → St N ρ t h a w → Code.rounds P x (CQ N ρ h w E Z K) n a w := by
      intro n
      induction n with
      | zero => intro t h ρ a w e _; exact (Bool.false_ne_true e).elim
      | succ n ih =>
        intro t h ρ a w e hs
        refine wp_mono (ihx hk cH E Z t h (fun t h => Nat.rec (motive := fun _ => KT) (fun _ _ => false) (fun _ ih t h => (compC P pl x).run cH E Z t h ih) n t h) hc e ρ a w hs) fun y a' w' q => ?_
        cases y <;> try exact q
        obtain ⟨t', h', ρ', q1, q2, q3⟩ := q
        exact rounds_mono (CQ.ext q2) n a' w' (ih t' h' ρ' a' w' q3 q1)
    have hcc : compC P pl (.loop x) = ccL (compC P pl x) := rfl
    rw [hcc] at e
    obtain ⟨n, e⟩ := ccL_run e
    exact wp_loop_rounds n (key n t h ρ a w e hs)
  | rangeFunc f ps x y ihx ihy => exact fun _ cH E Z t h K hc e ρ a w hs => (Bool.false_ne_true e).elim
  | exit id => exact fun _ cH E Z t h K hc e ρ a w hs => wp_exit ⟨t, h, ρ, hs, Ext.refl _ _ _, e⟩
  | scope x ih =>
    intro hk cH E Z t h K hc e ρ a w hs
    refine wp_scope_straight (wp_mono (ih hk cH E Z t h K hc e ρ a w hs) fun y a' w' q => ?_)
    cases y <;> exact q
  | label l => exact fun _ cH E Z t h K hc e ρ a w hs => wp_label ⟨t, h, ρ, hs, Ext.refl _ _ _, e⟩
  | goto l => exact fun _ cH E Z t h K hc e ρ a w hs => (Bool.false_ne_true e).elim
  | ret => exact fun _ cH E Z t h K hc e ρ a w hs => wp_ret ⟨t, h, ρ, hs, Ext.refl _ _ _, e⟩
  | refuse s => exact fun _ cH E Z t h K hc e ρ a w hs => (Bool.false_ne_true e).elim
end
end Go.Proofs.YtlpffldeogapmaaGreatDoor.Ev
