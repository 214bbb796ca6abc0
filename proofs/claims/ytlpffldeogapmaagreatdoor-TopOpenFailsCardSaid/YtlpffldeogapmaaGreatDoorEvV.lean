/- The evaluator's functions and calls, against the model's: the whole. Own text. No condition of a claim. -/
import Derived.Test.YtlpffldeogapmaaGreatDoorEvU
namespace Go.Proofs.YtlpffldeogapmaaGreatDoor.Ev
open Go Go.MapKept Go.RowKit
set_option linter.unusedVariables false
set_option linter.unusedSimpArgs false
set_option linter.unusedSectionVars false
variable [GO]
noncomputable section

theorem argsT_run : ∀ {l : List AV} {o : Nat} {t : T} {f : T → R}, argsT l o t f = true → ∃ t', f t' = true ∧ ∀ n, n < 8 ^ 3 → get 3 n t' = if o ≤ n ∧ n < o + l.length then l.getD (n - o) .un else get 3 n t
  | [], o, t, f, e => ⟨t, e, fun n hn => by rw [if_neg (by simp)]⟩
  | v :: l, o, t, f, e => by
    obtain ⟨h1, e1⟩ := pcc_run (show (pcc AV 3 o).run v (fun t => fc (fun o => argsT l o t f) (Nat.add o 1)) t = true from e)
    obtain ⟨t', e2, h2⟩ := argsT_run (show argsT l (o + 1) (put 3 o v t) f = true from e1)
    refine ⟨t', e2, fun n hn => ?_⟩
    rw [h2 n hn]
    by_cases h3 : o + 1 ≤ n ∧ n < o + 1 + l.length
    · rw [if_pos h3, if_pos (by simp; omega)]
      rw [show n - o = (n - (o + 1)) + 1 by omega]; rfl
    · rw [if_neg h3, get_put 3 o n v t h1 hn]
      by_cases h4 : n = o
      · subst h4
        rw [if_pos rfl, if_pos (by simp)]
        simp
      · rw [if_neg h4, if_neg (by simp; omega)]
/-- The frame of a call. -/
theorem SlR.enter {ρ : Ren} {l : List AV} {vs : Array Value} (h : VRs ρ l vs.toList) {t : T} (ht : ∀ n, n < 8 ^ 3 → get 3 n t = if 0 ≤ n ∧ n < 0 + l.length then l.getD (n - 0) .un else get 3 n T0) (k : Nat) :
    SlR (vs.size + k) ρ t { tmps := vs ++ Array.replicate k undef, defers := [] } := by
  have hl : vs.size = l.length := by have := h.length; simpa using this
  refine ⟨by simp, fun n hn => ?_⟩
  rw [ht n hn]
  by_cases hb : 0 ≤ n ∧ n < 0 + l.length
  · rw [if_pos hb]
    have hlt : n < l.length := by omega
    obtain ⟨v, h1, h2⟩ := h.at n l[n] (List.getElem?_eq_getElem hlt)
    have h3 : (vs ++ Array.replicate k undef).getD n undef = v := by
      rw [Array.getD_eq_getD_getElem?, Array.getElem?_append_left (by omega)]
      have : vs[n]? = some v := by rw [← Array.getElem?_toList]; exact h1
      rw [this]; rfl
    show VR ρ (l.getD (n - 0) .un) ((vs ++ Array.replicate k undef).getD n undef)
    rw [h3]
    simpa [List.getElem?_eq_getElem hlt] using h2
  · rw [if_neg hb, T0, get_dflt]
    simp only [VR]
theorem load_as {P : Program} {w : World} {ty : TypeId} {v u : Value} (h : (Instr.loadAt ty v).run P w = .ok u w) : (do loadVar ty (← asAddr v) : Sem Value).run P w = .ok u w := by
  cases v <;> try (simp [Instr.loadAt, Instr.sureAddr] at h; done)
  case pointer p =>
    cases p with
    | none => simp [Instr.loadAt, Instr.sureAddr] at h
    | some a => simpa [Instr.loadAt, Instr.sureAddr, asAddr] using h
/-- One result. -/
def res1 (tmps : Array Value) : ResultVar → Sem Value
  | .tmp t => pure (tmps.getD t undef)
  | .cell a t => do loadVar t (← asAddr (tmps.getD a undef))
theorem results1_ok {P : Program} {r : ResultVar} {t : T} {h : H} {f : AV → R} (e : (results1 P r).run t h f = true) : ∃ v, f v = true ∧ ∀ (N : Nat) (ρ : Ren) (a : Act) (w : World), SlR N ρ t a → HR ρ h w → ∃ v', (res1 a.tmps r).run P w = .ok v' w ∧ VR ρ v v' := by
  cases r with
  | tmp x =>
    obtain ⟨h1, e1⟩ := acc_run (show (acc AV 3 x).run f t = true from e)
    exact ⟨_, e1, fun N ρ a w hs _ => ⟨_, rfl, hs.2 x h1⟩⟩
  | cell x ty =>
    obtain ⟨v, e1, h1⟩ := opLoad_ok (show (opLoad P ty (.tmp x)).run t h f = true from e)
    refine ⟨v, e1, fun N ρ a w hs hr => ?_⟩
    obtain ⟨v', h2, h3⟩ := h1 ρ a w hr.blk (hs.op (.tmp x))
    exact ⟨v', load_as h2, h3⟩
theorem resL_ok {P : Program} : ∀ {l : List ResultVar} {t : T} {h : H} {f : List AV → R}, resL P l t h f = true → ∃ vs, f vs = true ∧ ∀ (N : Nat) (ρ : Ren) (a : Act) (w : World), SlR N ρ t a → HR ρ h w → ∃ vs', (l.mapM (res1 a.tmps)).run P w = .ok vs' w ∧ VRs ρ vs vs' ∧ vs'.length = l.length
  | [], t, h, f, e => ⟨[], e, fun N ρ a w _ _ => ⟨[], by simp, by simp only [VRs], rfl⟩⟩
  | r :: l, t, h, f, e => by
    obtain ⟨v, e1, h1⟩ := results1_ok (show (results1 P r).run t h (fun v => resL P l t h (fun vs => f (v :: vs))) = true from e)
    obtain ⟨vs, e2, h2⟩ := resL_ok e1
    refine ⟨v :: vs, e2, fun N ρ a w hs hr => ?_⟩
    obtain ⟨v', g1, g2⟩ := h1 N ρ a w hs hr
    obtain ⟨vs', g3, g4, g5⟩ := h2 N ρ a w hs hr
    exact ⟨v' :: vs', by simp [List.mapM_cons, g1, g3], by simp only [VRs]; exact ⟨v', vs', rfl, g2, g4⟩, by simp [g5]⟩
theorem results_eq (fn : Func) (tmps : Array Value) : results fn tmps = (do
    let vs ← fn.results.mapM (res1 tmps)
    pure (if h : vs.size = 1 then vs[0] else .tuple vs)) := rfl
theorem run_mapM_arr {P : Program} {w : World} {g : ResultVar → Sem Value} {l : Array ResultVar} {vs : List Value} (h : (l.toList.mapM g).run P w = .ok vs w) : (l.mapM g).run P w = .ok vs.toArray w := by
  rw [Array.mapM_eq_mapM_toList]
  simp [h]
theorem resOf_ok {P : Program} {fn : Func} {t : T} {h : H} {f : AV → R} (e : (resOf P fn.results.toList).run t h f = true) : ∃ v, f v = true ∧ ∀ (N : Nat) (ρ : Ren) (a : Act) (w : World), SlR N ρ t a → HR ρ h w → ∃ v', (results fn a.tmps).run P w = .ok v' w ∧ VR ρ v v' := by
  have tup : ∀ l, fn.results.toList = l → l.length ≠ 1 → resL P l t h (fun vs => f (.tu vs)) = true → ∃ v, f v = true ∧ ∀ (N : Nat) (ρ : Ren) (a : Act) (w : World), SlR N ρ t a → HR ρ h w → ∃ v', (results fn a.tmps).run P w = .ok v' w ∧ VR ρ v v' := fun l hl h1 e => by
    obtain ⟨vs, e1, h2⟩ := resL_ok e
    refine ⟨_, e1, fun N ρ a w hs hr => ?_⟩
    obtain ⟨vs', g1, g2, g3⟩ := h2 N ρ a w hs hr
    refine ⟨.tuple vs'.toArray, ?_, by simp only [VR]; exact ⟨vs'.toArray, rfl, by simpa using g2⟩⟩
    rw [results_eq]
    have g4 := run_mapM_arr (l := fn.results) (by rw [hl]; exact g1)
    simp only [Sem.run_bind, g4]
    show Sem.run P (pure (if h : vs'.toArray.size = 1 then vs'.toArray[0] else Value.tuple vs'.toArray)) w = _
    rw [dif_neg (by simpa [g3] using h1)]
    rfl
  cases hl : fn.results.toList with
  | nil => rw [hl] at e; exact tup [] hl (by simp) e
  | cons r l =>
    cases l with
    | cons r2 l => rw [hl] at e; exact tup _ hl (by simp) e
    | nil =>
      rw [hl] at e
      obtain ⟨v, e1, h1⟩ := results1_ok (show (results1 P r).run t h f = true from e)
      refine ⟨v, e1, fun N ρ a w hs hr => ?_⟩
      obtain ⟨v', g1, g2⟩ := h1 N ρ a w hs hr
      refine ⟨v', ?_, g2⟩
      rw [results_eq]
      have g4 := run_mapM_arr (P := P) (w := w) (g := res1 a.tmps) (l := fn.results) (vs := [v']) (by rw [hl]; simp [g1])
      simp only [Sem.run_bind, g4]
      rfl
/-- A function's way is sound, where the calls' is. -/
def FnOk (P : Program) (g : Nat) (x : FF) : Prop :=
  ∀ cH, CHok P cH → ∀ args h F, x.run cH args h F = true → ∀ (ρ : Ren) (vs : Array Value) (w : World), HR ρ h w → VRs ρ args vs.toList → Calls P g vs w fun e w' => ∃ v', e = .returned v' ∧ Res ρ h w F v' w'
def SumsOk (P : Program) (sm : Sums) : Prop := ∀ g x, sm g = some x → FnOk P g x
def AllOk (P : Program) (pls : Plans) : Prop := ∀ g fn c, P.funcs[g]? = some fn → fn.body = some c → codeOk P (pls g) fn.ntmps c = true
theorem body_ok {P : Program} (hm : P.follows .mixedOrders = true) (hcl : CloneOk P) {pls : Plans} (hA : AllOk P pls) (g : Nat) : FnOk P g (body P pls g) := by
  intro cH hc args h F e ρ vs w hr hv
  unfold body at e
  cases hf : P.funcs[g]? with
  | none => simp only [hf] at e; exact (Bool.false_ne_true e).elim
  | some fn =>
    simp only [hf] at e
    cases hb : fn.body with
    | none => simp only [hb] at e; exact (Bool.false_ne_true e).elim
    | some c =>
      simp only [hb] at e
      refine calls_of_wp hf hb ?_
      obtain ⟨t, e1, ht⟩ := argsT_run e
      have hs : St (vs.size + (fn.ntmps - vs.size)) ρ t h { tmps := vs ++ Array.replicate (fn.ntmps - vs.size) undef, defers := [] } w := ⟨SlR.enter hv ht _, hr, rfl⟩
      have fin : ∀ (a' : Act) (w' : World), Nxt (vs.size + (fn.ntmps - vs.size)) ρ h w (fun t h => (resOf P fn.results.toList).run t h (fun v => F v h)) a' w' →
          a'.defers = [] ∧ ∃ v, (results fn a'.tmps).run P w' = .ok v w' ∧ ∃ v', Ending.returned v = .returned v' ∧ Res ρ h w F v' w' := fun a' w' ⟨t', h', ρ', q1, q2, q3⟩ => by
        obtain ⟨v, g1, g2⟩ := resOf_ok q3
        obtain ⟨v', g3, g4⟩ := g2 _ ρ' a' w' q1.sl q1.hp
        exact ⟨q1.df, v', g3, v', rfl, v, h', ρ', g1, q1.hp, q2, g4⟩
      refine wp_mono (code_ok hm hcl (pls g) (show fn.ntmps ≤ vs.size + (fn.ntmps - vs.size) by omega) c (hA g fn c hf hb) cH _ _ t h _ hc e1 ρ _ w hs) fun x a' w' q => ?_
      cases x <;> try exact q.elim
      · exact fin a' w' q
      · obtain ⟨_, _, _, _, _, q⟩ := q
        exact (Bool.false_ne_true q).elim
      · exact fin a' w' q
theorem run_ok {P : Program} (hm : P.follows .mixedOrders = true) (hcl : CloneOk P) {pls : Plans} (hA : AllOk P pls) {sm : Sums} (hS : SumsOk P sm) : ∀ n, CHok P (run P pls sm n)
  | 0 => fun g args h F e => (Bool.false_ne_true e).elim
  | n + 1 => fun g args h F e => by
    have e : (fnF P pls sm g).run (run P pls sm n) args h F = true := e
    unfold fnF at e
    split at e
    · rename_i x hx
      exact hS g x hx _ (run_ok hm hcl hA hS n) args h F e
    · exact body_ok hm hcl hA g _ (run_ok hm hcl hA hS n) args h F e
end
end Go.Proofs.YtlpffldeogapmaaGreatDoor.Ev
