/- The evaluator's regions that draw no order, against the model's. Own text. No condition of a claim. -/
import Derived.Test.YtbpdomemnecioaaGreatDoorEvO
namespace Go.Proofs.YtbpdomemnecioaaGreatDoor.Ev
open Go Go.MapKept Go.RowKit
set_option linter.unusedVariables false
set_option linter.unusedSimpArgs false
noncomputable section

/-- The slots against the frame's temporaries (N of them). -/
def SlR (N : Nat) (ρ : Ren) (t : T) (a : Act) : Prop := a.tmps.size = N ∧ ∀ n, n < 8 ^ 3 → VR ρ (get 3 n t) (a.tmps.getD n undef)
structure St (N : Nat) (ρ : Ren) (t : T) (h : H) (a : Act) (w : World) : Prop where
  sl : SlR N ρ t a
  hp : HR ρ h w
  df : a.defers = []
theorem SlR.mono {N : Nat} {ρ ρ' : Ren} {t : T} {a : Act} (h : SlR N ρ t a) (hs : Sub ρ ρ') : SlR N ρ' t a := ⟨h.1, fun n hn => VR.mono hs _ _ (h.2 n hn)⟩
theorem SlR.op {N : Nat} {ρ : Ren} {t : T} {a : Act} (h : SlR N ρ t a) (x : Operand) : VR ρ (gv t x) (a.eval x) := by
  cases x with
  | tmp n =>
    show VR ρ (if n < 8 ^ 3 then get 3 n t else .un) (a.tmps.getD n undef)
    by_cases hn : n < 8 ^ 3
    · rw [if_pos hn]; exact h.2 n hn
    · rw [if_neg hn]; simp only [VR]
  | const v => exact ofV_ok ρ v
  | global g => show VR ρ .un _; simp only [VR]
  | func g => show VR ρ (.f (.func g) [] []) _; simp only [VR, VRs]; exact ⟨#[], #[], rfl, rfl, rfl⟩
def putT (d : Option Nat) (v : AV) (t : T) : T :=
  match d with
  | none => t
  | some n => put 3 n v t
theorem pt_run {d : Option Nat} {v : AV} {f : T → R} {t : T} (h : (pt d).run v f t = true) : (∀ n, d = some n → n < 8 ^ 3) ∧ f (putT d v t) = true := by
  cases d with
  | none => exact ⟨fun n hn => (by cases hn), h⟩
  | some d =>
    obtain ⟨h1, h2⟩ := pcc_run (show (pcc AV 3 d).run v f t = true from h)
    exact ⟨fun n hn => (by cases hn; exact h1), h2⟩
theorem SlR.put {N : Nat} {ρ : Ren} {t : T} {a : Act} (h : SlR N ρ t a) {d : Option Nat} (hd : ∀ n, d = some n → n < 8 ^ 3) (hN : ∀ n, d = some n → n < N) {v : AV} {v' : Value} (hv : VR ρ v v') : SlR N ρ (putT d v t) (a.put d v') := by
  cases d with
  | none => exact h
  | some d =>
    have hdN := hN d rfl
    refine ⟨by simp [Act.put, h.1], fun n hn => ?_⟩
    show VR ρ (get 3 n (Ev.put 3 d v t)) ((a.tmps.setIfInBounds d v').getD n undef)
    rw [get_put 3 d n v t (hd d rfl) hn]
    by_cases e : n = d
    · subst e
      rw [if_pos rfl, Array.getD_eq_getD_getElem?, Array.getElem?_setIfInBounds_self]
      rw [if_pos (by rw [h.1]; exact hdN)]
      exact hv
    · rw [if_neg e, Array.getD_eq_getD_getElem?, Array.getElem?_setIfInBounds_ne (fun q => e q.symm), ← Array.getD_eq_getD_getElem?]
      exact h.2 n hn
theorem put_defers {a : Act} {d : Option Nat} {v : Value} : (a.put d v).defers = a.defers := by cases d <;> rfl
/-- What goes on. -/
def Nxt (N : Nat) (ρ : Ren) (h : H) (w : World) (K : KT) (a' : Act) (w' : World) : Prop := ∃ t' h' ρ', St N ρ' t' h' a' w' ∧ Ext ρ h w ρ' h' w' ∧ K t' h' = true
theorem Nxt.ext {N : Nat} {ρ ρ1 : Ren} {h h1 : H} {w w1 : World} {K : KT} {a' : Act} {w' : World} (e : Ext ρ h w ρ1 h1 w1) (n : Nxt N ρ1 h1 w1 K a' w') : Nxt N ρ h w K a' w' := by
  obtain ⟨t', h', ρ', h1, h2, h3⟩ := n
  exact ⟨t', h', ρ', h1, e.trans h2, h3⟩
/-- One operation is carried out. -/
def Step1 (P : Program) (N : Nat) (o : Oper) (cl : Cl) : Prop :=
  ∀ (cH : CH) (t : T) (h : H) (K : KT), CHok P cH → cl.run cH t h K = true → ∀ (ρ : Ren) (a : Act) (w : World), St N ρ t h a w → ∀ Q, o.wp P a w (Nxt N ρ h w K) Q
theorem comp_step {P : Program} (hcl : CloneOk P) {N : Nat} {o : Oper} (hN : ∀ n, o.dst = some n → n < N) : Step1 P N o (comp P o) := by
  intro cH t h K hc e ρ a w hs Q
  have hops : ∀ x ∈ o.op.operands, VR ρ (gv t x) (a.eval x) := fun x _ => hs.sl.op x
  unfold comp at e
  split at e
  · rename_i g hv
    obtain ⟨v, e1, h1⟩ := vop_ok hv (show g.run t h (fun v => (pt o.dst).run v (fun t => K t h) t) = true from e)
    obtain ⟨hd, e2⟩ := pt_run e1
    obtain ⟨v', g1, g2⟩ := h1 ρ a w (fun _ => hs.hp.blk) hops
    exact wp_value g1 ⟨_, h, ρ, ⟨hs.sl.put hd hN g2, hs.hp, by rw [put_defers]; exact hs.df⟩, Ext.refl _ _ _, e2⟩
  · split at e
    · rename_i g hm
      obtain ⟨v, k, e1, hne, h1⟩ := mop_ok hm (show g.run t h (fun nx v b => (pt o.dst).run v (fun t => onH (fun ht _ => (pcc Blk 5 nx).run b (fun ht => fc (fun m => K t (.mk ht m)) (Nat.add nx 1)) ht) h) t) = true from e)
      obtain ⟨hd, e2⟩ := pt_run e1
      obtain ⟨hn5, e3⟩ := pcc_run (onH_true e2)
      have hr' : HR ρ (.mk h.t h.nx) w := by rw [H.eta]; exact hs.hp
      obtain ⟨v', w', l, ob, g1, g2, g3, g4, g5, g6⟩ := h1 ρ a w hr'.fresh hops
      have hE := Ext.new hr' hn5 (k := k) g2 g3 g4
      rw [H.eta] at hE
      exact wp_value g1 ⟨_, _, _, ⟨(hs.sl.mono (Sub.upd hr'.fresh)).put hd hN g6, hr'.new hn5 g2 g3 g5, by rw [put_defers]; exact hs.df⟩, hE, e3⟩
    · have h1 := eop_ok hcl hc (show (eop P o).run cH t h (fun v h => (pt o.dst).run v (fun t => K t h) t) = true from e) ρ a w hs.hp hops Q
      refine Oper.wp_mono ?_ h1
      rintro a' w' ⟨v', rfl, v, h', ρ', e1, g1, g2, g3⟩
      obtain ⟨hd, e2⟩ := pt_run e1
      exact ⟨_, h', ρ', ⟨(hs.sl.mono g2.sub).put hd hN g3, g1, by rw [put_defers]; exact hs.df⟩, g2, e2⟩
/-- One operation of a region, its guard asked. -/
def StepG (P : Program) (N : Nat) (ops : Array Oper) (i : Nat) (cl : Cl) : Prop :=
  ∀ (cH : CH) (t : T) (h : H) (K : KT), CHok P cH → cl.run cH t h K = true → ∀ (ρ : Ren) (a : Act) (w : World), St N ρ t h a w → ∀ Q, wpOp P ops Q i (Nxt N ρ h w K) a w
theorem VR_b {ρ : Ren} {b : Bool} {v : Value} (h : VR ρ (.b b) v) : v = .bool b := by simpa only [VR] using h
theorem slotOf_true {ops : Array Oper} {j : Nat} {f : AV → R} {t : T} (h : (slotOf ops j).run f t = true) : ∃ d, (ops[j]?).bind (·.dst) = some d ∧ d < 8 ^ 3 ∧ f (get 3 d t) = true := by
  unfold slotOf at h
  split at h
  · rename_i d hd
    obtain ⟨h1, h2⟩ := acc_run h
    exact ⟨d, hd, h1, h2⟩
  · exact (Bool.false_ne_true h).elim
theorem tmps_at {N : Nat} {ρ : Ren} {t : T} {a : Act} (h : SlR N ρ t a) {d : Nat} (hd : d < 8 ^ 3) : ∀ {b : Bool}, get 3 d t = .b b → a.tmps[d]? = some (.bool b) := by
  intro b hb
  have := h.2 d hd
  rw [hb] at this
  have := VR_b this
  rw [Array.getD_eq_getD_getElem?] at this
  cases hq : a.tmps[d]? with
  | none => rw [hq] at this; cases this
  | some v => rw [hq] at this; simp at this; rw [this]
/-- What a guard's slot says. -/
theorem guarded_true {N : Nat} {ops : Array Oper} {o : Oper} {j : Nat} {want : Bool} {d : Pt} {c : Cl} {cH : CH} {t : T} {h : H} {K : KT} (hg : o.guard = some (j, want)) (e : (guarded (slotOf ops j) want d c).run cH t h K = true) :
    ((c.run cH t h K = true ∧ ∀ ρ a, SlR N ρ t a → Region.wanted o (yielded ops a.tmps) = true) ∨ (d.run (.tu []) (fun t => K t h) t = true ∧ ∀ ρ a, SlR N ρ t a → Region.wanted o (yielded ops a.tmps) = false)) := by
  obtain ⟨x, hd, hx, e1⟩ := slotOf_true (show (slotOf ops j).run _ t = true from e)
  cases hv : get 3 x t <;> rw [hv] at e1 <;> try exact (Bool.false_ne_true e1).elim
  case b y =>
    have hy : ∀ ρ a, SlR N ρ t a → Region.wanted o (yielded ops a.tmps) = (some y == some want) := fun ρ a hs => by
      have := tmps_at hs hx hv
      simp only [Region.wanted, hg, yielded, hd, Option.bind_some, this]
    have e2 : (Bool.rec (motive := fun _ => R) (d.run (.tu []) (fun t => K t h) t) (c.run cH t h K) (beqB y want) : R) = true := e1
    rw [beqB_eq] at e2
    cases hyw : (y == want) with
    | true =>
      rw [hyw] at e2
      refine .inl ⟨e2, fun ρ a hs => ?_⟩
      rw [hy ρ a hs]; simpa using hyw
    | false =>
      rw [hyw] at e2
      refine .inr ⟨e2, fun ρ a hs => ?_⟩
      rw [hy ρ a hs]; simpa using hyw
  case tu l =>
    cases l with
    | cons _ _ => exact (Bool.false_ne_true e1).elim
    | nil =>
      refine .inr ⟨e1, fun ρ a hs => ?_⟩
      have := hs.2 x hx
      rw [hv] at this
      obtain ⟨vs, h1, _⟩ := VR_tu this
      rw [Array.getD_eq_getD_getElem?] at h1
      simp only [Region.wanted, hg, yielded, hd, Option.bind_some]
      cases hq : a.tmps[x]? with
      | none => rfl
      | some v => rw [hq] at h1; simp at h1; rw [h1]; rfl
theorem opG_step {P : Program} (hcl : CloneOk P) {N : Nat} {ops : Array Oper} {i : Nat} {o : Oper} (ho : ops[i]? = some o) (hN : ∀ n, o.dst = some n → n < N) : StepG P N ops i (opG P ops o) := by
  intro cH t h K hc e ρ a w hs Q
  unfold wpOp
  simp only [ho]
  unfold opG at e
  split at e
  · rename_i hg
    rw [if_pos (by simp [Region.wanted, hg])]
    exact .inl (comp_step hcl hN cH t h K hc e ρ a w hs Q)
  · rename_i j want hg
    rcases guarded_true (N := N) hg e with ⟨e1, h1⟩ | ⟨e1, h1⟩
    · rw [if_pos (h1 ρ a hs.sl)]
      exact .inl (comp_step hcl hN cH t h K hc e1 ρ a w hs Q)
    · rw [if_neg (by rw [h1 ρ a hs.sl]; simp)]
      obtain ⟨hd, e2⟩ := pt_run e1
      exact ⟨_, h, ρ, ⟨hs.sl.put hd hN VR_undef, hs.hp, by rw [put_defers]; exact hs.df⟩, Ext.refl _ _ _, e2⟩
theorem plain_ops {P : Program} (hcl : CloneOk P) {N : Nat} {ops : Array Oper} (hN : ∀ (i : Nat) o, ops[i]? = some o → ∀ n, o.dst = some n → n < N) {cH : CH} (hc : CHok P cH) {K : KT} (Q : Exit → Act → World → Prop) {ρ0 : Ren} {h0 : H} {w0 : World}
    (hQ : ∀ a' w', Nxt N ρ0 h0 w0 K a' w' → Q .normal a' w') : ∀ (k i : Nat), i + k = ops.size → ∀ (t : T) (h : H), (plain P ops (ops.toList.drop i)).run cH t h K = true → ∀ (ρ : Ren) (a : Act) (w : World), St N ρ t h a w → Ext ρ0 h0 w0 ρ h w → wpOps P ops Q (List.range' i k) a w
  | 0, i, hi, t, h, e, ρ, a, w, hs, hE => by
    have hd : ops.toList.drop i = [] := List.drop_eq_nil_of_le (by rw [Array.length_toList]; omega)
    rw [hd] at e
    exact hQ a w ⟨t, h, ρ, hs, hE, e⟩
  | k + 1, i, hi, t, h, e, ρ, a, w, hs, hE => by
    have hlt : i < ops.size := by omega
    have ho : ops[i]? = some ops[i] := Array.getElem?_eq_getElem hlt
    have hd : ops.toList.drop i = ops[i] :: ops.toList.drop (i + 1) := by
      rw [List.drop_eq_getElem_cons (by simpa using hlt)]; simp
    rw [hd] at e
    rw [List.range'_succ, wpOps_cons]
    have h1 := opG_step hcl ho (hN i _ ho) cH t h (fun t h => (plain P ops (ops.toList.drop (i + 1))).run cH t h K) hc e ρ a w hs Q
    refine wpOp_mono ?_ h1
    rintro a' w' ⟨t', h', ρ', hs', hE', e'⟩
    exact plain_ops hcl hN hc Q hQ k (i + 1) (by omega) t' h' e' ρ' a' w' hs' (hE.trans hE')
theorem plain_ok {P : Program} (hcl : CloneOk P) {N : Nat} {ops : Array Oper} (hN : ∀ (i : Nat) o, ops[i]? = some o → ∀ n, o.dst = some n → n < N) {cH : CH} (hc : CHok P cH) {K : KT} {id : Nat} {t : T} {h : H} (e : (plain P ops ops.toList).run cH t h K = true)
    {ρ : Ren} {a : Act} {w : World} (hs : St N ρ t h a w) (Q : Exit → Act → World → Prop) (hQ : ∀ a' w', Nxt N ρ h w K a' w' → Q .normal a' w') : (Code.region id ops false).wp P Q a w := by
  refine wp_region ?_
  rw [List.range_eq_range']
  exact plain_ops hcl hN hc Q hQ ops.size 0 (by omega) t h e ρ a w hs (Ext.refl _ _ _)
end
end Go.Proofs.YtbpdomemnecioaaGreatDoor.Ev
