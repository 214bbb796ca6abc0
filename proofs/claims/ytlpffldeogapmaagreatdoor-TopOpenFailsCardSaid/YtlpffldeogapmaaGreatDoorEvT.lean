/- The evaluator's regions that draw no order, against the model's. Own text. No condition of a claim. The evaluator's drawn regions, against the model's: what one operation leaves. Own text. No condition of a claim. The evaluator's drawn regions, against the model's: any order. Own text. No condition of a claim. The evaluator's drawn regions, against the model's: the walk through any order. Own text. No condition of a claim. The evaluator's drawn regions, against the model's: what turns something, and the whole. Own text. No condition of a claim. -/
import Derived.Test.YtlpffldeogapmaaGreatDoorEvO
import Derived.Orders
namespace Go.Proofs.YtlpffldeogapmaaGreatDoor.Ev
open Go Go.MapKept Go.RowKit
set_option linter.unusedVariables false
set_option linter.unusedSimpArgs false
set_option linter.unusedSectionVars false
variable [GO]
noncomputable section

/-- The slots against the frame's temporaries (N of them). -/
def SlR (N : Nat) (ρ : Ren) (t : T) (a : Act) : Prop := a.tmps.size = N ∧ ∀ n, n < 8 ^ 3 → VR ρ (get 3 n t) (a.tmps.getD n undef)
structure St (N : Nat) (ρ : Ren) (t : T) (h : H) (a : Act) (w : World) : Prop where
  sl : SlR N ρ t a
  hp : HR ρ h w
  df : a.defers = []
theorem SlR.mono {N : Nat} {ρ ρ' : Ren} {t : T} {a : Act} (h : SlR N ρ t a) (hs : Sub ρ ρ') : SlR N ρ' t a := ⟨h.1, fun n hn => VR.mono hs _ _ (h.2 n hn)⟩
theorem SlR.op {N : Nat} {ρ : Ren} {t : T} {a : Act} (h : SlR N ρ t a) (x : Operand) : VR ρ (gv t x) (a.eval x) := by
  cases x with
  | tmp n =>
    show VR ρ (if n < 8 ^ 3 then get 3 n t else .un) (a.tmps.getD n undef)
    by_cases hn : n < 8 ^ 3
    · rw [if_pos hn]; exact h.2 n hn
    · rw [if_neg hn]; simp only [VR]
  | const v => exact ofV_ok ρ v
  | global g => show VR ρ .un _; simp only [VR]
  | func g => show VR ρ (.f (.func g) [] []) _; simp only [VR, VRs]; exact ⟨#[], #[], rfl, rfl, rfl⟩
def putT (d : Option Nat) (v : AV) (t : T) : T :=
  match d with
  | none => t
  | some n => put 3 n v t
theorem pt_run {d : Option Nat} {v : AV} {f : T → R} {t : T} (h : (pt d).run v f t = true) : (∀ n, d = some n → n < 8 ^ 3) ∧ f (putT d v t) = true := by
  cases d with
  | none => exact ⟨fun n hn => (by cases hn), h⟩
  | some d =>
    obtain ⟨h1, h2⟩ := pcc_run (show (pcc AV 3 d).run v f t = true from h)
    exact ⟨fun n hn => (by cases hn; exact h1), h2⟩
theorem SlR.put {N : Nat} {ρ : Ren} {t : T} {a : Act} (h : SlR N ρ t a) {d : Option Nat} (hd : ∀ n, d = some n → n < 8 ^ 3) (hN : ∀ n, d = some n → n < N) {v : AV} {v' : Value} (hv : VR ρ v v') : SlR N ρ (putT d v t) (a.put d v') := by
  cases d with
  | none => exact h
  | some d =>
    have hdN := hN d rfl
    refine ⟨by simp [Act.put, h.1], fun n hn => ?_⟩
    show VR ρ (get 3 n (Ev.put 3 d v t)) ((a.tmps.setIfInBounds d v').getD n undef)
    rw [get_put 3 d n v t (hd d rfl) hn]
    by_cases e : n = d
    · subst e
      rw [if_pos rfl, Array.getD_eq_getD_getElem?, Array.getElem?_setIfInBounds_self]
      rw [if_pos (by rw [h.1]; exact hdN)]
      exact hv
    · rw [if_neg e, Array.getD_eq_getD_getElem?, Array.getElem?_setIfInBounds_ne (fun q => e q.symm), ← Array.getD_eq_getD_getElem?]
      exact h.2 n hn
theorem put_defers {a : Act} {d : Option Nat} {v : Value} : (a.put d v).defers = a.defers := by cases d <;> rfl
/-- What goes on. -/
def Nxt (N : Nat) (ρ : Ren) (h : H) (w : World) (K : KT) (a' : Act) (w' : World) : Prop := ∃ t' h' ρ', St N ρ' t' h' a' w' ∧ Ext ρ h w ρ' h' w' ∧ K t' h' = true
theorem Nxt.ext {N : Nat} {ρ ρ1 : Ren} {h h1 : H} {w w1 : World} {K : KT} {a' : Act} {w' : World} (e : Ext ρ h w ρ1 h1 w1) (n : Nxt N ρ1 h1 w1 K a' w') : Nxt N ρ h w K a' w' := by
  obtain ⟨t', h', ρ', h1, h2, h3⟩ := n
  exact ⟨t', h', ρ', h1, e.trans h2, h3⟩
/-- One operation is carried out. -/
def Step1 (P : Program) (N : Nat) (o : Oper) (cl : Cl) : Prop :=
  ∀ (cH : CH) (t : T) (h : H) (K : KT), CHok P cH → cl.run cH t h K = true → ∀ (ρ : Ren) (a : Act) (w : World), St N ρ t h a w → ∀ Q, o.wp P a w (Nxt N ρ h w K) Q
theorem comp_step {P : Program} (hcl : CloneOk P) {N : Nat} {o : Oper} (hN : ∀ n, o.dst = some n → n < N) : Step1 P N o (comp P o) := by
  intro cH t h K hc e ρ a w hs Q
  have hops : ∀ x ∈ o.op.operands, VR ρ (gv t x) (a.eval x) := fun x _ => hs.sl.op x
  unfold comp at e
  split at e
  · rename_i g hv
    obtain ⟨v, e1, h1⟩ := vop_ok hv (show g.run t h (fun v => (pt o.dst).run v (fun t => K t h) t) = true from e)
    obtain ⟨hd, e2⟩ := pt_run e1
    obtain ⟨v', g1, g2⟩ := h1 ρ a w (fun _ => hs.hp.blk) hops
    exact wp_value g1 ⟨_, h, ρ, ⟨hs.sl.put hd hN g2, hs.hp, by rw [put_defers]; exact hs.df⟩, Ext.refl _ _ _, e2⟩
  · split at e
    · rename_i g hm
      obtain ⟨v, k, e1, hne, h1⟩ := mop_ok hm (show g.run t h (fun nx v b => (pt o.dst).run v (fun t => onH (fun ht _ => (pcc Blk 5 nx).run b (fun ht => fc (fun m => K t (.mk ht m)) (Nat.add nx 1)) ht) h) t) = true from e)
      obtain ⟨hd, e2⟩ := pt_run e1
      obtain ⟨hn5, e3⟩ := pcc_run (onH_true e2)
      have hr' : HR ρ (.mk h.t h.nx) w := by rw [H.eta]; exact hs.hp
      obtain ⟨v', w', l, ob, g1, g2, g3, g4, g5, g6⟩ := h1 ρ a w hr'.fresh hops
      have hE := Ext.new hr' hn5 (k := k) g2 g3 g4
      rw [H.eta] at hE
      exact wp_value g1 ⟨_, _, _, ⟨(hs.sl.mono (Sub.upd hr'.fresh)).put hd hN g6, hr'.new hn5 g2 g3 g5, by rw [put_defers]; exact hs.df⟩, hE, e3⟩
    · have h1 := eop_ok hcl hc (show (eop P o).run cH t h (fun v h => (pt o.dst).run v (fun t => K t h) t) = true from e) ρ a w hs.hp hops Q
      refine Oper.wp_mono ?_ h1
      rintro a' w' ⟨v', rfl, v, h', ρ', e1, g1, g2, g3⟩
      obtain ⟨hd, e2⟩ := pt_run e1
      exact ⟨_, h', ρ', ⟨(hs.sl.mono g2.sub).put hd hN g3, g1, by rw [put_defers]; exact hs.df⟩, g2, e2⟩
/-- One operation of a region, its guard asked. -/
def StepG (P : Program) (N : Nat) (ops : Array Oper) (i : Nat) (cl : Cl) : Prop :=
  ∀ (cH : CH) (t : T) (h : H) (K : KT), CHok P cH → cl.run cH t h K = true → ∀ (ρ : Ren) (a : Act) (w : World), St N ρ t h a w → ∀ Q, wpOp P ops Q i (Nxt N ρ h w K) a w
theorem VR_b {ρ : Ren} {b : Bool} {v : Value} (h : VR ρ (.b b) v) : v = .bool b := by simpa only [VR] using h
theorem slotOf_true {ops : Array Oper} {j : Nat} {f : AV → R} {t : T} (h : (slotOf ops j).run f t = true) : ∃ d, (ops[j]?).bind (·.dst) = some d ∧ d < 8 ^ 3 ∧ f (get 3 d t) = true := by
  unfold slotOf at h
  split at h
  · rename_i d hd
    obtain ⟨h1, h2⟩ := acc_run h
    exact ⟨d, hd, h1, h2⟩
  · exact (Bool.false_ne_true h).elim
theorem tmps_at {N : Nat} {ρ : Ren} {t : T} {a : Act} (h : SlR N ρ t a) {d : Nat} (hd : d < 8 ^ 3) : ∀ {b : Bool}, get 3 d t = .b b → a.tmps[d]? = some (.bool b) := by
  intro b hb
  have := h.2 d hd
  rw [hb] at this
  have := VR_b this
  rw [Array.getD_eq_getD_getElem?] at this
  cases hq : a.tmps[d]? with
  | none => rw [hq] at this; cases this
  | some v => rw [hq] at this; simp at this; rw [this]
/-- What a guard's slot says. -/
theorem guarded_true {N : Nat} {ops : Array Oper} {o : Oper} {j : Nat} {want : Bool} {d : Pt} {c : Cl} {cH : CH} {t : T} {h : H} {K : KT} (hg : o.guard = some (j, want)) (e : (guarded (slotOf ops j) want d c).run cH t h K = true) :
    ((c.run cH t h K = true ∧ ∀ ρ a, SlR N ρ t a → Region.wanted o (yielded ops a.tmps) = true) ∨ (d.run (.tu []) (fun t => K t h) t = true ∧ ∀ ρ a, SlR N ρ t a → Region.wanted o (yielded ops a.tmps) = false)) := by
  obtain ⟨x, hd, hx, e1⟩ := slotOf_true (show (slotOf ops j).run _ t = true from e)
  cases hv : get 3 x t <;> rw [hv] at e1 <;> try exact (Bool.false_ne_true e1).elim
  case b y =>
    have hy : ∀ ρ a, SlR N ρ t a → Region.wanted o (yielded ops a.tmps) = (some y == some want) := fun ρ a hs => by
      have := tmps_at hs hx hv
      simp only [Region.wanted, hg, yielded, hd, Option.bind_some, this]
    have e2 : (Bool.rec (motive := fun _ => R) (d.run (.tu []) (fun t => K t h) t) (c.run cH t h K) (beqB y want) : R) = true := e1
    rw [beqB_eq] at e2
    cases hyw : (y == want) with
    | true =>
      rw [hyw] at e2
      refine .inl ⟨e2, fun ρ a hs => ?_⟩
      rw [hy ρ a hs]; simpa using hyw
    | false =>
      rw [hyw] at e2
      refine .inr ⟨e2, fun ρ a hs => ?_⟩
      rw [hy ρ a hs]; simpa using hyw
  case tu l =>
    cases l with
    | cons _ _ => exact (Bool.false_ne_true e1).elim
    | nil =>
      refine .inr ⟨e1, fun ρ a hs => ?_⟩
      have := hs.2 x hx
      rw [hv] at this
      obtain ⟨vs, h1, _⟩ := VR_tu this
      rw [Array.getD_eq_getD_getElem?] at h1
      simp only [Region.wanted, hg, yielded, hd, Option.bind_some]
      cases hq : a.tmps[x]? with
      | none => rfl
      | some v => rw [hq] at h1; simp at h1; rw [h1]; rfl
theorem opG_step {P : Program} (hcl : CloneOk P) {N : Nat} {ops : Array Oper} {i : Nat} {o : Oper} (ho : ops[i]? = some o) (hN : ∀ n, o.dst = some n → n < N) : StepG P N ops i (opG P ops o) := by
  intro cH t h K hc e ρ a w hs Q
  unfold wpOp
  simp only [ho]
  unfold opG at e
  split at e
  · rename_i hg
    rw [if_pos (by simp [Region.wanted, hg])]
    exact .inl (comp_step hcl hN cH t h K hc e ρ a w hs Q)
  · rename_i j want hg
    rcases guarded_true (N := N) hg e with ⟨e1, h1⟩ | ⟨e1, h1⟩
    · rw [if_pos (h1 ρ a hs.sl)]
      exact .inl (comp_step hcl hN cH t h K hc e1 ρ a w hs Q)
    · rw [if_neg (by rw [h1 ρ a hs.sl]; simp)]
      obtain ⟨hd, e2⟩ := pt_run e1
      exact ⟨_, h, ρ, ⟨hs.sl.put hd hN VR_undef, hs.hp, by rw [put_defers]; exact hs.df⟩, Ext.refl _ _ _, e2⟩
theorem plain_ops {P : Program} (hcl : CloneOk P) {N : Nat} {ops : Array Oper} (hN : ∀ (i : Nat) o, ops[i]? = some o → ∀ n, o.dst = some n → n < N) {cH : CH} (hc : CHok P cH) {K : KT} (Q : Exit → Act → World → Prop) {ρ0 : Ren} {h0 : H} {w0 : World}
    (hQ : ∀ a' w', Nxt N ρ0 h0 w0 K a' w' → Q .normal a' w') : ∀ (k i : Nat), i + k = ops.size → ∀ (t : T) (h : H), (plain P ops (ops.toList.drop i)).run cH t h K = true → ∀ (ρ : Ren) (a : Act) (w : World), St N ρ t h a w → Ext ρ0 h0 w0 ρ h w → wpOps P ops Q (List.range' i k) a w
  | 0, i, hi, t, h, e, ρ, a, w, hs, hE => by
    have hd : ops.toList.drop i = [] := List.drop_eq_nil_of_le (by rw [Array.length_toList]; omega)
    rw [hd] at e
    exact hQ a w ⟨t, h, ρ, hs, hE, e⟩
  | k + 1, i, hi, t, h, e, ρ, a, w, hs, hE => by
    have hlt : i < ops.size := by omega
    have ho : ops[i]? = some ops[i] := Array.getElem?_eq_getElem hlt
    have hd : ops.toList.drop i = ops[i] :: ops.toList.drop (i + 1) := by
      rw [List.drop_eq_getElem_cons (by simpa using hlt)]; simp
    rw [hd] at e
    rw [List.range'_succ, wpOps_cons]
    have h1 := opG_step hcl ho (hN i _ ho) cH t h (fun t h => (plain P ops (ops.toList.drop (i + 1))).run cH t h K) hc e ρ a w hs Q
    refine wpOp_mono ?_ h1
    rintro a' w' ⟨t', h', ρ', hs', hE', e'⟩
    exact plain_ops hcl hN hc Q hQ k (i + 1) (by omega) t' h' e' ρ' a' w' hs' (hE.trans hE')
theorem plain_ok {P : Program} (hcl : CloneOk P) {N : Nat} {ops : Array Oper} (hN : ∀ (i : Nat) o, ops[i]? = some o → ∀ n, o.dst = some n → n < N) {cH : CH} (hc : CHok P cH) {K : KT} {id : Nat} {t : T} {h : H} (e : (plain P ops ops.toList).run cH t h K = true)
    {ρ : Ren} {a : Act} {w : World} (hs : St N ρ t h a w) (Q : Exit → Act → World → Prop) (hQ : ∀ a' w', Nxt N ρ h w K a' w' → Q .normal a' w') : (Code.region id ops false).wp P Q a w := by
  refine wp_region ?_
  rw [List.range_eq_range']
  exact plain_ops hcl hN hc Q hQ ops.size 0 (by omega) t h e ρ a w hs (Ext.refl _ _ _)
end
end Go.Proofs.YtlpffldeogapmaaGreatDoor.Ev

namespace Go.Proofs.YtlpffldeogapmaaGreatDoor.Ev
open Go Go.MapKept Go.RowKit
set_option linter.unusedVariables false
set_option linter.unusedSimpArgs false
set_option linter.unusedSectionVars false
variable [GO]
noncomputable section

theorem kc_inj {k j : IntKind} (h : kc k = kc j) : k = j := by cases k <;> cases j <;> first | rfl | exact absurd h (by decide)
theorem and_t {a b : Bool} (h : and a b = true) : a = true ∧ b = true := by cases a <;> cases b <;> first | exact ⟨rfl, rfl⟩ | exact (Bool.false_ne_true h).elim
theorem nbeq {a b : Nat} (h : Nat.beq a b = true) : a = b := Nat.eq_of_beq_eq_true h
theorem aeq_eq : ∀ x y, aeq x y = true → x = y := by
  intro x
  refine AV.rec (motive_1 := fun x => ∀ y, aeq x y = true → x = y) (motive_2 := fun l => ∀ m, aeq (.tu l) (.tu m) = true → l = m) ?_ ?_ ?_ ?_ ?_ ?_ ?_ ?_ ?_ ?_ ?_ ?_ ?_ ?_ ?_ ?_ ?_ ?_ ?_ ?_ ?_ ?_ ?_ ?_ ?_ ?_ ?_ ?_ ?_ x
  case refine_1 => intro y h; cases y <;> first | rfl | exact (Bool.false_ne_true h).elim
  case refine_2 => intro y h; cases y <;> first | rfl | exact (Bool.false_ne_true h).elim
  case refine_3 =>
    intro k y h
    cases y <;> try exact (Bool.false_ne_true h).elim
    case ui j => rw [kc_inj (nbeq (show Nat.beq (kc k) (kc j) = true from h))]
  case refine_4 =>
    intro n c y h
    cases y <;> try exact (Bool.false_ne_true h).elim
    case bx m d =>
      obtain ⟨h1, h2⟩ := and_t h
      rw [nbeq h1, nbeq h2]
  case refine_5 =>
    intro k n y h
    cases y <;> try exact (Bool.false_ne_true h).elim
    case ne j m =>
      obtain ⟨h1, h2⟩ := and_t h
      rw [kc_inj (nbeq h1), nbeq h2]
  case refine_6 =>
    intro k lo n y h
    cases y <;> try exact (Bool.false_ne_true h).elim
    case rg j l m =>
      obtain ⟨h1, h2⟩ := and_t h
      obtain ⟨h2, h3⟩ := and_t h2
      rw [kc_inj (nbeq h1), nbeq h2, nbeq h3]
  case refine_7 =>
    intro j n y h
    cases y <;> try exact (Bool.false_ne_true h).elim
    case sm i m =>
      obtain ⟨h1, h2⟩ := and_t h
      rw [nbeq h1, nbeq h2]
  case refine_8 =>
    intro f s n j y h
    cases y <;> try exact (Bool.false_ne_true h).elim
    case uj g t m i =>
      obtain ⟨h1, h2⟩ := and_t h
      obtain ⟨h2, h3⟩ := and_t h2
      obtain ⟨h3, h4⟩ := and_t h3
      have h1 : beqB f g = true := h1
      rw [beqB_eq] at h1
      rw [beq_iff_eq.1 h1, nbeq h2, nbeq h3, nbeq h4]
  case refine_9 =>
    intro q ns ds y h
    cases y <;> try exact (Bool.false_ne_true h).elim
    case tx p ms es =>
      obtain ⟨h1, h2⟩ := and_t h
      obtain ⟨h2, h3⟩ := and_t h2
      have h2 : leq ns ms = true := h2
      have h3 : leq ds es = true := h3
      rw [leq_eq] at h2 h3
      rw [nbeq h1, of_decide_eq_true h2, of_decide_eq_true h3]
  case refine_10 =>
    intro j n y h
    cases y <;> try exact (Bool.false_ne_true h).elim
    case nm i m =>
      obtain ⟨h1, h2⟩ := and_t h
      rw [nbeq h1, nbeq h2]
  case refine_11 => intro y h; cases y <;> first | rfl | exact (Bool.false_ne_true h).elim
  case refine_12 =>
    intro j n y h
    cases y <;> try exact (Bool.false_ne_true h).elim
    case sr i m =>
      obtain ⟨h1, h2⟩ := and_t h
      rw [nbeq h1, nbeq h2]
  case refine_13 => intro y h; cases y <;> first | rfl | exact (Bool.false_ne_true h).elim
  case refine_14 => intro y h; cases y <;> first | rfl | exact (Bool.false_ne_true h).elim
  case refine_15 => intro y h; cases y <;> first | rfl | exact (Bool.false_ne_true h).elim
  case refine_16 => intro y h; cases y <;> first | rfl | exact (Bool.false_ne_true h).elim
  case refine_17 => intro y h; cases y <;> first | rfl | exact (Bool.false_ne_true h).elim
  case refine_18 =>
    intro fn a c ih1 ih2 y h
    cases y <;> try exact (Bool.false_ne_true h).elim
    case f gn a' c' =>
      obtain ⟨h1, h2⟩ := and_t h
      obtain ⟨h2, h3⟩ := and_t h2
      rw [ih1 a' h2, ih2 c' h3]
      cases fn <;> cases gn <;> try exact (Bool.false_ne_true h1).elim
      rw [nbeq h1]
  case refine_19 =>
    intro t v ih y h
    cases y <;> try exact (Bool.false_ne_true h).elim
    case ifc u v' =>
      obtain ⟨h1, h2⟩ := and_t h
      rw [nbeq h1, ih v' h2]
  case refine_20 =>
    intro r y h
    cases y <;> try exact (Bool.false_ne_true h).elim
    rw [nbeq h]
  case refine_21 =>
    intro l ih y h
    cases y <;> try exact (Bool.false_ne_true h).elim
    rw [ih _ h]
  case refine_22 =>
    intro l ih y h
    cases y <;> try exact (Bool.false_ne_true h).elim
    rw [ih _ h]
  case refine_23 =>
    intro l y h
    cases y <;> try exact (Bool.false_ne_true h).elim
    case s m =>
      have h : leq l m = true := h
      rw [leq_eq] at h
      rw [of_decide_eq_true h]
  case refine_24 =>
    intro b o n c y h
    cases y <;> try exact (Bool.false_ne_true h).elim
    obtain ⟨h1, h⟩ := and_t h
    obtain ⟨h2, h⟩ := and_t h
    obtain ⟨h3, h4⟩ := and_t h
    rw [nbeq h1, nbeq h2, nbeq h3, nbeq h4]
  case refine_25 =>
    intro b o y h
    cases y <;> try exact (Bool.false_ne_true h).elim
    obtain ⟨h1, h2⟩ := and_t h
    rw [nbeq h1, nbeq h2]
  case refine_26 =>
    intro x y h
    cases y <;> try exact (Bool.false_ne_true h).elim
    case b z =>
      have h : beqB x z = true := h
      rw [beqB_eq] at h
      rw [beq_iff_eq.1 h]
  case refine_27 =>
    intro k a y h
    cases y <;> try exact (Bool.false_ne_true h).elim
    obtain ⟨h1, h2⟩ := and_t h
    rw [kc_inj (nbeq h1), nbeq h2]
  case refine_28 =>
    intro m h
    cases m with
    | nil => rfl
    | cons y m => exact (Bool.false_ne_true h).elim
  case refine_29 =>
    intro x l ih1 ih2 m h
    cases m with
    | nil => exact (Bool.false_ne_true h).elim
    | cons y m =>
      obtain ⟨h1, h2⟩ := and_t h
      rw [ih1 y h1, ih2 m h2]
/-! ### What an operation looks at -/
def Agr (ops : Array Oper) (o : Oper) (ρ : Ren) (t : T) (a : Act) : Prop := ∀ n, n ∈ o.looksAt ops → n < 8 ^ 3 → VR ρ (get 3 n t) (a.tmps.getD n undef)
theorem mem_looks {ops : Array Oper} {o : Oper} {n : Nat} (h : Operand.tmp n ∈ o.op.operands) : n ∈ o.looksAt ops := by
  unfold Oper.looksAt
  refine List.mem_append_left _ ?_
  rw [List.mem_filterMap]
  exact ⟨.tmp n, by simpa using h, rfl⟩
theorem mem_guard {ops : Array Oper} {o : Oper} {j : Nat} {want : Bool} {x : Nat} (hg : o.guard = some (j, want)) (hx : (ops[j]?).bind (·.dst) = some x) : x ∈ o.looksAt ops := by
  unfold Oper.looksAt
  refine List.mem_append_right _ ?_
  rw [hg]
  show x ∈ ((ops[j]?).bind (·.dst)).toList
  rw [hx]; simp
theorem Agr.op {ops : Array Oper} {o : Oper} {ρ : Ren} {t : T} {a : Act} (h : Agr ops o ρ t a) (x : Operand) (hx : x ∈ o.op.operands) : VR ρ (gv t x) (a.eval x) := by
  cases x with
  | tmp n =>
    show VR ρ (if n < 8 ^ 3 then get 3 n t else .un) (a.tmps.getD n undef)
    by_cases hn : n < 8 ^ 3
    · rw [if_pos hn]; exact h n (mem_looks hx) hn
    · rw [if_neg hn]; simp only [VR]
  | const v => exact ofV_ok ρ v
  | global g => show VR ρ .un _; simp only [VR]
  | func g => show VR ρ (.f (.func g) [] []) _; simp only [VR, VRs]; exact ⟨#[], #[], rfl, rfl, rfl⟩
/-- What the guard says, by the slots. -/
def GdB (ops : Array Oper) (o : Oper) (t : T) (b : Bool) : Prop :=
  (o.guard = none ∧ b = true) ∨ ∃ j want x, o.guard = some (j, want) ∧ (ops[j]?).bind (·.dst) = some x ∧ x < 8 ^ 3 ∧ ((∃ y, get 3 x t = .b y ∧ b = (y == want)) ∨ (get 3 x t = .tu [] ∧ b = false))
theorem GdB.det {ops : Array Oper} {o : Oper} {t : T} {b c : Bool} (h : GdB ops o t b) (k : GdB ops o t c) : b = c := by
  rcases h with ⟨h1, rfl⟩ | ⟨j, want, x, h1, h2, h3, h4⟩
  · rcases k with ⟨_, rfl⟩ | ⟨j, want, x, k1, _⟩
    · rfl
    · rw [h1] at k1; cases k1
  · rcases k with ⟨k1, _⟩ | ⟨j', want', x', k1, k2, k3, k4⟩
    · rw [h1] at k1; cases k1
    · rw [h1] at k1; cases k1
      rw [h2] at k2; cases k2
      rcases h4 with ⟨y, h4, rfl⟩ | ⟨h4, rfl⟩
      · rcases k4 with ⟨z, k4, rfl⟩ | ⟨k4, rfl⟩
        · rw [h4] at k4; cases k4; rfl
        · rw [h4] at k4; cases k4
      · rcases k4 with ⟨z, k4, rfl⟩ | ⟨k4, rfl⟩
        · rw [h4] at k4; cases k4
        · rfl
theorem GdB.wanted {ops : Array Oper} {o : Oper} {t : T} {b : Bool} (h : GdB ops o t b) {ρ : Ren} {a : Act} (ha : Agr ops o ρ t a) : Region.wanted o (yielded ops a.tmps) = b := by
  rcases h with ⟨h1, rfl⟩ | ⟨j, want, x, h1, h2, h3, h4⟩
  · simp [Region.wanted, h1]
  · have hv := ha x (mem_guard h1 h2) h3
    rw [Array.getD_eq_getD_getElem?] at hv
    simp only [Region.wanted, h1, yielded, h2, Option.bind_some]
    rcases h4 with ⟨y, h4, rfl⟩ | ⟨h4, rfl⟩
    · rw [h4] at hv
      have := VR_b hv
      cases hq : a.tmps[x]? with
      | none => rw [hq] at this; cases this
      | some v => rw [hq] at this; simp at this; rw [this]; rfl
    · rw [h4] at hv
      obtain ⟨vs, g1, _⟩ := VR_tu hv
      cases hq : a.tmps[x]? with
      | none => rfl
      | some v => rw [hq] at g1; simp at g1; rw [g1]; rfl
/-- The slots an operation looks at are as they were. -/
def Same (ops : Array Oper) (o : Oper) (t t' : T) : Prop := ∀ n, n ∈ o.looksAt ops → n < 8 ^ 3 → get 3 n t' = get 3 n t
theorem GdB.same {ops : Array Oper} {o : Oper} {t t' : T} {b : Bool} (hs : Same ops o t t') (h : GdB ops o t b) : GdB ops o t' b := by
  rcases h with h | ⟨j, want, x, h1, h2, h3, h4⟩
  · exact .inl h
  · have := hs x (mem_guard h1 h2) h3
    exact .inr ⟨j, want, x, h1, h2, h3, by rw [this]; exact h4⟩
theorem Same.gv {ops : Array Oper} {o : Oper} {t t' : T} (hs : Same ops o t t') {x : Operand} (hx : x ∈ o.op.operands) : gv t' x = gv t x := by
  cases x with
  | tmp n =>
    show (if n < 8 ^ 3 then get 3 n t' else .un) = (if n < 8 ^ 3 then get 3 n t else .un)
    by_cases hn : n < 8 ^ 3
    · rw [if_pos hn, if_pos hn]; exact hs n (mem_looks hx) hn
    · rw [if_neg hn, if_neg hn]
  | const v => rfl
  | global g => rfl
  | func g => rfl
theorem Sv.same {P : Program} {ops : Array Oper} {o : Oper} {t t' : T} {h : H} {v : AV} (hs : Same ops o t t') (k : Sv P o t h v) : Sv P o t' h v :=
  fun ρ a w h1 h2 => k ρ a w h1 fun x hx => by rw [← hs.gv hx]; exact h2 x hx
theorem Sm.same {P : Program} {ops : Array Oper} {o : Oper} {t t' : T} {n : Nat} {v : AV} {k : Blk} (hs : Same ops o t t') (h : Sm P o t n v k) : Sm P o t' n v k :=
  ⟨h.1, fun ρ a w h1 h2 => h.2 ρ a w h1 fun x hx => by rw [← hs.gv hx]; exact h2 x hx⟩
theorem Sv.heap {P : Program} {o : Oper} {t : T} {h h' : H} {v : AV} (k : Sv P o t h v) (hs : isRd o = true → ∀ b, h.at b ≠ .no → h'.at b = h.at b) : Sv P o t h' v :=
  fun ρ a w h1 h2 => k ρ a w (fun hr b l hb hk => by
    have := h1 hr b l hb (by rw [hs hr b hk]; exact hk)
    rw [hs hr b hk] at this; exact this) h2
/-- The guard asked. -/
theorem guarded_gd {ops : Array Oper} {o : Oper} {j : Nat} {want : Bool} {d : Pt} {c : Cl} {cH : CH} {t : T} {h : H} {K : KT} (hg : o.guard = some (j, want)) (e : (guarded (slotOf ops j) want d c).run cH t h K = true) :
    (GdB ops o t true ∧ c.run cH t h K = true) ∨ (GdB ops o t false ∧ d.run (.tu []) (fun t => K t h) t = true) := by
  obtain ⟨x, hd, hx, e1⟩ := slotOf_true (show (slotOf ops j).run _ t = true from e)
  cases hv : get 3 x t <;> rw [hv] at e1 <;> try exact (Bool.false_ne_true e1).elim
  case b y =>
    have e2 : (Bool.rec (motive := fun _ => R) (d.run (.tu []) (fun t => K t h) t) (c.run cH t h K) (beqB y want) : R) = true := e1
    rw [beqB_eq] at e2
    cases hyw : (y == want) with
    | true => rw [hyw] at e2; exact .inl ⟨.inr ⟨j, want, x, hg, hd, hx, .inl ⟨y, hv, hyw.symm⟩⟩, e2⟩
    | false => rw [hyw] at e2; exact .inr ⟨.inr ⟨j, want, x, hg, hd, hx, .inl ⟨y, hv, hyw.symm⟩⟩, e2⟩
  case tu l =>
    cases l with
    | cons _ _ => exact (Bool.false_ne_true e1).elim
    | nil => exact .inr ⟨.inr ⟨j, want, x, hg, hd, hx, .inr ⟨hv, rfl⟩⟩, e1⟩
theorem opG_gd {P : Program} {ops : Array Oper} {o : Oper} {cH : CH} {t : T} {h : H} {K : KT} (e : (opG P ops o).run cH t h K = true) :
    (GdB ops o t true ∧ (comp P o).run cH t h K = true) ∨ (GdB ops o t false ∧ (∀ n, o.dst = some n → n < 8 ^ 3) ∧ K (putT o.dst (.tu []) t) h = true) := by
  unfold opG at e
  split at e
  · rename_i hg
    exact .inl ⟨.inl ⟨hg, rfl⟩, e⟩
  · rename_i j want hg
    rcases guarded_gd hg e with h1 | ⟨h1, h2⟩
    · exact .inl h1
    · obtain ⟨h3, h4⟩ := pt_run h2
      exact .inr ⟨h1, h3, h4⟩
/-- Does the operation turn something? -/
def isE (P : Program) (o : Oper) : Bool := (vop P o).isNone && (mop P o).isNone
theorem comp_ev {P : Program} {o : Oper} {cH : CH} {t : T} {h : H} {K : KT} (e : (comp P o).run cH t h K = true) (hE : isE P o = false) :
    ∃ v, (∀ n, o.dst = some n → n < 8 ^ 3) ∧ ((Sv P o t h v ∧ K (putT o.dst v t) h = true) ∨ ∃ k, Sm P o t h.nx v k ∧ h.nx < 8 ^ 5 ∧ K (putT o.dst v t) (.mk (put 5 h.nx k h.t) (h.nx + 1)) = true) := by
  unfold comp at e
  split at e
  · rename_i g hv
    obtain ⟨v, e1, h1⟩ := vop_ok hv (show g.run t h (fun v => (pt o.dst).run v (fun t => K t h) t) = true from e)
    obtain ⟨hd, e2⟩ := pt_run e1
    exact ⟨v, hd, .inl ⟨h1, e2⟩⟩
  · rename_i hv
    split at e
    · rename_i g hm
      obtain ⟨v, k, e1, h1⟩ := mop_ok hm (show g.run t h (fun nx v b => (pt o.dst).run v (fun t => onH (fun ht _ => (pcc Blk 5 nx).run b (fun ht => fc (fun m => K t (.mk ht m)) (Nat.add nx 1)) ht) h) t) = true from e)
      obtain ⟨hd, e2⟩ := pt_run e1
      obtain ⟨hn5, e3⟩ := pcc_run (onH_true e2)
      exact ⟨v, hd, .inr ⟨k, h1, hn5, e3⟩⟩
    · rename_i hm
      simp [isE, hv, hm] at hE
theorem comp_ef {P : Program} (hcl : CloneOk P) {o : Oper} {cH : CH} (hc : CHok P cH) {t : T} {h : H} {K : KT} (e : (comp P o).run cH t h K = true) (hE : isE P o = true) :
    ∀ (ρ : Ren) (a : Act) (w : World), HR ρ h w → (∀ x ∈ o.op.operands, VR ρ (gv t x) (a.eval x)) → ∀ Q, o.wp P a w (fun a' w' => ∃ v' v h' ρ', a' = a.put o.dst v' ∧ (∀ n, o.dst = some n → n < 8 ^ 3) ∧ HR ρ' h' w' ∧ Ext ρ h w ρ' h' w' ∧ VR ρ' v v' ∧ K (putT o.dst v t) h' = true) Q := by
  intro ρ a w hr hops Q
  unfold comp at e
  split at e
  · rename_i hv; simp [isE, hv] at hE
  · split at e
    · rename_i hm; simp [isE, hm] at hE
    · have h1 := eop_ok hcl hc (show (eop P o).run cH t h (fun v h => (pt o.dst).run v (fun t => K t h) t) = true from e) ρ a w hr hops Q
      refine Oper.wp_mono ?_ h1
      rintro a' w' ⟨v', rfl, v, h', ρ', e1, g1, g2, g3⟩
      obtain ⟨hd, e2⟩ := pt_run e1
      exact ⟨v', v, h', ρ', rfl, hd, g1, g2, g3, e2⟩
/-- A read looked at anew. -/
theorem still_true {P : Program} {ops : Array Oper} {i : Nat} {cH : CH} {t : T} {h : H} {K : KT} (e : (still P ops i).run cH t h K = true) :
    K t h = true ∧ ∃ o, ops[i]? = some o ∧ (GdB ops o t false ∨ (GdB ops o t true ∧ ∃ d, o.dst = some d ∧ d < 8 ^ 3 ∧ Sv P o t h (get 3 d t))) := by
  unfold still at e
  split at e
  · rename_i o ho
    split at e
    · rename_i g hv
      split at e
      · rename_i d hd
        have key : g.run t h (fun v => (acc AV 3 d).run (fun u => gd (aeq u v) (K t h)) t) = true → K t h = true ∧ d < 8 ^ 3 ∧ Sv P o t h (get 3 d t) := fun e => by
          obtain ⟨v, e1, h1⟩ := vop_ok hv e
          obtain ⟨h2, e2⟩ := acc_run e1
          obtain ⟨h3, e3⟩ := gd_true e2
          rw [aeq_eq _ _ h3]
          exact ⟨e3, h2, h1⟩
        split at e
        · rename_i hg
          obtain ⟨h1, h2, h3⟩ := key e
          exact ⟨h1, o, ho, .inr ⟨.inl ⟨hg, rfl⟩, d, hd, h2, h3⟩⟩
        · rename_i j want hg
          rcases guarded_gd hg e with ⟨h1, h2⟩ | ⟨h1, h2⟩
          · obtain ⟨g1, g2, g3⟩ := key h2
            exact ⟨g1, o, ho, .inr ⟨h1, d, hd, g2, g3⟩⟩
          · exact ⟨(pt_run h2).2, o, ho, .inl h1⟩
      · exact (Bool.false_ne_true e).elim
    · exact (Bool.false_ne_true e).elim
  · exact (Bool.false_ne_true e).elim
theorem stills_true {P : Program} {ops : Array Oper} {cH : CH} {t : T} {h : H} {K : KT} : ∀ {l : List Nat}, (stills P ops l).run cH t h K = true → K t h = true ∧ ∀ i ∈ l, ∃ o, ops[i]? = some o ∧ (GdB ops o t false ∨ (GdB ops o t true ∧ ∃ d, o.dst = some d ∧ d < 8 ^ 3 ∧ Sv P o t h (get 3 d t)))
  | [], e => ⟨e, fun i hi => by cases hi⟩
  | i :: l, e => by
    obtain ⟨e1, h1⟩ := still_true (show (still P ops i).run cH t h (fun t h => (stills P ops l).run cH t h K) = true from e)
    obtain ⟨e2, h2⟩ := stills_true e1
    refine ⟨e2, fun j hj => ?_⟩
    rcases List.mem_cons.1 hj with rfl | hj
    · exact h1
    · exact h2 j hj
end
end Go.Proofs.YtlpffldeogapmaaGreatDoor.Ev

namespace Go.Proofs.YtlpffldeogapmaaGreatDoor.Ev
open Go Go.MapKept Go.RowKit
set_option linter.unusedVariables false
set_option linter.unusedSimpArgs false
set_option linter.unusedSectionVars false
variable [GO]
noncomputable section

/-! ### What is asked of a plan, by the text alone -/
def dn (d : Option Nat) (l : List Nat) : Bool := match d with | some d => !l.contains d | none => true
def dd (x y : Option Nat) : Bool := match x with | some d => y != some d | none => true
theorem dn_spec {d : Option Nat} {l : List Nat} (h : dn d l = true) : ∀ n, d = some n → n ∉ l := fun n hn => by subst hn; simpa [dn] using h
theorem dd_spec {x y : Option Nat} (h : dd x y = true) : ∀ n, x = some n → y ≠ some n := fun n hn => by subst hn; simpa [dd] using h
/-- Each operation's forerunners, as bits. -/
def ancM (l : List Oper) : List Nat :=
  List.foldl (fun acc (o : Oper) => acc ++ [List.foldl (fun m (e : Edge) => Bool.rec (motive := fun _ => Nat) m (Nat.lor m (Nat.lor (Nat.shiftLeft 1 e.on) (acc.getD e.on 0))) (Region.binds .any e)) 0 o.after.toList]) [] l
def anc (A : List Nat) (j i : Nat) : Bool := Nat.testBit (A.getD i 0) j
def ancOk (ops : Array Oper) (A : List Nat) : Bool :=
  (List.range ops.size).all fun i => match ops[i]? with
    | none => false
    | some o => (o.after.toList.all fun e => !Region.binds .any e || decide (e.on < i)) &&
      Nat.blt (A.getD i 0) (2 ^ ops.size) &&
      ((List.range ops.size).all fun j => !anc A j i || (o.after.toList.any fun e => Region.binds .any e && (e.on == j || anc A j e.on)))
def pre (ops : Array Oper) (D : List Nat) (k : Nat) : Bool :=
  match ops[k]? with
  | some o => o.after.toList.all fun e => !Region.binds .any e || D.contains e.on
  | none => false
def evOk (P : Program) (ops : Array Oper) (A : List Nat) (V : List Nat) (i : Nat) : Bool :=
  match ops[i]? with
  | none => false
  | some oi => !isE P oi && dn oi.dst (oi.looksAt ops) && V.all fun j => match ops[j]? with
    | none => false
    | some oj => dn oi.dst (oj.looksAt ops) && dd oi.dst oj.dst && (anc A j i || dn oj.dst (oi.looksAt ops))
def efOk (P : Program) (ops : Array Oper) (A : List Nat) (D V rs : List Nat) (e : Nat) : Bool :=
  match ops[e]? with
  | none => false
  | some oe => isE P oe && ((List.range ops.size).all fun k => k == e || D.contains k || !pre ops D k) && V.all fun j => match ops[j]? with
    | none => false
    | some oj => anc A j e || (dn oe.dst (oj.looksAt ops) && dd oe.dst oj.dst && dn oj.dst (oe.looksAt ops) && (!isRd oj || rs.contains j))
def planOk (P : Program) (ops : Array Oper) (A : List Nat) : List Pl → List Nat → List Nat → Bool
  | [], D, _ => (List.range ops.size).all D.contains
  | .ev i :: p, D, V => !D.contains i && evOk P ops A V i && planOk P ops A p (i :: D) (i :: V)
  | .ef e rs :: p, D, V => !D.contains e && efOk P ops A D V rs e && planOk P ops A p (e :: D) V

theorem anc_listed {ops : Array Oper} {A : List Nat} (hA : ancOk ops A = true) {lst : Array Bool}
    (clo : ∀ i o, ops[i]? = some o → lst.getD i false = true → ∀ e ∈ o.after, Region.binds .any e = true → lst.getD e.on false = true) :
    ∀ (n i : Nat) o, i < n → ops[i]? = some o → (∀ e ∈ o.after, Region.binds .any e = true → lst.getD e.on false = true) → ∀ j, j < ops.size → anc A j i = true → lst.getD j false = true
  | 0, i, o, hi, _, _, _, _, _ => absurd hi (Nat.not_lt_zero i)
  | n + 1, i, o, hi, ho, hp, j, hjs, hj => by
    have hlt : i < ops.size := (Array.getElem?_eq_some_iff.1 ho).1
    have h1 := List.all_eq_true.1 hA i (List.mem_range.2 hlt)
    simp only [ho, Bool.and_eq_true] at h1
    obtain ⟨⟨h1, _⟩, h2⟩ := h1
    have h3 := List.all_eq_true.1 h2 j (List.mem_range.2 hjs)
    rw [hj] at h3
    simp only [Bool.not_true, Bool.false_or] at h3
    obtain ⟨e, he, h4⟩ := List.any_eq_true.1 h3
    simp only [Bool.and_eq_true, Bool.or_eq_true, beq_iff_eq] at h4
    obtain ⟨hb, h4⟩ := h4
    have he' : e ∈ o.after := by simpa using he
    have hl := hp e he' hb
    rcases h4 with rfl | h4
    · exact hl
    · have h5 := List.all_eq_true.1 h1 e he
      rw [hb] at h5
      have h5 : e.on < i := by simpa using h5
      obtain ⟨o', ho'⟩ : ∃ o', ops[e.on]? = some o' := ⟨ops[e.on]'(by omega), Array.getElem?_eq_getElem (by omega)⟩
      exact anc_listed hA clo n e.on o' (by omega) ho' (clo e.on o' ho' hl) j hjs h4

/-! ### The state between -/
/-- An operation that the evaluator has reckoned, and the model not yet. -/
def Pend (P : Program) (ops : Array Oper) (n0 : Nat) (ρ : Ren) (t : T) (h : H) (o : Oper) (mi : Option Nat) : Prop :=
  (GdB ops o t false ∧ ∀ n, o.dst = some n → n < 8 ^ 3 ∧ get 3 n t = .tu []) ∨
  (GdB ops o t true ∧ ∃ v, (∀ n, o.dst = some n → n < 8 ^ 3 ∧ get 3 n t = v) ∧ (Sv P o t h v ∨ ∃ m k, mi = some m ∧ n0 ≤ m ∧ ρ m = none ∧ h.at m = k ∧ Sm P o t m v k))
structure Inv (P : Program) (N : Nat) (ops : Array Oper) (A : List Nat) (ρ0 : Ren) (h0 : H) (w0 : World) (D V : List Nat) (ρ : Ren) (t : T) (h : H) (a : Act) (w : World) (lst : Array Bool) : Prop where
  sz : lst.size = ops.size
  tn : a.tmps.size = N
  df : a.defers = []
  hr : HR ρ h w
  ex : Ext ρ0 h0 w0 ρ h w
  sub : ∀ i, lst.getD i false = true → i ∈ D
  clo : ∀ i o, ops[i]? = some o → lst.getD i false = true → ∀ e ∈ o.after, Region.binds .any e = true → lst.getD e.on false = true
  pv : ∀ i, i ∈ D → lst.getD i false = false → i ∈ V
  vd : ∀ i, i ∈ V → i ∈ D ∧ ∃ o, ops[i]? = some o ∧ isE P o = false
  sl : ∀ n, n < 8 ^ 3 → VR ρ (get 3 n t) (a.tmps.getD n undef) ∨ ∃ i o, i ∈ D ∧ lst.getD i false = false ∧ ops[i]? = some o ∧ o.dst = some n
  pd : ∃ mm : Nat → Option Nat, (∀ i j m, mm i = some m → mm j = some m → i = j) ∧ (∀ i m, mm i = some m → m < h.nx) ∧ ∀ i o, i ∈ D → lst.getD i false = false → ops[i]? = some o → Pend P ops h0.nx ρ t h o (mm i)
  se : ∀ i o, i ∈ V → ops[i]? = some o → ∀ n, o.dst = some n → n ∉ o.looksAt ops
  ap : ∀ i j oi oj, i ≠ j → i ∈ V → j ∈ V → ops[i]? = some oi → ops[j]? = some oj → (∀ n, oi.dst = some n → oj.dst ≠ some n) ∧ (anc A j i = true ∨ ∀ n, oj.dst = some n → n ∉ oi.looksAt ops)

theorem get_putT_ne {d : Option Nat} {v : AV} {t : T} {n : Nat} (hd : ∀ m, d = some m → m < 8 ^ 3) (hn : n < 8 ^ 3) (hne : d ≠ some n) : get 3 n (putT d v t) = get 3 n t := by
  cases d with
  | none => rfl
  | some d =>
    show get 3 n (Ev.put 3 d v t) = _
    rw [get_put 3 d n v t (hd d rfl) hn, if_neg (by rintro rfl; exact hne rfl)]
theorem get_putT_eq {v : AV} {t : T} {n : Nat} (hn : n < 8 ^ 3) : get 3 n (putT (some n) v t) = v := by
  show get 3 n (Ev.put 3 n v t) = v
  rw [get_put 3 n n v t hn hn, if_pos rfl]
theorem same_putT {ops : Array Oper} {o : Oper} {d : Option Nat} {v : AV} {t : T} (hd : ∀ m, d = some m → m < 8 ^ 3) (hl : ∀ n, d = some n → n ∉ o.looksAt ops) : Same ops o t (putT d v t) :=
  fun n hn h8 => get_putT_ne hd h8 fun e => hl n e hn
theorem getD_put_ne {a : Act} {d : Option Nat} {v : Value} {n : Nat} (hne : d ≠ some n) : (a.put d v).tmps.getD n undef = a.tmps.getD n undef := by
  cases d with
  | none => rfl
  | some d =>
    show (a.tmps.setIfInBounds d v).getD n undef = _
    rw [Array.getD_eq_getD_getElem?, Array.getElem?_setIfInBounds_ne (fun q => hne (by rw [q])), ← Array.getD_eq_getD_getElem?]
theorem getD_put_eq {a : Act} {v : Value} {n : Nat} (hn : n < a.tmps.size) : (a.put (some n) v).tmps.getD n undef = v := by
  show (a.tmps.setIfInBounds n v).getD n undef = _
  rw [Array.getD_eq_getD_getElem?, Array.getElem?_setIfInBounds_self, if_pos hn]; rfl
theorem size_put {a : Act} {d : Option Nat} {v : Value} : (a.put d v).tmps.size = a.tmps.size := by cases d <;> simp [Act.put]

/-- A ghost block: one the evaluator has made, and the model not yet. -/
theorem HR.ghost {ρ : Ren} {ht : Ht} {nx : Nat} {w : World} {k : Blk} (a : HR ρ (.mk ht nx) w) (hn : nx < 8 ^ 5) : HR ρ (.mk (put 5 nx k ht) (nx + 1)) w := by
  have hf := a.fresh
  have hat : ∀ b l, ρ b = some l → (H.mk (put 5 nx k ht) (nx + 1)).at b = (H.mk ht nx).at b := fun b l hb => by
    rw [H.at_put (nx := nx) hn k b, if_neg (by rintro rfl; rw [hf] at hb; cases hb)]
  refine ⟨fun b l hb => ?_, fun b l hb hk => ?_, fun b1 b2 l1 l2 h1 h2 h3 h4 q => ?_, fun b hb => ?_⟩
  · have : b < nx := a.dom b l hb
    show b < nx + 1; omega
  · rw [hat b l hb] at hk ⊢; exact a.blk b l hb hk
  · rw [hat b1 l1 h1] at h3; rw [hat b2 l2 h2] at h4
    exact a.inj b1 b2 l1 l2 h1 h2 h3 h4 q
  · have hb : nx + 1 ≤ b := hb
    rw [H.at_put (nx := nx) hn k b, if_neg (by omega)]
    exact a.cl b (by show nx ≤ b; omega)
theorem Ext.ghosted {ρ : Ren} {ht : Ht} {nx : Nat} {w : World} {k : Blk} (a : HR ρ (.mk ht nx) w) (hn : nx < 8 ^ 5) : Ext ρ (.mk ht nx) w ρ (.mk (put 5 nx k ht) (nx + 1)) w where
  sub := .refl ρ
  own := fun B h => by
    obtain ⟨b, l, h1, h2, h3⟩ := h
    rw [H.at_put (nx := nx) hn k b, if_neg (by rintro rfl; rw [a.fresh] at h1; cases h1)] at h2
    exact .inl ⟨b, l, h1, h2, h3⟩
  keep := fun _ _ _ => rfl
  below := .refl 0 w
  ghost := fun b hb hnn => ⟨hnn, by
    have hb : b < nx := hb
    rw [H.at_put (nx := nx) hn k b, if_neg (by omega)]⟩
  nx := by show nx ≤ nx + 1; omega
/-- The model makes it. -/
theorem HR.realize {ρ : Ren} {h : H} {w w' : World} {m : Nat} {l : Loc} {ob : Obj} (a : HR ρ h w) (hm : m < h.nx) (hf : ρ m = none) (hl : l.B = w.heap.size) (hw : w'.heap = w.heap.push ob)
    (hr : BlkR (upd ρ m l) (h.at m) l ob) : HR (upd ρ m l) h w' := by
  have hs := Sub.upd (l := l) hf
  have lt : ∀ b l', b ≠ m → upd ρ m l b = some l' → h.at b ≠ .no → l'.B < w.heap.size := fun b l' e hb hk => a.lt (b := b) (by simpa [upd, e] using hb) hk
  refine ⟨fun b l' hb => ?_, fun b l' hb hk => ?_, fun b1 b2 l1 l2 h1 h2 h3 h4 q => ?_, a.cl⟩
  · by_cases e : b = m
    · subst e; exact hm
    · exact a.dom b l' (by simpa [upd, e] using hb)
  · by_cases e : b = m
    · subst e
      rw [upd_at] at hb; cases hb
      exact ⟨ob, by simp [hw, hl], hr⟩
    · have hb' : ρ b = some l' := by simpa [upd, e] using hb
      obtain ⟨o', h1, h2⟩ := a.blk b l' hb' hk
      refine ⟨o', ?_, h2.mono hs⟩
      rw [hw, Array.getElem?_push, if_neg (by have := (Array.getElem?_eq_some_iff.1 h1).1; omega)]
      exact h1
  · by_cases e1 : b1 = m <;> by_cases e2 : b2 = m
    · rw [e1, e2]
    · exfalso
      subst e1
      rw [upd_at] at h1; cases h1
      have := lt b2 l2 e2 h2 h4
      omega
    · exfalso
      subst e2
      rw [upd_at] at h2; cases h2
      have := lt b1 l1 e1 h1 h3
      omega
    · exact a.inj b1 b2 l1 l2 (by simpa [upd, e1] using h1) (by simpa [upd, e2] using h2) h3 h4 q
theorem Ext.realize {ρ0 ρ : Ren} {h0 h : H} {w0 w w' : World} {m : Nat} {l : Loc} {ob : Obj} (a : Ext ρ0 h0 w0 ρ h w) (hm : h0.nx ≤ m) (hf : ρ m = none) (hl : l.B = w.heap.size) (hw : w'.heap = w.heap.push ob) (hw2 : Below 0 w w') :
    Ext ρ0 h0 w0 (upd ρ m l) h w' where
  sub := a.sub.trans (Sub.upd hf)
  own := fun B h1 => by
    obtain ⟨b, l', h1, h2, h3⟩ := h1
    by_cases e : b = m
    · subst e
      rw [upd_at] at h1; cases h1
      exact .inr (by have := a.below.size; omega)
    · exact a.own B ⟨b, l', by simpa [upd, e] using h1, h2, h3⟩
  keep := fun B hB hn => by
    have := a.below.size
    rw [hw, Array.getElem?_push, if_neg (by omega)]
    exact a.keep B hB hn
  below := a.below.trans hw2
  ghost := fun b hb hn => by
    obtain ⟨h1, h2⟩ := a.ghost b hb hn
    exact ⟨by simp only [upd]; rw [if_neg (by omega)]; exact h1, h2⟩
  nx := a.nx
end
end Go.Proofs.YtlpffldeogapmaaGreatDoor.Ev

namespace Go.Proofs.YtlpffldeogapmaaGreatDoor.Ev
open Go Go.MapKept Go.RowKit
set_option linter.unusedVariables false
set_option linter.unusedSimpArgs false
set_option linter.unusedSectionVars false
variable [GO]
noncomputable section

variable {P : Program} {N : Nat} {ops : Array Oper} {A : List Nat} {ρ0 ρ : Ren} {h0 h : H} {w0 w : World} {D V : List Nat} {t : T} {a : Act} {lst : Array Bool}

theorem Inv.add (I : Inv P N ops A ρ0 h0 w0 D V ρ t h a w lst) {i : Nat} {oi : Oper} (ho : ops[i]? = some oi) (hD : i ∉ D) (hE : isE P oi = false) (hself : ∀ n, oi.dst = some n → n ∉ oi.looksAt ops)
    (hp : ∀ j ∈ V, ∃ oj, ops[j]? = some oj ∧ (∀ n, oi.dst = some n → n ∉ oj.looksAt ops) ∧ (∀ n, oi.dst = some n → oj.dst ≠ some n) ∧ (anc A j i = true ∨ ∀ n, oj.dst = some n → n ∉ oi.looksAt ops))
    {v : AV} (hd : ∀ n, oi.dst = some n → n < 8 ^ 3) {h' : H} (hr : HR ρ h' w) (hx : Ext ρ h w ρ h' w) (hat : ∀ b, b < h.nx → h'.at b = h.at b) {mi : Option Nat} (hmi : ∀ m, mi = some m → h.nx ≤ m ∧ m < h'.nx)
    (hP : Pend P ops h0.nx ρ (putT oi.dst v t) h' oi mi) : Inv P N ops A ρ0 h0 w0 (i :: D) (i :: V) ρ (putT oi.dst v t) h' a w lst := by
  have hl : lst.getD i false = false := by
    cases hq : lst.getD i false with
    | false => rfl
    | true => exact absurd (I.sub i hq) hD
  have hat2 : ∀ b, h.at b ≠ .no → h'.at b = h.at b := fun b hb => by
    refine hat b (Nat.lt_of_not_le fun q => hb (I.hr.cl b q))
  obtain ⟨mm, p1, p2, p3⟩ := I.pd
  refine ⟨I.sz, I.tn, I.df, hr, I.ex.trans hx, fun j hj => List.mem_cons_of_mem _ (I.sub j hj), I.clo, fun j hj hl' => ?_, fun j hj => ?_, fun n hn => ?_, ?_, fun j o hj hoj => ?_, fun j k oj ok hjk hj hk hoj hok => ?_⟩
  · rcases List.mem_cons.1 hj with rfl | hj
    · exact List.mem_cons_self
    · exact List.mem_cons_of_mem _ (I.pv j hj hl')
  · rcases List.mem_cons.1 hj with rfl | hj
    · exact ⟨List.mem_cons_self, oi, ho, hE⟩
    · exact ⟨List.mem_cons_of_mem _ (I.vd j hj).1, (I.vd j hj).2⟩
  · by_cases e : oi.dst = some n
    · exact .inr ⟨i, oi, List.mem_cons_self, hl, ho, e⟩
    · rw [get_putT_ne hd hn e]
      rcases I.sl n hn with g | ⟨j, oj, g1, g2, g3, g4⟩
      · exact .inl g
      · exact .inr ⟨j, oj, List.mem_cons_of_mem _ g1, g2, g3, g4⟩
  · refine ⟨fun j => if j = i then mi else mm j, fun j k m hj hk => ?_, fun j m hj => ?_, fun j oj hj hlj hoj => ?_⟩
    · by_cases ej : j = i <;> by_cases ek : k = i
      · rw [ej, ek]
      · exfalso
        simp only [ej, if_true] at hj
        simp only [ek, if_false] at hk
        have := p2 k m hk
        have := (hmi m hj).1
        omega
      · exfalso
        simp only [ek, if_true] at hk
        simp only [ej, if_false] at hj
        have := p2 j m hj
        have := (hmi m hk).1
        omega
      · simp only [ej, if_false] at hj
        simp only [ek, if_false] at hk
        exact p1 j k m hj hk
    · by_cases ej : j = i
      · simp only [ej, if_true] at hj
        exact (hmi m hj).2
      · simp only [ej, if_false] at hj
        exact Nat.lt_of_lt_of_le (p2 j m hj) hx.nx
    · rcases List.mem_cons.1 hj with rfl | hj
      · rw [ho] at hoj; cases hoj
        simp only [if_true]; exact hP
      · have ej : j ≠ i := fun e => hD (e ▸ hj)
        simp only [ej, if_false]
        obtain ⟨oj', k0, k1, k2, _⟩ := hp j (I.pv j hj hlj)
        rw [hoj] at k0; cases k0
        have hs : Same ops oj t (putT oi.dst v t) := same_putT hd k1
        have hsl : ∀ n, oj.dst = some n → n < 8 ^ 3 → get 3 n (putT oi.dst v t) = get 3 n t := fun n hn h8 => get_putT_ne hd h8 fun e => k2 n e hn
        rcases p3 j oj hj hlj hoj with ⟨g1, g2⟩ | ⟨g1, u, g2, g3⟩
        · exact .inl ⟨g1.same hs, fun n hn => ⟨(g2 n hn).1, by rw [hsl n hn (g2 n hn).1]; exact (g2 n hn).2⟩⟩
        · refine .inr ⟨g1.same hs, u, fun n hn => ⟨(g2 n hn).1, by rw [hsl n hn (g2 n hn).1]; exact (g2 n hn).2⟩, ?_⟩
          rcases g3 with g3 | ⟨m, k, q1, q2, q3, q4, q5⟩
          · exact .inl ((g3.same hs).heap fun _ b hb => hat2 b hb)
          · exact .inr ⟨m, k, q1, q2, q3, by rw [hat m (p2 j m q1)]; exact q4, q5.same hs⟩
  · rcases List.mem_cons.1 hj with rfl | hj
    · rw [ho] at hoj; cases hoj; exact hself
    · exact I.se j o hj hoj
  · rcases List.mem_cons.1 hj with rfl | hj
    · rw [ho] at hoj; cases hoj
      rcases List.mem_cons.1 hk with rfl | hk
      · exact absurd rfl hjk
      · obtain ⟨ok', k0, k1, k2, k3⟩ := hp k hk
        rw [hok] at k0; cases k0
        exact ⟨k2, k3⟩
    · have hjV := hj
      clear hj
      rcases List.mem_cons.1 hk with rfl | hk
      · rw [ho] at hok; cases hok
        obtain ⟨oj', k0, k1, k2, k3⟩ := hp j hjV
        rw [hoj] at k0; cases k0
        exact ⟨fun n hn q => k2 n q hn, .inr k1⟩
      · exact I.ap j k oj ok hjk hjV hk hoj hok
theorem adv_ev (I : Inv P N ops A ρ0 h0 w0 D V ρ t h a w lst) {cH : CH} {K : KT} {i : Nat} (e : (opI P ops i).run cH t h K = true) (hk : evOk P ops A V i = true) (hD : i ∉ D) :
    ∃ t' h', K t' h' = true ∧ Inv P N ops A ρ0 h0 w0 (i :: D) (i :: V) ρ t' h' a w lst := by
  unfold evOk at hk
  cases ho : ops[i]? with
  | none => simp [ho] at hk
  | some oi =>
    simp only [ho, Bool.and_eq_true, Bool.not_eq_true'] at hk
    obtain ⟨⟨hE, hs⟩, hV⟩ := hk
    have hself := dn_spec hs
    have hp : ∀ j ∈ V, ∃ oj, ops[j]? = some oj ∧ (∀ n, oi.dst = some n → n ∉ oj.looksAt ops) ∧ (∀ n, oi.dst = some n → oj.dst ≠ some n) ∧ (anc A j i = true ∨ ∀ n, oj.dst = some n → n ∉ oi.looksAt ops) := fun j hj => by
      have h1 := List.all_eq_true.1 hV j hj
      cases hoj : ops[j]? with
      | none => simp [hoj] at h1
      | some oj =>
        simp only [hoj, Bool.and_eq_true, Bool.or_eq_true] at h1
        exact ⟨oj, rfl, dn_spec h1.1.1, dd_spec h1.1.2, h1.2.imp id dn_spec⟩
    unfold opI at e
    simp only [ho] at e
    have slot : ∀ {v : AV}, (∀ n, oi.dst = some n → n < 8 ^ 3) → ∀ n, oi.dst = some n → n < 8 ^ 3 ∧ get 3 n (putT oi.dst v t) = v := fun hd n hn => ⟨hd n hn, by rw [hn]; exact get_putT_eq (hd n hn)⟩
    rcases opG_gd e with ⟨h1, h2⟩ | ⟨h1, hd, h2⟩
    · obtain ⟨v, hd, h3⟩ := comp_ev h2 hE
      have hsm : Same ops oi t (putT oi.dst v t) := same_putT hd hself
      rcases h3 with ⟨h3, h4⟩ | ⟨k, h3, h5, h4⟩
      · exact ⟨_, h, h4, I.add ho hD hE hself hp hd I.hr (Ext.refl _ _ _) (fun _ _ => rfl) (mi := none) (fun m q => by cases q) (.inr ⟨h1.same hsm, v, slot hd, .inl (h3.same hsm)⟩)⟩
      · have hr : HR ρ (.mk h.t h.nx) w := by rw [H.eta]; exact I.hr
        have hE2 := Ext.ghosted hr (k := k) h5
        rw [H.eta] at hE2
        have hat0 : (H.mk (put 5 h.nx k h.t) (h.nx + 1)).at h.nx = k := by rw [H.at_put (nx := h.nx) h5 k h.nx, if_pos rfl]
        refine ⟨_, _, h4, I.add ho hD hE hself hp hd (hr.ghost h5) hE2 (fun b hb => ?_) (mi := some h.nx) (fun m q => by cases q; exact ⟨Nat.le_refl _, Nat.lt_succ_self _⟩) (.inr ⟨h1.same hsm, v, slot hd, .inr ⟨h.nx, k, rfl, I.ex.nx, hr.fresh, hat0, h3.same hsm⟩⟩)⟩
        rw [H.at_put (nx := h.nx) h5 k b, if_neg (by omega)]
        rw [H.eta]
    · have hsm : Same ops oi t (putT oi.dst (.tu []) t) := same_putT hd hself
      exact ⟨_, h, h2, I.add ho hD hE hself hp hd I.hr (Ext.refl _ _ _) (fun _ _ => rfl) (mi := none) (fun m q => by cases q) (.inl ⟨h1.same hsm, slot hd⟩)⟩
/-- The evaluator goes on to the next that turns something. -/
theorem adv {cH : CH} {K : KT} : ∀ (p : List Pl) (D V : List Nat) (t : T) (h : H), (drawn P ops p).run cH t h K = true → planOk P ops A p D V = true → Inv P N ops A ρ0 h0 w0 D V ρ t h a w lst →
    ∃ p' D' V' t' h', (p' = [] ∨ ∃ e rs q, p' = .ef e rs :: q) ∧ (drawn P ops p').run cH t' h' K = true ∧ planOk P ops A p' D' V' = true ∧ Inv P N ops A ρ0 h0 w0 D' V' ρ t' h' a w lst
  | [], D, V, t, h, e, hp, I => ⟨[], D, V, t, h, .inl rfl, e, hp, I⟩
  | .ef i rs :: p, D, V, t, h, e, hp, I => ⟨_, D, V, t, h, .inr ⟨i, rs, p, rfl⟩, e, hp, I⟩
  | .ev i :: p, D, V, t, h, e, hp, I => by
    simp only [planOk, Bool.and_eq_true, Bool.not_eq_true'] at hp
    obtain ⟨⟨hD, hk⟩, hp⟩ := hp
    obtain ⟨t', h', e', I'⟩ := adv_ev I (show (opI P ops i).run cH t h (fun t h => (drawn P ops p).run cH t h K) = true from e) hk (by simpa using hD)
    exact adv p _ _ t' h' e' hp I'

/-! ### The model's steps -/
theorem lst_at {lst : Array Bool} {i : Nat} (hi : i < lst.size) (h : lst.getD i true = false) : lst.getD i false = false := by
  rw [Array.getD_eq_getD_getElem?, Array.getElem?_eq_getElem hi] at *; simpa using h
theorem set_ne {lst : Array Bool} {i j : Nat} (h : j ≠ i) : (lst.setIfInBounds i true).getD j false = lst.getD j false := getD_set_ne false (Ne.symm h)
theorem set_eq {lst : Array Bool} {i : Nat} (hi : i < lst.size) : (lst.setIfInBounds i true).getD i false = true := by simp [hi]
/-- Listing one that is ready. -/
theorem clo_set {lst : Array Bool} {i : Nat} {oi : Oper} (hi : i < lst.size) (ho : ops[i]? = some oi) (hr : ∀ e ∈ oi.after, Region.binds .any e = true → lst.getD e.on false = true)
    (clo : ∀ i o, ops[i]? = some o → lst.getD i false = true → ∀ e ∈ o.after, Region.binds .any e = true → lst.getD e.on false = true) :
    ∀ j o, ops[j]? = some o → (lst.setIfInBounds i true).getD j false = true → ∀ e ∈ o.after, Region.binds .any e = true → (lst.setIfInBounds i true).getD e.on false = true := fun j o hoj hj e he hb => by
  by_cases ej : j = i
  · subst ej
    rw [ho] at hoj; cases hoj
    exact getD_set_true (hr e he hb)
  · rw [set_ne ej] at hj
    exact getD_set_true (clo j o hoj hj e he hb)
theorem Inv.exec (I : Inv P N ops A ρ0 h0 w0 D V ρ t h a w lst) {i : Nat} {oi : Oper} (ho : ops[i]? = some oi) (hD : i ∈ D) (hN : ∀ n, oi.dst = some n → n < N)
    (hpre : ∀ e ∈ oi.after, Region.binds .any e = true → lst.getD e.on false = true) {ρ' : Ren} {w' : World} {v' : Value} (hr : HR ρ' h w') (hx : Ext ρ0 h0 w0 ρ' h w') (hs : Sub ρ ρ')
    (hv : ∀ n, oi.dst = some n → VR ρ' (get 3 n t) v') (mm : Nat → Option Nat) (p1 : ∀ i j m, mm i = some m → mm j = some m → i = j) (p2 : ∀ i m, mm i = some m → m < h.nx)
    (p3 : ∀ i o, i ∈ D → lst.getD i false = false → ops[i]? = some o → Pend P ops h0.nx ρ t h o (mm i)) (hm : ∀ j m, j ≠ i → mm j = some m → ρ m = none → ρ' m = none) :
    Inv P N ops A ρ0 h0 w0 D V ρ' t h (a.put oi.dst v') w' (lst.setIfInBounds i true) := by
  have hi : i < lst.size := by rw [I.sz]; exact (Array.getElem?_eq_some_iff.1 ho).1
  have un : ∀ j, (lst.setIfInBounds i true).getD j false = false → j ≠ i ∧ lst.getD j false = false := fun j hj => by
    have : j ≠ i := by rintro rfl; rw [set_eq hi] at hj; cases hj
    exact ⟨this, by rw [set_ne this] at hj; exact hj⟩
  refine ⟨by simp [I.sz], by rw [size_put]; exact I.tn, by rw [put_defers]; exact I.df, hr, hx, fun j hj => ?_, clo_set hi ho hpre I.clo, fun j hj hl => I.pv j hj (un j hl).2, I.vd, fun n hn => ?_,
    ⟨mm, p1, p2, fun j oj hj hl hoj => ?_⟩, I.se, I.ap⟩
  · by_cases e : j = i
    · subst e; exact hD
    · rw [set_ne e] at hj; exact I.sub j hj
  · by_cases e : oi.dst = some n
    · left
      have := hv n e
      rw [e, getD_put_eq (by rw [I.tn]; exact hN n e)]
      exact this
    · rw [getD_put_ne e]
      rcases I.sl n hn with g | ⟨j, oj, g1, g2, g3, g4⟩
      · exact .inl (VR.mono hs _ _ g)
      · refine .inr ⟨j, oj, g1, ?_, g3, g4⟩
        rw [set_ne (by rintro rfl; rw [ho] at g3; cases g3; exact e g4)]; exact g2
  · obtain ⟨ne, hl⟩ := un j hl
    rcases p3 j oj hj hl hoj with g | ⟨g1, u, g2, g3⟩
    · exact .inl g
    · refine .inr ⟨g1, u, g2, ?_⟩
      rcases g3 with g3 | ⟨m, k, q1, q2, q3, q4, q5⟩
      · exact .inl g3
      · exact .inr ⟨m, k, q1, q2, hm j m ne q1 q3, q4, q5⟩
/-- What a ready operation looks at stands. -/
theorem Inv.agr (hA : ancOk ops A = true) (I : Inv P N ops A ρ0 h0 w0 D V ρ t h a w lst) {i : Nat} {oi : Oper} (ho : ops[i]? = some oi) (hpre : ∀ e ∈ oi.after, Region.binds .any e = true → lst.getD e.on false = true)
    (hs : ∀ j oj, j ∈ V → lst.getD j false = false → ops[j]? = some oj → anc A j i = true ∨ ∀ n, oj.dst = some n → n ∉ oi.looksAt ops) : Agr ops oi ρ t a := fun n hn h8 => by
  rcases I.sl n h8 with g | ⟨j, oj, g1, g2, g3, g4⟩
  · exact g
  · exfalso
    rcases hs j oj (I.pv j g1 g2) g2 g3 with q | q
    · have := anc_listed hA I.clo (i + 1) i oi (Nat.lt_succ_self _) ho hpre j (Array.getElem?_eq_some_iff.1 g3).1 q
      rw [this] at g2; cases g2
    · exact q n g4 hn
theorem pend_step (hA : ancOk ops A = true) (hN : ∀ (i : Nat) o, ops[i]? = some o → ∀ n, o.dst = some n → n < N) (I : Inv P N ops A ρ0 h0 w0 D V ρ t h a w lst) {i : Nat} (hi : i ∈ Region.ready .any ops lst) (hD : i ∈ D) (Q : Exit → Act → World → Prop) :
    wpOp P ops Q i (fun a' w' => ∃ ρ', Inv P N ops A ρ0 h0 w0 D V ρ' t h a' w' (lst.setIfInBounds i true)) a w := by
  obtain ⟨hl, oi, ho, hpre⟩ := mem_ready.1 hi
  have his : i < lst.size := by rw [I.sz]; exact (Array.getElem?_eq_some_iff.1 ho).1
  have hl := lst_at his hl
  have hV := I.pv i hD hl
  have hag : Agr ops oi ρ t a := I.agr hA ho hpre fun j oj hj _ hoj => by
    by_cases e : i = j
    · subst e
      rw [ho] at hoj; cases hoj
      exact .inr (I.se i oi hV ho)
    · exact (I.ap i j oi oj e hV hj ho hoj).2
  obtain ⟨mm, p1, p2, p3⟩ := I.pd
  unfold wpOp
  simp only [ho]
  rcases p3 i oi hD hl ho with ⟨g1, g2⟩ | ⟨g1, u, g2, g3⟩
  · rw [if_neg (by rw [g1.wanted hag]; simp)]
    exact ⟨ρ, I.exec ho hD (hN i oi ho) hpre I.hr I.ex (Sub.refl ρ) (fun n hn => by rw [(g2 n hn).2]; exact VR_undef) mm p1 p2 p3 fun _ _ _ _ q => q⟩
  · rw [if_pos (g1.wanted hag)]
    refine .inl ?_
    rcases g3 with g3 | ⟨m, k, q1, q2, q3, q4, q5⟩
    · obtain ⟨v', e1, e2⟩ := g3 ρ a w (fun _ => I.hr.blk) fun x hx => hag.op x hx
      exact wp_value e1 ⟨ρ, I.exec ho hD (hN i oi ho) hpre I.hr I.ex (Sub.refl ρ) (fun n hn => by rw [(g2 n hn).2]; exact e2) mm p1 p2 p3 fun _ _ _ _ q => q⟩
    · obtain ⟨v', w', l, ob, e1, e2, e3, e4, e5, e6⟩ := q5.2 ρ a w q3 fun x hx => hag.op x hx
      refine wp_value e1 ⟨upd ρ m l, I.exec ho hD (hN i oi ho) hpre (I.hr.realize (p2 i m q1) q3 e2 e3 (by rw [q4]; exact e5)) (I.ex.realize q2 q3 e2 e3 e4) (Sub.upd q3) (fun n hn => by rw [(g2 n hn).2]; exact e6) mm p1 p2 p3 ?_⟩
      intro j m' hj hm' hn
      simp only [upd]
      rw [if_neg (by rintro rfl; exact hj (p1 j i _ hm' q1))]
      exact hn
end
end Go.Proofs.YtlpffldeogapmaaGreatDoor.Ev

namespace Go.Proofs.YtlpffldeogapmaaGreatDoor.Ev
open Go Go.MapKept Go.RowKit
set_option linter.unusedVariables false
set_option linter.unusedSimpArgs false
set_option linter.unusedSectionVars false
variable [GO]
noncomputable section

variable {P : Program} {N : Nat} {ops : Array Oper} {A : List Nat} {ρ0 ρ : Ren} {h0 h : H} {w0 w : World} {D V : List Nat} {t : T} {a : Act} {lst : Array Bool}

theorem Inv.eff (hA : ancOk ops A = true) (I : Inv P N ops A ρ0 h0 w0 D V ρ t h a w lst) {e : Nat} {oe : Oper} {rs : List Nat} (ho : ops[e]? = some oe) (hD : e ∉ D) (hN : ∀ n, oe.dst = some n → n < N)
    (hpre : ∀ x ∈ oe.after, Region.binds .any x = true → lst.getD x.on false = true)
    (hp : ∀ j oj, j ∈ V → ops[j]? = some oj → anc A j e = true ∨ ((∀ n, oe.dst = some n → n ∉ oj.looksAt ops) ∧ (∀ n, oe.dst = some n → oj.dst ≠ some n) ∧ (isRd oj = true → j ∈ rs)))
    {ρ' : Ren} {h' : H} {w' : World} {v : AV} {v' : Value} (hd : ∀ n, oe.dst = some n → n < 8 ^ 3) (hr : HR ρ' h' w') (hx : Ext ρ h w ρ' h' w') (hv : VR ρ' v v')
    (hst : ∀ i ∈ rs, ∃ o, ops[i]? = some o ∧ (GdB ops o (putT oe.dst v t) false ∨ (GdB ops o (putT oe.dst v t) true ∧ ∃ d, o.dst = some d ∧ d < 8 ^ 3 ∧ Sv P o (putT oe.dst v t) h' (get 3 d (putT oe.dst v t))))) :
    Inv P N ops A ρ0 h0 w0 (e :: D) V ρ' (putT oe.dst v t) h' (a.put oe.dst v') w' (lst.setIfInBounds e true) := by
  have hi : e < lst.size := by rw [I.sz]; exact (Array.getElem?_eq_some_iff.1 ho).1
  have un : ∀ j, j ∈ e :: D → (lst.setIfInBounds e true).getD j false = false → j ≠ e ∧ lst.getD j false = false ∧ j ∈ D := fun j hjD hj => by
    have hne : j ≠ e := by rintro rfl; rw [set_eq hi] at hj; cases hj
    refine ⟨hne, by rw [set_ne hne] at hj; exact hj, ?_⟩
    rcases List.mem_cons.1 hjD with q | q
    · exact absurd q hne
    · exact q
  have far : ∀ j oj, j ∈ D → lst.getD j false = false → ops[j]? = some oj → (∀ n, oe.dst = some n → n ∉ oj.looksAt ops) ∧ (∀ n, oe.dst = some n → oj.dst ≠ some n) ∧ (isRd oj = true → j ∈ rs) := fun j oj hj hl hoj => by
    rcases hp j oj (I.pv j hj hl) hoj with q | q
    · have := anc_listed hA I.clo (e + 1) e oe (Nat.lt_succ_self _) ho hpre j (Array.getElem?_eq_some_iff.1 hoj).1 q
      rw [this] at hl; cases hl
    · exact q
  obtain ⟨mm, p1, p2, p3⟩ := I.pd
  refine ⟨by simp [I.sz], by rw [size_put]; exact I.tn, by rw [put_defers]; exact I.df, hr, I.ex.trans hx, fun j hj => ?_, clo_set hi ho hpre I.clo, fun j hj hl => ?_, fun j hj => ⟨List.mem_cons_of_mem _ (I.vd j hj).1, (I.vd j hj).2⟩, fun n hn => ?_,
    ⟨mm, p1, fun j m hj => Nat.lt_of_lt_of_le (p2 j m hj) hx.nx, fun j oj hj hl hoj => ?_⟩, I.se, I.ap⟩
  · by_cases q : j = e
    · subst q; exact List.mem_cons_self
    · rw [set_ne q] at hj; exact List.mem_cons_of_mem _ (I.sub j hj)
  · obtain ⟨_, g1, g2⟩ := un j hj hl
    exact I.pv j g2 g1
  · by_cases q : oe.dst = some n
    · left
      rw [q, getD_put_eq (by rw [I.tn]; exact hN n q), get_putT_eq hn]
      exact hv
    · rw [getD_put_ne q, get_putT_ne hd hn q]
      rcases I.sl n hn with g | ⟨j, oj, g1, g2, g3, g4⟩
      · exact .inl (VR.mono hx.sub _ _ g)
      · refine .inr ⟨j, oj, List.mem_cons_of_mem _ g1, ?_, g3, g4⟩
        have hne : j ≠ e := fun r => hD (r ▸ g1)
        rw [set_ne hne]; exact g2
  · obtain ⟨hne, hl0, hjD⟩ := un j hj hl
    obtain ⟨k1, k2, k3⟩ := far j oj hjD hl0 hoj
    have hs : Same ops oj t (putT oe.dst v t) := same_putT hd k1
    have hsl : ∀ n, oj.dst = some n → n < 8 ^ 3 → get 3 n (putT oe.dst v t) = get 3 n t := fun n hn h8 => get_putT_ne hd h8 fun q => k2 n q hn
    rcases p3 j oj hjD hl0 hoj with ⟨g1, g2⟩ | ⟨g1, u, g2, g3⟩
    · exact .inl ⟨g1.same hs, fun n hn => ⟨(g2 n hn).1, by rw [hsl n hn (g2 n hn).1]; exact (g2 n hn).2⟩⟩
    · refine .inr ⟨g1.same hs, u, fun n hn => ⟨(g2 n hn).1, by rw [hsl n hn (g2 n hn).1]; exact (g2 n hn).2⟩, ?_⟩
      rcases g3 with g3 | ⟨m, k, q1, q2, q3, q4, q5⟩
      · left
        cases hrd : isRd oj with
        | false => exact (g3.same hs).heap fun q => by rw [hrd] at q; cases q
        | true =>
          obtain ⟨o, r0, r1⟩ := hst j (k3 hrd)
          rw [hoj] at r0; cases r0
          rcases r1 with r1 | ⟨_, d, r2, r3, r4⟩
          · exact absurd (r1.det (g1.same hs)) (by simp)
          · have : u = get 3 d (putT oe.dst v t) := by rw [hsl d r2 r3]; exact (g2 d r2).2.symm
            rw [this]; exact r4
      · obtain ⟨r1, r2⟩ := hx.ghost m (p2 j m q1) q3
        exact .inr ⟨m, k, q1, q2, r1, r2.trans q4, q5.same hs⟩
/-- What turns something, carried out. -/
theorem eff_step (hcl : CloneOk P) (hA : ancOk ops A = true) (hN : ∀ (i : Nat) o, ops[i]? = some o → ∀ n, o.dst = some n → n < N) {cH : CH} (hc : CHok P cH) {K : KT} {e : Nat} {rs : List Nat} {q : List Pl}
    (I : Inv P N ops A ρ0 h0 w0 D V ρ t h a w lst) (hrun : (drawn P ops (.ef e rs :: q)).run cH t h K = true) (hk : efOk P ops A D V rs e = true) (hD : e ∉ D) (hi : e ∈ Region.ready .any ops lst) (Q : Exit → Act → World → Prop) :
    wpOp P ops Q e (fun a' w' => ∃ ρ' t' h', (drawn P ops q).run cH t' h' K = true ∧ Inv P N ops A ρ0 h0 w0 (e :: D) V ρ' t' h' a' w' (lst.setIfInBounds e true)) a w := by
  obtain ⟨_, oe, ho, hpre⟩ := mem_ready.1 hi
  unfold efOk at hk
  simp only [ho, Bool.and_eq_true] at hk
  obtain ⟨⟨hE, _⟩, hV⟩ := hk
  have hp : ∀ j oj, j ∈ V → ops[j]? = some oj → anc A j e = true ∨ ((∀ n, oe.dst = some n → n ∉ oj.looksAt ops) ∧ (∀ n, oe.dst = some n → oj.dst ≠ some n) ∧ (∀ n, oj.dst = some n → n ∉ oe.looksAt ops) ∧ (isRd oj = true → j ∈ rs)) := fun j oj hj hoj => by
    have h1 := List.all_eq_true.1 hV j hj
    simp only [hoj, Bool.or_eq_true, Bool.and_eq_true] at h1
    refine h1.imp id fun h2 => ⟨dn_spec h2.1.1.1, dd_spec h2.1.1.2, dn_spec h2.1.2, fun hr => ?_⟩
    have := h2.2
    rw [hr] at this
    simpa using this
  have hag : Agr ops oe ρ t a := I.agr hA ho hpre fun j oj hj _ hoj => (hp j oj hj hoj).imp id fun h2 => h2.2.2.1
  have hp' : ∀ j oj, j ∈ V → ops[j]? = some oj → anc A j e = true ∨ ((∀ n, oe.dst = some n → n ∉ oj.looksAt ops) ∧ (∀ n, oe.dst = some n → oj.dst ≠ some n) ∧ (isRd oj = true → j ∈ rs)) := fun j oj hj hoj => (hp j oj hj hoj).imp id fun h2 => ⟨h2.1, h2.2.1, h2.2.2.2⟩
  have hrun : (opI P ops e).run cH t h (fun t h => (stills P ops rs).run cH t h (fun t h => (drawn P ops q).run cH t h K)) = true := hrun
  unfold opI at hrun
  simp only [ho] at hrun
  unfold wpOp
  simp only [ho]
  rcases opG_gd hrun with ⟨g1, g2⟩ | ⟨g1, hd, g2⟩
  · rw [if_pos (g1.wanted hag)]
    refine .inl (Oper.wp_mono ?_ (comp_ef hcl hc g2 hE ρ a w I.hr (fun x hx => hag.op x hx) Q))
    rintro a' w' ⟨v', v, h', ρ', rfl, hd, k1, k2, k3, k4⟩
    obtain ⟨k5, k6⟩ := stills_true k4
    exact ⟨ρ', _, h', k5, I.eff hA ho hD (hN e oe ho) hpre hp' hd k1 k2 k3 k6⟩
  · rw [if_neg (by rw [g1.wanted hag]; simp)]
    obtain ⟨k5, k6⟩ := stills_true g2
    exact ⟨ρ, _, h, k5, I.eff hA ho hD (hN e oe ho) hpre hp' hd I.hr (Ext.refl _ _ _) VR_undef k6⟩
theorem ready_nil {ops : Array Oper} {A : List Nat} (hA : ancOk ops A = true) {lst : Array Bool} (hsz : lst.size = ops.size) (hr : Region.ready .any ops lst = []) : ∀ (n i : Nat), i < n → i < ops.size → lst.getD i false = true
  | 0, i, hi, _ => absurd hi (Nat.not_lt_zero i)
  | n + 1, i, hi, his => by
    cases hq : lst.getD i false with
    | true => rfl
    | false =>
      exfalso
      have hmem : i ∈ Region.ready .any ops lst := by
        refine mem_ready.2 ⟨?_, ops[i], Array.getElem?_eq_getElem his, fun e he hb => ?_⟩
        · rw [Array.getD_eq_getD_getElem?, Array.getElem?_eq_getElem (by omega)] at *; simpa using hq
        · have h1 := List.all_eq_true.1 hA i (List.mem_range.2 his)
          simp only [Array.getElem?_eq_getElem his, Bool.and_eq_true] at h1
          have h2 := List.all_eq_true.1 h1.1.1 e (by simpa using he)
          rw [hb] at h2
          have h2 : e.on < i := by simpa using h2
          exact ready_nil hA hsz hr n e.on (by omega) (by omega)
      rw [hr] at hmem; cases hmem
theorem count_set {lst : Array Bool} {i n : Nat} (hi : i < lst.size) (hl : lst.getD i false = false) (hc : lst.toList.count false ≤ n + 1) : (lst.setIfInBounds i true).toList.count false ≤ n := by
  rw [Array.toList_setIfInBounds, List.count_set (by simpa using hi)]
  have : lst.toList[i]'(by simpa using hi) = false := by
    rw [Array.getD_eq_getD_getElem?, Array.getElem?_eq_getElem hi] at hl
    simpa using hl
  rw [this]
  show lst.toList.count false - 1 + 0 ≤ n
  omega
theorem drawn_go (hcl : CloneOk P) (hA : ancOk ops A = true) (hN : ∀ (i : Nat) o, ops[i]? = some o → ∀ n, o.dst = some n → n < N) {cH : CH} (hc : CHok P cH) {K : KT} (Q : Exit → Act → World → Prop)
    (hQ : ∀ a' w', Nxt N ρ0 h0 w0 K a' w' → Q .normal a' w') : ∀ (n : Nat) (lst : Array Bool) (ρ : Ren) (a : Act) (w : World) (p : List Pl) (D V : List Nat) (t : T) (h : H), lst.toList.count false ≤ n → (p = [] ∨ ∃ e rs q, p = .ef e rs :: q) →
    (drawn P ops p).run cH t h K = true → planOk P ops A p D V = true → Inv P N ops A ρ0 h0 w0 D V ρ t h a w lst → wpAny P .any ops Q n lst a w := by
  intro n
  have fin : ∀ (lst : Array Bool) (ρ : Ren) (a : Act) (w : World) (p : List Pl) (D V : List Nat) (t : T) (h : H), (p = [] ∨ ∃ e rs q, p = .ef e rs :: q) →
      (drawn P ops p).run cH t h K = true → planOk P ops A p D V = true → Inv P N ops A ρ0 h0 w0 D V ρ t h a w lst → (∀ i, i < ops.size → lst.getD i false = true) → Q .normal a w := by
    intro lst ρ a w p D V t h hp e hk I hall
    rcases hp with rfl | ⟨x, rs, q, rfl⟩
    · refine hQ a w ⟨t, h, ρ, ⟨⟨I.tn, fun n hn => ?_⟩, I.hr, I.df⟩, I.ex, e⟩
      rcases I.sl n hn with g | ⟨j, oj, g1, g2, g3, g4⟩
      · exact g
      · rw [hall j (Array.getElem?_eq_some_iff.1 g3).1] at g2; cases g2
    · exfalso
      simp only [planOk, Bool.and_eq_true, Bool.not_eq_true'] at hk
      obtain ⟨⟨hD, hk⟩, _⟩ := hk
      cases ho : ops[x]? with
      | none => simp [efOk, ho] at hk
      | some ox =>
        have := I.sub x (hall x (Array.getElem?_eq_some_iff.1 ho).1)
        simp at hD
        exact hD this
  induction n with
  | zero =>
    intro lst ρ a w p D V t h hcnt hp e hk I
    have hall : ∀ i, i < ops.size → lst.getD i false = true := fun i hi => by
      have hi' : i < lst.size := by rw [I.sz]; exact hi
      have h0 := List.count_eq_zero.1 (Nat.le_zero.1 hcnt)
      cases hq : lst.getD i false with
      | true => rfl
      | false =>
        exfalso
        rw [Array.getD_eq_getD_getElem?, Array.getElem?_eq_getElem hi'] at hq
        refine h0 ?_
        have : lst[i] = false := by simpa using hq
        rw [← this]; simp
    refine ⟨?_, fin lst ρ a w p D V t h hp e hk I hall⟩
    cases hr : Region.ready .any ops lst with
    | nil => rfl
    | cons i l =>
      exfalso
      have hm : i ∈ Region.ready .any ops lst := by rw [hr]; exact List.mem_cons_self
      obtain ⟨hl, o, ho, _⟩ := mem_ready.1 hm
      have hlt := (Array.getElem?_eq_some_iff.1 ho).1
      have := lst_at (by rw [I.sz]; exact hlt) hl
      rw [hall i hlt] at this; cases this
  | succ n ih =>
    intro lst ρ a w p D V t h hcnt hp e hk I
    refine ⟨fun hr => fin lst ρ a w p D V t h hp e hk I (fun i hi => ready_nil hA I.sz hr (i + 1) i (Nat.lt_succ_self _) hi), fun i hi => ?_⟩
    obtain ⟨hl, oi, ho, hpre⟩ := mem_ready.1 hi
    have hlt := (Array.getElem?_eq_some_iff.1 ho).1
    have his : i < lst.size := by rw [I.sz]; exact hlt
    have hcnt' := count_set his (lst_at his hl) hcnt
    by_cases hD : i ∈ D
    · refine wpOp_mono ?_ (pend_step hA hN I hi hD Q)
      rintro a' w' ⟨ρ', I'⟩
      exact ih _ ρ' a' w' p D V t h hcnt' hp e hk I'
    · rcases hp with rfl | ⟨x, rs, q, rfl⟩
      · exfalso
        have := List.all_eq_true.1 hk i (List.mem_range.2 hlt)
        exact hD (by simpa using this)
      · have hk0 := hk
        simp only [planOk, Bool.and_eq_true, Bool.not_eq_true'] at hk
        obtain ⟨⟨hxD, hk1⟩, hk2⟩ := hk
        have hix : i = x := by
          cases hox : ops[x]? with
          | none => simp [efOk, hox] at hk1
          | some ox =>
            have hk1' := hk1
            unfold efOk at hk1'
            simp only [hox, Bool.and_eq_true] at hk1'
            have h2 := List.all_eq_true.1 hk1'.1.2 i (List.mem_range.2 hlt)
            have h3 : pre ops D i = true := by
              unfold pre
              simp only [ho]
              refine List.all_eq_true.2 fun y hy => ?_
              cases hb : Region.binds .any y with
              | false => rfl
              | true => simpa using I.sub y.on (hpre y (by simpa using hy) hb)
            rw [h3] at h2
            simp only [Bool.not_true, Bool.or_false, Bool.or_eq_true, beq_iff_eq] at h2
            rcases h2 with h2 | h2
            · exact h2
            · exact absurd (by simpa using h2) hD
        subst hix
        refine wpOp_mono ?_ (eff_step hcl hA hN hc I e hk1 hD hi Q)
        rintro a' w' ⟨ρ', t', h', e', I'⟩
        obtain ⟨p2, D2, V2, t2, h2, g1, g2, g3, g4⟩ := adv q _ _ t' h' e' hk2 I'
        exact ih _ ρ' a' w' p2 D2 V2 t2 h2 hcnt' g1 g2 g3 g4
theorem drawn_ok (hm : P.follows .mixedOrders = true) (hcl : CloneOk P) {pl : List Pl} (hA : ancOk ops (ancM ops.toList) = true) (hk : planOk P ops (ancM ops.toList) pl [] [] = true) (hN : ∀ (i : Nat) o, ops[i]? = some o → ∀ n, o.dst = some n → n < N) {cH : CH} (hc : CHok P cH) {K : KT} {id : Nat}
    (e : (drawn P ops pl).run cH t h K = true) (hs : St N ρ t h a w) (Q : Exit → Act → World → Prop) (hQ : ∀ a' w', Nxt N ρ h w K a' w' → Q .normal a' w') : (Code.region id ops true).wp P Q a w := by
  refine wp_region_any hm ?_
  have un : ∀ i, (Array.replicate ops.size false).getD i false = false := fun i => by
    rw [Array.getD_eq_getD_getElem?, Array.getElem?_replicate]
    split <;> rfl
  have I : Inv P N ops (ancM ops.toList) ρ h w [] [] ρ t h a { w with drawn := w.drawn + 1 } (Array.replicate ops.size false) :=
    ⟨by simp, hs.sl.1, hs.df, hs.hp.same rfl, Ext.drew ρ h w, fun i hi => (by rw [un] at hi; cases hi), fun i o ho hi => (by rw [un] at hi; cases hi), fun i hi => (by cases hi), fun i hi => (by cases hi), fun n hn => .inl (hs.sl.2 n hn),
      ⟨fun _ => none, fun i j m hi => (by cases hi), fun i m hi => (by cases hi), fun i o hi => (by cases hi)⟩, fun i o hi => (by cases hi), fun i j oi oj _ hi => (by cases hi)⟩
  obtain ⟨p2, D2, V2, t2, h2, g1, g2, g3, g4⟩ := adv pl _ _ t h e hk I
  exact drawn_go hcl hA hN hc Q hQ ops.size _ ρ a _ p2 D2 V2 t2 h2 (Nat.le_trans (List.count_le_length) (by simp)) g1 g2 g3 g4
end
end Go.Proofs.YtlpffldeogapmaaGreatDoor.Ev
