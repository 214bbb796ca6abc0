/- The evaluator's drawn regions, against the model's: what one operation leaves. Own text. No condition of a claim. -/
import Derived.Test.YtbpdomemnecioaaGreatDoorEvP
import Derived.Orders
namespace Go.Proofs.YtbpdomemnecioaaGreatDoor.Ev
open Go Go.MapKept Go.RowKit
set_option linter.unusedVariables false
set_option linter.unusedSimpArgs false
noncomputable section

theorem kc_inj {k j : IntKind} (h : kc k = kc j) : k = j := by cases k <;> cases j <;> first | rfl | exact absurd h (by decide)
theorem and_t {a b : Bool} (h : and a b = true) : a = true ∧ b = true := by cases a <;> cases b <;> first | exact ⟨rfl, rfl⟩ | exact (Bool.false_ne_true h).elim
theorem nbeq {a b : Nat} (h : Nat.beq a b = true) : a = b := Nat.eq_of_beq_eq_true h
theorem aeq_eq : ∀ x y, aeq x y = true → x = y := by
  intro x
  refine AV.rec (motive_1 := fun x => ∀ y, aeq x y = true → x = y) (motive_2 := fun l => ∀ m, aeq (.tu l) (.tu m) = true → l = m) ?_ ?_ ?_ ?_ ?_ ?_ ?_ ?_ ?_ ?_ ?_ ?_ ?_ ?_ ?_ ?_ ?_ ?_ ?_ ?_ ?_ ?_ ?_ x
  case refine_1 => intro y h; exact (Bool.false_ne_true h).elim
  case refine_2 => intro y h; exact (Bool.false_ne_true h).elim
  case refine_3 => intro k y h; exact (Bool.false_ne_true h).elim
  case refine_4 =>
    intro n c y h
    cases y <;> try exact (Bool.false_ne_true h).elim
    case bx m d =>
      obtain ⟨h1, h2⟩ := and_t h
      rw [nbeq h1, nbeq h2]
  case refine_5 => intro k n y h; exact (Bool.false_ne_true h).elim
  case refine_6 => intro k lo n y h; exact (Bool.false_ne_true h).elim
  case refine_7 => intro y h; cases y <;> first | rfl | exact (Bool.false_ne_true h).elim
  case refine_8 => intro y h; cases y <;> first | rfl | exact (Bool.false_ne_true h).elim
  case refine_9 => intro y h; cases y <;> first | rfl | exact (Bool.false_ne_true h).elim
  case refine_10 => intro y h; cases y <;> first | rfl | exact (Bool.false_ne_true h).elim
  case refine_11 => intro y h; cases y <;> first | rfl | exact (Bool.false_ne_true h).elim
  case refine_12 =>
    intro fn a c ih1 ih2 y h
    cases y <;> try exact (Bool.false_ne_true h).elim
    case f gn a' c' =>
      obtain ⟨h1, h2⟩ := and_t h
      obtain ⟨h2, h3⟩ := and_t h2
      rw [ih1 a' h2, ih2 c' h3]
      cases fn <;> cases gn <;> try exact (Bool.false_ne_true h1).elim
      rw [nbeq h1]
  case refine_13 =>
    intro t v ih y h
    cases y <;> try exact (Bool.false_ne_true h).elim
    case ifc u v' =>
      obtain ⟨h1, h2⟩ := and_t h
      rw [nbeq h1, ih v' h2]
  case refine_14 =>
    intro r y h
    cases y <;> try exact (Bool.false_ne_true h).elim
    rw [nbeq h]
  case refine_15 =>
    intro l ih y h
    cases y <;> try exact (Bool.false_ne_true h).elim
    rw [ih _ h]
  case refine_16 =>
    intro l ih y h
    cases y <;> try exact (Bool.false_ne_true h).elim
    rw [ih _ h]
  case refine_17 =>
    intro l y h
    cases y <;> try exact (Bool.false_ne_true h).elim
    case s m =>
      have h : leq l m = true := h
      rw [leq_eq] at h
      rw [of_decide_eq_true h]
  case refine_18 =>
    intro b o n c y h
    cases y <;> try exact (Bool.false_ne_true h).elim
    obtain ⟨h1, h⟩ := and_t h
    obtain ⟨h2, h⟩ := and_t h
    obtain ⟨h3, h4⟩ := and_t h
    rw [nbeq h1, nbeq h2, nbeq h3, nbeq h4]
  case refine_19 =>
    intro b o y h
    cases y <;> try exact (Bool.false_ne_true h).elim
    obtain ⟨h1, h2⟩ := and_t h
    rw [nbeq h1, nbeq h2]
  case refine_20 =>
    intro x y h
    cases y <;> try exact (Bool.false_ne_true h).elim
    case b z =>
      have h : beqB x z = true := h
      rw [beqB_eq] at h
      rw [beq_iff_eq.1 h]
  case refine_21 =>
    intro k a y h
    cases y <;> try exact (Bool.false_ne_true h).elim
    obtain ⟨h1, h2⟩ := and_t h
    rw [kc_inj (nbeq h1), nbeq h2]
  case refine_22 =>
    intro m h
    cases m with
    | nil => rfl
    | cons y m => exact (Bool.false_ne_true h).elim
  case refine_23 =>
    intro x l ih1 ih2 m h
    cases m with
    | nil => exact (Bool.false_ne_true h).elim
    | cons y m =>
      obtain ⟨h1, h2⟩ := and_t h
      rw [ih1 y h1, ih2 m h2]

/-! ### What an operation looks at -/
def Agr (ops : Array Oper) (o : Oper) (ρ : Ren) (t : T) (a : Act) : Prop := ∀ n, n ∈ o.looksAt ops → n < 8 ^ 3 → VR ρ (get 3 n t) (a.tmps.getD n undef)
theorem mem_looks {ops : Array Oper} {o : Oper} {n : Nat} (h : Operand.tmp n ∈ o.op.operands) : n ∈ o.looksAt ops := by
  unfold Oper.looksAt
  refine List.mem_append_left _ ?_
  rw [List.mem_filterMap]
  exact ⟨.tmp n, by simpa using h, rfl⟩
theorem mem_guard {ops : Array Oper} {o : Oper} {j : Nat} {want : Bool} {x : Nat} (hg : o.guard = some (j, want)) (hx : (ops[j]?).bind (·.dst) = some x) : x ∈ o.looksAt ops := by
  unfold Oper.looksAt
  refine List.mem_append_right _ ?_
  rw [hg]
  show x ∈ ((ops[j]?).bind (·.dst)).toList
  rw [hx]; simp
theorem Agr.op {ops : Array Oper} {o : Oper} {ρ : Ren} {t : T} {a : Act} (h : Agr ops o ρ t a) (x : Operand) (hx : x ∈ o.op.operands) : VR ρ (gv t x) (a.eval x) := by
  cases x with
  | tmp n =>
    show VR ρ (if n < 8 ^ 3 then get 3 n t else .un) (a.tmps.getD n undef)
    by_cases hn : n < 8 ^ 3
    · rw [if_pos hn]; exact h n (mem_looks hx) hn
    · rw [if_neg hn]; simp only [VR]
  | const v => exact ofV_ok ρ v
  | global g => show VR ρ .un _; simp only [VR]
  | func g => show VR ρ (.f (.func g) [] []) _; simp only [VR, VRs]; exact ⟨#[], #[], rfl, rfl, rfl⟩
/-- What the guard says, by the slots. -/
def GdB (ops : Array Oper) (o : Oper) (t : T) (b : Bool) : Prop :=
  (o.guard = none ∧ b = true) ∨ ∃ j want x, o.guard = some (j, want) ∧ (ops[j]?).bind (·.dst) = some x ∧ x < 8 ^ 3 ∧ ((∃ y, get 3 x t = .b y ∧ b = (y == want)) ∨ (get 3 x t = .tu [] ∧ b = false))
theorem GdB.det {ops : Array Oper} {o : Oper} {t : T} {b c : Bool} (h : GdB ops o t b) (k : GdB ops o t c) : b = c := by
  rcases h with ⟨h1, rfl⟩ | ⟨j, want, x, h1, h2, h3, h4⟩
  · rcases k with ⟨_, rfl⟩ | ⟨j, want, x, k1, _⟩
    · rfl
    · rw [h1] at k1; cases k1
  · rcases k with ⟨k1, _⟩ | ⟨j', want', x', k1, k2, k3, k4⟩
    · rw [h1] at k1; cases k1
    · rw [h1] at k1; cases k1
      rw [h2] at k2; cases k2
      rcases h4 with ⟨y, h4, rfl⟩ | ⟨h4, rfl⟩
      · rcases k4 with ⟨z, k4, rfl⟩ | ⟨k4, rfl⟩
        · rw [h4] at k4; cases k4; rfl
        · rw [h4] at k4; cases k4
      · rcases k4 with ⟨z, k4, rfl⟩ | ⟨k4, rfl⟩
        · rw [h4] at k4; cases k4
        · rfl
theorem GdB.wanted {ops : Array Oper} {o : Oper} {t : T} {b : Bool} (h : GdB ops o t b) {ρ : Ren} {a : Act} (ha : Agr ops o ρ t a) : Region.wanted o (yielded ops a.tmps) = b := by
  rcases h with ⟨h1, rfl⟩ | ⟨j, want, x, h1, h2, h3, h4⟩
  · simp [Region.wanted, h1]
  · have hv := ha x (mem_guard h1 h2) h3
    rw [Array.getD_eq_getD_getElem?] at hv
    simp only [Region.wanted, h1, yielded, h2, Option.bind_some]
    rcases h4 with ⟨y, h4, rfl⟩ | ⟨h4, rfl⟩
    · rw [h4] at hv
      have := VR_b hv
      cases hq : a.tmps[x]? with
      | none => rw [hq] at this; cases this
      | some v => rw [hq] at this; simp at this; rw [this]; rfl
    · rw [h4] at hv
      obtain ⟨vs, g1, _⟩ := VR_tu hv
      cases hq : a.tmps[x]? with
      | none => rfl
      | some v => rw [hq] at g1; simp at g1; rw [g1]; rfl
/-- The slots an operation looks at are as they were. -/
def Same (ops : Array Oper) (o : Oper) (t t' : T) : Prop := ∀ n, n ∈ o.looksAt ops → n < 8 ^ 3 → get 3 n t' = get 3 n t
theorem GdB.same {ops : Array Oper} {o : Oper} {t t' : T} {b : Bool} (hs : Same ops o t t') (h : GdB ops o t b) : GdB ops o t' b := by
  rcases h with h | ⟨j, want, x, h1, h2, h3, h4⟩
  · exact .inl h
  · have := hs x (mem_guard h1 h2) h3
    exact .inr ⟨j, want, x, h1, h2, h3, by rw [this]; exact h4⟩
theorem Same.gv {ops : Array Oper} {o : Oper} {t t' : T} (hs : Same ops o t t') {x : Operand} (hx : x ∈ o.op.operands) : gv t' x = gv t x := by
  cases x with
  | tmp n =>
    show (if n < 8 ^ 3 then get 3 n t' else .un) = (if n < 8 ^ 3 then get 3 n t else .un)
    by_cases hn : n < 8 ^ 3
    · rw [if_pos hn, if_pos hn]; exact hs n (mem_looks hx) hn
    · rw [if_neg hn, if_neg hn]
  | const v => rfl
  | global g => rfl
  | func g => rfl
theorem Sv.same {P : Program} {ops : Array Oper} {o : Oper} {t t' : T} {h : H} {v : AV} (hs : Same ops o t t') (k : Sv P o t h v) : Sv P o t' h v :=
  fun ρ a w h1 h2 => k ρ a w h1 fun x hx => by rw [← hs.gv hx]; exact h2 x hx
theorem Sm.same {P : Program} {ops : Array Oper} {o : Oper} {t t' : T} {n : Nat} {v : AV} {k : Blk} (hs : Same ops o t t') (h : Sm P o t n v k) : Sm P o t' n v k :=
  ⟨h.1, fun ρ a w h1 h2 => h.2 ρ a w h1 fun x hx => by rw [← hs.gv hx]; exact h2 x hx⟩
theorem Sv.heap {P : Program} {o : Oper} {t : T} {h h' : H} {v : AV} (k : Sv P o t h v) (hs : isRd o = true → ∀ b, h.at b ≠ .no → h'.at b = h.at b) : Sv P o t h' v :=
  fun ρ a w h1 h2 => k ρ a w (fun hr b l hb hk => by
    have := h1 hr b l hb (by rw [hs hr b hk]; exact hk)
    rw [hs hr b hk] at this; exact this) h2
/-- The guard asked. -/
theorem guarded_gd {ops : Array Oper} {o : Oper} {j : Nat} {want : Bool} {d : Pt} {c : Cl} {cH : CH} {t : T} {h : H} {K : KT} (hg : o.guard = some (j, want)) (e : (guarded (slotOf ops j) want d c).run cH t h K = true) :
    (GdB ops o t true ∧ c.run cH t h K = true) ∨ (GdB ops o t false ∧ d.run (.tu []) (fun t => K t h) t = true) := by
  obtain ⟨x, hd, hx, e1⟩ := slotOf_true (show (slotOf ops j).run _ t = true from e)
  cases hv : get 3 x t <;> rw [hv] at e1 <;> try exact (Bool.false_ne_true e1).elim
  case b y =>
    have e2 : (Bool.rec (motive := fun _ => R) (d.run (.tu []) (fun t => K t h) t) (c.run cH t h K) (beqB y want) : R) = true := e1
    rw [beqB_eq] at e2
    cases hyw : (y == want) with
    | true => rw [hyw] at e2; exact .inl ⟨.inr ⟨j, want, x, hg, hd, hx, .inl ⟨y, hv, hyw.symm⟩⟩, e2⟩
    | false => rw [hyw] at e2; exact .inr ⟨.inr ⟨j, want, x, hg, hd, hx, .inl ⟨y, hv, hyw.symm⟩⟩, e2⟩
  case tu l =>
    cases l with
    | cons _ _ => exact (Bool.false_ne_true e1).elim
    | nil => exact .inr ⟨.inr ⟨j, want, x, hg, hd, hx, .inr ⟨hv, rfl⟩⟩, e1⟩
theorem opG_gd {P : Program} {ops : Array Oper} {o : Oper} {cH : CH} {t : T} {h : H} {K : KT} (e : (opG P ops o).run cH t h K = true) :
    (GdB ops o t true ∧ (comp P o).run cH t h K = true) ∨ (GdB ops o t false ∧ (∀ n, o.dst = some n → n < 8 ^ 3) ∧ K (putT o.dst (.tu []) t) h = true) := by
  unfold opG at e
  split at e
  · rename_i hg
    exact .inl ⟨.inl ⟨hg, rfl⟩, e⟩
  · rename_i j want hg
    rcases guarded_gd hg e with h1 | ⟨h1, h2⟩
    · exact .inl h1
    · obtain ⟨h3, h4⟩ := pt_run h2
      exact .inr ⟨h1, h3, h4⟩
/-- Does the operation turn something? -/
def isE (P : Program) (o : Oper) : Bool := (vop P o).isNone && (mop P o).isNone
theorem comp_ev {P : Program} {o : Oper} {cH : CH} {t : T} {h : H} {K : KT} (e : (comp P o).run cH t h K = true) (hE : isE P o = false) :
    ∃ v, (∀ n, o.dst = some n → n < 8 ^ 3) ∧ ((Sv P o t h v ∧ K (putT o.dst v t) h = true) ∨ ∃ k, Sm P o t h.nx v k ∧ h.nx < 8 ^ 5 ∧ K (putT o.dst v t) (.mk (put 5 h.nx k h.t) (h.nx + 1)) = true) := by
  unfold comp at e
  split at e
  · rename_i g hv
    obtain ⟨v, e1, h1⟩ := vop_ok hv (show g.run t h (fun v => (pt o.dst).run v (fun t => K t h) t) = true from e)
    obtain ⟨hd, e2⟩ := pt_run e1
    exact ⟨v, hd, .inl ⟨h1, e2⟩⟩
  · rename_i hv
    split at e
    · rename_i g hm
      obtain ⟨v, k, e1, h1⟩ := mop_ok hm (show g.run t h (fun nx v b => (pt o.dst).run v (fun t => onH (fun ht _ => (pcc Blk 5 nx).run b (fun ht => fc (fun m => K t (.mk ht m)) (Nat.add nx 1)) ht) h) t) = true from e)
      obtain ⟨hd, e2⟩ := pt_run e1
      obtain ⟨hn5, e3⟩ := pcc_run (onH_true e2)
      exact ⟨v, hd, .inr ⟨k, h1, hn5, e3⟩⟩
    · rename_i hm
      simp [isE, hv, hm] at hE
theorem comp_ef {P : Program} (hcl : CloneOk P) {o : Oper} {cH : CH} (hc : CHok P cH) {t : T} {h : H} {K : KT} (e : (comp P o).run cH t h K = true) (hE : isE P o = true) :
    ∀ (ρ : Ren) (a : Act) (w : World), HR ρ h w → (∀ x ∈ o.op.operands, VR ρ (gv t x) (a.eval x)) → ∀ Q, o.wp P a w (fun a' w' => ∃ v' v h' ρ', a' = a.put o.dst v' ∧ (∀ n, o.dst = some n → n < 8 ^ 3) ∧ HR ρ' h' w' ∧ Ext ρ h w ρ' h' w' ∧ VR ρ' v v' ∧ K (putT o.dst v t) h' = true) Q := by
  intro ρ a w hr hops Q
  unfold comp at e
  split at e
  · rename_i hv; simp [isE, hv] at hE
  · split at e
    · rename_i hm; simp [isE, hm] at hE
    · have h1 := eop_ok hcl hc (show (eop P o).run cH t h (fun v h => (pt o.dst).run v (fun t => K t h) t) = true from e) ρ a w hr hops Q
      refine Oper.wp_mono ?_ h1
      rintro a' w' ⟨v', rfl, v, h', ρ', e1, g1, g2, g3⟩
      obtain ⟨hd, e2⟩ := pt_run e1
      exact ⟨v', v, h', ρ', rfl, hd, g1, g2, g3, e2⟩
/-- A read looked at anew. -/
theorem still_true {P : Program} {ops : Array Oper} {i : Nat} {cH : CH} {t : T} {h : H} {K : KT} (e : (still P ops i).run cH t h K = true) :
    K t h = true ∧ ∃ o, ops[i]? = some o ∧ (GdB ops o t false ∨ (GdB ops o t true ∧ ∃ d, o.dst = some d ∧ d < 8 ^ 3 ∧ Sv P o t h (get 3 d t))) := by
  unfold still at e
  split at e
  · rename_i o ho
    split at e
    · rename_i g hv
      split at e
      · rename_i d hd
        have key : g.run t h (fun v => (acc AV 3 d).run (fun u => gd (aeq u v) (K t h)) t) = true → K t h = true ∧ d < 8 ^ 3 ∧ Sv P o t h (get 3 d t) := fun e => by
          obtain ⟨v, e1, h1⟩ := vop_ok hv e
          obtain ⟨h2, e2⟩ := acc_run e1
          obtain ⟨h3, e3⟩ := gd_true e2
          rw [aeq_eq _ _ h3]
          exact ⟨e3, h2, h1⟩
        split at e
        · rename_i hg
          obtain ⟨h1, h2, h3⟩ := key e
          exact ⟨h1, o, ho, .inr ⟨.inl ⟨hg, rfl⟩, d, hd, h2, h3⟩⟩
        · rename_i j want hg
          rcases guarded_gd hg e with ⟨h1, h2⟩ | ⟨h1, h2⟩
          · obtain ⟨g1, g2, g3⟩ := key h2
            exact ⟨g1, o, ho, .inr ⟨h1, d, hd, g2, g3⟩⟩
          · exact ⟨(pt_run h2).2, o, ho, .inl h1⟩
      · exact (Bool.false_ne_true e).elim
    · exact (Bool.false_ne_true e).elim
  · exact (Bool.false_ne_true e).elim
theorem stills_true {P : Program} {ops : Array Oper} {cH : CH} {t : T} {h : H} {K : KT} : ∀ {l : List Nat}, (stills P ops l).run cH t h K = true → K t h = true ∧ ∀ i ∈ l, ∃ o, ops[i]? = some o ∧ (GdB ops o t false ∨ (GdB ops o t true ∧ ∃ d, o.dst = some d ∧ d < 8 ^ 3 ∧ Sv P o t h (get 3 d t)))
  | [], e => ⟨e, fun i hi => by cases hi⟩
  | i :: l, e => by
    obtain ⟨e1, h1⟩ := still_true (show (still P ops i).run cH t h (fun t h => (stills P ops l).run cH t h K) = true from e)
    obtain ⟨e2, h2⟩ := stills_true e1
    refine ⟨e2, fun j hj => ?_⟩
    rcases List.mem_cons.1 hj with rfl | hj
    · exact h1
    · exact h2 j hj
end
end Go.Proofs.YtbpdomemnecioaaGreatDoor.Ev
