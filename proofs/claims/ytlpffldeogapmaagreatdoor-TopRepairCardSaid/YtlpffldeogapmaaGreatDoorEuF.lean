/- Code of which one slot is never written: what the evaluator says of it, and that the slot is as it was. Own text. No condition of a claim. -/
import Derived.Test.YtlpffldeogapmaaGreatDoorEvV
namespace Go.Proofs.YtlpffldeogapmaaGreatDoor.EuF
open Go Go.MapKept Go.RowKit Go.Proofs.YtlpffldeogapmaaGreatDoor.Ev
set_option linter.unusedVariables false
set_option linter.unusedSimpArgs false
noncomputable section
variable {P : Program}
/-- The slot s is no destination. -/
def keepB (s : Nat) : Code → Bool
  | .skip => true
  | .ret => true
  | .exit _ => true
  | .region _ ops false => ops.toList.all fun o => o.dst != some s
  | .seq x y => keepB s x && keepB s y
  | .cond _ x y => keepB s x && keepB s y
  | .block _ x => keepB s x
  | .loop x => keepB s x
  | _ => false
theorem put_keep {a : Act} {d : Option Nat} {s : Nat} {v : Value} (h : d ≠ some s) : (a.put d v).tmps.getD s undef = a.tmps.getD s undef := by
  cases d with
  | none => rfl
  | some d =>
    show (a.tmps.setIfInBounds d v).getD s undef = _
    rw [Array.getD_eq_getD_getElem?, Array.getElem?_setIfInBounds_ne (fun q => h (by rw [q])), ← Array.getD_eq_getD_getElem?]
def NxtK (s : Nat) (x : Value) (N : Nat) (ρ : Ren) (h : H) (w : World) (K : KT) (a' : Act) (w' : World) : Prop := Nxt N ρ h w K a' w' ∧ a'.tmps.getD s undef = x
theorem comp_stepK (hcl : CloneOk P) {N : Nat} {o : Oper} (hN : ∀ n, o.dst = some n → n < N) {s : Nat} (hs0 : o.dst ≠ some s) {cH : CH} {t : T} {h : H} {K : KT} (hc : CHok P cH) (e : (comp P o).run cH t h K = true) {ρ : Ren} {a : Act} {w : World} (hs : St N ρ t h a w) (Q : Exit → Act → World → Prop) :
    o.wp P a w (NxtK s (a.tmps.getD s undef) N ρ h w K) Q := by
  have hops : ∀ x ∈ o.op.operands, VR ρ (gv t x) (a.eval x) := fun x _ => hs.sl.op x
  unfold comp at e
  split at e
  · rename_i g hv
    obtain ⟨v, e1, h1⟩ := vop_ok hv (show g.run t h (fun v => (pt o.dst).run v (fun t => K t h) t) = true from e)
    obtain ⟨hd, e2⟩ := pt_run e1
    obtain ⟨v', g1, g2⟩ := h1 ρ a w (fun _ => hs.hp.blk) hops
    exact wp_value g1 ⟨⟨_, h, ρ, ⟨hs.sl.put hd hN g2, hs.hp, by rw [put_defers]; exact hs.df⟩, Ext.refl _ _ _, e2⟩, put_keep hs0⟩
  · split at e
    · rename_i g hm
      obtain ⟨v, k, e1, hne, h1⟩ := mop_ok hm (show g.run t h (fun nx v b => (pt o.dst).run v (fun t => onH (fun ht _ => (pcc Blk 5 nx).run b (fun ht => fc (fun m => K t (.mk ht m)) (Nat.add nx 1)) ht) h) t) = true from e)
      obtain ⟨hd, e2⟩ := pt_run e1
      obtain ⟨hn5, e3⟩ := pcc_run (onH_true e2)
      have hr' : HR ρ (.mk h.t h.nx) w := by rw [H.eta]; exact hs.hp
      obtain ⟨v', w', l, ob, g1, g2, g3, g4, g5, g6⟩ := h1 ρ a w hr'.fresh hops
      have hE := Ext.new hr' hn5 (k := k) g2 g3 g4
      rw [H.eta] at hE
      exact wp_value g1 ⟨⟨_, _, _, ⟨(hs.sl.mono (Sub.upd hr'.fresh)).put hd hN g6, hr'.new hn5 g2 g3 g5, by rw [put_defers]; exact hs.df⟩, hE, e3⟩, put_keep hs0⟩
    · have h1 := eop_ok hcl hc (show (eop P o).run cH t h (fun v h => (pt o.dst).run v (fun t => K t h) t) = true from e) ρ a w hs.hp hops Q
      refine Oper.wp_mono ?_ h1
      rintro a' w' ⟨v', rfl, v, h', ρ', e1, g1, g2, g3⟩
      obtain ⟨hd, e2⟩ := pt_run e1
      exact ⟨⟨_, h', ρ', ⟨(hs.sl.mono g2.sub).put hd hN g3, g1, by rw [put_defers]; exact hs.df⟩, g2, e2⟩, put_keep hs0⟩
theorem opG_stepK (hcl : CloneOk P) {N : Nat} {ops : Array Oper} {i : Nat} {o : Oper} (ho : ops[i]? = some o) (hN : ∀ n, o.dst = some n → n < N) {s : Nat} (hs0 : o.dst ≠ some s) {cH : CH} {t : T} {h : H} {K : KT} (hc : CHok P cH) (e : (opG P ops o).run cH t h K = true) {ρ : Ren} {a : Act} {w : World}
    (hs : St N ρ t h a w) (Q : Exit → Act → World → Prop) : wpOp P ops Q i (NxtK s (a.tmps.getD s undef) N ρ h w K) a w := by
  unfold wpOp
  simp only [ho]
  unfold opG at e
  split at e
  · rename_i hg
    rw [if_pos (by simp [Region.wanted, hg])]
    exact .inl (comp_stepK hcl hN hs0 hc e hs Q)
  · rename_i j want hg
    rcases guarded_true (N := N) hg e with ⟨e1, h1⟩ | ⟨e1, h1⟩
    · rw [if_pos (h1 ρ a hs.sl)]
      exact .inl (comp_stepK hcl hN hs0 hc e1 hs Q)
    · rw [if_neg (by rw [h1 ρ a hs.sl]; simp)]
      obtain ⟨hd, e2⟩ := pt_run e1
      exact ⟨⟨_, h, ρ, ⟨hs.sl.put hd hN VR_undef, hs.hp, by rw [put_defers]; exact hs.df⟩, Ext.refl _ _ _, e2⟩, put_keep hs0⟩
theorem plain_opsK (hcl : CloneOk P) {N : Nat} {ops : Array Oper} (hN : ∀ (i : Nat) o, ops[i]? = some o → ∀ n, o.dst = some n → n < N) {s : Nat} (hs0 : ∀ (i : Nat) o, ops[i]? = some o → o.dst ≠ some s) {cH : CH} (hc : CHok P cH) {K : KT} (Q : Exit → Act → World → Prop) {ρ0 : Ren} {h0 : H} {w0 : World} {x : Value}
    (hQ : ∀ a' w', NxtK s x N ρ0 h0 w0 K a' w' → Q .normal a' w') : ∀ (k i : Nat), i + k = ops.size → ∀ (t : T) (h : H), (plain P ops (ops.toList.drop i)).run cH t h K = true → ∀ (ρ : Ren) (a : Act) (w : World), St N ρ t h a w → Ext ρ0 h0 w0 ρ h w → a.tmps.getD s undef = x → wpOps P ops Q (List.range' i k) a w
  | 0, i, hi, t, h, e, ρ, a, w, hs, hE, hx => by
    have hd : ops.toList.drop i = [] := List.drop_eq_nil_of_le (by rw [Array.length_toList]; omega)
    rw [hd] at e
    exact hQ a w ⟨⟨t, h, ρ, hs, hE, e⟩, hx⟩
  | k + 1, i, hi, t, h, e, ρ, a, w, hs, hE, hx => by
    have hlt : i < ops.size := by omega
    have ho : ops[i]? = some ops[i] := Array.getElem?_eq_getElem hlt
    have hd : ops.toList.drop i = ops[i] :: ops.toList.drop (i + 1) := by
      rw [List.drop_eq_getElem_cons (by simpa using hlt)]; simp
    rw [hd] at e
    rw [List.range'_succ, wpOps_cons]
    have h1 := opG_stepK hcl ho (hN i _ ho) (hs0 i _ ho) (K := fun t h => (plain P ops (ops.toList.drop (i + 1))).run cH t h K) hc e hs Q
    refine wpOp_mono ?_ h1
    rintro a' w' ⟨⟨t', h', ρ', hs', hE', e'⟩, hx'⟩
    exact plain_opsK hcl hN hs0 hc Q hQ k (i + 1) (by omega) t' h' e' ρ' a' w' hs' (hE.trans hE') (hx'.trans hx)
/-- A code's end, its slot as it was. -/
def CQK (s : Nat) (x : Value) (N : Nat) (ρ : Ren) (h : H) (w : World) (E : Nat → KT) (Z K : KT) (e : Exit) (a' : Act) (w' : World) : Prop := CQ N ρ h w E Z K e a' w' ∧ a'.tmps.getD s undef = x
theorem CQK.ext {s : Nat} {x : Value} {N : Nat} {ρ ρ1 : Ren} {h h1 : H} {w w1 : World} {E : Nat → KT} {Z K : KT} (e : Ext ρ h w ρ1 h1 w1) : ∀ y a' w', CQK s x N ρ1 h1 w1 E Z K y a' w' → CQK s x N ρ h w E Z K y a' w' :=
  fun y a' w' q => ⟨CQ.ext e y a' w' q.1, q.2⟩
theorem code_okK (hm : P.follows .mixedOrders = true) (hcl : CloneOk P) (pl : Nat → Option (List Pl)) {M N : Nat} (hM : M ≤ N) (s : Nat) (xv : Value) : ∀ c, codeOk P pl M c = true → keepB s c = true →
    ∀ (cH : CH) (E : Nat → KT) (Z : KT) (t : T) (h : H) (K : KT), CHok P cH → (compC P pl c).run cH E Z t h K = true → ∀ (ρ : Ren) (a : Act) (w : World), St N ρ t h a w → a.tmps.getD s undef = xv → c.wp P (CQK s xv N ρ h w E Z K) a w := by
  intro c
  induction c with
  | skip => exact fun _ _ cH E Z t h K hc e ρ a w hs hx => wp_skip ⟨⟨t, h, ρ, hs, Ext.refl _ _ _, e⟩, hx⟩
  | region id ops dr =>
    intro hk hkp cH E Z t h K hc e ρ a w hs hx
    simp only [codeOk, Bool.and_eq_true] at hk
    obtain ⟨h1, h2⟩ := hk
    cases dr with
    | true => exact (Bool.false_ne_true hkp).elim
    | false =>
      have hs0 : ∀ (i : Nat) o, ops[i]? = some o → o.dst ≠ some s := fun i o ho => by
        obtain ⟨hi, he⟩ := Array.getElem?_eq_some_iff.1 ho
        have hm : o ∈ ops.toList := by rw [← he]; exact Array.mem_toList_iff.2 (Array.getElem_mem hi)
        have := List.all_eq_true.1 (show (ops.toList.all fun o => o.dst != some s) = true from hkp) o hm
        simpa using this
      refine wp_region ?_
      rw [List.range_eq_range']
      exact plain_opsK hcl (opsN_spec h1 hM) hs0 hc _ (fun a' w' q => q) ops.size 0 (by omega) t h (show (plain P ops ops.toList).run cH t h K = true from e) ρ a w hs (Ext.refl _ _ _) hx
  | seq x y ihx ihy =>
    intro hk hkp cH E Z t h K hc e ρ a w hs hx
    simp only [codeOk, Bool.and_eq_true] at hk
    simp only [keepB, Bool.and_eq_true] at hkp
    refine wp_seq (wp_mono (ihx hk.1 hkp.1 cH E Z t h (fun t h => (compC P pl y).run cH E Z t h K) hc e ρ a w hs hx) fun x a' w' q => ?_)
    cases x <;> try exact q
    obtain ⟨⟨t', h', ρ', q1, q2, q3⟩, hx'⟩ := q
    exact wp_mono (ihy hk.2 hkp.2 cH E Z t' h' K hc q3 ρ' a' w' q1 hx') (CQK.ext q2)
  | cond c x y ihx ihy =>
    intro hk hkp cH E Z t h K hc e ρ a w hs hx
    simp only [codeOk, Bool.and_eq_true] at hk
    simp only [keepB, Bool.and_eq_true] at hkp
    have hv := hs.sl.op c
    rcases onBu_true (gt_run (show (gt c).run (onBu (Bool.rec false ((compC P pl y).run cH E Z t h K) ((compC P pl x).run cH E Z t h K)) (fun b => Bool.rec (motive := fun _ => R) ((compC P pl y).run cH E Z t h K) ((compC P pl x).run cH E Z t h K) b)) t = true from e)) with ⟨b, h1, h2⟩ | ⟨h1, h2⟩
    · rw [h1] at hv
      refine wp_cond (VR_b hv) ?_
      cases b
      · exact ihy hk.2 hkp.2 cH E Z t h K hc h2 ρ a w hs hx
      · exact ihx hk.1 hkp.1 cH E Z t h K hc h2 ρ a w hs hx
    · rw [h1] at hv
      obtain ⟨b, hb⟩ := VR_ub hv
      cases hxx : (compC P pl x).run cH E Z t h K with
      | false => rw [hxx] at h2; exact (Bool.false_ne_true h2).elim
      | true =>
        rw [hxx] at h2
        refine wp_cond hb ?_
        cases b
        · exact ihy hk.2 hkp.2 cH E Z t h K hc h2 ρ a w hs hx
        · exact ihx hk.1 hkp.1 cH E Z t h K hc hxx ρ a w hs hx
  | block id x ihx =>
    intro hk hkp cH E Z t h K hc e ρ a w hs hx
    refine wp_block (wp_mono (ihx hk hkp cH (fun j t h => Bool.rec (motive := fun _ => R) (E j t h) (K t h) (Nat.beq j id)) Z t h K hc e ρ a w hs hx) fun x a' w' q => ?_)
    cases x <;> try exact q
    case exit j =>
      obtain ⟨⟨t', h', ρ', q1, q2, q3⟩, hx'⟩ := q
      show if j = id then CQK s xv N ρ h w E Z K .normal a' w' else CQK s xv N ρ h w E Z K (.exit j) a' w'
      by_cases hj : j = id
      · rw [if_pos hj]
        subst hj
        have q3 : (Bool.rec (motive := fun _ => R) (E j t' h') (K t' h') (Nat.beq j j)) = true := q3
        rw [Nat.beq_refl] at q3
        exact ⟨⟨t', h', ρ', q1, q2, q3⟩, hx'⟩
      · rw [if_neg hj]
        have q3 : (Bool.rec (motive := fun _ => R) (E j t' h') (K t' h') (Nat.beq j id)) = true := q3
        rw [show Nat.beq j id = false from (by cases hb : Nat.beq j id with | false => rfl | true => exact absurd (nbeq hb) hj)] at q3
        exact ⟨⟨t', h', ρ', q1, q2, q3⟩, hx'⟩
  | loop x ihx =>
    intro hk hkp cH E Z t h K hc e ρ a w hs hx
    have key : ∀ (n : Nat) (t : T) (h : H) (ρ : Ren) (a : Act) (w : World), (Nat.rec (motive := fun _ => KT) (fun _ _ => false) (fun _ ih t h => (compC P pl x).run cH E Z t h ih) n t h : R) = true → St N ρ t h a w → a.tmps.getD s undef = xv → Code.rounds P x (CQK s xv N ρ h w E Z K) n a w := by
      intro n
      induction n with
      | zero => intro t h ρ a w e _ _; exact (Bool.false_ne_true e).elim
      | succ n ih =>
        intro t h ρ a w e hs hx
        refine wp_mono (ihx hk hkp cH E Z t h (fun t h => Nat.rec (motive := fun _ => KT) (fun _ _ => false) (fun _ ih t h => (compC P pl x).run cH E Z t h ih) n t h) hc e ρ a w hs hx) fun y a' w' q => ?_
        cases y <;> try exact q
        obtain ⟨⟨t', h', ρ', q1, q2, q3⟩, hx'⟩ := q
        exact rounds_mono (CQK.ext q2) n a' w' (ih t' h' ρ' a' w' q3 q1 hx')
    have hcc : compC P pl (.loop x) = ccL (compC P pl x) := rfl
    rw [hcc] at e
    obtain ⟨n, e⟩ := ccL_run e
    exact wp_loop_rounds n (key n t h ρ a w e hs hx)
  | rangeFunc f ps x y ihx ihy => exact fun _ _ cH E Z t h K hc e ρ a w hs hx => (Bool.false_ne_true e).elim
  | exit id => exact fun _ _ cH E Z t h K hc e ρ a w hs hx => wp_exit ⟨⟨t, h, ρ, hs, Ext.refl _ _ _, e⟩, hx⟩
  | scope x ih => exact fun _ hkp cH E Z t h K hc e ρ a w hs hx => (Bool.false_ne_true hkp).elim
  | label l => exact fun _ hkp cH E Z t h K hc e ρ a w hs hx => (Bool.false_ne_true hkp).elim
  | goto l => exact fun _ _ cH E Z t h K hc e ρ a w hs hx => (Bool.false_ne_true e).elim
  | ret => exact fun _ _ cH E Z t h K hc e ρ a w hs hx => wp_ret ⟨⟨t, h, ρ, hs, Ext.refl _ _ _, e⟩, hx⟩
  | refuse m => exact fun _ _ cH E Z t h K hc e ρ a w hs hx => (Bool.false_ne_true e).elim

/-! ### The first statements of a row of them -/
def tailC : Nat → Code → Code
  | 0, c => c
  | n + 1, .seq _ y => tailC n y
  | _ + 1, c => c
def preC (P : Program) (pl : Nat → Option (List Pl)) : Nat → Code → CC
  | 0, _ => ccS
  | n + 1, .seq x y => ccQ (compC P pl x) (preC P pl n y)
  | _ + 1, _ => ccN
def keepN (s : Nat) : Nat → Code → Bool
  | 0, _ => true
  | n + 1, .seq x y => keepB s x && keepN s n y
  | _ + 1, _ => false
theorem tail_ok {pl : Nat → Option (List Pl)} {M : Nat} : ∀ (n : Nat) (c : Code), codeOk P pl M c = true → codeOk P pl M (tailC n c) = true
  | 0, c, h => h
  | n + 1, .seq x y, h => by
    simp only [codeOk, Bool.and_eq_true] at h
    exact tail_ok n y h.2
  | _ + 1, .skip, h => h
  | _ + 1, .region _ _ _, h => h
  | _ + 1, .cond _ _ _, h => h
  | _ + 1, .block _ _, h => h
  | _ + 1, .loop _, h => h
  | _ + 1, .rangeFunc _ _ _ _, h => h
  | _ + 1, .exit _, h => h
  | _ + 1, .scope _, h => h
  | _ + 1, .label _, h => h
  | _ + 1, .goto _, h => h
  | _ + 1, .ret, h => h
  | _ + 1, .refuse _, h => h
/-- The first statements, then the others by a law of their own. -/
theorem pre_ok (hm : P.follows .mixedOrders = true) (hcl : CloneOk P) (pl : Nat → Option (List Pl)) {M N : Nat} (hM : M ≤ N) (s : Nat) (xv : Value) (Q : Exit → Act → World → Prop) {cH : CH} {E : Nat → KT} {Z : KT} {K : KT} (hc : CHok P cH) :
    ∀ (n : Nat) (c : Code), codeOk P pl M c = true → keepN s n c = true → ∀ (t : T) (h : H), (preC P pl n c).run cH E Z t h K = true → ∀ (ρ : Ren) (a : Act) (w : World), St N ρ t h a w → a.tmps.getD s undef = xv →
    (∀ t' h' ρ' a' w', St N ρ' t' h' a' w' → a'.tmps.getD s undef = xv → Ext ρ h w ρ' h' w' → K t' h' = true → (tailC n c).wp P Q a' w') →
    (∀ id a' w', Nxt N ρ h w (E id) a' w' → Q (.exit id) a' w') → (∀ a' w', Nxt N ρ h w Z a' w' → Q .ret a' w') → c.wp P Q a w := by
  intro n
  induction n with
  | zero => exact fun c _ _ t h e ρ a w hs hx hT _ _ => hT t h ρ a w hs hx (Ext.refl _ _ _) e
  | succ n ih =>
    intro c hk hkp t h e ρ a w hs hx hT hE hZ
    cases c <;> try exact (Bool.false_ne_true hkp).elim
    case seq x y =>
      simp only [codeOk, Bool.and_eq_true] at hk
      simp only [keepN, Bool.and_eq_true] at hkp
      refine wp_seq (wp_mono (code_okK hm hcl pl hM s xv x hk.1 hkp.1 cH E Z t h (fun t h => (preC P pl n y).run cH E Z t h K) hc e ρ a w hs hx) fun e' a' w' q => ?_)
      cases e' with
      | normal =>
        obtain ⟨⟨t', h', ρ', q1, q2, q3⟩, hx'⟩ := q
        exact ih y hk.2 hkp.2 t' h' q3 ρ' a' w' q1 hx' (fun t2 h2 ρ2 a2 w2 s2 x2 e2 k2 => hT t2 h2 ρ2 a2 w2 s2 x2 (q2.trans e2) k2) (fun id a2 w2 n2 => hE id a2 w2 (Nxt.ext q2 n2)) (fun a2 w2 n2 => hZ a2 w2 (Nxt.ext q2 n2))
      | exit id => exact hE id a' w' q.1
      | ret => exact hZ a' w' q.1
      | goto l => exact q.1.elim
      | panic ch => exact q.1.elim
      | outgrown => exact q.1.elim
end
end Go.Proofs.YtlpffldeogapmaaGreatDoor.EuF
