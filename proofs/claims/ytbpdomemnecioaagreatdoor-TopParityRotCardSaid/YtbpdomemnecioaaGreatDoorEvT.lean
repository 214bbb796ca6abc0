/- The evaluator's drawn regions, against the model's: what turns something, and the whole. Own text. No condition of a claim. -/
import Derived.Test.YtbpdomemnecioaaGreatDoorEvS
namespace Go.Proofs.YtbpdomemnecioaaGreatDoor.Ev
open Go Go.MapKept Go.RowKit
set_option linter.unusedVariables false
set_option linter.unusedSimpArgs false
noncomputable section

variable {P : Program} {N : Nat} {ops : Array Oper} {A : List Nat} {ρ0 ρ : Ren} {h0 h : H} {w0 w : World} {D V : List Nat} {t : T} {a : Act} {lst : Array Bool}

theorem Inv.eff (hA : ancOk ops A = true) (I : Inv P N ops A ρ0 h0 w0 D V ρ t h a w lst) {e : Nat} {oe : Oper} {rs : List Nat} (ho : ops[e]? = some oe) (hD : e ∉ D) (hN : ∀ n, oe.dst = some n → n < N)
    (hpre : ∀ x ∈ oe.after, Region.binds .any x = true → lst.getD x.on false = true)
    (hp : ∀ j oj, j ∈ V → ops[j]? = some oj → anc A j e = true ∨ ((∀ n, oe.dst = some n → n ∉ oj.looksAt ops) ∧ (∀ n, oe.dst = some n → oj.dst ≠ some n) ∧ (isRd oj = true → j ∈ rs)))
    {ρ' : Ren} {h' : H} {w' : World} {v : AV} {v' : Value} (hd : ∀ n, oe.dst = some n → n < 8 ^ 3) (hr : HR ρ' h' w') (hx : Ext ρ h w ρ' h' w') (hv : VR ρ' v v')
    (hst : ∀ i ∈ rs, ∃ o, ops[i]? = some o ∧ (GdB ops o (putT oe.dst v t) false ∨ (GdB ops o (putT oe.dst v t) true ∧ ∃ d, o.dst = some d ∧ d < 8 ^ 3 ∧ Sv P o (putT oe.dst v t) h' (get 3 d (putT oe.dst v t))))) :
    Inv P N ops A ρ0 h0 w0 (e :: D) V ρ' (putT oe.dst v t) h' (a.put oe.dst v') w' (lst.setIfInBounds e true) := by
  have hi : e < lst.size := by rw [I.sz]; exact (Array.getElem?_eq_some_iff.1 ho).1
  have un : ∀ j, j ∈ e :: D → (lst.setIfInBounds e true).getD j false = false → j ≠ e ∧ lst.getD j false = false ∧ j ∈ D := fun j hjD hj => by
    have hne : j ≠ e := by rintro rfl; rw [set_eq hi] at hj; cases hj
    refine ⟨hne, by rw [set_ne hne] at hj; exact hj, ?_⟩
    rcases List.mem_cons.1 hjD with q | q
    · exact absurd q hne
    · exact q
  have far : ∀ j oj, j ∈ D → lst.getD j false = false → ops[j]? = some oj → (∀ n, oe.dst = some n → n ∉ oj.looksAt ops) ∧ (∀ n, oe.dst = some n → oj.dst ≠ some n) ∧ (isRd oj = true → j ∈ rs) := fun j oj hj hl hoj => by
    rcases hp j oj (I.pv j hj hl) hoj with q | q
    · have := anc_listed hA I.clo (e + 1) e oe (Nat.lt_succ_self _) ho hpre j (Array.getElem?_eq_some_iff.1 hoj).1 q
      rw [this] at hl; cases hl
    · exact q
  obtain ⟨mm, p1, p2, p3⟩ := I.pd
  refine ⟨by simp [I.sz], by rw [size_put]; exact I.tn, by rw [put_defers]; exact I.df, hr, I.ex.trans hx, fun j hj => ?_, clo_set hi ho hpre I.clo, fun j hj hl => ?_, fun j hj => ⟨List.mem_cons_of_mem _ (I.vd j hj).1, (I.vd j hj).2⟩, fun n hn => ?_,
    ⟨mm, p1, fun j m hj => Nat.lt_of_lt_of_le (p2 j m hj) hx.nx, fun j oj hj hl hoj => ?_⟩, I.se, I.ap⟩
  · by_cases q : j = e
    · subst q; exact List.mem_cons_self
    · rw [set_ne q] at hj; exact List.mem_cons_of_mem _ (I.sub j hj)
  · obtain ⟨_, g1, g2⟩ := un j hj hl
    exact I.pv j g2 g1
  · by_cases q : oe.dst = some n
    · left
      rw [q, getD_put_eq (by rw [I.tn]; exact hN n q), get_putT_eq hn]
      exact hv
    · rw [getD_put_ne q, get_putT_ne hd hn q]
      rcases I.sl n hn with g | ⟨j, oj, g1, g2, g3, g4⟩
      · exact .inl (VR.mono hx.sub _ _ g)
      · refine .inr ⟨j, oj, List.mem_cons_of_mem _ g1, ?_, g3, g4⟩
        have hne : j ≠ e := fun r => hD (r ▸ g1)
        rw [set_ne hne]; exact g2
  · obtain ⟨hne, hl0, hjD⟩ := un j hj hl
    obtain ⟨k1, k2, k3⟩ := far j oj hjD hl0 hoj
    have hs : Same ops oj t (putT oe.dst v t) := same_putT hd k1
    have hsl : ∀ n, oj.dst = some n → n < 8 ^ 3 → get 3 n (putT oe.dst v t) = get 3 n t := fun n hn h8 => get_putT_ne hd h8 fun q => k2 n q hn
    rcases p3 j oj hjD hl0 hoj with ⟨g1, g2⟩ | ⟨g1, u, g2, g3⟩
    · exact .inl ⟨g1.same hs, fun n hn => ⟨(g2 n hn).1, by rw [hsl n hn (g2 n hn).1]; exact (g2 n hn).2⟩⟩
    · refine .inr ⟨g1.same hs, u, fun n hn => ⟨(g2 n hn).1, by rw [hsl n hn (g2 n hn).1]; exact (g2 n hn).2⟩, ?_⟩
      rcases g3 with g3 | ⟨m, k, q1, q2, q3, q4, q5⟩
      · left
        cases hrd : isRd oj with
        | false => exact (g3.same hs).heap fun q => by rw [hrd] at q; cases q
        | true =>
          obtain ⟨o, r0, r1⟩ := hst j (k3 hrd)
          rw [hoj] at r0; cases r0
          rcases r1 with r1 | ⟨_, d, r2, r3, r4⟩
          · exact absurd (r1.det (g1.same hs)) (by simp)
          · have : u = get 3 d (putT oe.dst v t) := by rw [hsl d r2 r3]; exact (g2 d r2).2.symm
            rw [this]; exact r4
      · obtain ⟨r1, r2⟩ := hx.ghost m (p2 j m q1) q3
        exact .inr ⟨m, k, q1, q2, r1, r2.trans q4, q5.same hs⟩
/-- What turns something, carried out. -/
theorem eff_step (hcl : CloneOk P) (hA : ancOk ops A = true) (hN : ∀ (i : Nat) o, ops[i]? = some o → ∀ n, o.dst = some n → n < N) {cH : CH} (hc : CHok P cH) {K : KT} {e : Nat} {rs : List Nat} {q : List Pl}
    (I : Inv P N ops A ρ0 h0 w0 D V ρ t h a w lst) (hrun : (drawn P ops (.ef e rs :: q)).run cH t h K = true) (hk : efOk P ops A D V rs e = true) (hD : e ∉ D) (hi : e ∈ Region.ready .any ops lst) (Q : Exit → Act → World → Prop) :
    wpOp P ops Q e (fun a' w' => ∃ ρ' t' h', (drawn P ops q).run cH t' h' K = true ∧ Inv P N ops A ρ0 h0 w0 (e :: D) V ρ' t' h' a' w' (lst.setIfInBounds e true)) a w := by
  obtain ⟨_, oe, ho, hpre⟩ := mem_ready.1 hi
  unfold efOk at hk
  simp only [ho, Bool.and_eq_true] at hk
  obtain ⟨⟨hE, _⟩, hV⟩ := hk
  have hp : ∀ j oj, j ∈ V → ops[j]? = some oj → anc A j e = true ∨ ((∀ n, oe.dst = some n → n ∉ oj.looksAt ops) ∧ (∀ n, oe.dst = some n → oj.dst ≠ some n) ∧ (∀ n, oj.dst = some n → n ∉ oe.looksAt ops) ∧ (isRd oj = true → j ∈ rs)) := fun j oj hj hoj => by
    have h1 := List.all_eq_true.1 hV j hj
    simp only [hoj, Bool.or_eq_true, Bool.and_eq_true] at h1
    refine h1.imp id fun h2 => ⟨dn_spec h2.1.1.1, dd_spec h2.1.1.2, dn_spec h2.1.2, fun hr => ?_⟩
    have := h2.2
    rw [hr] at this
    simpa using this
  have hag : Agr ops oe ρ t a := I.agr hA ho hpre fun j oj hj _ hoj => (hp j oj hj hoj).imp id fun h2 => h2.2.2.1
  have hp' : ∀ j oj, j ∈ V → ops[j]? = some oj → anc A j e = true ∨ ((∀ n, oe.dst = some n → n ∉ oj.looksAt ops) ∧ (∀ n, oe.dst = some n → oj.dst ≠ some n) ∧ (isRd oj = true → j ∈ rs)) := fun j oj hj hoj => (hp j oj hj hoj).imp id fun h2 => ⟨h2.1, h2.2.1, h2.2.2.2⟩
  have hrun : (opI P ops e).run cH t h (fun t h => (stills P ops rs).run cH t h (fun t h => (drawn P ops q).run cH t h K)) = true := hrun
  unfold opI at hrun
  simp only [ho] at hrun
  unfold wpOp
  simp only [ho]
  rcases opG_gd hrun with ⟨g1, g2⟩ | ⟨g1, hd, g2⟩
  · rw [if_pos (g1.wanted hag)]
    refine .inl (Oper.wp_mono ?_ (comp_ef hcl hc g2 hE ρ a w I.hr (fun x hx => hag.op x hx) Q))
    rintro a' w' ⟨v', v, h', ρ', rfl, hd, k1, k2, k3, k4⟩
    obtain ⟨k5, k6⟩ := stills_true k4
    exact ⟨ρ', _, h', k5, I.eff hA ho hD (hN e oe ho) hpre hp' hd k1 k2 k3 k6⟩
  · rw [if_neg (by rw [g1.wanted hag]; simp)]
    obtain ⟨k5, k6⟩ := stills_true g2
    exact ⟨ρ, _, h, k5, I.eff hA ho hD (hN e oe ho) hpre hp' hd I.hr (Ext.refl _ _ _) VR_undef k6⟩
theorem ready_nil {ops : Array Oper} {A : List Nat} (hA : ancOk ops A = true) {lst : Array Bool} (hsz : lst.size = ops.size) (hr : Region.ready .any ops lst = []) : ∀ (n i : Nat), i < n → i < ops.size → lst.getD i false = true
  | 0, i, hi, _ => absurd hi (Nat.not_lt_zero i)
  | n + 1, i, hi, his => by
    cases hq : lst.getD i false with
    | true => rfl
    | false =>
      exfalso
      have hmem : i ∈ Region.ready .any ops lst := by
        refine mem_ready.2 ⟨?_, ops[i], Array.getElem?_eq_getElem his, fun e he hb => ?_⟩
        · rw [Array.getD_eq_getD_getElem?, Array.getElem?_eq_getElem (by omega)] at *; simpa using hq
        · have h1 := List.all_eq_true.1 hA i (List.mem_range.2 his)
          simp only [Array.getElem?_eq_getElem his, Bool.and_eq_true] at h1
          have h2 := List.all_eq_true.1 h1.1.1 e (by simpa using he)
          rw [hb] at h2
          have h2 : e.on < i := by simpa using h2
          exact ready_nil hA hsz hr n e.on (by omega) (by omega)
      rw [hr] at hmem; cases hmem
theorem count_set {lst : Array Bool} {i n : Nat} (hi : i < lst.size) (hl : lst.getD i false = false) (hc : lst.toList.count false ≤ n + 1) : (lst.setIfInBounds i true).toList.count false ≤ n := by
  rw [Array.toList_setIfInBounds, List.count_set (by simpa using hi)]
  have : lst.toList[i]'(by simpa using hi) = false := by
    rw [Array.getD_eq_getD_getElem?, Array.getElem?_eq_getElem hi] at hl
    simpa using hl
  rw [this]
  show lst.toList.count false - 1 + 0 ≤ n
  omega
theorem drawn_go (hcl : CloneOk P) (hA : ancOk ops A = true) (hN : ∀ (i : Nat) o, ops[i]? = some o → ∀ n, o.dst = some n → n < N) {cH : CH} (hc : CHok P cH) {K : KT} (Q : Exit → Act → World → Prop)
    (hQ : ∀ a' w', Nxt N ρ0 h0 w0 K a' w' → Q .normal a' w') : ∀ (n : Nat) (lst : Array Bool) (ρ : Ren) (a : Act) (w : World) (p : List Pl) (D V : List Nat) (t : T) (h : H), lst.toList.count false ≤ n → (p = [] ∨ ∃ e rs q, p = .ef e rs :: q) →
    (drawn P ops p).run cH t h K = true → planOk P ops A p D V = true → Inv P N ops A ρ0 h0 w0 D V ρ t h a w lst → wpAny P .any ops Q n lst a w := by
  intro n
  have fin : ∀ (lst : Array Bool) (ρ : Ren) (a : Act) (w : World) (p : List Pl) (D V : List Nat) (t : T) (h : H), (p = [] ∨ ∃ e rs q, p = .ef e rs :: q) →
      (drawn P ops p).run cH t h K = true → planOk P ops A p D V = true → Inv P N ops A ρ0 h0 w0 D V ρ t h a w lst → (∀ i, i < ops.size → lst.getD i false = true) → Q .normal a w := by
    intro lst ρ a w p D V t h hp e hk I hall
    rcases hp with rfl | ⟨x, rs, q, rfl⟩
    · refine hQ a w ⟨t, h, ρ, ⟨⟨I.tn, fun n hn => ?_⟩, I.hr, I.df⟩, I.ex, e⟩
      rcases I.sl n hn with g | ⟨j, oj, g1, g2, g3, g4⟩
      · exact g
      · rw [hall j (Array.getElem?_eq_some_iff.1 g3).1] at g2; cases g2
    · exfalso
      simp only [planOk, Bool.and_eq_true, Bool.not_eq_true'] at hk
      obtain ⟨⟨hD, hk⟩, _⟩ := hk
      cases ho : ops[x]? with
      | none => simp [efOk, ho] at hk
      | some ox =>
        have := I.sub x (hall x (Array.getElem?_eq_some_iff.1 ho).1)
        simp at hD
        exact hD this
  induction n with
  | zero =>
    intro lst ρ a w p D V t h hcnt hp e hk I
    have hall : ∀ i, i < ops.size → lst.getD i false = true := fun i hi => by
      have hi' : i < lst.size := by rw [I.sz]; exact hi
      have h0 := List.count_eq_zero.1 (Nat.le_zero.1 hcnt)
      cases hq : lst.getD i false with
      | true => rfl
      | false =>
        exfalso
        rw [Array.getD_eq_getD_getElem?, Array.getElem?_eq_getElem hi'] at hq
        refine h0 ?_
        have : lst[i] = false := by simpa using hq
        rw [← this]; simp
    refine ⟨?_, fin lst ρ a w p D V t h hp e hk I hall⟩
    cases hr : Region.ready .any ops lst with
    | nil => rfl
    | cons i l =>
      exfalso
      have hm : i ∈ Region.ready .any ops lst := by rw [hr]; exact List.mem_cons_self
      obtain ⟨hl, o, ho, _⟩ := mem_ready.1 hm
      have hlt := (Array.getElem?_eq_some_iff.1 ho).1
      have := lst_at (by rw [I.sz]; exact hlt) hl
      rw [hall i hlt] at this; cases this
  | succ n ih =>
    intro lst ρ a w p D V t h hcnt hp e hk I
    refine ⟨fun hr => fin lst ρ a w p D V t h hp e hk I (fun i hi => ready_nil hA I.sz hr (i + 1) i (Nat.lt_succ_self _) hi), fun i hi => ?_⟩
    obtain ⟨hl, oi, ho, hpre⟩ := mem_ready.1 hi
    have hlt := (Array.getElem?_eq_some_iff.1 ho).1
    have his : i < lst.size := by rw [I.sz]; exact hlt
    have hcnt' := count_set his (lst_at his hl) hcnt
    by_cases hD : i ∈ D
    · refine wpOp_mono ?_ (pend_step hA hN I hi hD Q)
      rintro a' w' ⟨ρ', I'⟩
      exact ih _ ρ' a' w' p D V t h hcnt' hp e hk I'
    · rcases hp with rfl | ⟨x, rs, q, rfl⟩
      · exfalso
        have := List.all_eq_true.1 hk i (List.mem_range.2 hlt)
        exact hD (by simpa using this)
      · have hk0 := hk
        simp only [planOk, Bool.and_eq_true, Bool.not_eq_true'] at hk
        obtain ⟨⟨hxD, hk1⟩, hk2⟩ := hk
        have hix : i = x := by
          cases hox : ops[x]? with
          | none => simp [efOk, hox] at hk1
          | some ox =>
            have hk1' := hk1
            unfold efOk at hk1'
            simp only [hox, Bool.and_eq_true] at hk1'
            have h2 := List.all_eq_true.1 hk1'.1.2 i (List.mem_range.2 hlt)
            have h3 : pre ops D i = true := by
              unfold pre
              simp only [ho]
              refine List.all_eq_true.2 fun y hy => ?_
              cases hb : Region.binds .any y with
              | false => rfl
              | true => simpa using I.sub y.on (hpre y (by simpa using hy) hb)
            rw [h3] at h2
            simp only [Bool.not_true, Bool.or_false, Bool.or_eq_true, beq_iff_eq] at h2
            rcases h2 with h2 | h2
            · exact h2
            · exact absurd (by simpa using h2) hD
        subst hix
        refine wpOp_mono ?_ (eff_step hcl hA hN hc I e hk1 hD hi Q)
        rintro a' w' ⟨ρ', t', h', e', I'⟩
        obtain ⟨p2, D2, V2, t2, h2, g1, g2, g3, g4⟩ := adv q _ _ t' h' e' hk2 I'
        exact ih _ ρ' a' w' p2 D2 V2 t2 h2 hcnt' g1 g2 g3 g4
theorem drawn_ok (hm : P.follows .mixedOrders = true) (hcl : CloneOk P) {pl : List Pl} (hA : ancOk ops (ancM ops.toList) = true) (hk : planOk P ops (ancM ops.toList) pl [] [] = true) (hN : ∀ (i : Nat) o, ops[i]? = some o → ∀ n, o.dst = some n → n < N) {cH : CH} (hc : CHok P cH) {K : KT} {id : Nat}
    (e : (drawn P ops pl).run cH t h K = true) (hs : St N ρ t h a w) (Q : Exit → Act → World → Prop) (hQ : ∀ a' w', Nxt N ρ h w K a' w' → Q .normal a' w') : (Code.region id ops true).wp P Q a w := by
  refine wp_region_any hm ?_
  have un : ∀ i, (Array.replicate ops.size false).getD i false = false := fun i => by
    rw [Array.getD_eq_getD_getElem?, Array.getElem?_replicate]
    split <;> rfl
  have I : Inv P N ops (ancM ops.toList) ρ h w [] [] ρ t h a { w with drawn := w.drawn + 1 } (Array.replicate ops.size false) :=
    ⟨by simp, hs.sl.1, hs.df, hs.hp.same rfl, Ext.drew ρ h w, fun i hi => (by rw [un] at hi; cases hi), fun i o ho hi => (by rw [un] at hi; cases hi), fun i hi => (by cases hi), fun i hi => (by cases hi), fun n hn => .inl (hs.sl.2 n hn),
      ⟨fun _ => none, fun i j m hi => (by cases hi), fun i m hi => (by cases hi), fun i o hi => (by cases hi)⟩, fun i o hi => (by cases hi), fun i j oi oj _ hi => (by cases hi)⟩
  obtain ⟨p2, D2, V2, t2, h2, g1, g2, g3, g4⟩ := adv pl _ _ t h e hk I
  exact drawn_go hcl hA hN hc Q hQ ops.size _ ρ a _ p2 D2 V2 t2 h2 (Nat.le_trans (List.count_le_length) (by simp)) g1 g2 g3 g4
end
end Go.Proofs.YtbpdomemnecioaaGreatDoor.Ev
