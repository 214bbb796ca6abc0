/- The evaluator's drawn regions, against the model's: the walk through any order. Own text. No condition of a claim. -/
import Derived.Test.YtbpdomemnecioaaGreatDoorEvR
namespace Go.Proofs.YtbpdomemnecioaaGreatDoor.Ev
open Go Go.MapKept Go.RowKit
set_option linter.unusedVariables false
set_option linter.unusedSimpArgs false
noncomputable section

variable {P : Program} {N : Nat} {ops : Array Oper} {A : List Nat} {ρ0 ρ : Ren} {h0 h : H} {w0 w : World} {D V : List Nat} {t : T} {a : Act} {lst : Array Bool}

theorem Inv.add (I : Inv P N ops A ρ0 h0 w0 D V ρ t h a w lst) {i : Nat} {oi : Oper} (ho : ops[i]? = some oi) (hD : i ∉ D) (hE : isE P oi = false) (hself : ∀ n, oi.dst = some n → n ∉ oi.looksAt ops)
    (hp : ∀ j ∈ V, ∃ oj, ops[j]? = some oj ∧ (∀ n, oi.dst = some n → n ∉ oj.looksAt ops) ∧ (∀ n, oi.dst = some n → oj.dst ≠ some n) ∧ (anc A j i = true ∨ ∀ n, oj.dst = some n → n ∉ oi.looksAt ops))
    {v : AV} (hd : ∀ n, oi.dst = some n → n < 8 ^ 3) {h' : H} (hr : HR ρ h' w) (hx : Ext ρ h w ρ h' w) (hat : ∀ b, b < h.nx → h'.at b = h.at b) {mi : Option Nat} (hmi : ∀ m, mi = some m → h.nx ≤ m ∧ m < h'.nx)
    (hP : Pend P ops h0.nx ρ (putT oi.dst v t) h' oi mi) : Inv P N ops A ρ0 h0 w0 (i :: D) (i :: V) ρ (putT oi.dst v t) h' a w lst := by
  have hl : lst.getD i false = false := by
    cases hq : lst.getD i false with
    | false => rfl
    | true => exact absurd (I.sub i hq) hD
  have hat2 : ∀ b, h.at b ≠ .no → h'.at b = h.at b := fun b hb => by
    refine hat b (Nat.lt_of_not_le fun q => hb (I.hr.cl b q))
  obtain ⟨mm, p1, p2, p3⟩ := I.pd
  refine ⟨I.sz, I.tn, I.df, hr, I.ex.trans hx, fun j hj => List.mem_cons_of_mem _ (I.sub j hj), I.clo, fun j hj hl' => ?_, fun j hj => ?_, fun n hn => ?_, ?_, fun j o hj hoj => ?_, fun j k oj ok hjk hj hk hoj hok => ?_⟩
  · rcases List.mem_cons.1 hj with rfl | hj
    · exact List.mem_cons_self
    · exact List.mem_cons_of_mem _ (I.pv j hj hl')
  · rcases List.mem_cons.1 hj with rfl | hj
    · exact ⟨List.mem_cons_self, oi, ho, hE⟩
    · exact ⟨List.mem_cons_of_mem _ (I.vd j hj).1, (I.vd j hj).2⟩
  · by_cases e : oi.dst = some n
    · exact .inr ⟨i, oi, List.mem_cons_self, hl, ho, e⟩
    · rw [get_putT_ne hd hn e]
      rcases I.sl n hn with g | ⟨j, oj, g1, g2, g3, g4⟩
      · exact .inl g
      · exact .inr ⟨j, oj, List.mem_cons_of_mem _ g1, g2, g3, g4⟩
  · refine ⟨fun j => if j = i then mi else mm j, fun j k m hj hk => ?_, fun j m hj => ?_, fun j oj hj hlj hoj => ?_⟩
    · by_cases ej : j = i <;> by_cases ek : k = i
      · rw [ej, ek]
      · exfalso
        simp only [ej, if_true] at hj
        simp only [ek, if_false] at hk
        have := p2 k m hk
        have := (hmi m hj).1
        omega
      · exfalso
        simp only [ek, if_true] at hk
        simp only [ej, if_false] at hj
        have := p2 j m hj
        have := (hmi m hk).1
        omega
      · simp only [ej, if_false] at hj
        simp only [ek, if_false] at hk
        exact p1 j k m hj hk
    · by_cases ej : j = i
      · simp only [ej, if_true] at hj
        exact (hmi m hj).2
      · simp only [ej, if_false] at hj
        exact Nat.lt_of_lt_of_le (p2 j m hj) hx.nx
    · rcases List.mem_cons.1 hj with rfl | hj
      · rw [ho] at hoj; cases hoj
        simp only [if_true]; exact hP
      · have ej : j ≠ i := fun e => hD (e ▸ hj)
        simp only [ej, if_false]
        obtain ⟨oj', k0, k1, k2, _⟩ := hp j (I.pv j hj hlj)
        rw [hoj] at k0; cases k0
        have hs : Same ops oj t (putT oi.dst v t) := same_putT hd k1
        have hsl : ∀ n, oj.dst = some n → n < 8 ^ 3 → get 3 n (putT oi.dst v t) = get 3 n t := fun n hn h8 => get_putT_ne hd h8 fun e => k2 n e hn
        rcases p3 j oj hj hlj hoj with ⟨g1, g2⟩ | ⟨g1, u, g2, g3⟩
        · exact .inl ⟨g1.same hs, fun n hn => ⟨(g2 n hn).1, by rw [hsl n hn (g2 n hn).1]; exact (g2 n hn).2⟩⟩
        · refine .inr ⟨g1.same hs, u, fun n hn => ⟨(g2 n hn).1, by rw [hsl n hn (g2 n hn).1]; exact (g2 n hn).2⟩, ?_⟩
          rcases g3 with g3 | ⟨m, k, q1, q2, q3, q4, q5⟩
          · exact .inl ((g3.same hs).heap fun _ b hb => hat2 b hb)
          · exact .inr ⟨m, k, q1, q2, q3, by rw [hat m (p2 j m q1)]; exact q4, q5.same hs⟩
  · rcases List.mem_cons.1 hj with rfl | hj
    · rw [ho] at hoj; cases hoj; exact hself
    · exact I.se j o hj hoj
  · rcases List.mem_cons.1 hj with rfl | hj
    · rw [ho] at hoj; cases hoj
      rcases List.mem_cons.1 hk with rfl | hk
      · exact absurd rfl hjk
      · obtain ⟨ok', k0, k1, k2, k3⟩ := hp k hk
        rw [hok] at k0; cases k0
        exact ⟨k2, k3⟩
    · have hjV := hj
      clear hj
      rcases List.mem_cons.1 hk with rfl | hk
      · rw [ho] at hok; cases hok
        obtain ⟨oj', k0, k1, k2, k3⟩ := hp j hjV
        rw [hoj] at k0; cases k0
        exact ⟨fun n hn q => k2 n q hn, .inr k1⟩
      · exact I.ap j k oj ok hjk hjV hk hoj hok
theorem adv_ev (I : Inv P N ops A ρ0 h0 w0 D V ρ t h a w lst) {cH : CH} {K : KT} {i : Nat} (e : (opI P ops i).run cH t h K = true) (hk : evOk P ops A V i = true) (hD : i ∉ D) :
    ∃ t' h', K t' h' = true ∧ Inv P N ops A ρ0 h0 w0 (i :: D) (i :: V) ρ t' h' a w lst := by
  unfold evOk at hk
  cases ho : ops[i]? with
  | none => simp [ho] at hk
  | some oi =>
    simp only [ho, Bool.and_eq_true, Bool.not_eq_true'] at hk
    obtain ⟨⟨hE, hs⟩, hV⟩ := hk
    have hself := dn_spec hs
    have hp : ∀ j ∈ V, ∃ oj, ops[j]? = some oj ∧ (∀ n, oi.dst = some n → n ∉ oj.looksAt ops) ∧ (∀ n, oi.dst = some n → oj.dst ≠ some n) ∧ (anc A j i = true ∨ ∀ n, oj.dst = some n → n ∉ oi.looksAt ops) := fun j hj => by
      have h1 := List.all_eq_true.1 hV j hj
      cases hoj : ops[j]? with
      | none => simp [hoj] at h1
      | some oj =>
        simp only [hoj, Bool.and_eq_true, Bool.or_eq_true] at h1
        exact ⟨oj, rfl, dn_spec h1.1.1, dd_spec h1.1.2, h1.2.imp id dn_spec⟩
    unfold opI at e
    simp only [ho] at e
    have slot : ∀ {v : AV}, (∀ n, oi.dst = some n → n < 8 ^ 3) → ∀ n, oi.dst = some n → n < 8 ^ 3 ∧ get 3 n (putT oi.dst v t) = v := fun hd n hn => ⟨hd n hn, by rw [hn]; exact get_putT_eq (hd n hn)⟩
    rcases opG_gd e with ⟨h1, h2⟩ | ⟨h1, hd, h2⟩
    · obtain ⟨v, hd, h3⟩ := comp_ev h2 hE
      have hsm : Same ops oi t (putT oi.dst v t) := same_putT hd hself
      rcases h3 with ⟨h3, h4⟩ | ⟨k, h3, h5, h4⟩
      · exact ⟨_, h, h4, I.add ho hD hE hself hp hd I.hr (Ext.refl _ _ _) (fun _ _ => rfl) (mi := none) (fun m q => by cases q) (.inr ⟨h1.same hsm, v, slot hd, .inl (h3.same hsm)⟩)⟩
      · have hr : HR ρ (.mk h.t h.nx) w := by rw [H.eta]; exact I.hr
        have hE2 := Ext.ghosted hr (k := k) h5
        rw [H.eta] at hE2
        have hat0 : (H.mk (put 5 h.nx k h.t) (h.nx + 1)).at h.nx = k := by rw [H.at_put (nx := h.nx) h5 k h.nx, if_pos rfl]
        refine ⟨_, _, h4, I.add ho hD hE hself hp hd (hr.ghost h5) hE2 (fun b hb => ?_) (mi := some h.nx) (fun m q => by cases q; exact ⟨Nat.le_refl _, Nat.lt_succ_self _⟩) (.inr ⟨h1.same hsm, v, slot hd, .inr ⟨h.nx, k, rfl, I.ex.nx, hr.fresh, hat0, h3.same hsm⟩⟩)⟩
        rw [H.at_put (nx := h.nx) h5 k b, if_neg (by omega)]
        rw [H.eta]
    · have hsm : Same ops oi t (putT oi.dst (.tu []) t) := same_putT hd hself
      exact ⟨_, h, h2, I.add ho hD hE hself hp hd I.hr (Ext.refl _ _ _) (fun _ _ => rfl) (mi := none) (fun m q => by cases q) (.inl ⟨h1.same hsm, slot hd⟩)⟩
/-- The evaluator goes on to the next that turns something. -/
theorem adv {cH : CH} {K : KT} : ∀ (p : List Pl) (D V : List Nat) (t : T) (h : H), (drawn P ops p).run cH t h K = true → planOk P ops A p D V = true → Inv P N ops A ρ0 h0 w0 D V ρ t h a w lst →
    ∃ p' D' V' t' h', (p' = [] ∨ ∃ e rs q, p' = .ef e rs :: q) ∧ (drawn P ops p').run cH t' h' K = true ∧ planOk P ops A p' D' V' = true ∧ Inv P N ops A ρ0 h0 w0 D' V' ρ t' h' a w lst
  | [], D, V, t, h, e, hp, I => ⟨[], D, V, t, h, .inl rfl, e, hp, I⟩
  | .ef i rs :: p, D, V, t, h, e, hp, I => ⟨_, D, V, t, h, .inr ⟨i, rs, p, rfl⟩, e, hp, I⟩
  | .ev i :: p, D, V, t, h, e, hp, I => by
    simp only [planOk, Bool.and_eq_true, Bool.not_eq_true'] at hp
    obtain ⟨⟨hD, hk⟩, hp⟩ := hp
    obtain ⟨t', h', e', I'⟩ := adv_ev I (show (opI P ops i).run cH t h (fun t h => (drawn P ops p).run cH t h K) = true from e) hk (by simpa using hD)
    exact adv p _ _ t' h' e' hp I'

/-! ### The model's steps -/
theorem lst_at {lst : Array Bool} {i : Nat} (hi : i < lst.size) (h : lst.getD i true = false) : lst.getD i false = false := by
  rw [Array.getD_eq_getD_getElem?, Array.getElem?_eq_getElem hi] at *; simpa using h
theorem set_ne {lst : Array Bool} {i j : Nat} (h : j ≠ i) : (lst.setIfInBounds i true).getD j false = lst.getD j false := getD_set_ne false (Ne.symm h)
theorem set_eq {lst : Array Bool} {i : Nat} (hi : i < lst.size) : (lst.setIfInBounds i true).getD i false = true := by simp [hi]
/-- Listing one that is ready. -/
theorem clo_set {lst : Array Bool} {i : Nat} {oi : Oper} (hi : i < lst.size) (ho : ops[i]? = some oi) (hr : ∀ e ∈ oi.after, Region.binds .any e = true → lst.getD e.on false = true)
    (clo : ∀ i o, ops[i]? = some o → lst.getD i false = true → ∀ e ∈ o.after, Region.binds .any e = true → lst.getD e.on false = true) :
    ∀ j o, ops[j]? = some o → (lst.setIfInBounds i true).getD j false = true → ∀ e ∈ o.after, Region.binds .any e = true → (lst.setIfInBounds i true).getD e.on false = true := fun j o hoj hj e he hb => by
  by_cases ej : j = i
  · subst ej
    rw [ho] at hoj; cases hoj
    exact getD_set_true (hr e he hb)
  · rw [set_ne ej] at hj
    exact getD_set_true (clo j o hoj hj e he hb)
theorem Inv.exec (I : Inv P N ops A ρ0 h0 w0 D V ρ t h a w lst) {i : Nat} {oi : Oper} (ho : ops[i]? = some oi) (hD : i ∈ D) (hN : ∀ n, oi.dst = some n → n < N)
    (hpre : ∀ e ∈ oi.after, Region.binds .any e = true → lst.getD e.on false = true) {ρ' : Ren} {w' : World} {v' : Value} (hr : HR ρ' h w') (hx : Ext ρ0 h0 w0 ρ' h w') (hs : Sub ρ ρ')
    (hv : ∀ n, oi.dst = some n → VR ρ' (get 3 n t) v') (mm : Nat → Option Nat) (p1 : ∀ i j m, mm i = some m → mm j = some m → i = j) (p2 : ∀ i m, mm i = some m → m < h.nx)
    (p3 : ∀ i o, i ∈ D → lst.getD i false = false → ops[i]? = some o → Pend P ops h0.nx ρ t h o (mm i)) (hm : ∀ j m, j ≠ i → mm j = some m → ρ m = none → ρ' m = none) :
    Inv P N ops A ρ0 h0 w0 D V ρ' t h (a.put oi.dst v') w' (lst.setIfInBounds i true) := by
  have hi : i < lst.size := by rw [I.sz]; exact (Array.getElem?_eq_some_iff.1 ho).1
  have un : ∀ j, (lst.setIfInBounds i true).getD j false = false → j ≠ i ∧ lst.getD j false = false := fun j hj => by
    have : j ≠ i := by rintro rfl; rw [set_eq hi] at hj; cases hj
    exact ⟨this, by rw [set_ne this] at hj; exact hj⟩
  refine ⟨by simp [I.sz], by rw [size_put]; exact I.tn, by rw [put_defers]; exact I.df, hr, hx, fun j hj => ?_, clo_set hi ho hpre I.clo, fun j hj hl => I.pv j hj (un j hl).2, I.vd, fun n hn => ?_,
    ⟨mm, p1, p2, fun j oj hj hl hoj => ?_⟩, I.se, I.ap⟩
  · by_cases e : j = i
    · subst e; exact hD
    · rw [set_ne e] at hj; exact I.sub j hj
  · by_cases e : oi.dst = some n
    · left
      have := hv n e
      rw [e, getD_put_eq (by rw [I.tn]; exact hN n e)]
      exact this
    · rw [getD_put_ne e]
      rcases I.sl n hn with g | ⟨j, oj, g1, g2, g3, g4⟩
      · exact .inl (VR.mono hs _ _ g)
      · refine .inr ⟨j, oj, g1, ?_, g3, g4⟩
        rw [set_ne (by rintro rfl; rw [ho] at g3; cases g3; exact e g4)]; exact g2
  · obtain ⟨ne, hl⟩ := un j hl
    rcases p3 j oj hj hl hoj with g | ⟨g1, u, g2, g3⟩
    · exact .inl g
    · refine .inr ⟨g1, u, g2, ?_⟩
      rcases g3 with g3 | ⟨m, k, q1, q2, q3, q4, q5⟩
      · exact .inl g3
      · exact .inr ⟨m, k, q1, q2, hm j m ne q1 q3, q4, q5⟩
/-- What a ready operation looks at stands. -/
theorem Inv.agr (hA : ancOk ops A = true) (I : Inv P N ops A ρ0 h0 w0 D V ρ t h a w lst) {i : Nat} {oi : Oper} (ho : ops[i]? = some oi) (hpre : ∀ e ∈ oi.after, Region.binds .any e = true → lst.getD e.on false = true)
    (hs : ∀ j oj, j ∈ V → lst.getD j false = false → ops[j]? = some oj → anc A j i = true ∨ ∀ n, oj.dst = some n → n ∉ oi.looksAt ops) : Agr ops oi ρ t a := fun n hn h8 => by
  rcases I.sl n h8 with g | ⟨j, oj, g1, g2, g3, g4⟩
  · exact g
  · exfalso
    rcases hs j oj (I.pv j g1 g2) g2 g3 with q | q
    · have := anc_listed hA I.clo (i + 1) i oi (Nat.lt_succ_self _) ho hpre j (Array.getElem?_eq_some_iff.1 g3).1 q
      rw [this] at g2; cases g2
    · exact q n g4 hn
theorem pend_step (hA : ancOk ops A = true) (hN : ∀ (i : Nat) o, ops[i]? = some o → ∀ n, o.dst = some n → n < N) (I : Inv P N ops A ρ0 h0 w0 D V ρ t h a w lst) {i : Nat} (hi : i ∈ Region.ready .any ops lst) (hD : i ∈ D) (Q : Exit → Act → World → Prop) :
    wpOp P ops Q i (fun a' w' => ∃ ρ', Inv P N ops A ρ0 h0 w0 D V ρ' t h a' w' (lst.setIfInBounds i true)) a w := by
  obtain ⟨hl, oi, ho, hpre⟩ := mem_ready.1 hi
  have his : i < lst.size := by rw [I.sz]; exact (Array.getElem?_eq_some_iff.1 ho).1
  have hl := lst_at his hl
  have hV := I.pv i hD hl
  have hag : Agr ops oi ρ t a := I.agr hA ho hpre fun j oj hj _ hoj => by
    by_cases e : i = j
    · subst e
      rw [ho] at hoj; cases hoj
      exact .inr (I.se i oi hV ho)
    · exact (I.ap i j oi oj e hV hj ho hoj).2
  obtain ⟨mm, p1, p2, p3⟩ := I.pd
  unfold wpOp
  simp only [ho]
  rcases p3 i oi hD hl ho with ⟨g1, g2⟩ | ⟨g1, u, g2, g3⟩
  · rw [if_neg (by rw [g1.wanted hag]; simp)]
    exact ⟨ρ, I.exec ho hD (hN i oi ho) hpre I.hr I.ex (Sub.refl ρ) (fun n hn => by rw [(g2 n hn).2]; exact VR_undef) mm p1 p2 p3 fun _ _ _ _ q => q⟩
  · rw [if_pos (g1.wanted hag)]
    refine .inl ?_
    rcases g3 with g3 | ⟨m, k, q1, q2, q3, q4, q5⟩
    · obtain ⟨v', e1, e2⟩ := g3 ρ a w (fun _ => I.hr.blk) fun x hx => hag.op x hx
      exact wp_value e1 ⟨ρ, I.exec ho hD (hN i oi ho) hpre I.hr I.ex (Sub.refl ρ) (fun n hn => by rw [(g2 n hn).2]; exact e2) mm p1 p2 p3 fun _ _ _ _ q => q⟩
    · obtain ⟨v', w', l, ob, e1, e2, e3, e4, e5, e6⟩ := q5.2 ρ a w q3 fun x hx => hag.op x hx
      refine wp_value e1 ⟨upd ρ m l, I.exec ho hD (hN i oi ho) hpre (I.hr.realize (p2 i m q1) q3 e2 e3 (by rw [q4]; exact e5)) (I.ex.realize q2 q3 e2 e3 e4) (Sub.upd q3) (fun n hn => by rw [(g2 n hn).2]; exact e6) mm p1 p2 p3 ?_⟩
      intro j m' hj hm' hn
      simp only [upd]
      rw [if_neg (by rintro rfl; exact hj (p1 j i _ hm' q1))]
      exact hn
end
end Go.Proofs.YtbpdomemnecioaaGreatDoor.Ev
