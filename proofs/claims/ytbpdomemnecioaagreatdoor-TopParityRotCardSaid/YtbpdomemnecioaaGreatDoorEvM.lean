/- The evaluator's operations that turn something, against the model's: stores, maps. Own text. No condition of a claim. -/
import Derived.Test.YtbpdomemnecioaaGreatDoorEvL
import Derived.Laws.IdiomCopy
namespace Go.Proofs.YtbpdomemnecioaaGreatDoor.Ev
open Go Go.MapKept Go.RowKit
set_option linter.unusedVariables false
set_option linter.unusedSimpArgs false
noncomputable section

/-- What is left behind an operation, or a call: a value, and a heap that goes on well. -/
def Res (ρ : Ren) (h : H) (w : World) (F : AV → H → R) (v' : Value) (w' : World) : Prop := ∃ v h' ρ', F v h' = true ∧ HR ρ' h' w' ∧ Ext ρ h w ρ' h' w' ∧ VR ρ' v v'
/-- A way to carry out calls that is sound. -/
def CHok (P : Program) (cH : CH) : Prop :=
  ∀ g args h F, cH g args h F = true → ∀ (ρ : Ren) (vs : Array Value) (w : World), HR ρ h w → VRs ρ args vs.toList → Calls P g vs w fun e w' => ∃ v', e = .returned v' ∧ Res ρ h w F v' w'
/-- The operation goes well. -/
def Goes (P : Program) (o : Oper) (t : T) (h : H) (F : AV → H → R) : Prop :=
  ∀ (ρ : Ren) (a : Act) (w : World), HR ρ h w → (∀ x ∈ o.op.operands, VR ρ (gv t x) (a.eval x)) → ∀ Q, o.wp P a w (fun a' w' => ∃ v', a' = a.put o.dst v' ∧ Res ρ h w F v' w') Q
theorem wp_value {P : Program} {o : Oper} {a : Act} {w w' : World} {v' : Value} {K : Act → World → Prop} {Q : Exit → Act → World → Prop} (h : (execOp a.eval o).run P w = .ok (.value v') w') (k : K (a.put o.dst v') w') : o.wp P a w K Q := by
  unfold Oper.wp; rw [h]; exact k
theorem wp_skipped {P : Program} {o : Oper} {a : Act} {w w' : World} {K : Act → World → Prop} {Q : Exit → Act → World → Prop} (h : (execOp a.eval o).run P w = .ok .skip w') (k : K (a.put o.dst undef) w') : o.wp P a w K Q := by
  unfold Oper.wp; rw [h]; exact k
theorem VR_undef {ρ : Ren} : VR ρ (.tu []) undef := by simp only [VR, VRs]; exact ⟨#[], rfl, rfl⟩

/-! ### Stores -/
theorem setCells_below (b : Nat) : ∀ (vs : List Value) (o : Nat) (w : World), Below 0 w (w.setCells b o vs)
  | [], o, w => Below.refl 0 w
  | v :: vs, o, w => ((Below.refl 0 w).setCell (Nat.zero_le _) v).trans (setCells_below b vs (o + 1) _)
theorem setCell_heap {w : World} {b o : Nat} {cs : Array Value} {elem : TypeId} {fz : Nat × Nat} (h : w.heap[b]? = some (.cells cs elem fz)) (v : Value) (B : Nat) :
    (w.setCell ⟨b, o, none⟩ v).heap[B]? = if B = b then some (.cells (cs.setIfInBounds o v) elem fz) else w.heap[B]? := by
  simp only [World.setCell, Array.getElem?_modify]
  by_cases e : B = b
  · subst e; rw [if_pos rfl, if_pos rfl, h]; rfl
  · rw [if_neg e, if_neg (fun q => e q.symm)]
theorem setCells_heap (b : Nat) {elem : TypeId} {fz : Nat × Nat} : ∀ (vs : List Value) (o : Nat) (w : World) (cs : Array Value), w.heap[b]? = some (.cells cs elem fz) → o + vs.length ≤ cs.size →
    ∃ cs' : Array Value, cs'.size = cs.size ∧ (∀ B, (w.setCells b o vs).heap[B]? = if B = b then some (.cells cs' elem fz) else w.heap[B]?) ∧ ∀ k, cs'[k]? = if o ≤ k ∧ k < o + vs.length then vs[k - o]? else cs[k]?
  | [], o, w, cs, h, _ => ⟨cs, rfl, fun B => by
      by_cases e : B = b
      · subst e; rw [if_pos rfl]; exact h
      · rw [if_neg e]; rfl, fun k => by rw [if_neg (by simp only [List.length_nil]; omega)]⟩
  | v :: vs, o, w, cs, h, hl => by
    simp only [List.length_cons] at hl
    obtain ⟨cs', h1, h2, h3⟩ := setCells_heap b vs (o + 1) (w.setCell ⟨b, o, none⟩ v) (cs.setIfInBounds o v) (by rw [setCell_heap h, if_pos rfl]) (by simp; omega)
    refine ⟨cs', by simpa using h1, fun B => ?_, fun k => ?_⟩
    · show ((w.setCell ⟨b, o, none⟩ v).setCells b (o + 1) vs).heap[B]? = _
      rw [h2, setCell_heap h]
      by_cases e : B = b
      · rw [if_pos e, if_pos e]
      · rw [if_neg e, if_neg e, if_neg e]
    · rw [h3]
      simp only [List.length_cons]
      by_cases e : o + 1 ≤ k ∧ k < o + 1 + vs.length
      · rw [if_pos e, if_pos (by omega), show k - o = (k - (o + 1)) + 1 by omega, List.getElem?_cons_succ]
      · rw [if_neg e]
        by_cases e2 : k = o
        · subst e2
          rw [if_pos (by omega), Nat.sub_self]
          simp [show k < cs.size by omega]
        · rw [if_neg (by omega), Array.getElem?_setIfInBounds_ne (fun q => e2 q.symm)]
/-- Cells of a block are written: the relation goes on. -/
theorem HR.store {ρ : Ren} {ht : Ht} {nx b o : Nat} {w : World} {l : Loc} {d : Nat} {t : Dt AV d} {n z : Nat} {xs : List AV} {vs : List Value} (a : HR ρ (.mk ht nx) w) (hb5 : b < 8 ^ 5) (hb : ρ b = some l) (hk : (H.mk ht nx).at b = .c d t n z)
    (ho : o + xs.length ≤ n) (hv : VRs ρ xs vs) :
    HR ρ (.mk (put 5 b (.c d (putl d xs o t) n z) ht) nx) (w.setCells l.B (l.O + o) vs) ∧ Ext ρ (.mk ht nx) w ρ (.mk (put 5 b (.c d (putl d xs o t) n z) ht) nx) (w.setCells l.B (l.O + o) vs) := by
  obtain ⟨ob, h1, h2⟩ := a.blk b l hb (by rw [hk]; simp)
  rw [hk] at h2
  obtain ⟨h0, cs, elem, fz, rfl, h3, h4, h5⟩ := h2
  have hlen := hv.length
  obtain ⟨cs', c1, c2, c3⟩ := setCells_heap l.B vs (l.O + o) w cs h1 (by omega)
  have hne : (H.mk ht nx).at b ≠ .no := by rw [hk]; simp
  have hr : BlkR ρ (.c d (putl d xs o t) n z) l (.cells cs' elem fz) := by
    refine ⟨h0, cs', elem, fz, rfl, by rw [c1]; exact h3, fun i hi => ?_, h5⟩
    rw [putl_get xs o t i (by omega) (by omega), c3]
    by_cases e : o ≤ i ∧ i < o + xs.length
    · rw [if_pos e, if_pos (by omega)]
      have hx : xs[i - o]? = some (xs.getD (i - o) .un) := by
        rw [List.getD_eq_getElem?_getD, List.getElem?_eq_getElem (show i - o < xs.length by omega)]; rfl
      obtain ⟨u, hu, hru⟩ := hv.at _ _ hx
      exact ⟨u, by rw [← hu]; congr 1; omega, hru⟩
    · rw [if_neg e, if_neg (by omega)]
      exact h4 i hi
  exact ⟨a.write hb5 hb hne c2 hr, Ext.write hb5 hb hne c2 (setCells_below _ _ _ _)⟩
theorem run_store_at {P : Program} {ρ : Ren} {h : H} {w : World} (a : HR ρ h w) {b o : Nat} {l : Loc} (hb : ρ b = some l) {d : Nat} {t : Dt AV d} {n z : Nat} (hk : h.at b = .c d t n z) {vs : List Value} (ho : o + vs.length ≤ n) (h1 : ∀ v ∈ vs, v.oneCell' = true) :
    (storeCells ⟨l.B, l.O + o, none⟩ vs).run P w = .ok () (w.setCells l.B (l.O + o) vs) := by
  have h2 : ∀ j, j < vs.length → ∃ v, w.cell? ⟨l.B, l.O + o + j, none⟩ = some v ∧ w.frozen? ⟨l.B, l.O + o + j, none⟩ = false := fun j hj => by
    obtain ⟨v, g1, _, g2⟩ := cell_at a.blk hb hk (o := o + j) (by omega)
    exact ⟨v, by rw [Nat.add_assoc]; exact g1, by rw [Nat.add_assoc]; exact g2⟩
  have := run_storeCells_cells (P := P) l.B (l.O + o) vs 0 w (fun j hj => by obtain ⟨v, g1, _⟩ := h2 j hj; simp only [Nat.add_zero]; rw [g1]; rfl) (fun j hj => by obtain ⟨v, _, g2⟩ := h2 j hj; simpa using g2) h1
  simpa using this
theorem H.at_lt {h : H} {b : Nat} {k : Blk} (hk : h.at b = k) (hn : k ≠ .no) : b < 8 ^ 5 := by
  unfold H.at at hk
  split at hk
  · assumption
  · exact absurd hk.symm hn
theorem stc_true {h : H} {b o : Nat} {v : AV} {f : H → R} (e : stc h b o v f = true) : ∃ d t n z, h.at b = .c d t n z ∧ o < n ∧ f (.mk (put 5 b (.c d (putl d [v] o t) n z) h.t) h.nx) = true := by
  cases h with
  | mk ht nx =>
    obtain ⟨hb, e⟩ := acc_run (show (acc Blk 5 b).run _ ht = true from e)
    obtain ⟨d, t, n, z, hk, e⟩ := onC_true e
    obtain ⟨h1, e⟩ := gd_true e
    obtain ⟨h2, e⟩ := pcc_run e
    obtain ⟨h3, e⟩ := pcc_run e
    exact ⟨d, t, n, z, H.at_of hb hk, by simpa [Nat.blt_eq] using h1, e⟩
theorem sts_true {h : H} {b o : Nat} {l : List AV} {f : H → R} (e : sts h b o l f = true) : ∃ d t n z, h.at b = .c d t n z ∧ o + l.length ≤ n ∧ f (.mk (put 5 b (.c d (putl d l o t) n z) h.t) h.nx) = true := by
  cases h with
  | mk ht nx =>
    obtain ⟨hb, e⟩ := acc_run (show (acc Blk 5 b).run _ ht = true from e)
    obtain ⟨d, t, n, z, hk, e⟩ := onC_true e
    obtain ⟨h1, e⟩ := gd_true e
    obtain ⟨h2, e⟩ := wrl_true e
    obtain ⟨h3, e⟩ := pcc_run e
    exact ⟨d, t, n, z, H.at_of hb hk, by rw [← llen_eq]; exact Nat.le_of_ble_eq_true h1, e⟩
theorem H.eta (h : H) : H.mk h.t h.nx = h := by cases h; rfl
theorem opStore_ok {P : Program} {o : Oper} {ty : TypeId} {x y : Operand} (ho : o.op = .store ty x y) {cH : CH} {t : T} {h : H} {F : AV → H → R} (e : (opStore P ty x y).run cH t h F = true) : Goes P o t h F := by
  have fin : ∀ {b off : Nat} {d : Nat} {tr : Dt AV d} {n z : Nat} {xs : List AV}, h.at b = .c d tr n z → off + xs.length ≤ n → F (.tu []) (.mk (put 5 b (.c d (putl d xs off tr) n z) h.t) h.nx) = true →
      ∀ (ρ : Ren) (a : Act) (w : World) (l : Loc) (vs : List Value) (Q : Exit → Act → World → Prop), HR ρ h w → ρ b = some l → VRs ρ xs vs → (∀ v ∈ vs, v.oneCell' = true) → (a.eval x) = .pointer (some ⟨l.B, l.O + off, none⟩) → (a.eval y).cells.toList = vs → (∀ w, (sizeOf ty).run P w = .ok vs.length w) →
        o.wp P a w (fun a' w' => ∃ v', a' = a.put o.dst v' ∧ Res ρ h w F v' w') Q := by
    intro b off d tr n z xs hk hl hF ρ a w l vs Q hr hb hv h1 hp hy hs
    have hr' : HR ρ (.mk h.t h.nx) w := by rw [H.eta]; exact hr
    obtain ⟨g1, g2⟩ := hr'.store (H.at_lt hk (by simp)) hb hk hl hv
    have hrun := run_store_at (P := P) hr hb hk (o := off) (vs := vs) (by rw [hv.length]; exact hl) h1
    refine wp_skipped (w' := w.setCells l.B (l.O + off) vs) ?_ ⟨undef, rfl, _, _, ρ, hF, g1, by rw [H.eta] at g2; exact g2, VR_undef⟩
    have hsz : (a.eval y).cells.size = vs.length := by rw [← hy, Array.length_toList]
    have : (Instr.storeAt ty (a.eval x) (a.eval y)).run P w = .ok () (w.setCells l.B (l.O + off) vs) := by
      rw [hp]
      simp [Instr.storeAt, Instr.sureAddr, storeVar, hs, hsz, hy, hrun]
    simp [execOp, ho, this]
  unfold opStore at e
  split at e
  · rename_i hsh
    split at e
    case isFalse => exact (Bool.false_ne_true e).elim
    rename_i hs1
    obtain ⟨b, off, hx, h1⟩ := onP_true (gt_run e)
    obtain ⟨h2, h3⟩ := flat_true (gt_run (f := fun v => flat (stc h b off v (fun h => F (.tu []) h)) v) h1)
    obtain ⟨d, tr, n, z, hk, hlt, hF⟩ := stc_true h2
    intro ρ a w hr q Q
    have q1 := q x (by rw [ho]; simp [Op.operands])
    have q2 := q y (by rw [ho]; simp [Op.operands])
    rw [hx] at q1
    obtain ⟨l, hb, e1⟩ := VR_p q1
    have h4 := h3 ρ _ q2
    have hcells : (a.eval y).cells.toList = [a.eval y] := by
      cases hv : a.eval y <;> rw [hv] at h4 <;> first | rfl | cases h4
    refine fin (xs := [gv t y]) hk (by simp; omega) hF ρ a w l [a.eval y] Q hr hb (by simp only [VRs]; exact ⟨_, _, rfl, q2, rfl⟩) (fun v hv => by simp at hv; subst hv; exact h4) e1 hcells ?_
    intro w
    exact run_size hs1 w
  · rename_i m hsh
    obtain ⟨b, off, hx, h1⟩ := onP_true (gt_run e)
    obtain ⟨xs, hy, h2⟩ := onAg_true (gt_run h1)
    obtain ⟨h3, h4⟩ := flats_true h2
    obtain ⟨h5, h6⟩ := gd_true h3
    obtain ⟨d, tr, n, z, hk, hlt, hF⟩ := sts_true h6
    have h5 : xs.length = m := by rw [← llen_eq]; exact Nat.eq_of_beq_eq_true h5
    intro ρ a w hr q Q
    have q1 := q x (by rw [ho]; simp [Op.operands])
    have q2 := q y (by rw [ho]; simp [Op.operands])
    rw [hx] at q1
    rw [hy] at q2
    obtain ⟨l, hb, e1⟩ := VR_p q1
    obtain ⟨vs, e2, q3⟩ := VR_ag q2
    refine fin hk hlt hF ρ a w l vs.toList Q hr hb q3 (h4 ρ _ q3) e1 (by rw [e2]; rfl) ?_
    intro w
    rw [run_size (shapeS hsh w).2, q3.length, h5]
  · exact (Bool.false_ne_true e).elim

/-! ### Maps -/
theorem HR.map {ρ : Ren} {ht : Ht} {nx r c : Nat} {w w' : World} {l : Loc} {es : List ME} {arr : Array MapEntry} (a : HR ρ (.mk ht nx) w) (hr5 : r < 8 ^ 5) (hr : ρ r = some l) (hk : (H.mk ht nx).at r ≠ .no)
    (hm : MERs ρ es arr.toList) (hw : w'.heap = w.heap.setIfInBounds l.B (.map arr c)) (hlt : l.B < w.heap.size) (hw2 : Below 0 w w') :
    HR ρ (.mk (put 5 r (.mp es c) ht) nx) w' ∧ Ext ρ (.mk ht nx) w ρ (.mk (put 5 r (.mp es c) ht) nx) w' := by
  have h1 : ∀ B, w'.heap[B]? = if B = l.B then some (.map arr c) else w.heap[B]? := fun B => by
    rw [hw]
    by_cases e : B = l.B
    · subst e; rw [if_pos rfl]; simp [hlt]
    · rw [if_neg e, Array.getElem?_setIfInBounds_ne (fun q => e q.symm)]
  exact ⟨a.write hr5 hr hk h1 ⟨arr, rfl, hm⟩, Ext.write hr5 hr hk h1 hw2⟩
theorem stM_true {h : H} {r : Nat} {es : List ME} {c : Nat} {f : H → R} (e : stM h r es c f = true) : f (.mk (put 5 r (.mp es c) h.t) h.nx) = true := by
  cases h with
  | mk ht nx =>
    obtain ⟨_, e⟩ := pcc_run (show (pcc Blk 5 r).run _ _ ht = true from e)
    exact e
theorem MERs.app {ρ : Ren} : ∀ {l m : List ME} {es fs : List MapEntry}, MERs ρ l es → MERs ρ m fs → MERs ρ (lapp l m) (es ++ fs)
  | [], m, es, fs, h, k => by rw [show es = [] from h]; exact k
  | x :: l, m, es, fs, h, k => by
    obtain ⟨e, r, rfl, h1, h2⟩ := h
    exact ⟨e, _, rfl, h1, h2.app k⟩
theorem sameBits_refl {d : TypeDesc} {v : Value} (h : IsKey d v) (n : Nat) : Instr.sameBits n v v = true := by
  cases d <;> cases v <;> first | exact h.elim | simp [Instr.sameBits, beq_toListBytes]
/-- The entry of a key, where it stands. -/
theorem updM_true {d : TypeDesc} {k v : AV} (hk : KeyAt d k) : ∀ {es : List ME} {no : R} {yes : List ME → R}, updM k v es no yes = true →
    ∃ r : Option (List ME), (match r with | some es' => yes es' = true | none => no = true) ∧ ∀ ρ k' v' fs i0, VR ρ k k' → VR ρ v v' → MERs ρ es fs →
      (match r with
        | none => Instr.findNow d k' fs i0 = some none
        | some es' => ∃ j u, Instr.findNow d k' fs i0 = some (some (i0 + j, u)) ∧ (∃ en, fs[j]? = some en ∧ en.key = k') ∧ MERs ρ es' (fs.modify j fun e => { e with key := k', val := v' }))
  | [], no, yes, h => ⟨none, h, fun ρ k' v' fs i0 _ _ q => by rw [show fs = [] from q]; rfl⟩
  | .mk k2 v2 b :: es, no, yes, h => by
    obtain ⟨e, h1, h2⟩ := eqK_true hk (show eqK k k2 (fun b' => Bool.rec (updM k v es no (fun es => yes (.mk k2 v2 b :: es))) (yes (.mk k v b :: es)) b') = true from h)
    cases e
    · obtain ⟨r, h3, h4⟩ := updM_true hk (show updM k v es no (fun es => yes (.mk k2 v2 b :: es)) = true from h1)
      cases r with
      | none =>
        refine ⟨none, h3, fun ρ k' v' fs i0 q1 q2 q3 => ?_⟩
        obtain ⟨en, r, rfl, q4, q5⟩ := q3
        obtain ⟨g1, _⟩ := h2 ρ k' en.key q1 q4.1
        have := h4 ρ k' v' r (i0 + 1) q1 q2 q5
        simp only at this ⊢
        simp [Instr.findNow, g1, this]
      | some es' =>
        refine ⟨some (.mk k2 v2 b :: es'), h3, fun ρ k' v' fs i0 q1 q2 q3 => ?_⟩
        obtain ⟨en, r, rfl, q4, q5⟩ := q3
        obtain ⟨g1, _⟩ := h2 ρ k' en.key q1 q4.1
        obtain ⟨j, u, g2, g3, g4⟩ := h4 ρ k' v' r (i0 + 1) q1 q2 q5
        refine ⟨j + 1, u, ?_, by simpa using g3, ?_⟩
        · simp [Instr.findNow, g1, g2]; omega
        · rw [List.modify_succ_cons]
          exact ⟨en, _, rfl, q4, g4⟩
    · refine ⟨some (.mk k v b :: es), h1, fun ρ k' v' fs i0 q1 q2 q3 => ?_⟩
      obtain ⟨en, r, rfl, q4, q5⟩ := q3
      obtain ⟨g1, g2⟩ := h2 ρ k' en.key q1 q4.1
      refine ⟨0, en.val, by simp [Instr.findNow, g1], ⟨en, rfl, (g2 rfl).symm⟩, ?_⟩
      rw [List.modify_zero_cons]
      exact ⟨_, r, rfl, ⟨q1, q2, q4.2.2⟩, q5⟩
theorem opMapUpdate_ok {P : Program} {o : Oper} {ty : TypeId} {m k x : Operand} (ho : o.op = .mapUpdate ty m k x) {cH : CH} {t : T} {h : H} {F : AV → H → R} (e : (opMapUpdate P ty m k x).run cH t h F = true) : Goes P o t h F := by
  have e1 := gt_run (gt_run (x := m) e)
  obtain ⟨kt, et, d, hu, hkt, hka, e2⟩ := keyOk_true e1
  have e3 := gt_run (f := fun v => _) e2
  cases hm : gv t m <;> rw [hm] at e3 <;> try exact (Bool.false_ne_true e3).elim
  case m r =>
    obtain ⟨es, c, hat, e4⟩ := ldM_true (show ldM h r (fun es c => updM (gv t k) (gv t x) es (fc (fun c2 => stM h r (lapp es [.mk (gv t k) (gv t x) c]) c2 (fun h => F (.tu []) h)) (Nat.add c 1)) (fun es => stM h r es c (fun h => F (.tu []) h))) = true from e3)
    obtain ⟨rr, h1, h2⟩ := updM_true hka e4
    intro ρ a w hr q Q
    have q1 := q m (by rw [ho]; simp [Op.operands])
    have q2 := q k (by rw [ho]; simp [Op.operands])
    have q3 := q x (by rw [ho]; simp [Op.operands])
    rw [hm] at q1
    obtain ⟨l, hl, em⟩ := VR_m q1
    obtain ⟨arr, g1, g2⟩ := map_at hr.blk hl hat
    have hlt : l.B < w.heap.size := (Array.getElem?_eq_some_iff.1 g1).1
    have hck := run_checkKey (P := P) (w := w) hkt (hka.isKey q2) false 9999
    have hr' : HR ρ (.mk h.t h.nx) w := by rw [H.eta]; exact hr
    have hne : (H.mk h.t h.nx).at r ≠ .no := by rw [H.eta, hat]; simp
    have hr5 : r < 8 ^ 5 := H.at_lt hat (by simp)
    have hbel : ∀ o', Below 0 w { w with heap := w.heap.setIfInBounds l.B o' } := fun o' => ⟨rfl, rfl, rfl, by simp, fun k hk => absurd hk (Nat.not_lt_zero k)⟩
    have hget : (getObj l.B).run P w = .ok (.map arr c) w := by simp [getObj, Sem.run, g1]
    cases rr with
    | none =>
      have h3 := stM_true (show stM h r (lapp es [.mk (gv t k) (gv t x) c]) (c + 1) (fun h => F (.tu []) h) = true from h1)
      have hf := h2 ρ _ _ _ 0 q2 q3 g2
      have hfk := run_findKey (P := P) (w := w) hkt hf
      have hms : MERs ρ (lapp es [.mk (gv t k) (gv t x) c]) (arr.push { key := a.eval k, val := a.eval x, born := c }).toList := by
        rw [Array.toList_push]
        exact g2.app ⟨_, [], rfl, ⟨q2, q3, rfl⟩, rfl⟩
      obtain ⟨r1, r2⟩ := hr'.map (c := c + 1) hr5 hl hne hms rfl hlt (hbel _)
      refine wp_skipped (w' := { w with heap := w.heap.setIfInBounds l.B (.map (arr.push { key := a.eval k, val := a.eval x, born := c }) (c + 1)) }) ?_ ⟨undef, rfl, _, _, ρ, h3, r1, by rw [H.eta] at r2; exact r2, VR_undef⟩
      have hset := run_setObj_map (P := P) (.map (arr.push { key := a.eval k, val := a.eval x, born := c }) (c + 1)) g1
      have : (Instr.mapUpdate ty (a.eval m) (a.eval k) (a.eval x)).run P w = .ok () { w with heap := w.heap.setIfInBounds l.B (.map (arr.push { key := a.eval k, val := a.eval x, born := c }) (c + 1)) } := by
        rw [em]
        simp only [Instr.mapUpdate, Sem.run_bind, run_underlying hu, Result.andThen_ok, hget, hck, hfk, hset]
      simp [execOp, ho, this]
    | some es' =>
      have h3 := stM_true (show stM h r es' c (fun h => F (.tu []) h) = true from h1)
      obtain ⟨j, u, hf, ⟨en, hj, hke⟩, hms⟩ := h2 ρ _ _ _ 0 q2 q3 g2
      rw [Nat.zero_add] at hf
      have hfk := run_findKey (P := P) (w := w) hkt hf
      have hms' : MERs ρ es' (arr.modify j fun e => { e with key := a.eval k, val := a.eval x }).toList := by rw [Array.toList_modify]; exact hms
      obtain ⟨r1, r2⟩ := hr'.map (c := c) hr5 hl hne hms' rfl hlt (hbel _)
      refine wp_skipped (w' := { w with heap := w.heap.setIfInBounds l.B (.map (arr.modify j fun e => { e with key := a.eval k, val := a.eval x }) c) }) ?_ ⟨undef, rfl, _, _, ρ, h3, r1, by rw [H.eta] at r2; exact r2, VR_undef⟩
      have hset := run_setObj_map (P := P) (.map (arr.modify j fun e => { e with key := a.eval k, val := a.eval x }) c) g1
      have hj' : arr[j]? = some en := by simpa using hj
      have hstay : (Instr.keyThatStays (((arr[j]?).map (·.key)).getD (a.eval k)) (a.eval k)).run P w = .ok (a.eval k) w := by
        rw [hj']
        simp only [Option.map_some, Option.getD_some, hke]
        unfold Instr.keyThatStays
        rw [if_pos (sameBits_refl (hka.isKey q2) 10000)]
        rfl
      have : (Instr.mapUpdate ty (a.eval m) (a.eval k) (a.eval x)).run P w = .ok () { w with heap := w.heap.setIfInBounds l.B (.map (arr.modify j fun e => { e with key := a.eval k, val := a.eval x }) c) } := by
        rw [em]
        simp only [Instr.mapUpdate, Sem.run_bind, run_underlying hu, Result.andThen_ok, hget, hck, hfk, hstay, hset]
      simp [execOp, ho, this]
theorem delM_true {d : TypeDesc} {k : AV} (hk : KeyAt d k) : ∀ {es : List ME} {yes : List ME → R}, delM k es yes = true →
    ∃ es', yes es' = true ∧ ∀ ρ k' fs i0, VR ρ k k' → MERs ρ es fs → (Instr.findNow d k' fs i0 = some none ∧ MERs ρ es' fs) ∨ ∃ j u, Instr.findNow d k' fs i0 = some (some (i0 + j, u)) ∧ MERs ρ es' (fs.eraseIdx j)
  | [], yes, h => ⟨[], h, fun ρ k' fs i0 _ q => by rw [show fs = [] from q]; exact .inl ⟨rfl, rfl⟩⟩
  | .mk k2 v2 b :: es, yes, h => by
    obtain ⟨e, h1, h2⟩ := eqK_true hk (show eqK k k2 (fun b' => Bool.rec (delM k es (fun es => yes (.mk k2 v2 b :: es))) (yes es) b') = true from h)
    cases e
    · obtain ⟨es', h3, h4⟩ := delM_true hk (show delM k es (fun es => yes (.mk k2 v2 b :: es)) = true from h1)
      refine ⟨_, h3, fun ρ k' fs i0 q1 q3 => ?_⟩
      obtain ⟨en, r, rfl, q4, q5⟩ := q3
      obtain ⟨g1, _⟩ := h2 ρ k' en.key q1 q4.1
      rcases h4 ρ k' r (i0 + 1) q1 q5 with ⟨g2, g3⟩ | ⟨j, u, g2, g3⟩
      · exact .inl ⟨by simp [Instr.findNow, g1, g2], en, r, rfl, q4, g3⟩
      · refine .inr ⟨j + 1, u, by simp [Instr.findNow, g1, g2]; omega, ?_⟩
        rw [List.eraseIdx_cons_succ]
        exact ⟨en, _, rfl, q4, g3⟩
    · refine ⟨es, h1, fun ρ k' fs i0 q1 q3 => ?_⟩
      obtain ⟨en, r, rfl, q4, q5⟩ := q3
      obtain ⟨g1, _⟩ := h2 ρ k' en.key q1 q4.1
      exact .inr ⟨0, en.val, by simp [Instr.findNow, g1], q5⟩
theorem opDelete_ok {P : Program} {o : Oper} {ty : TypeId} {m k : Operand} {at_ : Array TypeId} (ho : o.op = .call { callee := .builtin .delete, args := #[m, k], argTypes := at_ }) (hat0 : at_[0]? = some ty) {cH : CH} {t : T} {h : H} {F : AV → H → R}
    (e : (opDelete P ty m k).run cH t h F = true) : Goes P o t h F := by
  have e1 := gt_run (gt_run (x := m) e)
  obtain ⟨kt, et, d, hu, hkt, hka, e2⟩ := keyOk_true e1
  have run : ∀ (a : Act) (w w' : World) (mv kv : Value), a.eval m = mv → a.eval k = kv → (Builtin.delete_ at_ o.type #[mv, kv]).run P w = .ok (.tuple #[]) w' → (execOp a.eval o).run P w = .ok (.value (.tuple #[])) w' := by
    intro a w w' mv kv e3 e4 hd
    simp [execOp, ho, resolve, invoke, builtin, e3, e4, hd]
  cases hm : gv t m <;> rw [hm] at e2 <;> try exact (Bool.false_ne_true e2).elim
  case m0 =>
    intro ρ a w hr q Q
    have q1 := q m (by rw [ho]; simp [Op.operands, Call.operands])
    have q2 := q k (by rw [ho]; simp [Op.operands, Call.operands])
    rw [hm] at q1
    simp only [VR] at q1
    have hck := run_checkKey (P := P) (w := w) hkt (hka.isKey q2) true 9999
    refine wp_value (run a w w _ _ q1 rfl ?_) ⟨.tuple #[], rfl, _, _, ρ, e2, hr, Ext.refl _ _ _, VR_undef⟩
    simp [Builtin.delete_, hat0, run_underlying hu, hck]
  case m r =>
    obtain ⟨es, c, hat, e4⟩ := ldM_true (show ldM h r (fun es c => delM (gv t k) es (fun es => stM h r es c (fun h => F (.tu []) h))) = true from e2)
    obtain ⟨es', h1, h2⟩ := delM_true hka e4
    have h3 := stM_true h1
    intro ρ a w hr q Q
    have q1 := q m (by rw [ho]; simp [Op.operands, Call.operands])
    have q2 := q k (by rw [ho]; simp [Op.operands, Call.operands])
    rw [hm] at q1
    obtain ⟨l, hl, em⟩ := VR_m q1
    obtain ⟨arr, g1, g2⟩ := map_at hr.blk hl hat
    have hlt : l.B < w.heap.size := (Array.getElem?_eq_some_iff.1 g1).1
    have hck := run_checkKey (P := P) (w := w) hkt (hka.isKey q2) arr.isEmpty 9999
    have hr' : HR ρ (.mk h.t h.nx) w := by rw [H.eta]; exact hr
    have hne : (H.mk h.t h.nx).at r ≠ .no := by rw [H.eta, hat]; simp
    have hr5 : r < 8 ^ 5 := H.at_lt hat (by simp)
    have hbel : ∀ o', Below 0 w { w with heap := w.heap.setIfInBounds l.B o' } := fun o' => ⟨rfl, rfl, rfl, by simp, fun k hk => absurd hk (Nat.not_lt_zero k)⟩
    have hget : (getObj l.B).run P w = .ok (.map arr c) w := by simp [getObj, Sem.run, g1]
    rcases h2 ρ _ _ 0 q2 g2 with ⟨hf, hms⟩ | ⟨j, u, hf, hms⟩
    · have hfk := run_findKey (P := P) (w := w) hkt hf
      obtain ⟨r1, r2⟩ := hr'.map (c := c) hr5 hl hne hms rfl hlt (hbel _)
      have hset := run_setObj_map (P := P) (.map arr c) g1
      refine wp_value (run a w { w with heap := w.heap.setIfInBounds l.B (.map arr c) } _ _ em rfl ?_) ⟨.tuple #[], rfl, _, _, ρ, h3, r1, by rw [H.eta] at r2; exact r2, VR_undef⟩
      simp [Builtin.delete_, hat0, run_underlying hu, hget, hck, hfk, hset]
    · rw [Nat.zero_add] at hf
      have hfk := run_findKey (P := P) (w := w) hkt hf
      have hms' : MERs ρ es' (arr.eraseIdxIfInBounds j).toList := by rw [Array.toList_eraseIdxIfInBounds]; exact hms
      obtain ⟨r1, r2⟩ := hr'.map (c := c) hr5 hl hne hms' rfl hlt (hbel _)
      have hset := run_setObj_map (P := P) (.map (arr.eraseIdxIfInBounds j) c) g1
      refine wp_value (run a w { w with heap := w.heap.setIfInBounds l.B (.map (arr.eraseIdxIfInBounds j) c) } _ _ em rfl ?_) ⟨.tuple #[], rfl, _, _, ρ, h3, r1, by rw [H.eta] at r2; exact r2, VR_undef⟩
      simp [Builtin.delete_, hat0, run_underlying hu, hget, hck, hfk, hset]
end
end Go.Proofs.YtbpdomemnecioaaGreatDoor.Ev
