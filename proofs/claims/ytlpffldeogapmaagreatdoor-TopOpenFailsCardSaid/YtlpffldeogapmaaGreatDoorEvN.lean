/- The evaluator's append against the model's. Own text. No condition of a claim. -/
import Derived.Test.YtlpffldeogapmaaGreatDoorEvM
import Derived.Deep.AppendSrc
import Derived.Deep.Upon
namespace Go.Proofs.YtlpffldeogapmaaGreatDoor.Ev
open Go Go.MapKept Go.RowKit
set_option linter.unusedVariables false
set_option linter.unusedSimpArgs false
set_option linter.unusedSectionVars false
variable [GO]
noncomputable section

theorem deep_true {n : Nat} {f : (d : Nat) → Dt AV d → R} : ∀ {q d : Nat} {t : Dt AV d}, deep n f q d t = true → ∃ d' t', n ≤ 8 ^ d' ∧ d ≤ d' ∧ f d' t' = true ∧ ∀ i, i < 8 ^ d → get d' i t' = get d i t
  | 0, d, t, h => (Bool.false_ne_true h).elim
  | q + 1, d, t, h => by
    cases hb : Nat.ble n (Nat.pow 8 d) with
    | true =>
      have h' : f d t = true := by
        have : deep n f (q + 1) d t = (Bool.rec (motive := fun _ => R) _ (f d t) (Nat.ble n (Nat.pow 8 d)) : R) := rfl
        rw [this, hb] at h; exact h
      exact ⟨d, t, Nat.le_of_ble_eq_true hb, Nat.le_refl _, h', fun _ _ => rfl⟩
    | false =>
      have h' : deep n f q (d + 1) (Fr.mk t (dflt (α := AV) .un d) (dflt (α := AV) .un d) (dflt (α := AV) .un d) (dflt (α := AV) .un d) (dflt (α := AV) .un d) (dflt (α := AV) .un d) (dflt (α := AV) .un d) : Fr (Dt AV d)) = true := by
        have : deep n f (q + 1) d t = (Bool.rec (motive := fun _ => R) (deep n f q (d + 1) (Fr.mk t (dflt (α := AV) .un d) (dflt (α := AV) .un d) (dflt (α := AV) .un d) (dflt (α := AV) .un d) (dflt (α := AV) .un d) (dflt (α := AV) .un d) (dflt (α := AV) .un d) : Fr (Dt AV d))) (f d t) (Nat.ble n (Nat.pow 8 d)) : R) := rfl
        rw [this, hb] at h; exact h
      obtain ⟨d', t', h1, h2, h3, h4⟩ := deep_true (q := q) (d := d + 1) h'
      refine ⟨d', t', h1, by omega, h3, fun i hi => ?_⟩
      rw [h4 i (by rw [Nat.pow_succ]; omega)]
      exact get_deeper .un d i t hi
theorem appOk_true {P : Program} {e tx : Nat} (h : appOk P e tx = true) : ((∃ e', P.underlying tx = some (.slice e')) ∨ P.underlying tx = some .string) ∧ ∃ i z, P.info? e = some i ∧ i.zero = some z ∧ z.cells.size = i.size ∧ i.bytes ≤ 16777216 := by
  unfold appOk at h
  rw [Bool.and_eq_true] at h
  obtain ⟨h1, h2⟩ := h
  constructor
  · split at h1
    · rename_i e' hu; exact .inl ⟨e', hu⟩
    · rename_i hu; exact .inr hu
    · cases h1
  · split at h2
    · rename_i i hi
      rw [Bool.and_eq_true, decide_eq_true_iff] at h2
      cases hz : i.zero with
      | none => rw [hz] at h2; simp at h2
      | some z => rw [hz] at h2; simp at h2; exact ⟨i, z, hi, hz, h2.1, h2.2⟩
    · cases h2
/-- What is appended. -/
theorem srcOf_true {P : Program} {sz : Nat} {tx : TypeId} (hk : (∃ e', P.underlying tx = some (.slice e')) ∨ P.underlying tx = some .string) {h : H} {x : AV} {f : Nat → List AV → R} (e : srcOf sz h x f = true) :
    ∃ m l, f m l = true ∧ l.length = m * sz ∧ ∀ (ρ : Ren) (w : World) (x' : Value), HR ρ h w → VR ρ x x' → ∃ news, Src P sz tx x' m news w ∧ VRs ρ l news := by
  cases x <;> try exact (Bool.false_ne_true e).elim
  case sl0 =>
    refine ⟨0, [], e, by simp, fun ρ w x' hr q => ?_⟩
    simp only [VR] at q
    subst q
    exact ⟨[], ⟨hk, fun _ => rfl, run_firstCells_none w sz 0 0 0, run_firstCells_none w.drew sz 0 0 0, by simp, fun _ h => by cases h⟩, by simp only [VRs]⟩
  case sl b o n c =>
    obtain ⟨d, t, n', z, hat, ho, h1⟩ := lds_true (show lds h b o (n * sz) (fun l => flats (f n l) l) = true from e)
    obtain ⟨h2, h3⟩ := flats_true h1
    refine ⟨n, _, h2, rlist_len _ _ _ _, fun ρ w x' hr q => ?_⟩
    obtain ⟨l, a, c', hb, rfl, hnc, _, had⟩ := VR_sl q
    obtain ⟨cs, g1, g2, g3⟩ := cells_at hr.blk hb hat (n * sz) o ho
    have g3' : ∀ (j : Nat) (u : Value), cs[j]? = some u → w.cell? (a.add j) = some u := by
      rcases had with rfl | h0
      · exact g3
      · intro j u hu
        have : n = 0 := by omega
        subst this
        simp at g1
        subst g1
        simp at hu
    exact ⟨cs, ⟨hk, fun _ => rfl, run_firstCells_some w sz n a n c' cs g1 g3', run_firstCells_some w.drew sz n a n c' cs g1 (by simpa using g3'), g1, h3 ρ _ g2⟩, g2⟩
  case s l =>
    obtain ⟨h1, h2⟩ := gd_true (show gd (Nat.beq sz 1) (f (llen l) (avs l)) = true from e)
    have h1 : sz = 1 := Nat.eq_of_beq_eq_true h1
    subst h1
    refine ⟨_, _, h2, by rw [avs_map, List.length_map, llen_eq, Nat.mul_one], fun ρ w x' hr q => ?_⟩
    obtain ⟨bs, rfl, rfl⟩ := VR_s q
    rw [← toB_size]
    refine ⟨byteCells bs, ⟨hk, fun _ => rfl, firstCells_string bs w, firstCells_string bs w.drew, by rw [byteCells_length, Nat.mul_one], fun u hu => ?_⟩, avs_VRs bs⟩
    obtain ⟨_, _, rfl⟩ := List.mem_map.1 hu
    rfl
/-- A row grown: a new block out of old and new cells. -/
theorem grown_blk {ρ : Ren} {d : Nat} {t : Dt AV d} {xs : List AV} {olds news zs : List Value} {q sz w2 X B : Nat} {elem : TypeId} {k : Nat} (hw : w2 = k + xs.length) (h8 : w2 ≤ 8 ^ d) (ho : olds.length = k)
    (hold : ∀ i, i < k → ∃ v, olds[i]? = some v ∧ VR ρ (get d i t) v) (hnew : VRs ρ xs news) (hX : X * sz = zs.length) :
    BlkR ρ (.c d (putl d xs k t) w2 sz) ⟨B, 0, X⟩ (.cells ((olds ++ news).toArray ++ zs.toArray) elem (0, 0)) := by
  have hn := hnew.length
  refine ⟨h8, _, _, _, rfl, by simp; omega, fun i hi => ?_, fun i _ => by simp⟩
  simp only [Nat.zero_add]
  rw [putl_get xs k t i (by omega) (by omega)]
  have e0 : ((olds ++ news).toArray ++ zs.toArray)[i]? = (olds ++ news)[i]? := by
    rw [Array.getElem?_append_left (by simp; omega)]; simp
  rw [e0]
  by_cases hc : k ≤ i ∧ i < k + xs.length
  · rw [if_pos hc, List.getElem?_append_right (by omega), ho]
    have hx : xs[i - k]? = some (xs.getD (i - k) .un) := by
      rw [List.getD_eq_getElem?_getD, List.getElem?_eq_getElem (show i - k < xs.length by omega)]; rfl
    exact hnew.at _ _ hx
  · rw [if_neg hc, List.getElem?_append_left (by omega)]
    exact hold i (by omega)
theorem zeroCells_len (z : Array Value) (n : Nat) : (Builtin.zeroCells z n).size = n * z.size := by simp [Builtin.zeroCells]
theorem grownCap_ge (w : World) (need old : Nat) (e : TypeId) : need ≤ grownCap w need old e := Nat.le_add_right _ _
theorem Ext.drop {ρ : Ren} {ht : Ht} {nx b : Nat} {w : World} {l : Loc} (hb5 : b < 8 ^ 5) (hb : ρ b = some l) : Ext ρ (.mk ht nx) w ρ (.mk (put 5 b .no ht) nx) w where
  sub := .refl ρ
  own := fun B h => by
    obtain ⟨b1, l1, h1, h2, h3⟩ := h
    rw [H.at_put hb5 .no b1] at h2
    by_cases e : b1 = b
    · rw [if_pos e] at h2; exact absurd rfl h2
    · rw [if_neg e] at h2; exact .inl ⟨b1, l1, h1, h2, h3⟩
  keep := fun _ _ _ => rfl
  below := .refl 0 w
  ghost := fun b' _ hn => ⟨hn, by rw [H.at_put hb5 .no b', if_neg (by rintro rfl; rw [hb] at hn; cases hn)]⟩
  nx := Nat.le_refl _
/-- A block under another number. -/
theorem HR.move {ρ : Ren} {ht : Ht} {nx b : Nat} {w w' : World} {l l' : Loc} {k : Blk} {o' : Obj} (a : HR ρ (.mk ht nx) w) (hb5 : b < 8 ^ 5) (hn5 : nx < 8 ^ 5) (hb : ρ b = some l) (hk : (H.mk ht nx).at b ≠ .no) (hl : l'.B = l.B)
    (hw : ∀ B, w'.heap[B]? = if B = l.B then some o' else w.heap[B]?) (hr : BlkR (upd ρ nx l') k l' o') (hw2 : Below 0 w w') :
    HR (upd ρ nx l') (.mk (put 5 nx k (put 5 b .no ht)) (nx + 1)) w' ∧ Ext ρ (.mk ht nx) w (upd ρ nx l') (.mk (put 5 nx k (put 5 b .no ht)) (nx + 1)) w' := by
  have hf := a.fresh
  have hbn : b < nx := a.dom b l hb
  have hat : ∀ b', (H.mk (put 5 nx k (put 5 b .no ht)) (nx + 1)).at b' = if b' = nx then k else if b' = b then .no else (H.mk ht nx).at b' := fun b' => by
    rw [H.at_put hn5 k b']
    by_cases e : b' = nx
    · rw [if_pos e, if_pos e]
    · rw [if_neg e, if_neg e]; exact H.at_put (nx := nx) (nx' := nx) hb5 .no b'
  have old : ∀ b' l1, b' ≠ nx → upd ρ nx l' b' = some l1 → ρ b' = some l1 := fun b' l1 e h => by simpa [upd, e] using h
  refine ⟨⟨fun b' l1 h => ?_, fun b' l1 h1 h2 => ?_, fun b1 b2 l1 l2 h1 h2 h3 h4 q => ?_, fun b' hb' => ?_⟩, ⟨Sub.upd hf, fun B h => ?_, fun B hB hn => ?_, hw2, fun b' hb' hn => ?_, ?_⟩⟩
  · show b' < nx + 1
    by_cases e : b' = nx
    · omega
    · have : b' < nx := a.dom b' l1 (old b' l1 e h); omega
  · rw [hat] at h2 ⊢
    by_cases e : b' = nx
    · rw [if_pos e]
      subst e
      rw [upd_at] at h1; cases h1
      exact ⟨o', by rw [hw, if_pos hl], hr⟩
    · rw [if_neg e] at h2 ⊢
      by_cases e2 : b' = b
      · rw [if_pos e2] at h2; exact absurd rfl h2
      · rw [if_neg e2] at h2 ⊢
        have h1' := old b' l1 e h1
        obtain ⟨o, g1, g2⟩ := a.blk b' l1 h1' h2
        exact ⟨o, by rw [hw, if_neg (fun q => e2 (a.inj b' b l1 l h1' hb h2 hk q))]; exact g1, g2.mono (Sub.upd hf)⟩
  · rw [hat] at h3 h4
    by_cases e1 : b1 = nx <;> by_cases e2 : b2 = nx
    · rw [e1, e2]
    · exfalso
      rw [if_neg e2] at h4
      by_cases e3 : b2 = b
      · rw [if_pos e3] at h4; exact absurd rfl h4
      · rw [if_neg e3] at h4
        subst e1
        rw [upd_at] at h1; cases h1
        exact e3 (a.inj b2 b l2 l (old b2 l2 e2 h2) hb h4 hk (by omega))
    · exfalso
      rw [if_neg e1] at h3
      by_cases e3 : b1 = b
      · rw [if_pos e3] at h3; exact absurd rfl h3
      · rw [if_neg e3] at h3
        subst e2
        rw [upd_at] at h2; cases h2
        exact e3 (a.inj b1 b l1 l (old b1 l1 e1 h1) hb h3 hk (by omega))
    · rw [if_neg e1] at h3
      rw [if_neg e2] at h4
      by_cases e3 : b1 = b
      · rw [if_pos e3] at h3; exact absurd rfl h3
      · by_cases e4 : b2 = b
        · rw [if_pos e4] at h4; exact absurd rfl h4
        · rw [if_neg e3] at h3
          rw [if_neg e4] at h4
          exact a.inj b1 b2 l1 l2 (old b1 l1 e1 h1) (old b2 l2 e2 h2) h3 h4 q
  · have hb' : nx + 1 ≤ b' := hb'
    rw [hat, if_neg (by omega), if_neg (by omega)]
    exact a.cl b' (by show nx ≤ b'; omega)
  · obtain ⟨b1, l1, h1, h2, h3⟩ := h
    rw [hat] at h2
    refine .inl ?_
    by_cases e1 : b1 = nx
    · subst e1
      rw [upd_at] at h1; cases h1
      exact ⟨b, l, hb, hk, by omega⟩
    · rw [if_neg e1] at h2
      by_cases e3 : b1 = b
      · rw [if_pos e3] at h2; exact absurd rfl h2
      · rw [if_neg e3] at h2
        exact ⟨b1, l1, old b1 l1 e1 h1, h2, h3⟩
  · rw [hw, if_neg (fun e => hn ⟨b, l, hb, hk, e.symm⟩)]
  · have hb' : b' < nx := hb'
    refine ⟨by simp only [upd]; rw [if_neg (by omega)]; exact hn, ?_⟩
    rw [hat, if_neg (by omega), if_neg (by rintro rfl; rw [hb] at hn; cases hn)]
  · show nx ≤ nx + 1; omega
/-- The run of append, out of the builtin's. -/
theorem run_app {P : Program} {o : Oper} {ty tx : TypeId} {x y : Operand} (ho : o.op = .call { callee := .builtin .append, args := #[x, y], argTypes := #[ty, tx] }) {a : Act} {w w' : World} {v : Value}
    (h : (Builtin.append_ #[ty, tx] o.type #[a.eval x, a.eval y]).run P w = .ok v w') : (execOp a.eval o).run P w = .ok (.value v) w' := by
  simp [execOp, ho, resolve, invoke, builtin, h]
theorem new_true {h : H} {k : Blk} {f : Nat → H → R} (e : Ev.new h k f = true) : h.nx < 8 ^ 5 ∧ f h.nx (.mk (put 5 h.nx k h.t) (h.nx + 1)) = true := by
  cases h with
  | mk ht nx =>
    obtain ⟨h1, e⟩ := pcc_run (show (pcc Blk 5 nx).run k (fun ht => fc (fun m => f nx (.mk ht m)) (Nat.add nx 1)) ht = true from e)
    exact ⟨h1, e⟩
theorem appB_true {sz : Nat} {h : H} {b o n c m : Nat} {l : List AV} {f : AV → H → R} (e : appB sz h b o n c m l f = true) :
    (n + m ≤ c ∧ sts h b (o + n * sz) l (fun h => f (.sl b o (n + m) c) h) = true) ∨
    (c < n + m ∧ o = 0 ∧ n + m < 4194304 ∧ n ≤ c ∧ ∃ d tr d' tr', h.at b = .c d tr (c * sz) sz ∧ h.nx < 8 ^ 5 ∧ (n + m) * sz ≤ 8 ^ d' ∧ (l = [] ∨ n * sz + l.length ≤ 8 ^ d') ∧ (∀ i, i < 8 ^ d → get d' i tr' = get d i tr) ∧
      f (.sl h.nx 0 (n + m) (n + m)) (.mk (put 5 h.nx (.c d' (putl d' l (n * sz) tr') ((n + m) * sz) sz) (put 5 b .no h.t)) (h.nx + 1)) = true) := by
  cases hq : Nat.ble (n + m) c with
  | true =>
    refine .inl ⟨Nat.le_of_ble_eq_true hq, ?_⟩
    have : appB sz h b o n c m l f = (Bool.rec (motive := fun _ => R) _ (sts h b (o + n * sz) l (fun h => f (.sl b o (n + m) c) h)) (Nat.ble (n + m) c) : R) := rfl
    rw [this, hq] at e
    exact e
  | false =>
    cases h with
    | mk ht nx =>
      have e2 : (acc Blk 5 b).run (onC (fun d tr w z => gd (Nat.beq z sz) (gd (Nat.beq w (Nat.mul c sz)) (gd (Nat.beq o 0) (gd (Nat.blt (n + m) 4194304) (gd (Nat.ble n c)
        (deep ((n + m) * sz) (fun d tr => wrl d l (Nat.mul n sz) tr (fun tr => (pcc Blk 5 b).run .no (fun ht => (pcc Blk 5 nx).run (.c d tr ((n + m) * sz) sz) (fun ht => fc (fun m' => f (.sl nx 0 (n + m) (n + m)) (.mk ht m')) (Nat.add nx 1)) ht) ht)) 7 d tr))))))) ht = true := by
        have : appB sz (.mk ht nx) b o n c m l f = (Bool.rec (motive := fun _ => R) ((acc Blk 5 b).run (onC (fun d tr w z => gd (Nat.beq z sz) (gd (Nat.beq w (Nat.mul c sz)) (gd (Nat.beq o 0) (gd (Nat.blt (n + m) 4194304) (gd (Nat.ble n c)
          (deep ((n + m) * sz) (fun d tr => wrl d l (Nat.mul n sz) tr (fun tr => (pcc Blk 5 b).run .no (fun ht => (pcc Blk 5 nx).run (.c d tr ((n + m) * sz) sz) (fun ht => fc (fun m' => f (.sl nx 0 (n + m) (n + m)) (.mk ht m')) (Nat.add nx 1)) ht) ht)) 7 d tr))))))) ht) _ (Nat.ble (n + m) c) : R) := rfl
        rw [this, hq] at e
        exact e
      obtain ⟨hb, e3⟩ := acc_run e2
      obtain ⟨d, tr, w, z, hk, e4⟩ := onC_true e3
      obtain ⟨g1, e5⟩ := gd_true e4
      obtain ⟨g2, e6⟩ := gd_true e5
      obtain ⟨g3, e7⟩ := gd_true e6
      obtain ⟨g4, e8⟩ := gd_true e7
      obtain ⟨g5, e9⟩ := gd_true e8
      obtain ⟨d', tr', k1, _, k2, k3⟩ := deep_true e9
      obtain ⟨k4, k5⟩ := wrl_true k2
      obtain ⟨k6, k7⟩ := pcc_run k5
      obtain ⟨k8, k9⟩ := pcc_run k7
      have g1 : z = sz := Nat.eq_of_beq_eq_true g1
      have g2 : w = c * sz := Nat.eq_of_beq_eq_true g2
      have g3 : o = 0 := Nat.eq_of_beq_eq_true g3
      subst g1; subst g2; subst g3
      refine .inr ⟨?_, rfl, by simpa [Nat.blt_eq] using g4, Nat.le_of_ble_eq_true g5, d, tr, d', tr', H.at_of hb hk, k8, k1, k4, k3, k9⟩
      exact Nat.lt_of_not_le fun hle => by rw [Nat.ble_eq_true_of_le hle] at hq; cases hq
theorem opAppend_ok {P : Program} {o : Oper} {ty tx : TypeId} {x y : Operand} (ho : o.op = .call { callee := .builtin .append, args := #[x, y], argTypes := #[ty, tx] }) {cH : CH} {t : T} {h : H} {F : AV → H → R} (e : (opAppend P ty tx x y).run cH t h F = true) : Goes P o t h F := by
  unfold opAppend at e
  split at e
  case h_2 => exact (Bool.false_ne_true e).elim
  rename_i el hu
  split at e
  case h_2 => exact (Bool.false_ne_true e).elim
  rename_i sz hs
  split at e
  case isFalse => exact (Bool.false_ne_true e).elim
  rename_i hap
  obtain ⟨hk, i, zv, hi, hz, hzs, hby⟩ := appOk_true hap
  have hsi : i.size = sz := by simpa [szOf, hi] using hs
  have e00 := gt_run e
  have e01 := gt_run e00
  obtain ⟨m, l, e1, hll, hsrc⟩ := srcOf_true hk (show srcOf sz h (gv t y) _ = true from e01)
  intro ρ a w hr q Q
  have q1 := q x (by rw [ho]; simp [Op.operands, Call.operands])
  have q2 := q y (by rw [ho]; simp [Op.operands, Call.operands])
  obtain ⟨news, hS, hnew⟩ := hsrc ρ w _ hr q2
  rw [← hsi] at hS
  have hr' : HR ρ (.mk h.t h.nx) w := by rw [H.eta]; exact hr
  have hnl : news.length = m * sz := by rw [hnew.length, hll]
  cases hx : gv t x <;> rw [hx] at e1 <;> try exact (Bool.false_ne_true e1).elim
  case sl0 =>
    rw [hx] at q1
    simp only [VR] at q1
    cases m with
    | zero =>
      have e1 : F .sl0 h = true := e1
      have hnil : news = [] := List.eq_nil_of_length_eq_zero (by simpa using hnl)
      subst hnil
      refine wp_value (run_app ho (w' := w) (v := .slice none 0 0) ?_) ⟨.slice none 0 0, rfl, _, _, ρ, e1, hr, Ext.refl _ _ _, by simp only [VR]⟩
      rw [q1]
      exact run_append_nothing w ty tx o.type el i hu hi none 0 0 (Nat.le_refl _) _ hS
    | succ m' =>
      obtain ⟨g1, e2⟩ := gd_true (show gd (Nat.blt (m' + 1) 4194304) (mkBlk sz l (fun k => Ev.new h k (fun nx h => F (.sl nx 0 (m' + 1) (m' + 1)) h))) = true from e1)
      have g1 : m' + 1 < 4194304 := by simpa [Nat.blt_eq] using g1
      obtain ⟨k, e3, d, tr, rfl, k1, k2⟩ := mkBlk_true e2
      obtain ⟨hn5, e4⟩ := new_true e3
      have hgc := grownCap_ge w (0 + (m' + 1)) 0 el
      have hrun := run_append_grow_src (P := P) w ty tx o.type el i zv hu hi hz none 0 0 [] (run_firstCells_none w.drew i.size 0 0 0) (a.eval y) (m' + 1) news hS (by omega) (by omega) (by
        have h1 := nextslicecap_le (need := 0 + (m' + 1)) (old := 0) (by omega)
        calc Builtin.nextslicecap (0 + (m' + 1)) 0 * i.bytes ≤ (2 * (0 + (m' + 1))) * 16777216 := Nat.mul_le_mul h1 hby
          _ ≤ 281474976710656 := by omega)
      have hnf : ρ h.nx = none := hr'.fresh
      have hblk := grown_blk (ρ := upd ρ h.nx ⟨w.heap.size, 0, grownCap w (0 + (m' + 1)) 0 el - (0 + (m' + 1))⟩) (d := d) (t := tr) (xs := []) (olds := news) (news := []) (zs := (Builtin.zeroCells zv.cells (grownCap w (0 + (m' + 1)) 0 el - (0 + (m' + 1)))).toList) (q := 0) (sz := sz) (w2 := l.length) (X := grownCap w (0 + (m' + 1)) 0 el - (0 + (m' + 1))) (B := w.heap.size) (elem := el) (k := l.length) (by simp) k1 (by rw [hnl, hll])
        (fun i hi => by
          obtain ⟨v, hv, hrv⟩ := (VRs.mono (Sub.upd hnf) _ _ hnew).at i _ (List.getElem?_eq_getElem hi)
          exact ⟨v, hv, by rw [k2 i _ (List.getElem?_eq_getElem hi)]; exact hrv⟩) (by simp only [VRs]) (by rw [Array.length_toList, zeroCells_len, hzs, hsi])
      have hcells : ((([] : List Value) ++ news).toArray ++ Builtin.zeroCells zv.cells (grownCap w (0 + (m' + 1)) 0 el - (0 + (m' + 1)))) = ((news ++ []).toArray ++ (Builtin.zeroCells zv.cells (grownCap w (0 + (m' + 1)) 0 el - (0 + (m' + 1)))).toList.toArray) := by simp
      rw [hcells] at hrun
      have hw : (w.drew.alloc (.cells ((news ++ []).toArray ++ (Builtin.zeroCells zv.cells (grownCap w (0 + (m' + 1)) 0 el - (0 + (m' + 1)))).toList.toArray) el)).heap = w.heap.push (.cells ((news ++ []).toArray ++ (Builtin.zeroCells zv.cells (grownCap w (0 + (m' + 1)) 0 el - (0 + (m' + 1)))).toList.toArray) el) := rfl
      have hb0 : Below 0 w (w.drew.alloc (.cells ((news ++ []).toArray ++ (Builtin.zeroCells zv.cells (grownCap w (0 + (m' + 1)) 0 el - (0 + (m' + 1)))).toList.toArray) el)) := ((Below.refl 0 w).drew).alloc (Nat.zero_le _) _
      refine wp_value (run_app ho (by rw [q1]; exact hrun)) ⟨_, rfl, _, _, _, e4, hr'.new hn5 rfl hw hblk, by have := Ext.new hr' hn5 (l := ⟨w.heap.size, 0, grownCap w (0 + (m' + 1)) 0 el - (0 + (m' + 1))⟩) (k := .c d tr l.length sz) rfl hw hb0; rw [H.eta] at this; exact this, ?_⟩
      simp only [VR]
      exact ⟨⟨w.heap.size, 0, grownCap w (0 + (m' + 1)) 0 el - (0 + (m' + 1))⟩, ⟨w.heap.size, 0, none⟩, grownCap w (0 + (m' + 1)) 0 el, upd_at _ _ _, by rw [Nat.zero_add], by omega, .inr (by show grownCap w (0 + (m' + 1)) 0 el = m' + 1 + (grownCap w (0 + (m' + 1)) 0 el - (0 + (m' + 1))); omega), .inl rfl⟩
  case sl b off n c =>
    rw [hx] at q1
    obtain ⟨lc, ad, c', hb, ex, hnc, hcc, had⟩ := VR_sl q1
    rcases appB_true (show appB sz h b off n c m l F = true from e1) with ⟨hle, e2⟩ | ⟨hlt, rfl, hq, hnle, d, tr, d', tr', hat, hn5, h8, hl8, hsame, hF⟩
    · -- in place
      obtain ⟨d, tr, w2, z, hat, hlw, hF⟩ := sts_true e2
      obtain ⟨g1, g2⟩ := hr'.store (H.at_lt hat (by simp)) hb hat hlw hnew
      rw [H.eta] at g2
      by_cases h0 : c' = 0
      · have hm0 : m = 0 := by omega
        subst hm0
        have hnil : news = [] := List.eq_nil_of_length_eq_zero (by simpa using hnl)
        subst hnil
        refine wp_value (run_app ho (w' := w) (v := .slice (some ad) n c') ?_) ⟨_, rfl, _, _, ρ, hF, g1, g2, ?_⟩
        · rw [ex]; exact run_append_nothing w ty tx o.type el i hu hi (some ad) n c' hnc _ hS
        · rw [Nat.add_zero]; simp only [VR]; exact ⟨lc, ad, c', hb, rfl, hnc, hcc, had⟩
      · have had := had.resolve_right h0
        have hcell : ∀ j, j < news.length → ∃ v, w.cell? ⟨lc.B, lc.O + off + n * i.size + j, none⟩ = some v ∧ w.frozen? ⟨lc.B, lc.O + off + n * i.size + j, none⟩ = false := fun j hj => by
          obtain ⟨v, k1, _, k2⟩ := cell_at hr.blk hb hat (o := off + n * sz + j) (by rw [hnl] at hj; rw [hll] at hlw; omega)
          rw [hsi, show lc.O + off + n * sz + j = lc.O + (off + n * sz + j) by omega]
          exact ⟨v, k1, k2⟩
        have hrun := run_append_room_src (P := P) w ty tx o.type el i hu hi lc.B (lc.O + off) n c' (a.eval y) m news hS (by omega) (fun j hj => by obtain ⟨v, k1, _⟩ := hcell j hj; rw [k1]; rfl) (fun j hj => (hcell j hj).choose_spec.2)
        refine wp_value (run_app ho (by rw [ex, had]; exact hrun)) ⟨_, rfl, _, _, ρ, hF, ?_, ?_, ?_⟩
        · rw [hsi, Nat.add_assoc]; exact g1
        · rw [hsi, Nat.add_assoc]; exact g2
        · simp only [VR]; exact ⟨lc, _, c', hb, rfl, by omega, hcc, .inl rfl⟩
    · have hqs : (n + m) * sz = n * sz + m * sz := Nat.add_mul _ _ _
      have hncs : n * sz ≤ c * sz := Nat.mul_le_mul_right _ hnle
      have hnf : ρ h.nx = none := hr'.fresh
      have hb5 : b < 8 ^ 5 := H.at_lt hat (by simp)
      have hne : (H.mk h.t h.nx).at b ≠ .no := by rw [H.eta, hat]; simp
      obtain ⟨ob, hob, hbr⟩ := hr.blk b lc hb (by rw [hat]; simp)
      rw [hat] at hbr
      obtain ⟨b0, cs, elem, fz, rfl, b1, b2, b3⟩ := hbr
      by_cases hroom : n + m ≤ c'
      · -- room that was not known
        have hc' : c' = c + lc.X := by omega
        have had := had.resolve_right (by omega)
        have hcx : (c + lc.X) * sz = c * sz + lc.X * sz := Nat.add_mul _ _ _
        have hqc : (n + m) * sz ≤ (c + lc.X) * sz := Nat.mul_le_mul_right _ (by omega)
        have hcell : ∀ j, j < news.length → (w.cell? ⟨lc.B, lc.O + 0 + n * i.size + j, none⟩).isSome = true ∧ w.frozen? ⟨lc.B, lc.O + 0 + n * i.size + j, none⟩ = false := fun j hj => by
          rw [hsi]
          have hlt2 : n * sz + j < c * sz + lc.X * sz := by omega
          constructor
          · have : lc.O + 0 + n * sz + j < cs.size := by omega
            rw [show (w.cell? ⟨lc.B, lc.O + 0 + n * sz + j, none⟩) = cs[lc.O + 0 + n * sz + j]? by simp [World.cell?, hob]]
            rw [Array.getElem?_eq_getElem this]; rfl
          · have := b3 (n * sz + j) hlt2
            simp only [World.frozen?, hob]
            rw [show lc.O + 0 + n * sz + j = lc.O + (n * sz + j) by omega]
            simpa using this
        have hrun := run_append_room_src (P := P) w ty tx o.type el i hu hi lc.B (lc.O + 0) n c' (a.eval y) m news hS hroom (fun j hj => (hcell j hj).1) (fun j hj => (hcell j hj).2)
        obtain ⟨cs', c1, c2, c3⟩ := setCells_heap lc.B news (lc.O + 0 + n * i.size) w cs hob (by rw [hsi, hnl]; omega)
        have hbk : BlkR (upd ρ h.nx ⟨lc.B, lc.O, c + lc.X - (n + m)⟩) (.c d' (putl d' l (n * sz) tr') ((n + m) * sz) sz) ⟨lc.B, lc.O, c + lc.X - (n + m)⟩ (.cells cs' elem fz) := by
          have hsub : (n + m) * sz + (c + lc.X - (n + m)) * sz = (c + lc.X) * sz := by rw [← Nat.add_mul]; congr 1; omega
          refine ⟨h8, cs', elem, fz, rfl, by show lc.O + (n + m) * sz + (c + lc.X - (n + m)) * sz ≤ cs'.size; rw [c1]; omega, fun j hj => ?_, fun j hj => b3 j (by have hj : j < (n + m) * sz + (c + lc.X - (n + m)) * sz := hj; omega)⟩
          show ∃ v, cs'[lc.O + j]? = some v ∧ _
          rw [putl_get l (n * sz) tr' j (by rw [hll]; omega) (by omega), c3, hsi]
          by_cases hin : n * sz ≤ j ∧ j < n * sz + l.length
          · rw [if_pos hin, if_pos (by rw [hnl]; rw [hll] at hin; omega)]
            have hxl : l[j - n * sz]? = some (l.getD (j - n * sz) .un) := by
              rw [List.getD_eq_getElem?_getD, List.getElem?_eq_getElem (show j - n * sz < l.length by omega)]; rfl
            obtain ⟨v, hv, hrv⟩ := (VRs.mono (Sub.upd (l := ⟨lc.B, lc.O, c + lc.X - (n + m)⟩) hnf) _ _ hnew).at _ _ hxl
            exact ⟨v, by rw [← hv]; congr 1; omega, hrv⟩
          · have hjn : j < n * sz := by rw [hll] at hin; omega
            rw [if_neg hin, if_neg (by rw [hnl]; omega), hsame j (by omega)]
            obtain ⟨v, hv, hrv⟩ := b2 j (by omega)
            exact ⟨v, hv, VR.mono (Sub.upd hnf) _ _ hrv⟩
        obtain ⟨g1, g2⟩ := hr'.move (l' := ⟨lc.B, lc.O, c + lc.X - (n + m)⟩) hb5 hn5 hb hne rfl c2 hbk (setCells_below _ _ _ _)
        rw [H.eta] at g2
        refine wp_value (run_app ho (by rw [ex, had]; exact hrun)) ⟨_, rfl, _, _, _, hF, g1, g2, ?_⟩
        simp only [VR]
        exact ⟨⟨lc.B, lc.O, c + lc.X - (n + m)⟩, _, c', upd_at _ _ _, rfl, hroom, .inr (by show c' = n + m + (c + lc.X - (n + m)); omega), .inl rfl⟩
      · -- a new row
        obtain ⟨olds, o1, o2, o3⟩ := cells_at hr.blk hb hat (n * sz) 0 (by omega)
        have o3' : ∀ (j : Nat) (u : Value), olds[j]? = some u → w.drew.cell? (ad.add j) = some u := by
          rcases had with rfl | h0
          · intro j u hj; simpa using o3 j u hj
          · intro j u hj
            have : n = 0 := by omega
            subst this
            simp at o1
            subst o1
            simp at hj
        have hold := run_firstCells_some (P := P) w.drew i.size n ad n c' olds (by rw [hsi]; exact o1) o3'
        have hgc := grownCap_ge w (n + m) c' el
        have hrun := run_append_grow_src (P := P) w ty tx o.type el i zv hu hi hz (some ad) n c' olds hold (a.eval y) m news hS (by omega) (by omega) (by
          have h1 := nextslicecap_le (need := n + m) (old := c') (by omega)
          calc Builtin.nextslicecap (n + m) c' * i.bytes ≤ (2 * (n + m)) * 16777216 := Nat.mul_le_mul h1 hby
            _ ≤ 281474976710656 := by omega)
        have hblk := grown_blk (ρ := upd ρ h.nx ⟨w.heap.size, 0, grownCap w (n + m) c' el - (n + m)⟩) (d := d') (t := tr') (xs := l) (olds := olds) (news := news) (zs := (Builtin.zeroCells zv.cells (grownCap w (n + m) c' el - (n + m))).toList) (q := 0) (sz := sz) (w2 := (n + m) * sz) (X := grownCap w (n + m) c' el - (n + m)) (B := w.heap.size) (elem := el) (k := n * sz) (by rw [hll]; exact hqs) h8 o1
          (fun j hj => by
            have hxl : (rlist d tr 0 (n * sz))[j]? = some (get d j tr) := by
              have : ∀ (k o : Nat) (j : Nat), j < k → (rlist d tr o k)[j]? = some (get d (o + j) tr) := by
                intro k
                induction k with
                | zero => intro o j hj; omega
                | succ k ih =>
                  intro o j hj
                  cases j with
                  | zero => rfl
                  | succ j =>
                    show (rlist d tr (o + 1) k)[j]? = _
                    rw [ih (o + 1) j (by omega)]; congr 2; omega
              have := this (n * sz) 0 j hj
              rwa [Nat.zero_add] at this
            obtain ⟨v, hv, hrv⟩ := (VRs.mono (Sub.upd (l := ⟨w.heap.size, 0, grownCap w (n + m) c' el - (n + m)⟩) hnf) _ _ o2).at _ _ hxl
            exact ⟨v, hv, by rw [hsame j (by omega)]; exact hrv⟩) (VRs.mono (Sub.upd hnf) _ _ hnew) (by rw [Array.length_toList, zeroCells_len, hzs, hsi])
        have hcells : ((olds ++ news).toArray ++ Builtin.zeroCells zv.cells (grownCap w (n + m) c' el - (n + m))) = ((olds ++ news).toArray ++ (Builtin.zeroCells zv.cells (grownCap w (n + m) c' el - (n + m))).toList.toArray) := by simp
        rw [hcells] at hrun
        have hb0 : Below 0 w (w.drew.alloc (.cells ((olds ++ news).toArray ++ (Builtin.zeroCells zv.cells (grownCap w (n + m) c' el - (n + m))).toList.toArray) el)) := ((Below.refl 0 w).drew).alloc (Nat.zero_le _) _
        have hd := hr'.drop hb5
        have hE := (Ext.drop (w := w) (ht := h.t) (nx := h.nx) hb5 hb).trans (Ext.new hd hn5 (l := ⟨w.heap.size, 0, grownCap w (n + m) c' el - (n + m)⟩) (k := .c d' (putl d' l (n * sz) tr') ((n + m) * sz) sz) rfl rfl hb0)
        rw [H.eta] at hE
        refine wp_value (run_app ho (by rw [ex]; exact hrun)) ⟨_, rfl, _, _, _, hF, hd.new hn5 rfl rfl hblk, hE, ?_⟩
        simp only [VR]
        exact ⟨⟨w.heap.size, 0, grownCap w (n + m) c' el - (n + m)⟩, ⟨w.heap.size, 0, none⟩, grownCap w (n + m) c' el, upd_at _ _ _, rfl, hgc, .inr (by show grownCap w (n + m) c' el = n + m + (grownCap w (n + m) c' el - (n + m)); omega), .inl rfl⟩
end
end Go.Proofs.YtlpffldeogapmaaGreatDoor.Ev
