/- The evaluator's drawn regions, against the model's: any order. Own text. No condition of a claim. -/
import Derived.Test.YtbpdomemnecioaaGreatDoorEvQ
namespace Go.Proofs.YtbpdomemnecioaaGreatDoor.Ev
open Go Go.MapKept Go.RowKit
set_option linter.unusedVariables false
set_option linter.unusedSimpArgs false
noncomputable section

/-! ### What is asked of a plan, by the text alone -/
def dn (d : Option Nat) (l : List Nat) : Bool := match d with | some d => !l.contains d | none => true
def dd (x y : Option Nat) : Bool := match x with | some d => y != some d | none => true
theorem dn_spec {d : Option Nat} {l : List Nat} (h : dn d l = true) : ∀ n, d = some n → n ∉ l := fun n hn => by subst hn; simpa [dn] using h
theorem dd_spec {x y : Option Nat} (h : dd x y = true) : ∀ n, x = some n → y ≠ some n := fun n hn => by subst hn; simpa [dd] using h
/-- Each operation's forerunners, as bits. -/
def ancM (l : List Oper) : List Nat :=
  List.foldl (fun acc (o : Oper) => acc ++ [List.foldl (fun m (e : Edge) => Bool.rec (motive := fun _ => Nat) m (Nat.lor m (Nat.lor (Nat.shiftLeft 1 e.on) (acc.getD e.on 0))) (Region.binds .any e)) 0 o.after.toList]) [] l
def anc (A : List Nat) (j i : Nat) : Bool := Nat.testBit (A.getD i 0) j
def ancOk (ops : Array Oper) (A : List Nat) : Bool :=
  (List.range ops.size).all fun i => match ops[i]? with
    | none => false
    | some o => (o.after.toList.all fun e => !Region.binds .any e || decide (e.on < i)) &&
      Nat.blt (A.getD i 0) (2 ^ ops.size) &&
      ((List.range ops.size).all fun j => !anc A j i || (o.after.toList.any fun e => Region.binds .any e && (e.on == j || anc A j e.on)))
def pre (ops : Array Oper) (D : List Nat) (k : Nat) : Bool :=
  match ops[k]? with
  | some o => o.after.toList.all fun e => !Region.binds .any e || D.contains e.on
  | none => false
def evOk (P : Program) (ops : Array Oper) (A : List Nat) (V : List Nat) (i : Nat) : Bool :=
  match ops[i]? with
  | none => false
  | some oi => !isE P oi && dn oi.dst (oi.looksAt ops) && V.all fun j => match ops[j]? with
    | none => false
    | some oj => dn oi.dst (oj.looksAt ops) && dd oi.dst oj.dst && (anc A j i || dn oj.dst (oi.looksAt ops))
def efOk (P : Program) (ops : Array Oper) (A : List Nat) (D V rs : List Nat) (e : Nat) : Bool :=
  match ops[e]? with
  | none => false
  | some oe => isE P oe && ((List.range ops.size).all fun k => k == e || D.contains k || !pre ops D k) && V.all fun j => match ops[j]? with
    | none => false
    | some oj => anc A j e || (dn oe.dst (oj.looksAt ops) && dd oe.dst oj.dst && dn oj.dst (oe.looksAt ops) && (!isRd oj || rs.contains j))
def planOk (P : Program) (ops : Array Oper) (A : List Nat) : List Pl → List Nat → List Nat → Bool
  | [], D, _ => (List.range ops.size).all D.contains
  | .ev i :: p, D, V => !D.contains i && evOk P ops A V i && planOk P ops A p (i :: D) (i :: V)
  | .ef e rs :: p, D, V => !D.contains e && efOk P ops A D V rs e && planOk P ops A p (e :: D) V

theorem anc_listed {ops : Array Oper} {A : List Nat} (hA : ancOk ops A = true) {lst : Array Bool}
    (clo : ∀ i o, ops[i]? = some o → lst.getD i false = true → ∀ e ∈ o.after, Region.binds .any e = true → lst.getD e.on false = true) :
    ∀ (n i : Nat) o, i < n → ops[i]? = some o → (∀ e ∈ o.after, Region.binds .any e = true → lst.getD e.on false = true) → ∀ j, j < ops.size → anc A j i = true → lst.getD j false = true
  | 0, i, o, hi, _, _, _, _, _ => absurd hi (Nat.not_lt_zero i)
  | n + 1, i, o, hi, ho, hp, j, hjs, hj => by
    have hlt : i < ops.size := (Array.getElem?_eq_some_iff.1 ho).1
    have h1 := List.all_eq_true.1 hA i (List.mem_range.2 hlt)
    simp only [ho, Bool.and_eq_true] at h1
    obtain ⟨⟨h1, _⟩, h2⟩ := h1
    have h3 := List.all_eq_true.1 h2 j (List.mem_range.2 hjs)
    rw [hj] at h3
    simp only [Bool.not_true, Bool.false_or] at h3
    obtain ⟨e, he, h4⟩ := List.any_eq_true.1 h3
    simp only [Bool.and_eq_true, Bool.or_eq_true, beq_iff_eq] at h4
    obtain ⟨hb, h4⟩ := h4
    have he' : e ∈ o.after := by simpa using he
    have hl := hp e he' hb
    rcases h4 with rfl | h4
    · exact hl
    · have h5 := List.all_eq_true.1 h1 e he
      rw [hb] at h5
      have h5 : e.on < i := by simpa using h5
      obtain ⟨o', ho'⟩ : ∃ o', ops[e.on]? = some o' := ⟨ops[e.on]'(by omega), Array.getElem?_eq_getElem (by omega)⟩
      exact anc_listed hA clo n e.on o' (by omega) ho' (clo e.on o' ho' hl) j hjs h4

/-! ### The state between -/
/-- An operation that the evaluator has reckoned, and the model not yet. -/
def Pend (P : Program) (ops : Array Oper) (n0 : Nat) (ρ : Ren) (t : T) (h : H) (o : Oper) (mi : Option Nat) : Prop :=
  (GdB ops o t false ∧ ∀ n, o.dst = some n → n < 8 ^ 3 ∧ get 3 n t = .tu []) ∨
  (GdB ops o t true ∧ ∃ v, (∀ n, o.dst = some n → n < 8 ^ 3 ∧ get 3 n t = v) ∧ (Sv P o t h v ∨ ∃ m k, mi = some m ∧ n0 ≤ m ∧ ρ m = none ∧ h.at m = k ∧ Sm P o t m v k))
structure Inv (P : Program) (N : Nat) (ops : Array Oper) (A : List Nat) (ρ0 : Ren) (h0 : H) (w0 : World) (D V : List Nat) (ρ : Ren) (t : T) (h : H) (a : Act) (w : World) (lst : Array Bool) : Prop where
  sz : lst.size = ops.size
  tn : a.tmps.size = N
  df : a.defers = []
  hr : HR ρ h w
  ex : Ext ρ0 h0 w0 ρ h w
  sub : ∀ i, lst.getD i false = true → i ∈ D
  clo : ∀ i o, ops[i]? = some o → lst.getD i false = true → ∀ e ∈ o.after, Region.binds .any e = true → lst.getD e.on false = true
  pv : ∀ i, i ∈ D → lst.getD i false = false → i ∈ V
  vd : ∀ i, i ∈ V → i ∈ D ∧ ∃ o, ops[i]? = some o ∧ isE P o = false
  sl : ∀ n, n < 8 ^ 3 → VR ρ (get 3 n t) (a.tmps.getD n undef) ∨ ∃ i o, i ∈ D ∧ lst.getD i false = false ∧ ops[i]? = some o ∧ o.dst = some n
  pd : ∃ mm : Nat → Option Nat, (∀ i j m, mm i = some m → mm j = some m → i = j) ∧ (∀ i m, mm i = some m → m < h.nx) ∧ ∀ i o, i ∈ D → lst.getD i false = false → ops[i]? = some o → Pend P ops h0.nx ρ t h o (mm i)
  se : ∀ i o, i ∈ V → ops[i]? = some o → ∀ n, o.dst = some n → n ∉ o.looksAt ops
  ap : ∀ i j oi oj, i ≠ j → i ∈ V → j ∈ V → ops[i]? = some oi → ops[j]? = some oj → (∀ n, oi.dst = some n → oj.dst ≠ some n) ∧ (anc A j i = true ∨ ∀ n, oj.dst = some n → n ∉ oi.looksAt ops)

theorem get_putT_ne {d : Option Nat} {v : AV} {t : T} {n : Nat} (hd : ∀ m, d = some m → m < 8 ^ 3) (hn : n < 8 ^ 3) (hne : d ≠ some n) : get 3 n (putT d v t) = get 3 n t := by
  cases d with
  | none => rfl
  | some d =>
    show get 3 n (Ev.put 3 d v t) = _
    rw [get_put 3 d n v t (hd d rfl) hn, if_neg (by rintro rfl; exact hne rfl)]
theorem get_putT_eq {v : AV} {t : T} {n : Nat} (hn : n < 8 ^ 3) : get 3 n (putT (some n) v t) = v := by
  show get 3 n (Ev.put 3 n v t) = v
  rw [get_put 3 n n v t hn hn, if_pos rfl]
theorem same_putT {ops : Array Oper} {o : Oper} {d : Option Nat} {v : AV} {t : T} (hd : ∀ m, d = some m → m < 8 ^ 3) (hl : ∀ n, d = some n → n ∉ o.looksAt ops) : Same ops o t (putT d v t) :=
  fun n hn h8 => get_putT_ne hd h8 fun e => hl n e hn
theorem getD_put_ne {a : Act} {d : Option Nat} {v : Value} {n : Nat} (hne : d ≠ some n) : (a.put d v).tmps.getD n undef = a.tmps.getD n undef := by
  cases d with
  | none => rfl
  | some d =>
    show (a.tmps.setIfInBounds d v).getD n undef = _
    rw [Array.getD_eq_getD_getElem?, Array.getElem?_setIfInBounds_ne (fun q => hne (by rw [q])), ← Array.getD_eq_getD_getElem?]
theorem getD_put_eq {a : Act} {v : Value} {n : Nat} (hn : n < a.tmps.size) : (a.put (some n) v).tmps.getD n undef = v := by
  show (a.tmps.setIfInBounds n v).getD n undef = _
  rw [Array.getD_eq_getD_getElem?, Array.getElem?_setIfInBounds_self, if_pos hn]; rfl
theorem size_put {a : Act} {d : Option Nat} {v : Value} : (a.put d v).tmps.size = a.tmps.size := by cases d <;> simp [Act.put]

/-- A ghost block: one the evaluator has made, and the model not yet. -/
theorem HR.ghost {ρ : Ren} {ht : Ht} {nx : Nat} {w : World} {k : Blk} (a : HR ρ (.mk ht nx) w) (hn : nx < 8 ^ 5) : HR ρ (.mk (put 5 nx k ht) (nx + 1)) w := by
  have hf := a.fresh
  have hat : ∀ b l, ρ b = some l → (H.mk (put 5 nx k ht) (nx + 1)).at b = (H.mk ht nx).at b := fun b l hb => by
    rw [H.at_put (nx := nx) hn k b, if_neg (by rintro rfl; rw [hf] at hb; cases hb)]
  refine ⟨fun b l hb => ?_, fun b l hb hk => ?_, fun b1 b2 l1 l2 h1 h2 h3 h4 q => ?_, fun b hb => ?_⟩
  · have : b < nx := a.dom b l hb
    show b < nx + 1; omega
  · rw [hat b l hb] at hk ⊢; exact a.blk b l hb hk
  · rw [hat b1 l1 h1] at h3; rw [hat b2 l2 h2] at h4
    exact a.inj b1 b2 l1 l2 h1 h2 h3 h4 q
  · have hb : nx + 1 ≤ b := hb
    rw [H.at_put (nx := nx) hn k b, if_neg (by omega)]
    exact a.cl b (by show nx ≤ b; omega)
theorem Ext.ghosted {ρ : Ren} {ht : Ht} {nx : Nat} {w : World} {k : Blk} (a : HR ρ (.mk ht nx) w) (hn : nx < 8 ^ 5) : Ext ρ (.mk ht nx) w ρ (.mk (put 5 nx k ht) (nx + 1)) w where
  sub := .refl ρ
  own := fun B h => by
    obtain ⟨b, l, h1, h2, h3⟩ := h
    rw [H.at_put (nx := nx) hn k b, if_neg (by rintro rfl; rw [a.fresh] at h1; cases h1)] at h2
    exact .inl ⟨b, l, h1, h2, h3⟩
  keep := fun _ _ _ => rfl
  below := .refl 0 w
  ghost := fun b hb hnn => ⟨hnn, by
    have hb : b < nx := hb
    rw [H.at_put (nx := nx) hn k b, if_neg (by omega)]⟩
  nx := by show nx ≤ nx + 1; omega
/-- The model makes it. -/
theorem HR.realize {ρ : Ren} {h : H} {w w' : World} {m : Nat} {l : Loc} {ob : Obj} (a : HR ρ h w) (hm : m < h.nx) (hf : ρ m = none) (hl : l.B = w.heap.size) (hw : w'.heap = w.heap.push ob)
    (hr : BlkR (upd ρ m l) (h.at m) l ob) : HR (upd ρ m l) h w' := by
  have hs := Sub.upd (l := l) hf
  have lt : ∀ b l', b ≠ m → upd ρ m l b = some l' → h.at b ≠ .no → l'.B < w.heap.size := fun b l' e hb hk => a.lt (b := b) (by simpa [upd, e] using hb) hk
  refine ⟨fun b l' hb => ?_, fun b l' hb hk => ?_, fun b1 b2 l1 l2 h1 h2 h3 h4 q => ?_, a.cl⟩
  · by_cases e : b = m
    · subst e; exact hm
    · exact a.dom b l' (by simpa [upd, e] using hb)
  · by_cases e : b = m
    · subst e
      rw [upd_at] at hb; cases hb
      exact ⟨ob, by simp [hw, hl], hr⟩
    · have hb' : ρ b = some l' := by simpa [upd, e] using hb
      obtain ⟨o', h1, h2⟩ := a.blk b l' hb' hk
      refine ⟨o', ?_, h2.mono hs⟩
      rw [hw, Array.getElem?_push, if_neg (by have := (Array.getElem?_eq_some_iff.1 h1).1; omega)]
      exact h1
  · by_cases e1 : b1 = m <;> by_cases e2 : b2 = m
    · rw [e1, e2]
    · exfalso
      subst e1
      rw [upd_at] at h1; cases h1
      have := lt b2 l2 e2 h2 h4
      omega
    · exfalso
      subst e2
      rw [upd_at] at h2; cases h2
      have := lt b1 l1 e1 h1 h3
      omega
    · exact a.inj b1 b2 l1 l2 (by simpa [upd, e1] using h1) (by simpa [upd, e2] using h2) h3 h4 q
theorem Ext.realize {ρ0 ρ : Ren} {h0 h : H} {w0 w w' : World} {m : Nat} {l : Loc} {ob : Obj} (a : Ext ρ0 h0 w0 ρ h w) (hm : h0.nx ≤ m) (hf : ρ m = none) (hl : l.B = w.heap.size) (hw : w'.heap = w.heap.push ob) (hw2 : Below 0 w w') :
    Ext ρ0 h0 w0 (upd ρ m l) h w' where
  sub := a.sub.trans (Sub.upd hf)
  own := fun B h1 => by
    obtain ⟨b, l', h1, h2, h3⟩ := h1
    by_cases e : b = m
    · subst e
      rw [upd_at] at h1; cases h1
      exact .inr (by have := a.below.size; omega)
    · exact a.own B ⟨b, l', by simpa [upd, e] using h1, h2, h3⟩
  keep := fun B hB hn => by
    have := a.below.size
    rw [hw, Array.getElem?_push, if_neg (by omega)]
    exact a.keep B hB hn
  below := a.below.trans hw2
  ghost := fun b hb hn => by
    obtain ⟨h1, h2⟩ := a.ghost b hb hn
    exact ⟨by simp only [upd]; rw [if_neg (by omega)]; exact h1, h2⟩
  nx := a.nx
end
end Go.Proofs.YtbpdomemnecioaaGreatDoor.Ev
