/- The evaluator's values and heap against the model's: the relation. Own text. No condition of a claim. -/
import Derived.Test.YtbpdomemnecioaaGreatDoorEvB
import Derived.Below
import Derived.Laws.BitsAllLaws
namespace Go.Proofs.YtbpdomemnecioaaGreatDoor.Ev
open Go Go.RowKit
set_option linter.unusedVariables false
set_option linter.unusedSimpArgs false
noncomputable section

/-- Where a block of the evaluator's lies: block, first cell, how many elements more there is room for than is known. -/
class Z0 (n : Nat) : Prop where
  z : n = 0
instance : Z0 0 := ⟨rfl⟩
structure Loc where
  B : Nat
  O : Nat
  X : Nat
  [h0 : Z0 O]
instance (l : Loc) : Z0 l.O := l.h0
theorem Loc.o0 (l : Loc) : l.O = 0 := l.h0.z
abbrev Ren := Nat → Option Loc

theorem md_eq (k : IntKind) : md k = 2 ^ k.bits := by cases k <;> rfl
theorem md_pos (k : IntKind) : 0 < md k := by cases k <;> decide

def bxv (x n c : Nat) : Nat := n ^^^ ((x + c) % 256)
mutual
def VR (ρ : Ren) : AV → Value → Prop
  | .un, _ => True
  | .ub, v => ∃ b, v = .bool b
  | .ui k, v => ∃ n : Int, v = .int k (k.wrap n)
  | .bx n c, v => ∃ l, ρ 0 = some l ∧ 0 < l.B ∧ l.B < 256 ∧ n < 256 ∧ v = .int .u8 (bxv l.B n c : Nat)
  | .ne k n, v => ∃ z : Int, v = .int k (k.wrap z) ∧ k.wrap z ≠ k.wrap n
  | .rg k lo n, v => ∃ z : Int, v = .int k (k.wrap z) ∧ (n = 0 ∨ (lo : Int) ≤ k.wrap z + hf k ∧ k.wrap z + hf k < lo + n)
  | .f0, v => v = .nilFunc
  | .if0, v => v = .nilIface
  | .m0, v => v = .map none
  | .p0, v => v = .pointer none
  | .sl0, v => v = .slice none 0 0
  | .f fn a c, v => ∃ a' c', v = .func fn a' c' ∧ VRs ρ a a'.toList ∧ VRs ρ c c'.toList
  | .ifc t x, v => ∃ u, v = .iface t u ∧ VR ρ x u
  | .m r, v => ∃ l, ρ r = some l ∧ v = .map (some l.B)
  | .tu l, v => ∃ vs, v = .tuple vs ∧ VRs ρ l vs.toList
  | .ag l, v => ∃ vs, v = .agg vs ∧ VRs ρ l vs.toList
  | .s l, v => ∃ bs, v = .string bs ∧ toB bs = l
  | .sl b o n c, v => ∃ l a c', ρ b = some l ∧ v = .slice (some a) n c' ∧ n ≤ c' ∧ (c' = c ∨ c' = c + l.X) ∧ (a = ⟨l.B, l.O + o, none⟩ ∨ c' = 0)
  | .p b o, v => ∃ l, ρ b = some l ∧ v = .pointer (some ⟨l.B, l.O + o, none⟩)
  | .b x, v => v = .bool x
  | .i k n, v => n < md k ∧ v = .int k (k.wrap n)
def VRs (ρ : Ren) : List AV → List Value → Prop
  | [], vs => vs = []
  | x :: l, vs => ∃ v r, vs = v :: r ∧ VR ρ x v ∧ VRs ρ l r
end
def Sub (ρ ρ' : Ren) : Prop := ∀ b l, ρ b = some l → ρ' b = some l
theorem Sub.refl (ρ : Ren) : Sub ρ ρ := fun _ _ h => h
theorem Sub.trans {ρ ρ1 ρ2 : Ren} (h : Sub ρ ρ1) (k : Sub ρ1 ρ2) : Sub ρ ρ2 := fun b l hb => k b l (h b l hb)
mutual
theorem VR.mono {ρ ρ' : Ren} (hs : Sub ρ ρ') : ∀ (x : AV) (v : Value), VR ρ x v → VR ρ' x v
  | .un, _, h => h
  | .ub, v, h => h
  | .ui k, v, h => h
  | .bx n c, v, h => by
    simp only [VR] at h ⊢
    obtain ⟨l, h1, r⟩ := h
    exact ⟨l, hs _ _ h1, r⟩
  | .ne _ _, v, h => h
  | .rg _ _ _, v, h => h
  | .f0, v, h => h
  | .if0, v, h => h
  | .m0, v, h => h
  | .p0, v, h => h
  | .sl0, v, h => h
  | .f fn a c, v, h => by
    simp only [VR] at h ⊢
    obtain ⟨a', c', e, h1, h2⟩ := h
    exact ⟨a', c', e, VRs.mono hs a _ h1, VRs.mono hs c _ h2⟩
  | .ifc t x, v, h => by
    simp only [VR] at h ⊢
    obtain ⟨u, e, h1⟩ := h
    exact ⟨u, e, VR.mono hs x _ h1⟩
  | .m r, v, h => by
    simp only [VR] at h ⊢
    obtain ⟨l, h1, e⟩ := h
    exact ⟨l, hs _ _ h1, e⟩
  | .tu l, v, h => by
    simp only [VR] at h ⊢
    obtain ⟨vs, e, h1⟩ := h
    exact ⟨vs, e, VRs.mono hs l _ h1⟩
  | .ag l, v, h => by
    simp only [VR] at h ⊢
    obtain ⟨vs, e, h1⟩ := h
    exact ⟨vs, e, VRs.mono hs l _ h1⟩
  | .s l, v, h => by simp only [VR] at h ⊢; exact h
  | .sl b o n c, v, h => by
    simp only [VR] at h ⊢
    obtain ⟨l, a, c', h1, r⟩ := h
    exact ⟨l, a, c', hs _ _ h1, r⟩
  | .p b o, v, h => by
    simp only [VR] at h ⊢
    obtain ⟨l, h1, e⟩ := h
    exact ⟨l, hs _ _ h1, e⟩
  | .b x, v, h => by simp only [VR] at h ⊢; exact h
  | .i k n, v, h => by simp only [VR] at h ⊢; exact h
theorem VRs.mono {ρ ρ' : Ren} (hs : Sub ρ ρ') : ∀ (l : List AV) (vs : List Value), VRs ρ l vs → VRs ρ' l vs
  | [], vs, h => by simp only [VRs] at h ⊢; exact h
  | x :: l, vs, h => by
    simp only [VRs] at h ⊢
    obtain ⟨v, r, e, h1, h2⟩ := h
    exact ⟨v, r, e, VR.mono hs x _ h1, VRs.mono hs l _ h2⟩
end
theorem VRs.length {ρ : Ren} : ∀ {l : List AV} {vs : List Value}, VRs ρ l vs → vs.length = l.length
  | [], vs, h => by simp only [VRs] at h; subst h; rfl
  | x :: l, vs, h => by
    simp only [VRs] at h
    obtain ⟨v, r, rfl, _, h2⟩ := h
    simp [VRs.length h2]
theorem VRs.app {ρ : Ren} : ∀ {l m : List AV} {vs us : List Value}, VRs ρ l vs → VRs ρ m us → VRs ρ (lapp l m) (vs ++ us)
  | [], m, vs, us, h, k => by simp only [VRs] at h; subst h; exact k
  | x :: l, m, vs, us, h, k => by
    simp only [VRs] at h
    obtain ⟨v, r, rfl, h1, h2⟩ := h
    show VRs ρ (x :: lapp l m) (v :: (r ++ us))
    simp only [VRs]
    exact ⟨v, _, rfl, h1, VRs.app h2 k⟩
theorem VRs.at {ρ : Ren} : ∀ {l : List AV} {vs : List Value} (i : Nat) (x : AV), VRs ρ l vs → l[i]? = some x → ∃ v, vs[i]? = some v ∧ VR ρ x v
  | [], vs, i, x, h, hi => by simp at hi
  | y :: l, vs, 0, x, h, hi => by
    simp only [VRs] at h
    obtain ⟨v, r, rfl, h1, h2⟩ := h
    simp at hi; subst hi
    exact ⟨v, rfl, h1⟩
  | y :: l, vs, i + 1, x, h, hi => by
    simp only [VRs] at h
    obtain ⟨v, r, rfl, h1, h2⟩ := h
    simp at hi
    obtain ⟨u, hu, hx⟩ := VRs.at i x h2 hi
    exact ⟨u, by simpa using hu, hx⟩
theorem VRs.of {ρ : Ren} : ∀ {l : List AV} {vs : List Value}, vs.length = l.length → (∀ (i : Nat) (x : AV) (v : Value), l[i]? = some x → vs[i]? = some v → VR ρ x v) → VRs ρ l vs
  | [], vs, h, _ => by simp only [VRs]; exact List.eq_nil_of_length_eq_zero h
  | x :: l, [], h, _ => by simp at h
  | x :: l, v :: r, h, k => by
    simp only [VRs]
    exact ⟨v, r, rfl, k 0 x v rfl rfl, VRs.of (by simpa using h) (fun i y u hy hu => k (i + 1) y u (by rw [List.getElem?_cons_succ]; exact hy) (by rw [List.getElem?_cons_succ]; exact hu))⟩
theorem llen_eq {α : Type} : ∀ (l : List α), llen l = l.length
  | [] => rfl
  | x :: l => by show llen l + 1 = _; rw [llen_eq l]; rfl
theorem lapp_eq {α : Type} : ∀ (l m : List α), lapp l m = l ++ m
  | [], m => rfl
  | x :: l, m => by show x :: lapp l m = _; rw [lapp_eq l m]; rfl
theorem lrep_eq {α : Type} (x : List α) : ∀ n, lrep x n = (List.replicate n x).flatten
  | 0 => rfl
  | n + 1 => by show lapp x (lrep x n) = _; rw [lapp_eq, lrep_eq x n]; rfl

/-! ### Blocks, the heap -/
def MER (ρ : Ren) : ME → MapEntry → Prop
  | .mk k v n, e => VR ρ k e.key ∧ VR ρ v e.val ∧ e.born = n
def MERs (ρ : Ren) : List ME → List MapEntry → Prop
  | [], es => es = []
  | x :: l, es => ∃ e r, es = e :: r ∧ MER ρ x e ∧ MERs ρ l r
theorem MER.mono {ρ ρ' : Ren} (hs : Sub ρ ρ') {x : ME} {e : MapEntry} (h : MER ρ x e) : MER ρ' x e := by
  cases x; exact ⟨VR.mono hs _ _ h.1, VR.mono hs _ _ h.2.1, h.2.2⟩
theorem MERs.mono {ρ ρ' : Ren} (hs : Sub ρ ρ') : ∀ {l : List ME} {es : List MapEntry}, MERs ρ l es → MERs ρ' l es
  | [], es, h => h
  | x :: l, es, h => by
    obtain ⟨e, r, he, h1, h2⟩ := h
    exact ⟨e, r, he, h1.mono hs, MERs.mono hs h2⟩
def BlkR (ρ : Ren) (k : Blk) (l : Loc) (o : Obj) : Prop :=
  match k with
  | .no => True
  | .it m _ _ _ => ∃ r lr c, m = some r ∧ ρ r = some lr ∧ o = .mapIter (some lr.B) c #[] c
  | .mp es c => ∃ arr : Array MapEntry, o = .map arr c ∧ MERs ρ es arr.toList
  | .c d t n z => n ≤ 8 ^ d ∧ ∃ cs elem fz, o = .cells cs elem fz ∧ l.O + n + l.X * z ≤ cs.size ∧ (∀ i, i < n → ∃ v, cs[l.O + i]? = some v ∧ VR ρ (get d i t) v) ∧
      ∀ i, i < n + l.X * z → ¬ (fz.1 ≤ l.O + i ∧ l.O + i < fz.2)
theorem BlkR.mono {ρ ρ' : Ren} (hs : Sub ρ ρ') {k : Blk} {l : Loc} {o : Obj} (h : BlkR ρ k l o) : BlkR ρ' k l o := by
  cases k with
  | no => trivial
  | it m s q e =>
    obtain ⟨r, lr, c, h1, h2, h3⟩ := h
    exact ⟨r, lr, c, h1, hs _ _ h2, h3⟩
  | mp es c => obtain ⟨arr, e, h1⟩ := h; exact ⟨arr, e, h1.mono hs⟩
  | c d t n z =>
    obtain ⟨h0, cs, elem, fz, e, h1, h2, h3⟩ := h
    refine ⟨h0, cs, elem, fz, e, h1, fun i hi => ?_, h3⟩
    obtain ⟨v, hv, hr⟩ := h2 i hi
    exact ⟨v, hv, VR.mono hs _ _ hr⟩
def H.t : H → Ht
  | .mk t _ => t
def H.nx : H → Nat
  | .mk _ n => n
/-- The block of a number. -/
def H.at (h : H) (b : Nat) : Blk := if b < 8 ^ 5 then get 5 b h.t else .no
/-- The blocks as they stand. -/
def HB (ρ : Ren) (h : H) (w : World) : Prop := ∀ b l, ρ b = some l → h.at b ≠ .no → ∃ o, w.heap[l.B]? = some o ∧ BlkR ρ (h.at b) l o
structure HR (ρ : Ren) (h : H) (w : World) : Prop where
  dom : ∀ b l, ρ b = some l → b < h.nx
  blk : ∀ b l, ρ b = some l → h.at b ≠ .no → ∃ o, w.heap[l.B]? = some o ∧ BlkR ρ (h.at b) l o
  inj : ∀ b b' l l', ρ b = some l → ρ b' = some l' → h.at b ≠ .no → h.at b' ≠ .no → l.B = l'.B → b = b'
  cl : ∀ b, h.nx ≤ b → h.at b = .no
/-- The model's blocks that the evaluator's heap speaks of. -/
def Own (ρ : Ren) (h : H) (B : Nat) : Prop := ∃ b l, ρ b = some l ∧ h.at b ≠ .no ∧ l.B = B
structure Ext (ρ : Ren) (h : H) (w : World) (ρ' : Ren) (h' : H) (w' : World) : Prop where
  sub : Sub ρ ρ'
  own : ∀ B, Own ρ' h' B → Own ρ h B ∨ w.heap.size ≤ B
  keep : ∀ B, B < w.heap.size → ¬ Own ρ h B → w'.heap[B]? = w.heap[B]?
  below : Below 0 w w'
  ghost : ∀ b, b < h.nx → ρ b = none → ρ' b = none ∧ h'.at b = h.at b
  nx : h.nx ≤ h'.nx
theorem Ext.refl (ρ : Ren) (h : H) (w : World) : Ext ρ h w ρ h w := ⟨.refl ρ, fun _ h => .inl h, fun _ _ _ => rfl, .refl 0 w, fun _ _ h => ⟨h, rfl⟩, Nat.le_refl _⟩
theorem Ext.trans {ρ ρ1 ρ2 : Ren} {h h1 h2 : H} {w w1 w2 : World} (a : Ext ρ h w ρ1 h1 w1) (b : Ext ρ1 h1 w1 ρ2 h2 w2) : Ext ρ h w ρ2 h2 w2 where
  sub := a.sub.trans b.sub
  own := fun B hB => (b.own B hB).elim (fun h => a.own B h) (fun h => .inr (Nat.le_trans a.below.size h))
  keep := fun B hB hn => by
    rw [b.keep B (Nat.lt_of_lt_of_le hB a.below.size) (fun h => (a.own B h).elim hn (fun h => absurd hB (Nat.not_lt.2 h)))]
    exact a.keep B hB hn
  below := a.below.trans b.below
  ghost := fun x hx hn => by
    obtain ⟨h1, h2⟩ := a.ghost x hx hn
    obtain ⟨h3, h4⟩ := b.ghost x (Nat.lt_of_lt_of_le hx a.nx) h1
    exact ⟨h3, h4.trans h2⟩
  nx := Nat.le_trans a.nx b.nx

/-- The world behind a draw. -/
theorem HR.same {ρ : Ren} {h : H} {w w' : World} (a : HR ρ h w) (e : w'.heap = w.heap) : HR ρ h w' := ⟨a.dom, fun b l h1 h2 => by rw [e]; exact a.blk b l h1 h2, a.inj, a.cl⟩
theorem Ext.drew (ρ : Ren) (h : H) (w : World) : Ext ρ h w ρ h { w with drawn := w.drawn + 1 } := ⟨.refl ρ, fun _ h => .inl h, fun _ _ _ => rfl, ⟨rfl, rfl, rfl, Nat.le_refl _, fun _ _ => rfl⟩, fun _ _ h => ⟨h, rfl⟩, Nat.le_refl _⟩

/-! ### What reads and writes show -/
theorem H.at_of {h : H} {b : Nat} {k : Blk} (hb : b < 8 ^ 5) (e : get 5 b h.t = k) : h.at b = k := by unfold H.at; rw [if_pos hb, e]
theorem ldc_true {h : H} {b o : Nat} {f : AV → R} (e : ldc h b o f = true) : ∃ d t n z, h.at b = .c d t n z ∧ o < n ∧ f (get d o t) = true := by
  cases h with
  | mk ht nx =>
    obtain ⟨hb, e⟩ := acc_run (show (acc Blk 5 b).run _ ht = true from e)
    obtain ⟨d, t, n, z, hk, e⟩ := onC_true e
    obtain ⟨h1, e⟩ := gd_true e
    obtain ⟨h2, e⟩ := acc_run e
    exact ⟨d, t, n, z, H.at_of hb hk, by simpa [Nat.blt_eq] using h1, e⟩
theorem cell_at {ρ : Ren} {h : H} {w : World} (a : HB ρ h w) {b : Nat} {l : Loc} (hb : ρ b = some l) {d : Nat} {t : Dt AV d} {n z o : Nat} (hk : h.at b = .c d t n z) (ho : o < n) :
    ∃ v, w.cell? ⟨l.B, l.O + o, none⟩ = some v ∧ VR ρ (get d o t) v ∧ w.frozen? ⟨l.B, l.O + o, none⟩ = false := by
  obtain ⟨ob, h1, h2⟩ := a b l hb (by rw [hk]; simp)
  rw [hk] at h2
  obtain ⟨h0, cs, elem, fz, rfl, h3, h4, h5⟩ := h2
  obtain ⟨v, hv, hr⟩ := h4 o ho
  refine ⟨v, by simp [World.cell?, h1, hv], hr, ?_⟩
  have := h5 o (by omega)
  simp only [World.frozen?, h1]
  simpa using this
theorem H.at_put {ht : Ht} {nx nx' b : Nat} (hb : b < 8 ^ 5) (k : Blk) (b' : Nat) : (H.mk (put 5 b k ht) nx').at b' = if b' = b then k else (H.mk ht nx).at b' := by
  unfold H.at
  by_cases h : b' < 8 ^ 5
  · rw [if_pos h, if_pos h]
    exact get_put 5 b b' k ht hb h
  · rw [if_neg h, if_neg h, if_neg (by rintro rfl; exact h hb)]

theorem H.at_mk {ht : Ht} {nx nx' : Nat} (b : Nat) : (H.mk ht nx').at b = (H.mk ht nx).at b := rfl
theorem HR.write {ρ : Ren} {ht : Ht} {nx b : Nat} {w w' : World} {l : Loc} {o' : Obj} {k' : Blk} (a : HR ρ (.mk ht nx) w) (hb5 : b < 8 ^ 5) (hb : ρ b = some l) (hk : (H.mk ht nx).at b ≠ .no)
    (hw : ∀ B, w'.heap[B]? = if B = l.B then some o' else w.heap[B]?) (hr : BlkR ρ k' l o') : HR ρ (.mk (put 5 b k' ht) nx) w' where
  dom := a.dom
  blk := fun b' l' h1 h2 => by
    rw [H.at_put hb5 k' b'] at h2 ⊢
    by_cases e : b' = b
    · subst e
      rw [hb] at h1; cases h1
      rw [if_pos rfl]
      exact ⟨o', by rw [hw, if_pos rfl], hr⟩
    · rw [if_neg e] at h2 ⊢
      obtain ⟨o, h3, h4⟩ := a.blk b' l' h1 h2
      exact ⟨o, by rw [hw, if_neg (fun q => e (a.inj b' b l' l h1 hb h2 hk q))]; exact h3, h4⟩
  inj := fun b1 b2 l1 l2 h1 h2 h3 h4 q => by
    rw [H.at_put hb5 k' b1] at h3
    rw [H.at_put hb5 k' b2] at h4
    refine a.inj b1 b2 l1 l2 h1 h2 ?_ ?_ q
    · by_cases e : b1 = b
      · subst e; exact hk
      · rwa [if_neg e] at h3
    · by_cases e : b2 = b
      · subst e; exact hk
      · rwa [if_neg e] at h4
  cl := fun b' hb' => by
    rw [H.at_put hb5 k' b', if_neg (by rintro rfl; exact hk (a.cl b' hb'))]
    exact a.cl b' hb'
theorem Own.write {ρ : Ren} {ht : Ht} {nx b B : Nat} {k' : Blk} (hb5 : b < 8 ^ 5) (hk : (H.mk ht nx).at b ≠ .no) (h : Own ρ (.mk (put 5 b k' ht) nx) B) : Own ρ (.mk ht nx) B := by
  obtain ⟨b1, l1, h1, h2, h3⟩ := h
  rw [H.at_put hb5 k' b1] at h2
  refine ⟨b1, l1, h1, ?_, h3⟩
  by_cases e : b1 = b
  · subst e; exact hk
  · rwa [if_neg e] at h2
theorem Ext.write {ρ : Ren} {ht : Ht} {nx b : Nat} {w w' : World} {l : Loc} {o' : Obj} {k' : Blk} (hb5 : b < 8 ^ 5) (hb : ρ b = some l) (hk : (H.mk ht nx).at b ≠ .no)
    (hw : ∀ B, w'.heap[B]? = if B = l.B then some o' else w.heap[B]?) (hw2 : Below 0 w w') : Ext ρ (.mk ht nx) w ρ (.mk (put 5 b k' ht) nx) w' where
  sub := .refl ρ
  own := fun B h => .inl (Own.write hb5 hk h)
  keep := fun B _ hn => by rw [hw, if_neg (fun e => hn ⟨b, l, hb, hk, e.symm⟩)]
  below := hw2
  ghost := fun b' _ hn => ⟨hn, by rw [H.at_put hb5 k' b', if_neg (by rintro rfl; rw [hb] at hn; cases hn)]⟩
  nx := Nat.le_refl _

def upd (ρ : Ren) (n : Nat) (l : Loc) : Ren := fun b => if b = n then some l else ρ b
theorem upd_at (ρ : Ren) (n : Nat) (l : Loc) : upd ρ n l n = some l := by simp [upd]
theorem Sub.upd {ρ : Ren} {n : Nat} {l : Loc} (h : ρ n = none) : Sub ρ (upd ρ n l) := fun b l' hb => by
  unfold Ev.upd
  rw [if_neg (by rintro rfl; rw [h] at hb; cases hb)]; exact hb
theorem HR.fresh {ρ : Ren} {ht : Ht} {nx : Nat} {w : World} (a : HR ρ (.mk ht nx) w) : ρ nx = none := by
  cases h : ρ nx with
  | none => rfl
  | some l => exact absurd (a.dom nx l h) (Nat.lt_irrefl nx)
theorem HR.lt {ρ : Ren} {h : H} {w : World} (a : HR ρ h w) {b : Nat} {l : Loc} (hb : ρ b = some l) (hk : h.at b ≠ .no) : l.B < w.heap.size := by
  obtain ⟨o, h1, _⟩ := a.blk b l hb hk
  exact (Array.getElem?_eq_some_iff.1 h1).1
/-- A new block. -/
theorem HR.new {ρ : Ren} {ht : Ht} {nx : Nat} {w w' : World} {l : Loc} {o : Obj} {k : Blk} (a : HR ρ (.mk ht nx) w) (hn : nx < 8 ^ 5) (hl : l.B = w.heap.size)
    (hw : w'.heap = w.heap.push o) (hr : BlkR (upd ρ nx l) k l o) : HR (upd ρ nx l) (.mk (put 5 nx k ht) (nx + 1)) w' := by
  have hs := Sub.upd (l := l) a.fresh
  have hf := a.fresh
  refine ⟨fun b l' hb => ?_, fun b l' hb hk => ?_, fun b1 b2 l1 l2 h1 h2 h3 h4 q => ?_, fun b hb => ?_⟩
  · show b < nx + 1
    by_cases e : b = nx
    · omega
    · have := a.dom b l' (by simpa [upd, e] using hb)
      have : b < nx := this
      omega
  · rw [H.at_put hn k b] at hk ⊢
    by_cases e : b = nx
    · subst e
      rw [upd_at] at hb; cases hb
      rw [if_pos rfl]
      exact ⟨o, by simp [hw, hl], hr⟩
    · rw [if_neg e] at hk ⊢
      have hb' : ρ b = some l' := by simpa [upd, e] using hb
      obtain ⟨o', h1, h2⟩ := a.blk b l' hb' hk
      refine ⟨o', ?_, h2.mono hs⟩
      rw [hw, Array.getElem?_push, if_neg (by have := (Array.getElem?_eq_some_iff.1 h1).1; omega)]
      exact h1
  · rw [H.at_put hn k b1] at h3
    rw [H.at_put hn k b2] at h4
    have lt : ∀ b l', b ≠ nx → upd ρ nx l b = some l' → (H.mk ht (nx + 1)).at b ≠ .no → l'.B < w.heap.size := fun b l' e hb hk => a.lt (b := b) (by simpa [upd, e] using hb) hk
    by_cases e1 : b1 = nx <;> by_cases e2 : b2 = nx
    · rw [e1, e2]
    · exfalso
      subst e1
      rw [upd_at] at h1; cases h1
      rw [if_neg e2] at h4
      have := lt b2 l2 e2 h2 h4
      omega
    · exfalso
      subst e2
      rw [upd_at] at h2; cases h2
      rw [if_neg e1] at h3
      have := lt b1 l1 e1 h1 h3
      omega
    · rw [if_neg e1] at h3
      rw [if_neg e2] at h4
      exact a.inj b1 b2 l1 l2 (by simpa [upd, e1] using h1) (by simpa [upd, e2] using h2) h3 h4 q
  · have hb : nx + 1 ≤ b := hb
    rw [H.at_put hn k b, if_neg (by omega)]
    exact a.cl b (by show nx ≤ b; omega)
theorem Ext.new {ρ : Ren} {ht : Ht} {nx : Nat} {w w' : World} {l : Loc} {o : Obj} {k : Blk} (a : HR ρ (.mk ht nx) w) (hn : nx < 8 ^ 5) (hl : l.B = w.heap.size)
    (hw : w'.heap = w.heap.push o) (hw2 : Below 0 w w') : Ext ρ (.mk ht nx) w (upd ρ nx l) (.mk (put 5 nx k ht) (nx + 1)) w' where
  sub := Sub.upd a.fresh
  own := fun B h => by
    obtain ⟨b1, l1, h1, h2, h3⟩ := h
    rw [H.at_put hn k b1] at h2
    by_cases e : b1 = nx
    · subst e
      rw [upd_at] at h1; cases h1
      exact .inr (by omega)
    · rw [if_neg e] at h2
      exact .inl ⟨b1, l1, by simpa [upd, e] using h1, h2, h3⟩
  keep := fun B hB _ => by rw [hw, Array.getElem?_push, if_neg (by omega)]
  below := hw2
  ghost := fun b hb hnn => by
    have hb : b < nx := hb
    exact ⟨by simp only [upd]; rw [if_neg (by omega)]; exact hnn, by rw [H.at_put hn k b, if_neg (by omega)]⟩
  nx := by show nx ≤ nx + 1; omega
/-- A block is let go. -/
theorem HR.drop {ρ : Ren} {ht : Ht} {nx b : Nat} {w : World} (a : HR ρ (.mk ht nx) w) (hb5 : b < 8 ^ 5) : HR ρ (.mk (put 5 b .no ht) nx) w where
  dom := a.dom
  blk := fun b' l' h1 h2 => by
    rw [H.at_put hb5 .no b'] at h2 ⊢
    by_cases e : b' = b
    · subst e; rw [if_pos rfl] at h2; exact absurd rfl h2
    · rw [if_neg e] at h2 ⊢; exact a.blk b' l' h1 h2
  inj := fun b1 b2 l1 l2 h1 h2 h3 h4 q => by
    rw [H.at_put hb5 .no b1] at h3
    rw [H.at_put hb5 .no b2] at h4
    refine a.inj b1 b2 l1 l2 h1 h2 ?_ ?_ q
    · by_cases e : b1 = b
      · subst e; rw [if_pos rfl] at h3; exact absurd rfl h3
      · rwa [if_neg e] at h3
    · by_cases e : b2 = b
      · subst e; rw [if_pos rfl] at h4; exact absurd rfl h4
      · rwa [if_neg e] at h4
  cl := fun b' hb' => by
    rw [H.at_put hb5 .no b']
    by_cases e : b' = b
    · rw [if_pos e]
    · rw [if_neg e]; exact a.cl b' hb'
end
end Go.Proofs.YtbpdomemnecioaaGreatDoor.Ev
