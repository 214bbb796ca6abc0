/- A region that draws its order, by a tree: where two operations may come up, both orders are walked. (Own law, over the library's wpAnyH.) No condition of a claim. -/
import Derived.Test.YtfojeegepfjbiaaMixB
namespace Go.Proofs.Ytfojeegepfjbiaa.MixT
open Go.RowKit Go.Proofs.Ytfojeegepfjbiaa.Mix Go.Proofs.Ytfojeegepfjbiaa.MixB
/-- An order of the walk: rd: an operation that waits for nothing and that nothing disturbs; ef: the only one that may come up; two: either of two. -/
inductive Tr where
  | nil
  | rd (i : Nat) (t : Tr)
  | ef (i : Nat) (t : Tr)
  | two (i j : Nat) (s t : Tr)
def Tr.len : Tr → Nat
  | .nil => 0
  | .rd _ t => t.len + 1
  | .ef _ t => t.len + 1
  | .two _ _ s _ => s.len + 1
section
variable {P : Program} {ops : Array Oper} {md : Region.Mode} {E : World → World → Prop} {Q : Act → World → Prop}
def treeOk (md : Region.Mode) (ops : Array Oper) : Tr → Array Bool → Bool
  | .nil, listed => (Region.ready md ops listed).isEmpty
  | .rd i t, listed => ((Region.ready md ops listed).contains i && Region.free md ops listed i) && treeOk md ops t (listed.setIfInBounds i true)
  | .ef i t, listed => Region.ready md ops listed == [i] && treeOk md ops t (listed.setIfInBounds i true)
  | .two i j s t, listed => (Region.ready md ops listed == [i, j] && s.len == t.len) && (treeOk md ops s (listed.setIfInBounds i true) && treeOk md ops t (listed.setIfInBounds j true))
/-- One operation that does something. -/
def step (P : Program) (ops : Array Oper) (E : World → World → Prop) (i : Nat) (K : Act → World → Prop) (a : Act) (w : World) : Prop :=
  ∃ o, ops[i]? = some o ∧ if Region.wanted o (yielded ops a.tmps) then o.wp P a w (fun a' w' => E w w' ∧ K a' w') (only fun _ _ => False) else K (a.put o.dst undef) w
def wpT (P : Program) (ops : Array Oper) (E : World → World → Prop) (Q : Act → World → Prop) : Tr → Act → World → Prop
  | .nil, a, w => Q a w
  | .rd i t, a, w => ∃ o v, ops[i]? = some o ∧ YieldsIf P ops (E w) o v a ∧ wpT P ops E Q t (a.put o.dst v) w
  | .ef i t, a, w => step P ops E i (wpT P ops E Q t) a w
  | .two i j s t, a, w => step P ops E i (wpT P ops E Q s) a w ∧ step P ops E j (wpT P ops E Q t) a w
theorem step_sound (hr : ∀ w, E w w) (ht : ∀ {w w1 w2}, E w w1 → E w1 w2 → E w w2) {i : Nat} {n : Nat} {listed : Array Bool} {K : Act → World → Prop} {a : Act} {w : World} (h : step P ops E i K a w)
    (hK : ∀ a' w', K a' w' → wpAnyH P md ops (only Q) (E w') n (listed.setIfInBounds i true) a' w') :
    wpOp P ops (only Q) i (fun a' w' => E w w' ∧ wpAnyH P md ops (only Q) (E w) n (listed.setIfInBounds i true) a' w') a w := by
  obtain ⟨o, hi, h⟩ := h
  unfold wpOp
  simp only [hi]
  split
  · rename_i hw
    rw [if_pos hw] at h
    exact .inl (wp_only (Oper.wp_mono (fun a' w' h' => ⟨h'.1, held_imp (fun _ => ht h'.1) _ _ _ _ (hK _ _ h'.2)⟩) h))
  · rename_i hw
    rw [if_neg hw] at h
    exact ⟨hr w, hK _ _ h⟩
theorem tree_sound (hr : ∀ w, E w w) (ht : ∀ {w w1 w2}, E w w1 → E w1 w2 → E w w2) (hs : Region.noSelect ops = true) :
    ∀ (t : Tr) (listed : Array Bool) (a : Act) (w : World), treeOk md ops t listed = true → wpT P ops E Q t a w → wpAnyH P md ops (only Q) (E w) t.len listed a w
  | .nil, listed, a, w, hB, h => ⟨by simpa [treeOk] using hB, h⟩
  | .rd i t, listed, a, w, hB, h => by
    simp only [treeOk, Bool.and_eq_true] at hB
    obtain ⟨o, v, hi, hy, h⟩ := h
    exact wpAnyH_take hi hs hB.1.2 hB.1.1 (fun _ _ _ q => q) hy (hr w) (tree_sound hr ht hs t _ _ w hB.2 h)
  | .ef i t, listed, a, w, hB, h => by
    simp only [treeOk, Bool.and_eq_true] at hB
    have h2 : Region.ready md ops listed = [i] := by simpa using hB.1
    refine wpAnyH_all h2 (by simp) (fun j hj => ?_)
    obtain rfl : j = i := by simpa using hj
    exact step_sound hr ht h (fun a' w' h' => tree_sound hr ht hs t _ _ _ hB.2 h')
  | .two i j s t, listed, a, w, hB, h => by
    simp only [treeOk, Bool.and_eq_true] at hB
    have h2 : Region.ready md ops listed = [i, j] := by simpa using hB.1.1
    have hl : s.len = t.len := by simpa using hB.1.2
    refine wpAnyH_all h2 (by simp) (fun k hk => ?_)
    rcases List.mem_cons.1 hk with rfl | hk
    · exact step_sound hr ht h.1 (fun a' w' h' => tree_sound hr ht hs s _ _ _ hB.2.1 h')
    · obtain rfl : k = j := by simpa using hk
      rw [hl]
      exact step_sound hr ht h.2 (fun a' w' h' => tree_sound hr ht hs t _ _ _ hB.2.2 h')
/-- The law: one walk by a tree. -/
theorem wp_region_tree {id : Nat} {Qx : Exit → Act → World → Prop} {a : Act} {w : World} (E : World → World → Prop) (t : Tr) (hm : P.follows .mixedOrders = true)
    (hB : (Region.noSelect ops && t.len == ops.size && treeOk .any ops t (Array.replicate ops.size false)) = true)
    (hr : ∀ w, E w w) (ht : ∀ {w w1 w2}, E w w1 → E w1 w2 → E w w2)
    (h : ∀ W : World, W.heap = w.heap → Below w.heap.size w W → wpT P ops E (fun a' w' => Qx .normal a' w') t a W) : (Code.region id ops true).wp P Qx a w := by
  simp only [Bool.and_eq_true, beq_iff_eq] at hB
  obtain ⟨⟨h1, h2⟩, h3⟩ := hB
  have h4 := tree_sound (md := .any) hr ht h1 t _ a w.drew h3 (h w.drew rfl (Below.refl _ _).drew)
  rw [h2] at h4
  refine Code.wp_mono (Q := only fun a' w' => Qx .normal a' w') ?_ (wp_region_held hm h4)
  intro e a' w' he
  cases e <;> first | exact he | exact (he : False).elim
variable {o : Oper} {i : Nat} {t : Tr} {a : Act} {w : World} {K : Act → World → Prop}
theorem t_read {v : Value} (hi : ops[i]? = some o) (hw : Region.wanted o (yielded ops a.tmps) = true) (hrun : ∀ w', E w w' → (execOp a.eval o).run P w' = .ok (.value v) w')
    (h : wpT P ops E Q t (a.put o.dst v) w) : wpT P ops E Q (.rd i t) a w := ⟨o, v, hi, .inl ⟨hw, hrun⟩, h⟩
theorem t_skip (hi : ops[i]? = some o) (hw : Region.wanted o (yielded ops a.tmps) = false) (h : wpT P ops E Q t (a.put o.dst undef) w) : wpT P ops E Q (.rd i t) a w := ⟨o, undef, hi, .inr ⟨hw, rfl⟩, h⟩
theorem t_ef (h : step P ops E i (wpT P ops E Q t) a w) : wpT P ops E Q (.ef i t) a w := h
theorem t_two {j : Nat} {s : Tr} (h1 : step P ops E i (wpT P ops E Q s) a w) (h2 : step P ops E j (wpT P ops E Q t) a w) : wpT P ops E Q (.two i j s t) a w := ⟨h1, h2⟩
theorem t_nil (h : Q a w) : wpT P ops E Q .nil a w := h
theorem s_call {f : FuncId} {args : Array Value} (hi : ops[i]? = some o) (hw : Region.wanted o (yielded ops a.tmps) = true) (hrun : (execOp a.eval o).run P w = .ok (.enter f args) w)
    (h : Calls P f args w fun e w' => ∃ v, e = .returned v ∧ E w w' ∧ K (a.put o.dst v) w') : step P ops E i K a w := by
  refine ⟨o, hi, ?_⟩
  rw [if_pos hw]
  unfold Oper.wp
  rw [hrun]
  refine Calls.mono h ?_
  rintro e w' ⟨v, rfl, h1, h2⟩
  exact ⟨h1, h2⟩
theorem s_val {v : Value} {w1 : World} (hi : ops[i]? = some o) (hw : Region.wanted o (yielded ops a.tmps) = true) (hrun : (execOp a.eval o).run P w = .ok (.value v) w1) (hE : E w w1)
    (h : K (a.put o.dst v) w1) : step P ops E i K a w := by
  refine ⟨o, hi, ?_⟩
  rw [if_pos hw]
  unfold Oper.wp
  rw [hrun]
  exact ⟨hE, h⟩
theorem s_store {w1 : World} (hi : ops[i]? = some o) (hw : Region.wanted o (yielded ops a.tmps) = true) (hrun : (execOp a.eval o).run P w = .ok .skip w1) (hE : E w w1)
    (h : K (a.put o.dst undef) w1) : step P ops E i K a w := by
  refine ⟨o, hi, ?_⟩
  rw [if_pos hw]
  unfold Oper.wp
  rw [hrun]
  exact ⟨hE, h⟩
theorem s_skip (hi : ops[i]? = some o) (hw : Region.wanted o (yielded ops a.tmps) = false) (h : K (a.put o.dst undef) w) : step P ops E i K a w := ⟨o, hi, by rw [if_neg (by rw [hw]; simp)]; exact h⟩
/-- An operation by a law for plain regions. -/
theorem s_list (hi : ops[i]? = some o) (hw : Region.wanted o (yielded ops a.tmps) = true) (h : wpList P ops (only fun a' w' => E w w' ∧ K a' w') [o] a w) : step P ops E i K a w := by
  refine ⟨o, hi, ?_⟩
  rw [if_pos hw]
  unfold wpList at h
  rw [if_pos hw] at h
  rcases h with h | ⟨_, a', w', h⟩
  · exact wp_to_only h
  · exact (h : False).elim
end
end Go.Proofs.Ytfojeegepfjbiaa.MixT
