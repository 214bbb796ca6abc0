/- A region that draws its order, in which calls that make memory stand beside operations that read: walked once, whatever order is drawn. (Own law, over the library's wpAnyH.) No condition of a claim. -/
import Derived.Deep.RegionHeld3
import Derived.Below
namespace Go.Proofs.YtlpffldeogapmaaGreatDoor.Mix
open Go.RowKit
section
variable {P : Program} {ops : Array Oper} {md : Region.Mode} {E : World → World → Prop} {Q : Act → World → Prop}

/-- A post that lets nothing pass but a normal end. -/
def only (Q : Act → World → Prop) : Exit → Act → World → Prop
  | .normal, a, w => Q a w
  | _, _, _ => False

theorem held_imp {Q : Exit → Act → World → Prop} {S S' : World → Prop} (h : ∀ w, S' w → S w) : ∀ (fuel : Nat) (listed : Array Bool) (a : Act) (w : World),
    wpAnyH P md ops Q S' fuel listed a w → wpAnyH P md ops Q S fuel listed a w
  | 0, _, _, _, hh => hh
  | fuel + 1, _, _, _, hh => ⟨hh.1, fun i hi => wpOp_mono (fun a' w' h' => ⟨h w' h'.1, held_imp h fuel _ a' w' h'.2⟩) (hh.2 i hi)⟩

/-- An order of the walk: (true, i): nothing but i may come up; (false, i): i may come up, and every other one waits for it or is apart from it. -/
def orderOk (md : Region.Mode) (ops : Array Oper) : List (Bool × Nat) → Array Bool → Bool
  | [], listed => (Region.ready md ops listed).isEmpty
  | (b, i) :: l, listed =>
    (match b with
      | true => Region.ready md ops listed == [i]
      | false => (Region.ready md ops listed).contains i && Region.free md ops listed i) && orderOk md ops l (listed.setIfInBounds i true)

/-- The walk. E w w': what has been read in w reads so in w', too. -/
def wpMix (P : Program) (ops : Array Oper) (E : World → World → Prop) (Q : Act → World → Prop) : List (Bool × Nat) → Act → World → Prop
  | [], a, w => Q a w
  | (false, i) :: l, a, w => ∃ o v, ops[i]? = some o ∧ YieldsIf P ops (E w) o v a ∧ wpMix P ops E Q l (a.put o.dst v) w
  | (true, i) :: l, a, w => ∃ o, ops[i]? = some o ∧
    if Region.wanted o (yielded ops a.tmps) then o.wp P a w (fun a' w' => E w w' ∧ wpMix P ops E Q l a' w') (only fun _ _ => False) else wpMix P ops E Q l (a.put o.dst undef) w

theorem wp_only {o : Oper} {a : Act} {w : World} {K : Act → World → Prop} {Q' : Exit → Act → World → Prop} (h : o.wp P a w K (only fun _ _ => False)) : o.wp P a w K Q' := by
  unfold Oper.wp at *
  generalize (execOp a.eval o).run P w = r at *
  cases r with
  | ok n w' =>
    cases n <;> simp only [Oper.upon] at h ⊢ <;>
      first
        | exact h
        | exact Calls.mono h (fun e w'' he => by
            cases e with
            | returned u => exact he
            | panicked c => exact (he : False).elim
            | outgrown => obtain ⟨_, _, hf⟩ := he; exact (hf : False).elim)
  | halt x w' =>
    cases x <;> simp only [Oper.upon] at h ⊢
    case panic v => exact (h : False).elim

theorem mix_sound (hr : ∀ w, E w w) (ht : ∀ {w w1 w2}, E w w1 → E w1 w2 → E w w2) (hs : Region.noSelect ops = true) :
    ∀ (l : List (Bool × Nat)) (listed : Array Bool) (a : Act) (w : World),
      orderOk md ops l listed = true → wpMix P ops E Q l a w → wpAnyH P md ops (only Q) (E w) l.length listed a w
  | [], listed, a, w, hB, h => ⟨by simpa [orderOk] using hB, h⟩
  | (b, i) :: l, listed, a, w, hB, h => by
    simp only [orderOk, Bool.and_eq_true] at hB
    obtain ⟨h1, hB⟩ := hB
    cases b with
    | false =>
      obtain ⟨o, v, hi, hy, h⟩ := h
      simp only [Bool.and_eq_true] at h1
      exact wpAnyH_take hi hs h1.2 h1.1 (fun _ _ _ q => q) hy (hr w) (mix_sound hr ht hs l _ _ w hB h)
    | true =>
      obtain ⟨o, hi, h⟩ := h
      have h2 : Region.ready md ops listed = [i] := by simpa using h1
      refine wpAnyH_all h2 (by simp) (fun j hj => ?_)
      obtain rfl : j = i := by simpa using hj
      unfold wpOp
      simp only [hi]
      split
      · rename_i hw
        rw [if_pos hw] at h
        exact .inl (wp_only (Oper.wp_mono (fun a' w' h' => ⟨h'.1, held_imp (fun _ => ht h'.1) _ _ _ _ (mix_sound hr ht hs l _ _ _ hB h'.2)⟩) h))
      · rename_i hw
        rw [if_neg hw] at h
        exact ⟨hr w, mix_sound hr ht hs l _ _ _ hB h⟩

/-- The law: one walk in a given order. -/
theorem wp_region_mix {id : Nat} {Qx : Exit → Act → World → Prop} {a : Act} {w : World} (E : World → World → Prop) (l : List (Bool × Nat)) (hm : P.follows .mixedOrders = true)
    (hB : (Region.noSelect ops && l.length == ops.size && orderOk .any ops l (Array.replicate ops.size false)) = true)
    (hr : ∀ w, E w w) (ht : ∀ {w w1 w2}, E w w1 → E w1 w2 → E w w2)
    (h : ∀ W : World, W.heap = w.heap → Below w.heap.size w W → wpMix P ops E (fun a' w' => Qx .normal a' w') l a W) : (Code.region id ops true).wp P Qx a w := by
  simp only [Bool.and_eq_true, beq_iff_eq] at hB
  obtain ⟨⟨h1, h2⟩, h3⟩ := hB
  have h4 := mix_sound (md := .any) hr ht h1 l _ a w.drew h3 (h w.drew rfl (Below.refl _ _).drew)
  rw [h2] at h4
  refine Code.wp_mono (Q := only fun a' w' => Qx .normal a' w') ?_ (wp_region_held hm h4)
  intro e a' w' he
  cases e <;> first | exact he | exact (he : False).elim

variable {o : Oper} {i : Nat} {l : List (Bool × Nat)} {a : Act} {w : World}
theorem mix_read {v : Value} (hi : ops[i]? = some o) (hw : Region.wanted o (yielded ops a.tmps) = true) (hrun : ∀ w', E w w' → (execOp a.eval o).run P w' = .ok (.value v) w')
    (h : wpMix P ops E Q l (a.put o.dst v) w) : wpMix P ops E Q ((false, i) :: l) a w := ⟨o, v, hi, .inl ⟨hw, hrun⟩, h⟩
theorem mix_skip {b : Bool} (hi : ops[i]? = some o) (hw : Region.wanted o (yielded ops a.tmps) = false) (h : wpMix P ops E Q l (a.put o.dst undef) w) : wpMix P ops E Q ((b, i) :: l) a w := by
  cases b with
  | false => exact ⟨o, undef, hi, .inr ⟨hw, rfl⟩, h⟩
  | true => exact ⟨o, hi, by rw [if_neg (by rw [hw]; simp)]; exact h⟩
theorem mix_call {f : FuncId} {args : Array Value} (hi : ops[i]? = some o) (hw : Region.wanted o (yielded ops a.tmps) = true) (hrun : (execOp a.eval o).run P w = .ok (.enter f args) w)
    (h : Calls P f args w fun e w' => ∃ v, e = .returned v ∧ E w w' ∧ wpMix P ops E Q l (a.put o.dst v) w') : wpMix P ops E Q ((true, i) :: l) a w := by
  refine ⟨o, hi, ?_⟩
  rw [if_pos hw]
  unfold Oper.wp
  rw [hrun]
  refine Calls.mono h ?_
  rintro e w' ⟨v, rfl, h1, h2⟩
  exact ⟨h1, h2⟩
theorem mix_eff (hi : ops[i]? = some o) (h : if Region.wanted o (yielded ops a.tmps) then o.wp P a w (fun a' w' => E w w' ∧ wpMix P ops E Q l a' w') (only fun _ _ => False) else wpMix P ops E Q l (a.put o.dst undef) w) : wpMix P ops E Q ((true, i) :: l) a w := ⟨o, hi, h⟩
theorem mix_val {v : Value} {w1 : World} (hi : ops[i]? = some o) (hw : Region.wanted o (yielded ops a.tmps) = true) (hrun : (execOp a.eval o).run P w = .ok (.value v) w1) (hE : E w w1)
    (h : wpMix P ops E Q l (a.put o.dst v) w1) : wpMix P ops E Q ((true, i) :: l) a w := by
  refine ⟨o, hi, ?_⟩
  rw [if_pos hw]
  unfold Oper.wp
  rw [hrun]
  exact ⟨hE, h⟩
theorem mix_store {w1 : World} (hi : ops[i]? = some o) (hw : Region.wanted o (yielded ops a.tmps) = true) (hrun : (execOp a.eval o).run P w = .ok .skip w1) (hE : E w w1)
    (h : wpMix P ops E Q l (a.put o.dst undef) w1) : wpMix P ops E Q ((true, i) :: l) a w := by
  refine ⟨o, hi, ?_⟩
  rw [if_pos hw]
  unfold Oper.wp
  rw [hrun]
  exact ⟨hE, h⟩
theorem mix_nil (h : Q a w) : wpMix P ops E Q [] a w := h
end
end Go.Proofs.YtlpffldeogapmaaGreatDoor.Mix
