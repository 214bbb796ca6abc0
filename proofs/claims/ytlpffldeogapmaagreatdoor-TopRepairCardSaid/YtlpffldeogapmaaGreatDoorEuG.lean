/- When two heaps of the evaluator's are one. Own text. No condition of a claim. -/
import Derived.Test.YtlpffldeogapmaaGreatDoorEvV
namespace Go.Proofs.YtlpffldeogapmaaGreatDoor.EuG
open Go Go.MapKept Go.RowKit Go.Proofs.YtlpffldeogapmaaGreatDoor.Ev
set_option linter.unusedVariables false
set_option linter.unusedSimpArgs false
noncomputable section
abbrev beqA := aeq
theorem beqA_eq : ∀ x y, beqA x y = true → x = y := aeq_eq
/-! ### What an operation looks at -/
def cmpC (d d' : Nat) (t : Dt AV d) (t' : Dt AV d') (n : Nat) : Bool := Nat.rec (motive := fun _ => Bool) true (fun i ih => gd ((acc AV d i).run (fun x => (acc AV d' i).run (fun y => beqA x y) t') t) ih) n
theorem cmpC_true {d d' : Nat} {t : Dt AV d} {t' : Dt AV d'} : ∀ {n : Nat}, cmpC d d' t t' n = true → ∀ i, i < n → i < 8 ^ d ∧ get d i t = get d' i t'
  | 0, _, i, hi => absurd hi (Nat.not_lt_zero i)
  | n + 1, e, i, hi => by
    obtain ⟨e1, e2⟩ := gd_true (show gd ((acc AV d n).run (fun x => (acc AV d' n).run (fun y => beqA x y) t') t) (cmpC d d' t t' n) = true from e)
    obtain ⟨g1, g2⟩ := acc_run e1
    obtain ⟨g3, g4⟩ := acc_run g2
    rcases Nat.lt_succ_iff_lt_or_eq.1 hi with h | h
    · exact cmpC_true e2 i h
    · subst h; exact ⟨g1, beqA_eq _ _ g4⟩
def cmpMs (l : List ME) : List ME → Bool :=
  List.rec (motive := fun _ => List ME → Bool) (fun m => List.rec (motive := fun _ => Bool) true (fun _ _ _ => false) m)
    (fun e _ ih m => List.rec (motive := fun _ => Bool) false (fun e' m _ => ME.rec (motive := fun _ => Bool) (fun k v n => ME.rec (motive := fun _ => Bool) (fun k' v' n' => and (Nat.beq n n') (and (beqA k k') (and (beqA v v') (ih m)))) e') e) m) l
theorem cmpMs_eq : ∀ {l m : List ME}, cmpMs l m = true → l = m
  | [], [], _ => rfl
  | [], _ :: _, e => (Bool.false_ne_true e).elim
  | _ :: _, [], e => by exact (Bool.false_ne_true e).elim
  | .mk k v n :: l, .mk k' v' n' :: m, e => by
    obtain ⟨e1, e⟩ := and_t (show and (Nat.beq n n') (and (beqA k k') (and (beqA v v') (cmpMs l m))) = true from e)
    obtain ⟨e2, e⟩ := and_t e
    obtain ⟨e3, e⟩ := and_t e
    rw [nbeq e1, beqA_eq _ _ e2, beqA_eq _ _ e3, cmpMs_eq e]
def cmpB (x y : Blk) : Bool :=
  Blk.rec (motive := fun _ => Bool) (Blk.rec (motive := fun _ => Bool) true (fun _ _ _ _ => false) (fun _ _ => false) (fun _ _ _ _ => false) y)
    (fun m _ _ _ => Blk.rec (motive := fun _ => Bool) false (fun m' _ _ _ => Option.rec (motive := fun _ => Bool) (Option.rec (motive := fun _ => Bool) true (fun _ => false) m') (fun r => Option.rec (motive := fun _ => Bool) false (fun r' => Nat.beq r r') m') m) (fun _ _ => false) (fun _ _ _ _ => false) y)
    (fun es c => Blk.rec (motive := fun _ => Bool) false (fun _ _ _ _ => false) (fun es' c' => and (Nat.beq c c') (cmpMs es es')) (fun _ _ _ _ => false) y)
    (fun d t n z => Blk.rec (motive := fun _ => Bool) false (fun _ _ _ _ => false) (fun _ _ => false) (fun d' t' n' z' => and (Nat.beq n n') (and (Nat.beq z z') (cmpC d d' t t' n))) y) x
def SameB (x y : Blk) : Prop := (x = .no ↔ y = .no) ∧ ∀ ρ l o, BlkR ρ y l o → BlkR ρ x l o
theorem cmpB_same {x y : Blk} (e : cmpB x y = true) : SameB x y := by
  cases x with
  | no => cases y <;> first | exact ⟨Iff.rfl, fun _ _ _ h => h⟩ | exact (Bool.false_ne_true e).elim
  | it m s q es =>
    cases y <;> try exact (Bool.false_ne_true e).elim
    case it m' s' q' es' =>
      cases m with
      | none =>
        cases m' with
        | none => exact ⟨by simp, fun ρ l o h => by obtain ⟨r, lr, c, h1, _⟩ := h; cases h1⟩
        | some r' => exact (Bool.false_ne_true e).elim
      | some r =>
        cases m' with
        | none => exact (Bool.false_ne_true e).elim
        | some r' =>
          have e : Nat.beq r r' = true := e
          rw [nbeq e]
          exact ⟨by simp, fun ρ l o h => h⟩
  | mp es c =>
    cases y <;> try exact (Bool.false_ne_true e).elim
    case mp es' c' =>
      obtain ⟨e1, e2⟩ := and_t (show and (Nat.beq c c') (cmpMs es es') = true from e)
      rw [nbeq e1, cmpMs_eq e2]
      exact ⟨Iff.rfl, fun _ _ _ h => h⟩
  | c d t n z =>
    cases y <;> try exact (Bool.false_ne_true e).elim
    case c d' t' n' z' =>
      obtain ⟨e1, e2⟩ := and_t (show and (Nat.beq n n') (and (Nat.beq z z') (cmpC d d' t t' n)) = true from e)
      obtain ⟨e2, e3⟩ := and_t e2
      obtain rfl := nbeq e1
      obtain rfl := nbeq e2
      refine ⟨by simp, fun ρ l o h => ?_⟩
      obtain ⟨h0, cs, elem, fz, rfl, h1, h2, h3⟩ := h
      refine ⟨?_, cs, elem, fz, rfl, h1, fun i hi => ?_, h3⟩
      · cases n with
        | zero => exact Nat.zero_le _
        | succ m => exact (cmpC_true e3 m (Nat.lt_succ_self m)).1
      · rw [(cmpC_true e3 i hi).2]; exact h2 i hi
def cmpH (t t' : Ht) (n : Nat) : Bool := Nat.rec (motive := fun _ => Bool) true (fun b ih => gd ((acc Blk 5 b).run (fun k => (acc Blk 5 b).run (fun k' => cmpB k k') t') t) ih) n
theorem cmpH_true {t t' : Ht} : ∀ {n : Nat}, cmpH t t' n = true → ∀ i, i < n → i < 8 ^ 5 ∧ SameB (get 5 i t) (get 5 i t')
  | 0, _, i, hi => absurd hi (Nat.not_lt_zero i)
  | n + 1, e, i, hi => by
    obtain ⟨e1, e2⟩ := gd_true (show gd ((acc Blk 5 n).run (fun k => (acc Blk 5 n).run (fun k' => cmpB k k') t') t) (cmpH t t' n) = true from e)
    obtain ⟨g1, g2⟩ := acc_run e1
    obtain ⟨g3, g4⟩ := acc_run g2
    rcases Nat.lt_succ_iff_lt_or_eq.1 hi with h | h
    · exact cmpH_true e2 i h
    · subst h; exact ⟨g1, cmpB_same g4⟩
/-- One heap is another. -/
def heq (h h' : H) : Bool := H.rec (motive := fun _ => Bool) (fun t n => H.rec (motive := fun _ => Bool) (fun t' n' => gd (Nat.beq n n') (cmpH t t' n)) h') h
theorem heq_true {h h' : H} (e : heq h h' = true) : h.nx = h'.nx ∧ ∀ b, b < h.nx → SameB (h.at b) (h'.at b) := by
  cases h with
  | mk t n =>
    cases h' with
    | mk t' n' =>
      obtain ⟨e1, e2⟩ := gd_true (show gd (Nat.beq n n') (cmpH t t' n) = true from e)
      refine ⟨nbeq e1, fun b hb => ?_⟩
      obtain ⟨g1, g2⟩ := cmpH_true e2 b hb
      unfold H.at
      rw [if_pos g1, if_pos g1]
      exact g2
/-- What holds of a heap holds of the same one. -/
theorem back {ρ ρ' : Ren} {h h' : H} {w w' : World} (e : heq h h' = true) (hr : HR ρ h w) (hr' : HR ρ' h' w') (hx : Ext ρ h w ρ' h' w') : HR ρ' h w' ∧ Ext ρ h w ρ' h w' := by
  obtain ⟨e1, e2⟩ := heq_true e
  have hat : ∀ b, h.at b ≠ .no → h'.at b ≠ .no ∧ b < h.nx := fun b hb => by
    have hlt : b < h.nx := Nat.lt_of_not_le fun q => hb (hr.cl b q)
    exact ⟨fun q => hb ((e2 b hlt).1.2 q), hlt⟩
  refine ⟨⟨fun b l h1 => by rw [e1]; exact hr'.dom b l h1, fun b l h1 h2 => ?_, fun b b' l l' h1 h2 h3 h4 q => hr'.inj b b' l l' h1 h2 (hat b h3).1 (hat b' h4).1 q, hr.cl⟩,
    ⟨hx.sub, fun B hB => ?_, hx.keep, hx.below, fun b hb hn => ⟨(hx.ghost b hb hn).1, rfl⟩, Nat.le_refl _⟩⟩
  · obtain ⟨g1, g2⟩ := hat b h2
    obtain ⟨o, g3, g4⟩ := hr'.blk b l h1 g1
    exact ⟨o, g3, (e2 b g2).2 _ _ _ g4⟩
  · obtain ⟨b, l, h1, h2, h3⟩ := hB
    exact hx.own B ⟨b, l, h1, (hat b h2).1, h3⟩
end
end Go.Proofs.YtlpffldeogapmaaGreatDoor.EuG
