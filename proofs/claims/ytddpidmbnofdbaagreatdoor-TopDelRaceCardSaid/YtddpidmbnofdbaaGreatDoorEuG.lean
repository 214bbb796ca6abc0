/- When two heaps of the evaluator's are one. Own text. No condition of a claim. -/
import Derived.Test.YtddpidmbnofdbaaGreatDoorEvV
namespace Go.Proofs.YtddpidmbnofdbaaGreatDoor.EuG
open Go Go.MapKept Go.RowKit Go.Proofs.YtddpidmbnofdbaaGreatDoor.Ev
set_option linter.unusedVariables false
set_option linter.unusedSimpArgs false
noncomputable section
def beqA (x : AV) : AV → Bool :=
  AV.rec (motive_1 := fun _ => AV → Bool) (motive_2 := fun _ => List AV → Bool)
    (fun y => AV.rec (motive_1 := fun _ => Bool) (motive_2 := fun _ => Unit) true false (fun _ => false) false false false false false (fun _ _ _ _ _ => false) (fun _ _ _ => false) (fun _ => false) (fun _ _ => false) (fun _ _ => false) (fun _ => false) (fun _ _ _ _ => false) (fun _ _ => false) (fun _ => false) (fun _ _ => false) () (fun _ _ _ _ => ()) y) (fun y => AV.rec (motive_1 := fun _ => Bool) (motive_2 := fun _ => Unit) false true (fun _ => false) false false false false false (fun _ _ _ _ _ => false) (fun _ _ _ => false) (fun _ => false) (fun _ _ => false) (fun _ _ => false) (fun _ => false) (fun _ _ _ _ => false) (fun _ _ => false) (fun _ => false) (fun _ _ => false) () (fun _ _ _ _ => ()) y) (fun k y => AV.rec (motive_1 := fun _ => Bool) (motive_2 := fun _ => Unit) false false (fun j => Nat.beq (kc k) (kc j)) false false false false false (fun _ _ _ _ _ => false) (fun _ _ _ => false) (fun _ => false) (fun _ _ => false) (fun _ _ => false) (fun _ => false) (fun _ _ _ _ => false) (fun _ _ => false) (fun _ => false) (fun _ _ => false) () (fun _ _ _ _ => ()) y)
    (fun y => AV.rec (motive_1 := fun _ => Bool) (motive_2 := fun _ => Unit) false false (fun _ => false) true false false false false (fun _ _ _ _ _ => false) (fun _ _ _ => false) (fun _ => false) (fun _ _ => false) (fun _ _ => false) (fun _ => false) (fun _ _ _ _ => false) (fun _ _ => false) (fun _ => false) (fun _ _ => false) () (fun _ _ _ _ => ()) y) (fun y => AV.rec (motive_1 := fun _ => Bool) (motive_2 := fun _ => Unit) false false (fun _ => false) false true false false false (fun _ _ _ _ _ => false) (fun _ _ _ => false) (fun _ => false) (fun _ _ => false) (fun _ _ => false) (fun _ => false) (fun _ _ _ _ => false) (fun _ _ => false) (fun _ => false) (fun _ _ => false) () (fun _ _ _ _ => ()) y) (fun y => AV.rec (motive_1 := fun _ => Bool) (motive_2 := fun _ => Unit) false false (fun _ => false) false false true false false (fun _ _ _ _ _ => false) (fun _ _ _ => false) (fun _ => false) (fun _ _ => false) (fun _ _ => false) (fun _ => false) (fun _ _ _ _ => false) (fun _ _ => false) (fun _ => false) (fun _ _ => false) () (fun _ _ _ _ => ()) y) (fun y => AV.rec (motive_1 := fun _ => Bool) (motive_2 := fun _ => Unit) false false (fun _ => false) false false false true false (fun _ _ _ _ _ => false) (fun _ _ _ => false) (fun _ => false) (fun _ _ => false) (fun _ _ => false) (fun _ => false) (fun _ _ _ _ => false) (fun _ _ => false) (fun _ => false) (fun _ _ => false) () (fun _ _ _ _ => ()) y) (fun y => AV.rec (motive_1 := fun _ => Bool) (motive_2 := fun _ => Unit) false false (fun _ => false) false false false false true (fun _ _ _ _ _ => false) (fun _ _ _ => false) (fun _ => false) (fun _ _ => false) (fun _ _ => false) (fun _ => false) (fun _ _ _ _ => false) (fun _ _ => false) (fun _ => false) (fun _ _ => false) () (fun _ _ _ _ => ()) y)
    (fun fn _ _ ih1 ih2 y => AV.rec (motive_1 := fun _ => Bool) (motive_2 := fun _ => Unit) false false (fun _ => false) false false false false false (fun y0 y1 y2 _ _ => (fun gn a c => and (match fn, gn with | .func i, .func j => Nat.beq i j | _, _ => false) (and (ih1 a) (ih2 c))) y0 y1 y2) (fun _ _ _ => false) (fun _ => false) (fun _ _ => false) (fun _ _ => false) (fun _ => false) (fun _ _ _ _ => false) (fun _ _ => false) (fun _ => false) (fun _ _ => false) () (fun _ _ _ _ => ()) y)
    (fun t _ ih y => AV.rec (motive_1 := fun _ => Bool) (motive_2 := fun _ => Unit) false false (fun _ => false) false false false false false (fun _ _ _ _ _ => false) (fun y0 y1 _ => (fun u v => and (Nat.beq t u) (ih v)) y0 y1) (fun _ => false) (fun _ _ => false) (fun _ _ => false) (fun _ => false) (fun _ _ _ _ => false) (fun _ _ => false) (fun _ => false) (fun _ _ => false) () (fun _ _ _ _ => ()) y)
    (fun r y => AV.rec (motive_1 := fun _ => Bool) (motive_2 := fun _ => Unit) false false (fun _ => false) false false false false false (fun _ _ _ _ _ => false) (fun _ _ _ => false) (fun q => Nat.beq r q) (fun _ _ => false) (fun _ _ => false) (fun _ => false) (fun _ _ _ _ => false) (fun _ _ => false) (fun _ => false) (fun _ _ => false) () (fun _ _ _ _ => ()) y)
    (fun _ ih y => AV.rec (motive_1 := fun _ => Bool) (motive_2 := fun _ => Unit) false false (fun _ => false) false false false false false (fun _ _ _ _ _ => false) (fun _ _ _ => false) (fun _ => false) (fun y0 _ => ih y0) (fun _ _ => false) (fun _ => false) (fun _ _ _ _ => false) (fun _ _ => false) (fun _ => false) (fun _ _ => false) () (fun _ _ _ _ => ()) y)
    (fun _ ih y => AV.rec (motive_1 := fun _ => Bool) (motive_2 := fun _ => Unit) false false (fun _ => false) false false false false false (fun _ _ _ _ _ => false) (fun _ _ _ => false) (fun _ => false) (fun _ _ => false) (fun y0 _ => ih y0) (fun _ => false) (fun _ _ _ _ => false) (fun _ _ => false) (fun _ => false) (fun _ _ => false) () (fun _ _ _ _ => ()) y)
    (fun l y => AV.rec (motive_1 := fun _ => Bool) (motive_2 := fun _ => Unit) false false (fun _ => false) false false false false false (fun _ _ _ _ _ => false) (fun _ _ _ => false) (fun _ => false) (fun _ _ => false) (fun _ _ => false) (fun m => leq l m) (fun _ _ _ _ => false) (fun _ _ => false) (fun _ => false) (fun _ _ => false) () (fun _ _ _ _ => ()) y)
    (fun b o n c y => AV.rec (motive_1 := fun _ => Bool) (motive_2 := fun _ => Unit) false false (fun _ => false) false false false false false (fun _ _ _ _ _ => false) (fun _ _ _ => false) (fun _ => false) (fun _ _ => false) (fun _ _ => false) (fun _ => false) (fun b2 o2 n2 c2 => and (Nat.beq b b2) (and (Nat.beq o o2) (and (Nat.beq n n2) (Nat.beq c c2)))) (fun _ _ => false) (fun _ => false) (fun _ _ => false) () (fun _ _ _ _ => ()) y)
    (fun b o y => AV.rec (motive_1 := fun _ => Bool) (motive_2 := fun _ => Unit) false false (fun _ => false) false false false false false (fun _ _ _ _ _ => false) (fun _ _ _ => false) (fun _ => false) (fun _ _ => false) (fun _ _ => false) (fun _ => false) (fun _ _ _ _ => false) (fun b2 o2 => and (Nat.beq b b2) (Nat.beq o o2)) (fun _ => false) (fun _ _ => false) () (fun _ _ _ _ => ()) y)
    (fun x y => AV.rec (motive_1 := fun _ => Bool) (motive_2 := fun _ => Unit) false false (fun _ => false) false false false false false (fun _ _ _ _ _ => false) (fun _ _ _ => false) (fun _ => false) (fun _ _ => false) (fun _ _ => false) (fun _ => false) (fun _ _ _ _ => false) (fun _ _ => false) (fun z => beqB x z) (fun _ _ => false) () (fun _ _ _ _ => ()) y)
    (fun k a y => AV.rec (motive_1 := fun _ => Bool) (motive_2 := fun _ => Unit) false false (fun _ => false) false false false false false (fun _ _ _ _ _ => false) (fun _ _ _ => false) (fun _ => false) (fun _ _ => false) (fun _ _ => false) (fun _ => false) (fun _ _ _ _ => false) (fun _ _ => false) (fun _ => false) (fun j b => and (Nat.beq (kc k) (kc j)) (Nat.beq a b)) () (fun _ _ _ _ => ()) y)
    (fun l => List.rec (motive := fun _ => Bool) true (fun _ _ _ => false) l)
    (fun _ _ ih1 ih2 l => List.rec (motive := fun _ => Bool) false (fun y l _ => and (ih1 y) (ih2 l)) l) x
theorem beqA_eq : ∀ x y, beqA x y = true → x = y := by
  intro x
  refine AV.rec (motive_1 := fun x => ∀ y, beqA x y = true → x = y) (motive_2 := fun l => ∀ m, beqA (.tu l) (.tu m) = true → l = m) ?_ ?_ ?_ ?_ ?_ ?_ ?_ ?_ ?_ ?_ ?_ ?_ ?_ ?_ ?_ ?_ ?_ ?_ ?_ ?_ x
  case refine_1 => intro y h; cases y <;> first | rfl | exact (Bool.false_ne_true h).elim
  case refine_2 => intro y h; cases y <;> first | rfl | exact (Bool.false_ne_true h).elim
  case refine_3 =>
    intro k y h
    cases y <;> try exact (Bool.false_ne_true h).elim
    case ui j => rw [kc_inj (nbeq (show Nat.beq (kc k) (kc j) = true from h))]
  case refine_4 => intro y h; cases y <;> first | rfl | exact (Bool.false_ne_true h).elim
  case refine_5 => intro y h; cases y <;> first | rfl | exact (Bool.false_ne_true h).elim
  case refine_6 => intro y h; cases y <;> first | rfl | exact (Bool.false_ne_true h).elim
  case refine_7 => intro y h; cases y <;> first | rfl | exact (Bool.false_ne_true h).elim
  case refine_8 => intro y h; cases y <;> first | rfl | exact (Bool.false_ne_true h).elim
  case refine_9 =>
    intro fn a c ih1 ih2 y h
    cases y <;> try exact (Bool.false_ne_true h).elim
    case f gn a' c' =>
      obtain ⟨h1, h2⟩ := and_t h
      obtain ⟨h2, h3⟩ := and_t h2
      rw [ih1 a' h2, ih2 c' h3]
      cases fn <;> cases gn <;> try exact (Bool.false_ne_true h1).elim
      rw [nbeq h1]
  case refine_10 =>
    intro t v ih y h
    cases y <;> try exact (Bool.false_ne_true h).elim
    case ifc u v' =>
      obtain ⟨h1, h2⟩ := and_t h
      rw [nbeq h1, ih v' h2]
  case refine_11 =>
    intro r y h
    cases y <;> try exact (Bool.false_ne_true h).elim
    rw [nbeq h]
  case refine_12 =>
    intro l ih y h
    cases y <;> try exact (Bool.false_ne_true h).elim
    rw [ih _ h]
  case refine_13 =>
    intro l ih y h
    cases y <;> try exact (Bool.false_ne_true h).elim
    rw [ih _ h]
  case refine_14 =>
    intro l y h
    cases y <;> try exact (Bool.false_ne_true h).elim
    case s m =>
      have h : leq l m = true := h
      rw [leq_eq] at h
      rw [of_decide_eq_true h]
  case refine_15 =>
    intro b o n c y h
    cases y <;> try exact (Bool.false_ne_true h).elim
    obtain ⟨h1, h⟩ := and_t h
    obtain ⟨h2, h⟩ := and_t h
    obtain ⟨h3, h4⟩ := and_t h
    rw [nbeq h1, nbeq h2, nbeq h3, nbeq h4]
  case refine_16 =>
    intro b o y h
    cases y <;> try exact (Bool.false_ne_true h).elim
    obtain ⟨h1, h2⟩ := and_t h
    rw [nbeq h1, nbeq h2]
  case refine_17 =>
    intro x y h
    cases y <;> try exact (Bool.false_ne_true h).elim
    case b z =>
      have h : beqB x z = true := h
      rw [beqB_eq] at h
      rw [beq_iff_eq.1 h]
  case refine_18 =>
    intro k a y h
    cases y <;> try exact (Bool.false_ne_true h).elim
    obtain ⟨h1, h2⟩ := and_t h
    rw [kc_inj (nbeq h1), nbeq h2]
  case refine_19 =>
    intro m h
    cases m with
    | nil => rfl
    | cons y m => exact (Bool.false_ne_true h).elim
  case refine_20 =>
    intro x l ih1 ih2 m h
    cases m with
    | nil => exact (Bool.false_ne_true h).elim
    | cons y m =>
      obtain ⟨h1, h2⟩ := and_t h
      rw [ih1 y h1, ih2 m h2]

/-! ### What an operation looks at -/
def cmpC (d d' : Nat) (t : Dt AV d) (t' : Dt AV d') (n : Nat) : Bool := Nat.rec (motive := fun _ => Bool) true (fun i ih => gd ((acc AV d i).run (fun x => (acc AV d' i).run (fun y => beqA x y) t') t) ih) n
theorem cmpC_true {d d' : Nat} {t : Dt AV d} {t' : Dt AV d'} : ∀ {n : Nat}, cmpC d d' t t' n = true → ∀ i, i < n → i < 8 ^ d ∧ get d i t = get d' i t'
  | 0, _, i, hi => absurd hi (Nat.not_lt_zero i)
  | n + 1, e, i, hi => by
    obtain ⟨e1, e2⟩ := gd_true (show gd ((acc AV d n).run (fun x => (acc AV d' n).run (fun y => beqA x y) t') t) (cmpC d d' t t' n) = true from e)
    obtain ⟨g1, g2⟩ := acc_run e1
    obtain ⟨g3, g4⟩ := acc_run g2
    rcases Nat.lt_succ_iff_lt_or_eq.1 hi with h | h
    · exact cmpC_true e2 i h
    · subst h; exact ⟨g1, beqA_eq _ _ g4⟩
def cmpMs (l : List ME) : List ME → Bool :=
  List.rec (motive := fun _ => List ME → Bool) (fun m => List.rec (motive := fun _ => Bool) true (fun _ _ _ => false) m)
    (fun e _ ih m => List.rec (motive := fun _ => Bool) false (fun e' m _ => ME.rec (motive := fun _ => Bool) (fun k v n => ME.rec (motive := fun _ => Bool) (fun k' v' n' => and (Nat.beq n n') (and (beqA k k') (and (beqA v v') (ih m)))) e') e) m) l
theorem cmpMs_eq : ∀ {l m : List ME}, cmpMs l m = true → l = m
  | [], [], _ => rfl
  | [], _ :: _, e => (Bool.false_ne_true e).elim
  | _ :: _, [], e => by exact (Bool.false_ne_true e).elim
  | .mk k v n :: l, .mk k' v' n' :: m, e => by
    obtain ⟨e1, e⟩ := and_t (show and (Nat.beq n n') (and (beqA k k') (and (beqA v v') (cmpMs l m))) = true from e)
    obtain ⟨e2, e⟩ := and_t e
    obtain ⟨e3, e⟩ := and_t e
    rw [nbeq e1, beqA_eq _ _ e2, beqA_eq _ _ e3, cmpMs_eq e]
def cmpB (x y : Blk) : Bool :=
  Blk.rec (motive := fun _ => Bool) (Blk.rec (motive := fun _ => Bool) true (fun _ _ _ _ => false) (fun _ _ => false) (fun _ _ _ _ => false) y) (fun _ _ _ _ => false)
    (fun es c => Blk.rec (motive := fun _ => Bool) false (fun _ _ _ _ => false) (fun es' c' => and (Nat.beq c c') (cmpMs es es')) (fun _ _ _ _ => false) y)
    (fun d t n z => Blk.rec (motive := fun _ => Bool) false (fun _ _ _ _ => false) (fun _ _ => false) (fun d' t' n' z' => and (Nat.beq n n') (and (Nat.beq z z') (cmpC d d' t t' n))) y) x
def SameB (x y : Blk) : Prop := (x = .no ↔ y = .no) ∧ ∀ ρ l o, BlkR ρ y l o → BlkR ρ x l o
theorem cmpB_same {x y : Blk} (e : cmpB x y = true) : SameB x y := by
  cases x with
  | no => cases y <;> first | exact ⟨Iff.rfl, fun _ _ _ h => h⟩ | exact (Bool.false_ne_true e).elim
  | it => exact (Bool.false_ne_true e).elim
  | mp es c =>
    cases y <;> try exact (Bool.false_ne_true e).elim
    case mp es' c' =>
      obtain ⟨e1, e2⟩ := and_t (show and (Nat.beq c c') (cmpMs es es') = true from e)
      rw [nbeq e1, cmpMs_eq e2]
      exact ⟨Iff.rfl, fun _ _ _ h => h⟩
  | c d t n z =>
    cases y <;> try exact (Bool.false_ne_true e).elim
    case c d' t' n' z' =>
      obtain ⟨e1, e2⟩ := and_t (show and (Nat.beq n n') (and (Nat.beq z z') (cmpC d d' t t' n)) = true from e)
      obtain ⟨e2, e3⟩ := and_t e2
      obtain rfl := nbeq e1
      obtain rfl := nbeq e2
      refine ⟨by simp, fun ρ l o h => ?_⟩
      obtain ⟨h0, cs, elem, fz, rfl, h1, h2, h3⟩ := h
      refine ⟨?_, cs, elem, fz, rfl, h1, fun i hi => ?_, h3⟩
      · cases n with
        | zero => exact Nat.zero_le _
        | succ m => exact (cmpC_true e3 m (Nat.lt_succ_self m)).1
      · rw [(cmpC_true e3 i hi).2]; exact h2 i hi
def cmpH (t t' : Ht) (n : Nat) : Bool := Nat.rec (motive := fun _ => Bool) true (fun b ih => gd ((acc Blk 5 b).run (fun k => (acc Blk 5 b).run (fun k' => cmpB k k') t') t) ih) n
theorem cmpH_true {t t' : Ht} : ∀ {n : Nat}, cmpH t t' n = true → ∀ i, i < n → i < 8 ^ 5 ∧ SameB (get 5 i t) (get 5 i t')
  | 0, _, i, hi => absurd hi (Nat.not_lt_zero i)
  | n + 1, e, i, hi => by
    obtain ⟨e1, e2⟩ := gd_true (show gd ((acc Blk 5 n).run (fun k => (acc Blk 5 n).run (fun k' => cmpB k k') t') t) (cmpH t t' n) = true from e)
    obtain ⟨g1, g2⟩ := acc_run e1
    obtain ⟨g3, g4⟩ := acc_run g2
    rcases Nat.lt_succ_iff_lt_or_eq.1 hi with h | h
    · exact cmpH_true e2 i h
    · subst h; exact ⟨g1, cmpB_same g4⟩
/-- One heap is another. -/
def heq (h h' : H) : Bool := H.rec (motive := fun _ => Bool) (fun t n => H.rec (motive := fun _ => Bool) (fun t' n' => gd (Nat.beq n n') (cmpH t t' n)) h') h
theorem heq_true {h h' : H} (e : heq h h' = true) : h.nx = h'.nx ∧ ∀ b, b < h.nx → SameB (h.at b) (h'.at b) := by
  cases h with
  | mk t n =>
    cases h' with
    | mk t' n' =>
      obtain ⟨e1, e2⟩ := gd_true (show gd (Nat.beq n n') (cmpH t t' n) = true from e)
      refine ⟨nbeq e1, fun b hb => ?_⟩
      obtain ⟨g1, g2⟩ := cmpH_true e2 b hb
      unfold H.at
      rw [if_pos g1, if_pos g1]
      exact g2
/-- What holds of a heap holds of the same one. -/
theorem back {ρ ρ' : Ren} {h h' : H} {w w' : World} (e : heq h h' = true) (hr : HR ρ h w) (hr' : HR ρ' h' w') (hx : Ext ρ h w ρ' h' w') : HR ρ' h w' ∧ Ext ρ h w ρ' h w' := by
  obtain ⟨e1, e2⟩ := heq_true e
  have hat : ∀ b, h.at b ≠ .no → h'.at b ≠ .no ∧ b < h.nx := fun b hb => by
    have hlt : b < h.nx := Nat.lt_of_not_le fun q => hb (hr.cl b q)
    exact ⟨fun q => hb ((e2 b hlt).1.2 q), hlt⟩
  refine ⟨⟨fun b l h1 => by rw [e1]; exact hr'.dom b l h1, fun b l h1 h2 => ?_, fun b b' l l' h1 h2 h3 h4 q => hr'.inj b b' l l' h1 h2 (hat b h3).1 (hat b' h4).1 q, hr.cl⟩,
    ⟨hx.sub, fun B hB => ?_, hx.keep, hx.below, fun b hb hn => ⟨(hx.ghost b hb hn).1, rfl⟩, Nat.le_refl _⟩⟩
  · obtain ⟨g1, g2⟩ := hat b h2
    obtain ⟨o, g3, g4⟩ := hr'.blk b l h1 g1
    exact ⟨o, g3, (e2 b g2).2 _ _ _ g4⟩
  · obtain ⟨b, l, h1, h2, h3⟩ := hB
    exact hx.own B ⟨b, l, h1, (hat b h2).1, h3⟩
end
end Go.Proofs.YtddpidmbnofdbaaGreatDoor.EuG
