/- The evaluator's trees, by their plain meaning. Own text. No condition of a claim. -/
import Derived.Test.YtbpdomemnecioaaGreatDoorEvA
namespace Go.Proofs.YtbpdomemnecioaaGreatDoor.Ev
open Go
set_option linter.unusedVariables false
set_option linter.unusedSimpArgs false

theorem sel8_map {β γ : Type} (φ : β → γ) (n : Nat) (a b c d e f g h : β) : φ (sel8 n a b c d e f g h) = sel8 n (φ a) (φ b) (φ c) (φ d) (φ e) (φ f) (φ g) (φ h) := by
  match n with
  | 0 | 1 | 2 | 3 | 4 | 5 | 6 => rfl
  | _ + 7 => rfl

theorem Fr.get_put {α : Type} (i j : Nat) (hi : i < 8) (hj : j < 8) (v : α) (t : Fr α) : Fr.get j (Fr.put i v t) = if j = i then v else Fr.get j t := by
  cases t
  match i, hi with
  | 0, _ | 1, _ | 2, _ | 3, _ | 4, _ | 5, _ | 6, _ | 7, _ =>
    match j, hj with
    | 0, _ | 1, _ | 2, _ | 3, _ | 4, _ | 5, _ | 6, _ | 7, _ => rfl

theorem accG_run {α : Type} : ∀ (d k : Nat) (f : α → R) (t : Dt α d), (accG α d k).run f t = f (get d k t)
  | 0, k, f, t => rfl
  | d + 1, k, f, t => by
    have ih := fun x => accG_run d (k % 8 ^ d) f x
    have t' : Fr (Dt α d) := t
    match t with
    | Fr.mk a b c d_ e f_ g h =>
      show (Acc.run (sel8 (Nat.div k (Nat.pow 8 d)) _ _ _ _ _ _ _ _) f (Fr.mk a b c d_ e f_ g h)) = f (get d (k % 8 ^ d) (sel8 (Nat.div k (Nat.pow 8 d)) a b c d_ e f_ g h))
      generalize Nat.div k (Nat.pow 8 d) = i
      match i with
      | 0 | 1 | 2 | 3 | 4 | 5 | 6 => exact ih _
      | _ + 7 => exact ih _

theorem pccG_run {α : Type} : ∀ (d k : Nat) (v : α) (f : Dt α d → R) (t : Dt α d), (pccG α d k).run v f t = f (put d k v t)
  | 0, k, v, f, t => rfl
  | d + 1, k, v, f, t => by
    have ih := fun g x => pccG_run d (k % 8 ^ d) v g x
    match t with
    | Fr.mk a b c d_ e f_ g h =>
      show (Pcc.run (sel8 (Nat.div k (Nat.pow 8 d)) _ _ _ _ _ _ _ _) v f (Fr.mk a b c d_ e f_ g h)) = f (Fr.put (Nat.div k (Nat.pow 8 d)) (put d (k % 8 ^ d) v (sel8 (Nat.div k (Nat.pow 8 d)) a b c d_ e f_ g h)) (Fr.mk a b c d_ e f_ g h))
      generalize Nat.div k (Nat.pow 8 d) = i
      match i with
      | 0 | 1 | 2 | 3 | 4 | 5 | 6 => exact ih _ _
      | _ + 7 => exact ih _ _

theorem get_put {α : Type} : ∀ (d k j : Nat) (v : α) (t : Dt α d), k < 8 ^ d → j < 8 ^ d → get d j (put d k v t) = if j = k then v else get d j t
  | 0, k, j, v, t, hk, hj => by
    simp at hk hj
    subst hk; subst hj
    rfl
  | d + 1, k, j, v, t, hk, hj => by
    have hp : 0 < 8 ^ d := Nat.pos_of_ne_zero (by simp)
    have hk8 : k / 8 ^ d < 8 := by rw [Nat.div_lt_iff_lt_mul hp]; rw [Nat.pow_succ] at hk; omega
    have hj8 : j / 8 ^ d < 8 := by rw [Nat.div_lt_iff_lt_mul hp]; rw [Nat.pow_succ] at hj; omega
    have ih := get_put d (k % 8 ^ d) (j % 8 ^ d) v (Fr.get (k / 8 ^ d) t) (Nat.mod_lt _ hp) (Nat.mod_lt _ hp)
    show get d (j % 8 ^ d) (Fr.get (j / 8 ^ d) (Fr.put (k / 8 ^ d) (put d (k % 8 ^ d) v (Fr.get (k / 8 ^ d) t)) t)) = if j = k then v else get d (j % 8 ^ d) (Fr.get (j / 8 ^ d) t)
    refine (congrArg (get d (j % 8 ^ d)) (Fr.get_put _ _ hk8 hj8 _ _)).trans ?_
    by_cases hq : j / 8 ^ d = k / 8 ^ d
    · rw [if_pos hq, ih]
      by_cases hr : j % 8 ^ d = k % 8 ^ d
      · have : j = k := by rw [← Nat.div_add_mod j (8 ^ d), ← Nat.div_add_mod k (8 ^ d), hq, hr]
        rw [if_pos hr, if_pos this]
      · have : j ≠ k := fun e => hr (by rw [e])
        rw [if_neg hr, if_neg this, hq]
    · have : j ≠ k := fun e => hq (by rw [e])
      rw [if_neg hq, if_neg this]

theorem get_dflt {α : Type} (x : α) : ∀ (d k : Nat), get d k (dflt x d) = x
  | 0, k => rfl
  | d + 1, k => by
    show get d (k % 8 ^ d) (sel8 (k / 8 ^ d) (dflt x d) (dflt x d) (dflt x d) (dflt x d) (dflt x d) (dflt x d) (dflt x d) (dflt x d)) = x
    rw [sel8_map (get d (k % 8 ^ d))]
    simp only [get_dflt x d]
    generalize k / 8 ^ d = i
    match i with
    | 0 | 1 | 2 | 3 | 4 | 5 | 6 => rfl
    | _ + 7 => rfl

/-- Setting what stands there already, and reading a deeper tree: of no use here, but for the step to one more level. -/
theorem get_deeper {α : Type} (x : α) (d k : Nat) (t : Dt α d) (hk : k < 8 ^ d) : get (d + 1) k (Fr.mk t (dflt x d) (dflt x d) (dflt x d) (dflt x d) (dflt x d) (dflt x d) (dflt x d) : Fr (Dt α d)) = get d k t := by
  show get d (k % 8 ^ d) (sel8 (k / 8 ^ d) t _ _ _ _ _ _ _) = _
  rw [Nat.div_eq_of_lt hk, Nat.mod_eq_of_lt hk]
  rfl

theorem acc_run {α : Type} {d k : Nat} {f : α → R} {t : Dt α d} (h : (acc α d k).run f t = true) : k < 8 ^ d ∧ f (get d k t) = true := by
  unfold acc at h
  cases hb : Nat.blt k (Nat.pow 8 d) with
  | false => rw [hb] at h; exact (Bool.false_ne_true h).elim
  | true =>
    rw [hb] at h
    refine ⟨by simpa [Nat.blt_eq] using hb, ?_⟩
    have : (accG α d k).run f t = true := h
    rwa [accG_run] at this
theorem pcc_run {α : Type} {d k : Nat} {v : α} {f : Dt α d → R} {t : Dt α d} (h : (pcc α d k).run v f t = true) : k < 8 ^ d ∧ f (put d k v t) = true := by
  unfold pcc at h
  cases hb : Nat.blt k (Nat.pow 8 d) with
  | false => rw [hb] at h; exact (Bool.false_ne_true h).elim
  | true =>
    rw [hb] at h
    refine ⟨by simpa [Nat.blt_eq] using hb, ?_⟩
    have : (pccG α d k).run v f t = true := h
    rwa [pccG_run] at this
theorem gd_true {x : Bool} {r : R} (h : gd x r = true) : x = true ∧ r = true := by
  cases x with
  | false => exact (Bool.false_ne_true h).elim
  | true => exact ⟨rfl, h⟩
theorem fc_eq (f : Nat → R) (x : Nat) : fc f x = f x := rfl
theorem onI_true {f : IntKind → Nat → R} {x : AV} (h : onI f x = true) : ∃ k n, x = .i k n ∧ f k n = true := by
  cases x <;> first | exact (Bool.false_ne_true h).elim | exact ⟨_, _, rfl, h⟩
theorem onP_true {f : Nat → Nat → R} {x : AV} (h : onP f x = true) : ∃ b o, x = .p b o ∧ f b o = true := by
  cases x <;> first | exact (Bool.false_ne_true h).elim | exact ⟨_, _, rfl, h⟩
theorem onB_true {f : Bool → R} {x : AV} (h : onB f x = true) : ∃ b, x = .b b ∧ f b = true := by
  cases x <;> first | exact (Bool.false_ne_true h).elim | exact ⟨_, rfl, h⟩
theorem onBu_true {u : R} {f : Bool → R} {x : AV} (h : onBu u f x = true) : (∃ b, x = .b b ∧ f b = true) ∨ x = .ub ∧ u = true := by
  cases x <;> first | exact (Bool.false_ne_true h).elim | exact .inl ⟨_, rfl, h⟩ | exact .inr ⟨rfl, h⟩
theorem onSl_true {f : Nat → Nat → Nat → Nat → R} {x : AV} (h : onSl f x = true) : ∃ b o n c, x = .sl b o n c ∧ f b o n c = true := by
  cases x <;> first | exact (Bool.false_ne_true h).elim | exact ⟨_, _, _, _, rfl, h⟩
theorem onS_true {f : List Nat → R} {x : AV} (h : onS f x = true) : ∃ l, x = .s l ∧ f l = true := by
  cases x <;> first | exact (Bool.false_ne_true h).elim | exact ⟨_, rfl, h⟩
theorem onTu_true {f : List AV → R} {x : AV} (h : onTu f x = true) : ∃ l, x = .tu l ∧ f l = true := by
  cases x <;> first | exact (Bool.false_ne_true h).elim | exact ⟨_, rfl, h⟩
theorem onAg_true {f : List AV → R} {x : AV} (h : onAg f x = true) : ∃ l, x = .ag l ∧ f l = true := by
  cases x <;> first | exact (Bool.false_ne_true h).elim | exact ⟨_, rfl, h⟩
theorem onC_true {f : (d : Nat) → Dt AV d → Nat → Nat → R} {x : Blk} (h : onC f x = true) : ∃ d t n z, x = .c d t n z ∧ f d t n z = true := by
  cases x <;> first | exact (Bool.false_ne_true h).elim | exact ⟨_, _, _, _, rfl, h⟩
theorem onMp_true {f : List ME → Nat → R} {x : Blk} (h : onMp f x = true) : ∃ es c, x = .mp es c ∧ f es c = true := by
  cases x <;> first | exact (Bool.false_ne_true h).elim | exact ⟨_, _, rfl, h⟩
theorem keq_true {k j : IntKind} {r : R} (h : keq k j r = true) : k = j ∧ r = true := by
  obtain ⟨h1, h2⟩ := gd_true h
  refine ⟨?_, h2⟩
  cases k <;> cases j <;> first | rfl | exact (Bool.false_ne_true h1).elim
theorem onII_true {u : IntKind → R} {f : IntKind → Nat → Nat → R} {x y : AV} (h : onII u f x y = true) :
    (∃ k a b, x = .i k a ∧ y = .i k b ∧ f k a b = true) ∨ (∃ k, (x = .ui k ∨ ∃ a, x = .i k a) ∧ (y = .ui k ∨ ∃ b, y = .i k b) ∧ u k = true) := by
  cases x <;> try exact (Bool.false_ne_true h).elim
  case ui k =>
    cases y <;> try exact (Bool.false_ne_true h).elim
    case ui j => obtain ⟨rfl, h2⟩ := keq_true (r := u k) h; exact .inr ⟨_, .inl rfl, .inl rfl, h2⟩
    case i j b => obtain ⟨rfl, h2⟩ := keq_true (r := u k) h; exact .inr ⟨_, .inl rfl, .inr ⟨_, rfl⟩, h2⟩
  case i k a =>
    cases y <;> try exact (Bool.false_ne_true h).elim
    case ui j => obtain ⟨rfl, h2⟩ := keq_true (r := u k) h; exact .inr ⟨_, .inr ⟨_, rfl⟩, .inl rfl, h2⟩
    case i j b => obtain ⟨rfl, h2⟩ := keq_true (r := f k a b) h; exact .inl ⟨_, _, _, rfl, rfl, h2⟩
theorem onIu_true {u : IntKind → R} {f : IntKind → Nat → R} {x : AV} (h : onIu u f x = true) : (∃ k n, x = .i k n ∧ f k n = true) ∨ ∃ k, x = .ui k ∧ u k = true := by
  cases x <;> first | exact (Bool.false_ne_true h).elim | exact .inl ⟨_, _, rfl, h⟩ | exact .inr ⟨_, rfl, h⟩
end Go.Proofs.YtbpdomemnecioaaGreatDoor.Ev
