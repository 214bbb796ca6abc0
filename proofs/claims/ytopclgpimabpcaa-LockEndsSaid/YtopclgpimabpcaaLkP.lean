/- Plain law of LockQueue: who waits comes in in order. No walk. -/
import Derived.Test.YtopclgpimabpcaaLkF
namespace Go.Proofs.Ytopclgpimabpcaa.LkP
open Go.RowKit Go.Proofs.YtopclgpimabpcaaW.PrintWords Go.Proofs.Ytopclgpimabpcaa.LkA Go.Proofs.Ytopclgpimabpcaa.LkD Go.Proofs.Ytopclgpimabpcaa.LkE Go.Proofs.Ytopclgpimabpcaa.LkF
section
variable (f : Nat → Bool) (n : Nat)
/-- Those from a on to b. -/
def seg (a b : Nat) : List (Int × Bool) := (List.range' a (b - a)).map (fun i => (((i + 2 : Nat) : Int), f i))
def ids (a b : Nat) : List Int := (List.range' a (b - a)).map (fun i => ((i + 2 : Nat) : Int))
theorem seg_nil (a : Nat) : seg f a a = [] := by simp [seg]
theorem seg_cons {a b : Nat} (h : a < b) : seg f a b = (((a + 2 : Nat) : Int), f a) :: seg f (a + 1) b := by
  unfold seg
  rw [show b - a = (b - (a + 1)) + 1 by omega, List.range'_succ, List.map_cons]
theorem seg_snoc {a b : Nat} (h : a ≤ b) : seg f a (b + 1) = seg f a b ++ [(((b + 2 : Nat) : Int), f b)] := by
  unfold seg
  rw [show b + 1 - a = (b - a) + 1 by omega, List.range'_concat, List.map_append, show a + 1 * (b - a) = b by omega]
  rfl
theorem seg_len (a b : Nat) : (seg f a b).length = b - a := by simp [seg]
theorem ids_len (a b : Nat) : (ids a b).length = b - a := by simp [ids]
theorem ids_nil (a : Nat) : ids a a = [] := by simp [ids]
theorem ids_cons {a b : Nat} (h : a < b) : ids a b = ((a + 2 : Nat) : Int) :: ids (a + 1) b := by
  unfold ids
  rw [show b - a = (b - (a + 1)) + 1 by omega, List.range'_succ, List.map_cons]
theorem ids_rd {a b j : Nat} (h : j < b - a) : rd (ids a b) (j : Int) = ((a + j + 2 : Nat) : Int) := by
  unfold rd ids
  rw [Int.toNat_natCast, List.getD_eq_getElem?_getD, List.getElem?_map, List.getElem?_range' h]
  simp
/-- How far readers go on. -/
def run : Nat → Nat → Nat
  | 0, k => k
  | q + 1, k => if f k then k else run q (k + 1)
/-- Where a group ends. -/
def gend (a : Nat) : Nat := if a < n then (if f a then a + 1 else run f (n - (a + 1)) (a + 1)) else n
theorem run_spec : ∀ (q k : Nat), k ≤ run f q k ∧ run f q k ≤ k + q ∧ (∀ j, k ≤ j → j < run f q k → f j = false) ∧ (run f q k = k + q ∨ f (run f q k) = true) := by
  intro q
  induction q with
  | zero => intro k; exact ⟨Nat.le_refl _, Nat.le_refl _, fun j h1 h2 => by simp only [run] at h2; omega, .inl rfl⟩
  | succ q ih =>
    intro k
    unfold run
    cases hk : f k with
    | true => simp only [if_true]; exact ⟨Nat.le_refl _, by omega, fun j h1 h2 => by omega, .inr hk⟩
    | false =>
      simp only [Bool.false_eq_true, if_false]
      obtain ⟨h1, h2, h3, h4⟩ := ih (k + 1)
      refine ⟨by omega, by omega, fun j a1 a2 => ?_, ?_⟩
      · rcases Nat.eq_or_lt_of_le a1 with rfl | a3
        · exact hk
        · exact h3 j a3 a2
      · rcases h4 with h4 | h4
        · exact .inl (by omega)
        · exact .inr h4
theorem gend_spec {a : Nat} (h : a < n) : a < gend f n a ∧ gend f n a ≤ n ∧ (∀ j, a < j → j < gend f n a → f a = false ∧ f j = false) ∧ (gend f n a = n ∨ f (gend f n a) = true ∨ f a = true) := by
  unfold gend
  rw [if_pos h]
  cases ha : f a with
  | true => simp only [if_true]; exact ⟨by omega, by omega, fun j h1 h2 => by omega, .inr (.inr trivial)⟩
  | false =>
    simp only [Bool.false_eq_true, if_false]
    obtain ⟨h1, h2, h3, h4⟩ := run_spec f (n - (a + 1)) (a + 1)
    refine ⟨by omega, by omega, fun j a1 a2 => ⟨trivial, h3 j a1 a2⟩, ?_⟩
    rcases h4 with h4 | h4
    · exact .inl (by omega)
    · exact .inr (.inl h4)
theorem gend_n : gend f n n = n := by unfold gend; rw [if_neg (by omega)]
theorem may_seg {a b : Nat} (h : a < b) (wr : Bool) : mayL (seg f a b) wr = (!wr && !f a) := by rw [seg_cons f h]; rfl
theorem grant_go_on {a : Nat} (h : a < n) : ∀ (d j : Nat), gend f n a - j = d → a < j → j ≤ gend f n a → grantL (seg f a j) (seg f j n) = ((seg f a (gend f n a), seg f (gend f n a) n), ids j (gend f n a)) := by
  obtain ⟨g1, g2, g3, g4⟩ := gend_spec f n h
  intro d
  induction d with
  | zero =>
    intro j hd h1 h2
    have hj : j = gend f n a := by omega
    subst hj
    rw [ids_nil]
    rcases Nat.eq_or_lt_of_le g2 with g5 | g5
    · rw [g5, seg_nil]; rfl
    · rw [seg_cons f g5, grant_stop]
      rw [may_seg f h1]
      rcases g4 with g4 | g4 | g4
      · omega
      · rw [g4]; rfl
      · rw [g4]; cases f (gend f n a) <;> rfl
  | succ d ih =>
    intro j hd h1 h2
    have hjn : j < n := by omega
    have hf := g3 j h1 (by omega)
    rw [seg_cons f hjn, grant_go (by rw [may_seg f h1, hf.1]; simp [hf.2]), ← seg_snoc f (by omega), ih (j + 1) (by omega) (by omega) (by omega), ids_cons (a := j) (by omega)]
theorem grant_seg {a : Nat} (h : a ≤ n) : grantL [] (seg f a n) = ((seg f a (gend f n a), seg f (gend f n a) n), ids a (gend f n a)) := by
  rcases Nat.eq_or_lt_of_le h with rfl | h
  · rw [gend_n, seg_nil, ids_nil]; rfl
  · obtain ⟨g1, _⟩ := gend_spec f n h
    rw [seg_cons f h, grant_go (by rfl), List.nil_append]
    have := grant_go_on f n h _ (a + 1) rfl (by omega) g1
    rw [seg_snoc f (Nat.le_refl a), seg_nil, List.nil_append] at this
    rw [this, ids_cons g1]
theorem isIn_seg {a b i : Nat} : isIn ((i + 2 : Nat) : Int) (seg f a b) = decide (a ≤ i ∧ i < b) := by
  unfold isIn seg
  rw [List.any_map, Bool.eq_iff_iff, List.any_eq_true, decide_eq_true_eq]
  constructor
  · rintro ⟨j, hj, he⟩
    have := List.mem_range'.1 hj
    obtain ⟨q, hq, rfl⟩ := this
    simp at he
    omega
  · intro h
    refine ⟨i, List.mem_range'.2 ⟨i - a, by omega, by omega⟩, ?_⟩
    simp
theorem leave_head {i b : Nat} (h : i < b) (ws : List (Int × Bool)) : leaveL (seg f i b, ws) ((i + 2 : Nat) : Int) = grantL (seg f (i + 1) b) ws := by
  have h1 : isIn ((i + 2 : Nat) : Int) (seg f i b) = true := by rw [isIn_seg]; exact decide_eq_true (by omega)
  have h2 : findL ((i + 2 : Nat) : Int) (seg f i b) = 0 := by rw [seg_cons f h]; unfold findL findF; rw [if_pos rfl]; rfl
  unfold leaveL
  simp only []
  rw [if_pos h1, h2, seg_cons f h]
  rfl
/-- One of a group leaves. -/
theorem leave_one {a i : Nat} (h : a < n) (h1 : a ≤ i) (h2 : i < gend f n a) : leaveL (seg f i (gend f n a), seg f (gend f n a) n) ((i + 2 : Nat) : Int) =
    if i + 1 < gend f n a then ((seg f (i + 1) (gend f n a), seg f (gend f n a) n), []) else ((seg f (gend f n a) (gend f n (gend f n a)), seg f (gend f n (gend f n a)) n), ids (gend f n a) (gend f n (gend f n a))) := by
  obtain ⟨g1, g2, g3, g4⟩ := gend_spec f n h
  rw [leave_head f h2]
  by_cases h3 : i + 1 < gend f n a
  · rw [if_pos h3]
    have hf := g3 (i + 1) (by omega) h3
    rcases Nat.eq_or_lt_of_le g2 with g5 | g5
    · rw [g5, seg_nil]; rfl
    · rw [seg_cons f g5, grant_stop]
      rw [may_seg f h3]
      rcases g4 with g4 | g4 | g4
      · omega
      · rw [g4]; rfl
      · rw [hf.1] at g4; cases g4
  · rw [if_neg h3, show i + 1 = gend f n a by omega, seg_nil, grant_seg f n g2]
/-- The lock while a group leaves, and who came in last. -/
def st2 (a i : Nat) : LS × List Int := if i < gend f n a then ((seg f i (gend f n a), seg f (gend f n a) n), []) else ((seg f (gend f n a) (gend f n (gend f n a)), seg f (gend f n (gend f n a)) n), ids (gend f n a) (gend f n (gend f n a)))
theorem leave_st {a i : Nat} (h : a < n) (h1 : a ≤ i) (h2 : i < gend f n a) : leaveL (st2 f n a i).1 ((i + 2 : Nat) : Int) = st2 f n a (i + 1) := by
  have := leave_one f n h h1 h2
  unfold st2
  rw [if_pos h2]
  exact this
theorem st2_len {a i : Nat} (h : a < n) (h2 : i ≤ gend f n a) : (st2 f n a i).1.1.length + (st2 f n a i).1.2.length ≤ 2 * n := by
  have h3 := (gend_spec f n h).2.1
  unfold st2
  split
  · simp only [seg_len]; omega
  · have : gend f n (gend f n a) ≤ n := by
      rcases Nat.eq_or_lt_of_le h3 with e | e
      · rw [e, gend_n]; omega
      · exact (gend_spec f n e).2.1
    simp only [seg_len]; omega
theorem st2_start {a : Nat} (h : a < n) : st2 f n a a = ((seg f a (gend f n a), seg f (gend f n a) n), []) := by
  unfold st2
  rw [if_pos (gend_spec f n h).1]
theorem st2_mid {a i : Nat} (h2 : i < gend f n a) : (st2 f n a i).2 = [] := by
  unfold st2
  rw [if_pos h2]
theorem st2_end (a : Nat) : st2 f n a (gend f n a) = ((seg f (gend f n a) (gend f n (gend f n a)), seg f (gend f n (gend f n a)) n), ids (gend f n a) (gend f n (gend f n a))) := by
  unfold st2
  rw [if_neg (by omega)]
theorem leave_first (ws : List (Int × Bool)) : leaveL ([(1, true)], ws) 1 = grantL [] ws := by
  unfold leaveL
  simp only []
  rw [if_pos (by decide)]
  rfl
theorem ask_queue {i : Nat} : askL ([(1, true)], seg f 0 i) ((i + 2 : Nat) : Int) (f i) = (false, ([(1, true)], seg f 0 (i + 1))) := by
  unfold askL
  simp only []
  have h1 : isIn ((i + 2 : Nat) : Int) [(1, true)] = false := by
    unfold isIn
    simp
    omega
  have h2 : isIn ((i + 2 : Nat) : Int) (seg f 0 i) = false := by rw [isIn_seg]; exact decide_eq_false (by omega)
  rw [if_neg (by rw [h1, h2]; simp; omega), if_pos (by right; cases f i <;> rfl), seg_snoc f (Nat.zero_le _)]
end
end Go.Proofs.Ytopclgpimabpcaa.LkP
