/- Plain law of LockEnds: whoever asks has it in the end. No walk. -/
import Derived.Test.YtopclgpimabpcaaLkF
namespace Go.Proofs.Ytopclgpimabpcaa.LkQ
open Go.RowKit Go.Proofs.YtopclgpimabpcaaW.PrintWords Go.Proofs.Ytopclgpimabpcaa.LkA Go.Proofs.Ytopclgpimabpcaa.LkD Go.Proofs.Ytopclgpimabpcaa.LkE Go.Proofs.Ytopclgpimabpcaa.LkF
section
variable (f : Nat → Bool)
/-- The asks from a on to b: number i + 1. -/
def sg (a b : Nat) : List (Int × Bool) := (List.range' a (b - a)).map (fun i => (((i + 1 : Nat) : Int), f i))
def idl (a b : Nat) : List Int := (List.range' a (b - a)).map (fun i => ((i + 1 : Nat) : Int))
theorem sg_nil (a : Nat) : sg f a a = [] := by simp [sg]
theorem sg_cons {a b : Nat} (h : a < b) : sg f a b = (((a + 1 : Nat) : Int), f a) :: sg f (a + 1) b := by
  unfold sg
  rw [show b - a = (b - (a + 1)) + 1 by omega, List.range'_succ, List.map_cons]
theorem sg_snoc {a b : Nat} (h : a ≤ b) : sg f a (b + 1) = sg f a b ++ [(((b + 1 : Nat) : Int), f b)] := by
  unfold sg
  rw [show b + 1 - a = (b - a) + 1 by omega, List.range'_concat, List.map_append, show a + 1 * (b - a) = b by omega]
  rfl
theorem sg_len (a b : Nat) : (sg f a b).length = b - a := by simp [sg]
theorem idl_len (a b : Nat) : (idl a b).length = b - a := by simp [idl]
theorem idl_nil (a : Nat) : idl a a = [] := by simp [idl]
theorem idl_cons {a b : Nat} (h : a < b) : idl a b = ((a + 1 : Nat) : Int) :: idl (a + 1) b := by
  unfold idl
  rw [show b - a = (b - (a + 1)) + 1 by omega, List.range'_succ, List.map_cons]
theorem idl_rd {a b j : Nat} (h : j < b - a) : rd (idl a b) (j : Int) = ((a + j + 1 : Nat) : Int) := by
  unfold rd idl
  rw [Int.toNat_natCast, List.getD_eq_getElem?_getD, List.getElem?_map, List.getElem?_range' h]
  simp
theorem sg_mem {a b : Nat} {o : Int × Bool} (h : o ∈ sg f a b) : (a : Int) + 1 ≤ o.1 ∧ o.1 ≤ b := by
  unfold sg at h
  obtain ⟨i, hi, rfl⟩ := List.mem_map.1 h
  obtain ⟨q, hq, rfl⟩ := List.mem_range'.1 hi
  simp only []
  omega
theorem isIn_sg {a b i : Nat} (h : 1 ≤ i) : isIn (i : Int) (sg f a b) = decide (a < i ∧ i ≤ b) := by
  unfold isIn sg
  rw [List.any_map, Bool.eq_iff_iff, List.any_eq_true, decide_eq_true_eq]
  constructor
  · rintro ⟨j, hj, he⟩
    obtain ⟨q, hq, rfl⟩ := List.mem_range'.1 hj
    simp at he
    omega
  · intro h
    refine ⟨i - 1, List.mem_range'.2 ⟨i - 1 - a, by omega, by omega⟩, ?_⟩
    simp
    omega
/-- Who asked, nobody left. -/
theorem ask_go {m i : Nat} (h : m ≤ i) (h0 : 0 < i → 0 < m) : ∃ m' r, askL (sg f 0 m, sg f m i) ((i + 1 : Nat) : Int) (f i) = (r, (sg f 0 m', sg f m' (i + 1))) ∧ m' ≤ i + 1 ∧ 0 < m' := by
  unfold askL
  simp only []
  have h1 : isIn ((i + 1 : Nat) : Int) (sg f 0 m) = false := by rw [isIn_sg f (by omega)]; exact decide_eq_false (by omega)
  have h2 : isIn ((i + 1 : Nat) : Int) (sg f m i) = false := by rw [isIn_sg f (by omega)]; exact decide_eq_false (by omega)
  rw [if_neg (by rw [h1, h2]; simp; omega)]
  by_cases hc : 0 < (sg f m i).length ∨ mayL (sg f 0 m) (f i) = false
  · rw [if_pos hc]
    refine ⟨m, false, by rw [sg_snoc f h], by omega, ?_⟩
    rcases Nat.eq_zero_or_pos i with hi | hi
    · subst hi
      have hm : m = 0 := by omega
      subst hm
      rw [sg_nil] at hc
      rcases hc with hc | hc
      · simp at hc
      · simp [mayL] at hc
    · exact h0 hi
  · rw [if_neg hc]
    have hm : m = i := by
      rw [sg_len] at hc
      omega
    subst hm
    exact ⟨m + 1, true, by rw [sg_snoc f (Nat.zero_le _), sg_nil, sg_nil], by omega, by omega⟩
theorem grant_sg (n : Nat) : ∀ (d m : Nat) (hs : List (Int × Bool)), n - m = d → m ≤ n → ∃ m', m ≤ m' ∧ m' ≤ n ∧ grantL hs (sg f m n) = ((hs ++ sg f m m', sg f m' n), idl m m') ∧ (hs = [] → m < n → m < m') := by
  intro d
  induction d with
  | zero =>
    intro m hs hd hm
    have : m = n := by omega
    subst this
    exact ⟨m, Nat.le_refl _, Nat.le_refl _, by rw [sg_nil, idl_nil, List.append_nil]; rfl, fun _ h => by omega⟩
  | succ d ih =>
    intro m hs hd hm
    have hmn : m < n := by omega
    rw [sg_cons f hmn]
    cases hc : mayL hs (f m) with
    | true =>
      obtain ⟨m', h1, h2, h3, _⟩ := ih (m + 1) (hs ++ [(((m + 1 : Nat) : Int), f m)]) (by omega) (by omega)
      refine ⟨m', by omega, h2, ?_, fun _ _ => by omega⟩
      rw [grant_go (o := (((m + 1 : Nat) : Int), f m)) hc, h3, sg_cons f (show m < m' by omega), idl_cons (show m < m' by omega)]
      simp
    | false =>
      refine ⟨m, Nat.le_refl _, by omega, ?_, fun h0 _ => by subst h0; simp [mayL] at hc⟩
      rw [grant_stop (o := (((m + 1 : Nat) : Int), f m)) hc, sg_nil, idl_nil, List.append_nil, sg_cons f hmn]
/-- What holds of who has it: numbers up to m. -/
def Ups (hs : List (Int × Bool)) (m : Nat) : Prop := ∀ o ∈ hs, 1 ≤ o.1 ∧ o.1 ≤ (m : Int)
theorem ups_sg (m : Nat) : Ups (sg f 0 m) m := fun o ho => by have := sg_mem f ho; omega
theorem leave_go {n m : Nat} {hs : List (Int × Bool)} (hm : m ≤ n) (hu : Ups hs m) {who : Int} (hw : isIn who hs = true) : ∃ m' hs', m ≤ m' ∧ m' ≤ n ∧ leaveL (hs, sg f m n) who = ((hs', sg f m' n), idl m m') ∧ Ups hs' m' ∧ (hs' = [] → m' = n) ∧ hs'.length + (n - m') + 1 = hs.length + (n - m) := by
  obtain ⟨k, hk, hkl⟩ := find_lt hw
  obtain ⟨m', h1, h2, h3, h4⟩ := grant_sg f n (n - m) m (hs.eraseIdx k) rfl hm
  refine ⟨m', hs.eraseIdx k ++ sg f m m', h1, h2, ?_, ?_, ?_, ?_⟩
  · unfold leaveL
    simp only []
    rw [if_pos hw, hk, Int.toNat_natCast, h3]
  · intro o ho
    rcases List.mem_append.1 ho with ho | ho
    · have := hu o (List.mem_of_mem_eraseIdx ho)
      omega
    · have := sg_mem f ho
      omega
  · intro he
    have h5 := List.append_eq_nil_iff.1 he
    have h6 := congrArg List.length h5.2
    rw [sg_len] at h6
    simp at h6
    rcases Nat.lt_or_ge m n with h7 | h7
    · have := h4 h5.1 h7
      omega
    · omega
  · rw [List.length_append, sg_len, List.length_eraseIdx_of_lt hkl]
    omega
theorem ups_nil {hs : List (Int × Bool)} {m n : Nat} (hu : Ups hs m) (hm : m ≤ n) (h : ∀ j : Nat, 1 ≤ j → j ≤ n → isIn (j : Int) hs = false) : hs = [] := by
  cases hs with
  | nil => rfl
  | cons o os =>
    exfalso
    have ho := hu o (by simp)
    obtain ⟨j, hj⟩ := Int.eq_ofNat_of_zero_le (show 0 ≤ o.1 by omega)
    have := h j (by omega) (by omega)
    unfold isIn at this
    simp [hj] at this
end
/-- Who is in, as an array. -/
def bl (n : Nat) (P : Nat → Bool) : List Bool := (List.range (n + 1)).map P
theorem bl_len (n : Nat) (P : Nat → Bool) : (bl n P).length = n + 1 := by simp [bl]
theorem bl_get {n : Nat} {P : Nat → Bool} {j : Nat} (h : j ≤ n) : (bl n P).getD j false = P j := by
  unfold bl
  rw [List.getD_eq_getElem?_getD, List.getElem?_map, List.getElem?_range (by omega)]
  rfl
theorem bl_congr {n : Nat} {P Q : Nat → Bool} (h : ∀ j, j ≤ n → P j = Q j) : bl n P = bl n Q := by
  unfold bl
  exact List.map_congr_left (fun j hj => h j (by have := List.mem_range.1 hj; omega))
theorem bl_set {n : Nat} {P : Nat → Bool} {i : Nat} (b : Bool) : (bl n P).set i b = bl n (fun j => if j = i then b else P j) := by
  apply List.ext_getElem
  · simp [bl]
  · intro j h1 h2
    simp only [bl, List.getElem_set, List.getElem_map, List.getElem_range]
    by_cases h : i = j
    · subst h; simp
    · rw [if_neg h, if_neg (fun e => h e.symm)]
theorem bl_zero (n : Nat) : List.replicate (n + 1) false = bl n (fun _ => false) := by
  unfold bl
  rw [List.map_const', List.length_range]
end Go.Proofs.Ytopclgpimabpcaa.LkQ
