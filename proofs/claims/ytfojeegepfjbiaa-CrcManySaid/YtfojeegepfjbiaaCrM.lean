/- The sum of an exclusive or; a burst of four bytes: lists alone. -/
import Derived.Test.YtfojeegepfjbiaaCrL
namespace Go.Proofs.Ytfojeegepfjbiaa.CrM
open Go.RowKit Go.Proofs.YtfojeegepfjbiaaW.PrintWords Go.Proofs.YtfojeegepfjbiaaW.PrintLast Go.Proofs.YtfojeegepfjbiaaW.PrintMore Go.Proofs.Ytfojeegepfjbiaa.Nm Go.Proofs.Ytfojeegepfjbiaa.NmC Go.Proofs.Ytfojeegepfjbiaa.CrP Go.Proofs.Ytfojeegepfjbiaa.CrL
/-- The exclusive or of two rows of bytes. -/
def xr : List Int → List Int → List Int
  | a :: l, b :: m => ((a.toNat ^^^ b.toNat : Nat) : Int) :: xr l m
  | _, _ => []
theorem xr_len {a b : List Int} (h : a.length = b.length) : (xr a b).length = a.length := by
  induction a generalizing b with
  | nil => cases b <;> simp [xr]
  | cons x a ih =>
    cases b with
    | nil => simp at h
    | cons y b => simp [xr, ih (by simpa using h)]
theorem bys_xr {a b : List Int} (ha : Bys a) (hb : Bys b) : Bys (xr a b) := by
  induction a generalizing b with
  | nil => simp [xr]; intro z hz; simp at hz
  | cons x a ih =>
    cases b with
    | nil => simp [xr]; intro z hz; simp at hz
    | cons y b =>
      intro z hz
      simp only [xr, List.mem_cons] at hz
      rcases hz with rfl | hz
      · have h1 := ha x (by simp)
        have h2 := hb y (by simp)
        have : x.toNat ^^^ y.toNat < 2 ^ 8 := Nat.xor_lt_two_pow (by omega) (by omega)
        omega
      · exact ih (fun v hv => ha v (by simp [hv])) (fun v hv => hb v (by simp [hv])) z hz
attribute [local irreducible] gs
theorem run_cons (x : Nat) (c : Int) (l : List Int) : run x (c :: l) = run (stp x c) l := rfl
theorem run_nil (x : Nat) : run x [] = x := rfl
theorem run_one (z : Nat) (x : Int) : run z [x] = stp z x := run_cons z x []
theorem run_xr {a b : List Int} (h : a.length = b.length) (x y : Nat) : run (x ^^^ y) (xr a b) = run x a ^^^ run y b := by
  induction a generalizing b x y with
  | nil =>
    cases b with
    | nil =>
      have e : xr [] [] = [] := rfl
      rw [e, run_nil, run_nil, run_nil]
    | cons d b => simp at h
  | cons c a ih =>
    cases b with
    | nil => simp at h
    | cons d b =>
      have e : stp (x ^^^ y) ((c.toNat ^^^ d.toNat : Nat) : Int) = stp x c ^^^ stp y d := by
        unfold stp
        rw [← gs_xor, Int.toNat_natCast, xc]
      show run (stp (x ^^^ y) ((c.toNat ^^^ d.toNat : Nat) : Int)) (xr a b) = run (stp x c) a ^^^ run (stp y d) b
      rw [e]
      exact ih (by simpa using h) _ _
theorem crc_three {a b c : List Int} (h1 : a.length = b.length) (h2 : b.length = c.length) : crc (xr (xr a b) c) = (crc a ^^^ crc b) ^^^ crc c := by
  have hx := xr_len h1
  have e := run_xr (a := xr a b) (b := c) (by omega) (4294967295 ^^^ 4294967295) 4294967295
  rw [run_xr h1, Nat.xor_self, Nat.zero_xor] at e
  unfold crc
  rw [e]
  rw [xc 4294967295 (run 4294967295 a), Nat.xor_self, Nat.zero_xor, ← Nat.xor_assoc, Nat.xor_comm 4294967295, Nat.xor_assoc, Nat.xor_assoc]
theorem g_twice (y : Nat) : g (2 * y) = y := by
  unfold g
  rw [if_neg (by omega)]; omega
theorem gs_twice (k y : Nat) : gs k (2 ^ k * y) = y := by
  induction k generalizing y with
  | zero => simp [gs]
  | succ k ih =>
    simp only [gs]
    rw [show 2 ^ (k + 1) * y = 2 ^ k * (2 * y) by rw [Nat.pow_succ]; rw [Nat.mul_assoc], ih, g_twice]
theorem stp_zero : stp 0 0 = 0 := by decide +kernel
theorem run_zero {n : Nat} : run 0 (List.replicate n 0) = 0 := by
  induction n with
  | zero => exact run_nil 0
  | succ n ih =>
    rw [List.replicate_succ]
    show run (stp 0 0) (List.replicate n 0) = 0
    rw [stp_zero]
    exact ih
theorem burst (m : Nat) : ∀ (xs : List Int), Bys xs → xs.length = m → m ≤ 4 → run 0 xs < 2 ^ (8 * (4 - m)) → run 0 xs = 0 ∧ ∀ x ∈ xs, x = 0 := by
  induction m with
  | zero =>
    intro xs _ hl _ _
    have : xs = [] := List.eq_nil_of_length_eq_zero hl
    subst this
    exact ⟨run_nil 0, by simp⟩
  | succ m ih =>
    intro xs hb hl hm hs
    obtain ⟨ys, x, rfl⟩ : ∃ ys x, xs = ys ++ [x] := by
      have hne : xs ≠ [] := by intro e; subst e; simp at hl
      exact ⟨xs.dropLast, xs.getLast hne, (List.dropLast_concat_getLast hne).symm⟩
    have hby : Bys ys := fun z hz => hb z (by simp [hz])
    have hx := hb x (by simp)
    have hyl : ys.length = m := by simpa using hl
    rw [run_append] at hs ⊢
    have hr := run_lt hby (x := 0) (by omega)
    rw [run_one] at hs ⊢
    generalize hR : run 0 ys = r at *
    obtain ⟨s, hS⟩ : ∃ s, stp r x = s := ⟨_, rfl⟩
    rw [hS] at hs ⊢
    have hp : 2 ^ (8 * (4 - m)) = 256 * 2 ^ (8 * (4 - (m + 1))) := by
      rw [show 8 * (4 - m) = 8 * (4 - (m + 1)) + 8 by omega, Nat.pow_add]; omega
    have h256 : 256 * s < 2 ^ (8 * (4 - m)) := by rw [hp]; omega
    have h32 : 2 ^ (8 * (4 - m)) ≤ 4294967296 := by
      have := Nat.pow_le_pow_right (n := 2) (by omega) (by omega : 8 * (4 - m) ≤ 32)
      omega
    have h8 : 256 ≤ 2 ^ (8 * (4 - m)) := by
      have := Nat.pow_le_pow_right (n := 2) (by omega) (by omega : 8 ≤ 8 * (4 - m))
      omega
    have he : r ^^^ x.toNat = 256 * s := by
      refine gs_ne 8 (Nat.xor_lt_two_pow (n := 32) hr (by omega)) (by omega) ?_
      have := gs_twice 8 s
      rw [show (2 : Nat) ^ 8 = 256 from rfl] at this
      rw [this]; exact hS
    have hr2 : r = (256 * s) ^^^ x.toNat := by rw [← he, Nat.xor_assoc, Nat.xor_self, Nat.xor_zero]
    have hrb : r < 2 ^ (8 * (4 - m)) := by rw [hr2]; exact Nat.xor_lt_two_pow h256 (by omega)
    obtain ⟨h0, hz⟩ := ih ys hby hyl (by omega) (by rw [hR]; exact hrb)
    rw [hR] at h0
    subst h0
    rw [Nat.zero_xor] at he
    refine ⟨by omega, fun z hz' => ?_⟩
    rcases List.mem_append.1 hz' with h | h
    · exact hz z h
    · have : z = x := by simpa using h
      omega
/-- Up to four bytes that were changed change the sum. -/
theorem crc_burst {a b d : List Int} (hl : d.length = b.length) (n m : Nat) (x : List Int) (hx : Bys x) (hx4 : x.length ≤ 4) (hne : ∃ v ∈ x, v ≠ 0) (he : d = List.replicate n 0 ++ x ++ List.replicate m 0) (ha : a = xr b d) : crc b ≠ crc a := by
  intro h
  unfold crc at h
  have h1 := xor_cancel h
  have h2 := run_xr hl.symm 4294967295 0
  rw [Nat.xor_zero, ← ha, ← h1] at h2
  have h3 : run 0 d = 0 := by
    have := congrArg (run 4294967295 b ^^^ ·) h2
    simpa [← Nat.xor_assoc] using this.symm
  rw [he, run_append, run_append, run_zero] at h3
  have hr := run_lt hx (x := 0) (by omega)
  have h4 : run 0 x = 0 := by
    refine run_inj (l := List.replicate m 0) (fun z hz => by have := List.eq_of_mem_replicate hz; omega) hr (by omega) ?_
    rw [h3, run_zero]
  obtain ⟨v, hv, hv0⟩ := hne
  exact hv0 ((burst x.length x hx rfl hx4 (by rw [h4]; exact Nat.pow_pos (by omega))).2 v hv)
end Go.Proofs.Ytfojeegepfjbiaa.CrM
