/- The sum is linear, and a burst of four bytes changes it: lists alone. -/
import Derived.Test.YtfojeegepfjbiaaCrG
namespace Go.Proofs.Ytfojeegepfjbiaa.CrL
open Go.RowKit Go.Proofs.YtfojeegepfjbiaaW.PrintWords Go.Proofs.YtfojeegepfjbiaaW.PrintLast Go.Proofs.YtfojeegepfjbiaaW.PrintMore Go.Proofs.Ytfojeegepfjbiaa.Nm Go.Proofs.Ytfojeegepfjbiaa.NmC Go.Proofs.Ytfojeegepfjbiaa.CrP
theorem xc (a b c d : Nat) : (a ^^^ b) ^^^ (c ^^^ d) = (a ^^^ c) ^^^ (b ^^^ d) := by
  rw [Nat.xor_assoc, Nat.xor_assoc]
  congr 1
  rw [← Nat.xor_assoc, Nat.xor_comm b c, Nat.xor_assoc]
theorem xor_cancel {a b c : Nat} (h : a ^^^ b = a ^^^ c) : b = c := by
  have := congrArg (a ^^^ ·) h
  simpa [← Nat.xor_assoc] using this
theorem xor_cancel' {a b c : Nat} (h : b ^^^ a = c ^^^ a) : b = c := by
  rw [Nat.xor_comm b, Nat.xor_comm c] at h; exact xor_cancel h
theorem xor_zero {a b : Nat} (h : a ^^^ b = 0) : a = b := by
  rw [← Nat.xor_self a] at h; exact (xor_cancel h).symm
theorem g_eq (x : Nat) : g x = (x / 2) ^^^ (if x % 2 = 1 then 3988292384 else 0) := by
  unfold g
  split <;> simp
theorem g_xor (a b : Nat) : g (a ^^^ b) = g a ^^^ g b := by
  rw [g_eq, g_eq a, g_eq b, Nat.xor_div_two, xc]
  congr 1
  have h := @Nat.xor_mod_two_eq_one a b
  rcases Nat.mod_two_eq_zero_or_one a with ha | ha <;> rcases Nat.mod_two_eq_zero_or_one b with hb | hb <;> rcases Nat.mod_two_eq_zero_or_one (a ^^^ b) with hc | hc <;> simp [ha, hb, hc] at h ⊢
theorem g_zero {a : Nat} (h : a < 4294967296) (h0 : g a = 0) : a = 0 := by
  unfold g at h0
  split at h0
  · have e : a / 2 = 3988292384 := by
      have := congrArg (· ^^^ 3988292384) h0
      simpa [Nat.xor_assoc] using this
    omega
  · omega
theorem gs_xor (k a b : Nat) : gs k (a ^^^ b) = gs k a ^^^ gs k b := by
  induction k with
  | zero => rfl
  | succ k ih => simp only [gs]; rw [ih, g_xor]
theorem gs_zero (k : Nat) {a : Nat} (h : a < 4294967296) (h0 : gs k a = 0) : a = 0 := by
  induction k with
  | zero => exact h0
  | succ k ih => exact ih (g_zero (gs_lt k h) h0)
theorem gs_ne (k : Nat) {a b : Nat} (ha : a < 4294967296) (hb : b < 4294967296) (h : gs k a = gs k b) : a = b := by
  have h1 : gs k (a ^^^ b) = 0 := by rw [gs_xor, h, Nat.xor_self]
  have h2 := gs_zero k (Nat.xor_lt_two_pow (n := 32) ha hb) h1
  exact xor_zero h2
theorem stp_inj {x y : Nat} {c d : Int} (hx : x < 4294967296) (hy : y < 4294967296) (hc : 0 ≤ c ∧ c < 256) (hd : 0 ≤ d ∧ d < 256) (h : stp x c = stp y d) : x ^^^ c.toNat = y ^^^ d.toNat :=
  gs_ne 8 (Nat.xor_lt_two_pow (n := 32) hx (by omega)) (Nat.xor_lt_two_pow (n := 32) hy (by omega)) h
theorem run_inj {l : List Int} (hl : Bys l) : ∀ {x y : Nat}, x < 4294967296 → y < 4294967296 → run x l = run y l → x = y := by
  induction l with
  | nil => intro x y _ _ h; exact h
  | cons c l ih =>
    intro x y hx hy h
    have hc := hl c (by simp)
    have hl' : Bys l := fun z hz => hl z (by simp [hz])
    have h1 := ih hl' (stp_lt hx hc.2) (stp_lt hy hc.2) h
    have h2 := stp_inj hx hy hc hc h1
    exact xor_cancel' h2
/-- One byte that was changed changes the sum. -/
theorem crc_one {a b : List Int} {c d : Int} (ha : Bys a) (hb : Bys b) (hc : 0 ≤ c ∧ c < 256) (hd : 0 ≤ d ∧ d < 256) (hcd : c ≠ d) : crc (a ++ c :: b) ≠ crc (a ++ d :: b) := by
  intro h
  unfold crc at h
  have h1 := xor_cancel h
  rw [run_append, run_append] at h1
  have hr := run_lt ha (x := 4294967295) (by omega)
  have h2 := run_inj hb (stp_lt hr hc.2) (stp_lt hr hd.2) h1
  have h3 := xor_cancel (stp_inj hr hr hc hd h2)
  omega
end Go.Proofs.Ytfojeegepfjbiaa.CrL
