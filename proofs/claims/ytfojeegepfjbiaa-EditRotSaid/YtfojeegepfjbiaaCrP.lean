/- Sums of bytes: numbers and lists alone. -/
import Derived.Test.YtfojeegepfjbiaaNmH
namespace Go.Proofs.Ytfojeegepfjbiaa.CrP
open Go.RowKit Go.Proofs.YtfojeegepfjbiaaW.PrintWords Go.Proofs.YtfojeegepfjbiaaW.PrintLast Go.Proofs.YtfojeegepfjbiaaW.PrintMore Go.Proofs.Ytfojeegepfjbiaa.Nm

/-- One bit. -/
def g (x : Nat) : Nat := if x % 2 = 1 then (x / 2) ^^^ 3988292384 else x / 2
def gs : Nat → Nat → Nat
  | 0, x => x
  | k + 1, x => g (gs k x)
/-- One byte. -/
def stp (x : Nat) (c : Int) : Nat := gs 8 (x ^^^ c.toNat)
def run (x : Nat) : List Int → Nat
  | [] => x
  | c :: l => run (stp x c) l
def crc (l : List Int) : Nat := 4294967295 ^^^ run 4294967295 l
theorem g_lt {x : Nat} (h : x < 4294967296) : g x < 4294967296 := by
  unfold g
  split
  · exact Nat.xor_lt_two_pow (n := 32) (by omega) (by omega)
  · omega
theorem gs_lt (k : Nat) {x : Nat} (h : x < 4294967296) : gs k x < 4294967296 := by
  induction k with
  | zero => exact h
  | succ k ih => exact g_lt ih
theorem stp_lt {x : Nat} {c : Int} (h : x < 4294967296) (hc : c < 256) : stp x c < 4294967296 :=
  gs_lt 8 (Nat.xor_lt_two_pow (n := 32) (by omega) (by omega))
theorem run_lt {l : List Int} (hl : Bys l) : ∀ {x : Nat}, x < 4294967296 → run x l < 4294967296 := by
  induction l with
  | nil => intro x h; exact h
  | cons c l ih => intro x h; exact ih (fun y hy => hl y (by simp [hy])) (stp_lt h (hl c (by simp)).2)
theorem run_append (x : Nat) (a b : List Int) : run x (a ++ b) = run (run x a) b := by
  induction a generalizing x with
  | nil => rfl
  | cons c a ih => exact ih _
theorem crc_lt {l : List Int} (h : Bys l) : crc l < 4294967296 := Nat.xor_lt_two_pow (n := 32) (by omega) (run_lt h (by omega))
end Go.Proofs.Ytfojeegepfjbiaa.CrP
