/- TopBusy: it answers true, whatever the works and the picks. No condition. -/
import Derived.Test.YtlpffldeogapmaaGreatDoorBk0
import Derived.Test.YtlpffldeogapmaaGreatDoorBk2
import Derived.Test.YtlpffldeogapmaaGreatDoorBk3
import Derived.Test.YtlpffldeogapmaaGreatDoorBkA
import Derived.Test.YtlpffldeogapmaaGreatDoorBkB
import Derived.Test.YtlpffldeogapmaaGreatDoorBkC
import Derived.Test.YtlpffldeogapmaaGreatDoorBkD
import Derived.Test.YtlpffldeogapmaaGreatDoorBkE
namespace Go.Proofs.YtlpffldeogapmaaGreatDoor.Bj
open Go Go.RowKit Go.Proofs.YtlpffldeogapmaaGreatDoorW.PrintWords
theorem two_of (x : Int) : (x.tmod 2).natAbs = 0 ∨ (x.tmod 2).natAbs = 1 := by
  have h1 := Int.tmod_lt_of_pos x (show (0 : Int) < 2 by decide)
  have h2 := Int.lt_tmod_of_pos x (show (0 : Int) < 2 by decide)
  omega
theorem path_nil {l : List Int} : ∀ (k j : Nat), ([] : List Nat)[k]? = some j → ((rd l (k : Int)).tmod 2).natAbs = j := fun k j h => by simp at h
theorem path_one {l : List Int} {p : Int} {a : Nat} (h : (p.tmod 2).natAbs = a) : ∀ (k j : Nat), [a][k]? = some j → ((rd (p :: l) (k : Int)).tmod 2).natAbs = j := fun k j e => by
  cases k with
  | zero =>
    simp at e; subst e
    exact h
  | succ k => simp at e
theorem path_two {l : List Int} {p q : Int} {a b : Nat} (h : (p.tmod 2).natAbs = a) (h2 : (q.tmod 2).natAbs = b) : ∀ (k j : Nat), [a, b][k]? = some j → ((rd (p :: q :: l) (k : Int)).tmod 2).natAbs = j := fun k j e => by
  match k with
  | 0 =>
    simp at e; subst e
    exact h
  | 1 =>
    simp at e; subst e
    exact h2
  | k + 2 => simp at e
theorem path_three {l : List Int} {p q r : Int} {a b c : Nat} (h : (p.tmod 2).natAbs = a) (h2 : (q.tmod 2).natAbs = b) (h3 : (r.tmod 2).natAbs = c) : ∀ (k j : Nat), [a, b, c][k]? = some j → ((rd (p :: q :: r :: l) (k : Int)).tmod 2).natAbs = j := fun k j e => by
  match k with
  | 0 =>
    simp at e; subst e
    exact h
  | 1 =>
    simp at e; subst e
    exact h2
  | 2 =>
    simp at e; subst e
    exact h3
  | k + 3 => simp at e
theorem walk (za zb : Int) (A : Option Addr) (c : Nat) (l : List Int) (w : World) (hza : (Lit.int .i64 za).wf = true) (hzb : (Lit.int .i64 zb).wf = true) (hR : (Kd.int .i64).C w A l.length l) (_hc : l.length ≤ c) (hy : l.length * 8 ≤ 140737488351232) (hwf : ∀ n ∈ l, (Lit.int .i64 n).wf = true) :
    Calls Tryz.prog 5 #[.int .i64 za, .int .i64 zb, .slice A l.length c] w fun e w' => e = .returned (.bool true) ∧ Below w.heap.size w w' := by
  simp [Lit.wf, IntKind.min, IntKind.max, IntKind.bits, IntKind.signed] at hza hzb
  have h1 := Int.tmod_lt_of_pos za (show (0 : Int) < 4 by decide)
  have h2 := Int.lt_tmod_of_pos za (show (0 : Int) < 4 by decide)
  have hj : (za.tmod 4).natAbs = 0 ∨ (za.tmod 4).natAbs = 1 ∨ (za.tmod 4).natAbs = 2 ∨ (za.tmod 4).natAbs = 3 := by omega
  have go := fun (j : Nat) (hj : (za.tmod 4).natAbs = j) (path : List Nat) (stop : Bool) (hrun : prefixRun CHx j path stop = true) => race za zb (by omega) (by omega) j hj path stop hrun A c l w hR (by omega) hwf
  rcases hj with hj | hj | hj | hj
  · exact go 0 hj [] false run_b0 (Nat.zero_le _) (by simp) (by simp) path_nil
  · match l, go with
    | [], go => exact go 1 hj [] true run_bA0 (by simp) (by simp) (by simp) path_nil
    | [p], go =>
      rcases two_of p with hp | hp
      · exact go 1 hj [0] true run_bA1 (by simp) (by simp) (by simp) (path_one hp)
      · exact go 1 hj [1] false run_bB (by simp) (by simp) (by simp) (path_one hp)
    | [p, q], go =>
      rcases two_of p with hp | hp
      · rcases two_of q with hq | hq
        · exact go 1 hj [0, 0] true run_bE0 (by simp) (by simp) (by simp) (path_two hp hq)
        · exact go 1 hj [0, 1] false run_bC (by simp) (by simp) (by simp) (path_two hp hq)
      · exact go 1 hj [1] false run_bB (by simp) (by simp) (by simp) (path_one hp)
    | p :: q :: r :: s, go =>
      rcases two_of p with hp | hp
      · rcases two_of q with hq | hq
        · rcases two_of r with hr | hr
          · exact go 1 hj [0, 0, 0] false run_bD (by simp) (by simp) (by simp) (path_three hp hq hr)
          · exact go 1 hj [0, 0, 1] false run_bE (by simp) (by simp) (by simp) (path_three hp hq hr)
        · exact go 1 hj [0, 1] false run_bC (by simp) (by simp) (by simp) (path_two hp hq)
      · exact go 1 hj [1] false run_bB (by simp) (by simp) (by simp) (path_one hp)
  · exact go 2 hj [] false run_b2 (Nat.zero_le _) (by simp) (by simp) path_nil
  · exact go 3 hj [] false run_b3 (Nat.zero_le _) (by simp) (by simp) path_nil
end Go.Proofs.YtlpffldeogapmaaGreatDoor.Bj
