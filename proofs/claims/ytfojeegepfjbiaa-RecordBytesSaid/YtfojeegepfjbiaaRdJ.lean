/- Contracts of Eq, EqAll. -/
import Derived.Test.YtfojeegepfjbiaaProg
import Derived.Below
import Derived.Deep.Draws
import Derived.Deep.AppendLies
import Derived.Maps.AppendAt
import Derived.OwnWalk
import Derived.Laws.BytesArg
import Derived.Laws.MakeOwn
import Derived.Laws.OwnMore
import Derived.Deep.OwnRows
import Derived.Tactics
import Derived.Lib.ConvBytes
import Derived.Laws.Slices
import Derived.WalkKit
import Derived.KernelRfl
import Derived.RowKit3
import Derived.Deep.LoopGhost
import Derived.Deep.QuietTactic
import Derived.BigQuiet
import Derived.WideLaws
import Derived.Deep.DeepCutAuto
import Derived.Deep.CutBlock
import Derived.Deep.RegionHeld3
import Derived.Laws.Rows
import Derived.Lib.AppendStr
import Derived.ArgAppend
import Derived.Laws.IdiomCopy
import Derived.OrdersHeld
import Derived.Laws.BitsLemmas
import Derived.RowKit
import Derived.Laws.Strings
import Derived.WalkSpells
import Derived.Outline
import Derived.Test.YtfojeegepfjbiaaWWords
import Derived.Test.YtfojeegepfjbiaaWLast
import Derived.Test.YtfojeegepfjbiaaWMore
import Derived.Test.YtfojeegepfjbiaaWArr
import Derived.Test.YtfojeegepfjbiaaWTab
import Derived.Test.YtfojeegepfjbiaaWZeros
import Derived.Test.YtfojeegepfjbiaaWRepsOne
import Derived.Test.YtfojeegepfjbiaaRdI
namespace Go.Proofs.Ytfojeegepfjbiaa.RdJ
open Go.RowKit Go.Proofs.YtfojeegepfjbiaaW.PrintWords Go.Proofs.YtfojeegepfjbiaaW.PrintLast Go.Proofs.YtfojeegepfjbiaaW.PrintMore Go.Proofs.Ytfojeegepfjbiaa.Nm Go.Proofs.Ytfojeegepfjbiaa.NmA Go.Proofs.Ytfojeegepfjbiaa.NmB Go.Proofs.Ytfojeegepfjbiaa.NmC Go.Proofs.Ytfojeegepfjbiaa.NmD Go.Proofs.Ytfojeegepfjbiaa.NmE Go.Proofs.Ytfojeegepfjbiaa.NmI Go.Proofs.Ytfojeegepfjbiaa.CrP Go.Proofs.Ytfojeegepfjbiaa.CrA Go.Proofs.Ytfojeegepfjbiaa.CrB Go.Proofs.Ytfojeegepfjbiaa.CrC Go.Proofs.Ytfojeegepfjbiaa.CrD Go.Proofs.Ytfojeegepfjbiaa.CrE Go.Proofs.Ytfojeegepfjbiaa.CrG Go.Proofs.Ytfojeegepfjbiaa.CrH Go.Proofs.Ytfojeegepfjbiaa.Mix Go.Proofs.Ytfojeegepfjbiaa.RdA Go.Proofs.Ytfojeegepfjbiaa.RdB Go.Proofs.Ytfojeegepfjbiaa.RdC Go.Proofs.Ytfojeegepfjbiaa.RdD Go.Proofs.Ytfojeegepfjbiaa.RdE Go.Proofs.Ytfojeegepfjbiaa.RdF
set_option linter.unusedSimpArgs false
set_option linter.unusedVariables false
attribute [local go_sem] max2_int min2_int max_two min_two

def rec0 : Rec := (0, 0, ⟨#[]⟩, ⟨#[]⟩)
theorem rec_at {w : World} {A : Option Addr} {n : Nat} {os : List Rec} (h : recK.C w A n os) (i : Nat) (hi : i < n) : ∃ ad, A = some ad ∧ w.cell? (ad.add (i * 4)) = some (.int .i64 (os.getD i rec0).1) ∧ w.cell? ⟨(ad.add (i * 4)).block, (ad.add (i * 4)).off + 1, none⟩ = some (.int .i64 (os.getD i rec0).2.1) ∧
    w.cell? ⟨(ad.add (i * 4)).block, (ad.add (i * 4)).off + 2, none⟩ = some (.string (os.getD i rec0).2.2.1) ∧ w.cell? ⟨(ad.add (i * 4)).block, (ad.add (i * 4)).off + 3, none⟩ = some (.string (os.getD i rec0).2.2.2) := by
  obtain ⟨ad, cs, e1, hs, ⟨c0, c1, e2, h0, d0, d1, e3, h1, f0, f1, e4, h2, h3⟩, hcell⟩ := ReadsRow.get_ h rec0 (i : Int) (by omega) (by omega)
  rw [Int.toNat_natCast] at h0 h1 h2 h3 hcell
  have h0' : c0 = [.int .i64 (os.getD i rec0).1] := h0
  have h1' : d0 = [.int .i64 (os.getD i rec0).2.1] := h1
  have h2' : f0 = [.string (os.getD i rec0).2.2.1] := h2
  have h3' : f1 = [.string (os.getD i rec0).2.2.2] := h3
  subst h0'
  subst h1'
  subst h2'
  subst h3'
  subst e4
  subst e3
  subst e2
  have hz : recK.sz = 4 := rfl
  rw [hz] at hcell
  have q1 := hcell 1 _ rfl
  have q2 := hcell 2 _ rfl
  have q3 := hcell 3 _ rfl
  rw [add_field ad (i * 4) 1 (by decide)] at q1
  rw [add_field ad (i * 4) 2 (by decide)] at q2
  rw [add_field ad (i * 4) 3 (by decide)] at q3
  exact ⟨ad, e1, hcell 0 _ rfl, q1, q2, q3⟩
theorem str_eq (a b : ByteArray) : (a.toList == b.toList) = decide (a = b) := by
  by_cases h : a = b
  · subst h; rw [decide_eq_true rfl]; exact beq_self_eq_true _
  · rw [decide_eq_false h]
    refine beq_eq_false_iff_ne.2 (fun e => h ?_)
    rw [ByteArray.toList_eq, ByteArray.toList_eq] at e
    rcases a with ⟨a⟩
    rcases b with ⟨b⟩
    congr 1
    exact Array.toList_inj.1 e
set_option maxRecDepth 100000 in
theorem eq_calls (r s : Rec) (w : World) :
    Calls Try.prog 38 #[recV r.1 r.2.1 r.2.2.1 r.2.2.2, recV s.1 s.2.1 s.2.2.1 s.2.2.2] w fun e w' => e = .returned (.bool (decide (r = s))) ∧ Below w.heap.size w w' := by
  obtain ⟨k, n, key, v⟩ := r
  obtain ⟨k2, n2, key2, v2⟩ := s
  have hb1 := (Below.refl w.heap.size w).alloc (Nat.le_refl _) (.cells #[.int .i64 k, .int .i64 n, .string key, .string v] 45 (0, 0))
  have HB := Aside0.mk (hb1.alloc hb1.size (.cells #[.int .i64 k2, .int .i64 n2, .string key2, .string v2] 45 (0, 0)))
  have se1 := str_eq key key2
  have se2 := str_eq v v2
  clear hb1
  unfold recV
  simp only []
  by_cases h1 : k = k2
  · subst h1
    by_cases h2 : n = n2
    · subst h2
      by_cases h3 : key = key2
      · subst h3
        by_cases h4 : v = v2
        · subst h4
          have HD : Aside0 (decide ((k, n, key, v) = (k, n, key, v)) = true) := ⟨decide_eq_true rfl⟩
          rw [HD.out]
          rw [decide_eq_true rfl] at se1 se2
          go_enter Try.func38, Try.ntmps38
          go_wp2
          go_ret
          exact ⟨rfl, HB.out⟩
        · have HD : Aside0 (decide ((k, n, key, v) = (k, n, key, v2)) = false) := ⟨decide_eq_false (fun e => h4 (by injection e with _ e; injection e with _ e; injection e with _ e))⟩
          rw [HD.out]
          rw [decide_eq_true rfl] at se1
          rw [decide_eq_false h4] at se2
          clear h4
          go_enter Try.func38, Try.ntmps38
          go_wp2
          go_ret
          exact ⟨rfl, HB.out⟩
      · have HD : Aside0 (decide ((k, n, key, v) = (k, n, key2, v2)) = false) := ⟨decide_eq_false (fun e => h3 (by injection e with _ e; injection e with _ e; injection e with e _))⟩
        rw [HD.out]
        rw [decide_eq_false h3] at se1
        clear h3 se2
        go_enter Try.func38, Try.ntmps38
        go_wp2
        go_ret
        exact ⟨rfl, HB.out⟩
    · have HD : Aside0 (decide ((k, n, key, v) = (k, n2, key2, v2)) = false) := ⟨decide_eq_false (fun e => h2 (by injection e with _ e; injection e with e _))⟩
      rw [HD.out]
      have b2 : (n == n2) = false := beq_eq_false_iff_ne.2 h2
      clear h2 se1 se2
      go_enter Try.func38, Try.ntmps38
      go_wp2
      go_ret
      exact ⟨rfl, HB.out⟩
  · have HD : Aside0 (decide ((k, n, key, v) = (k2, n2, key2, v2)) = false) := ⟨decide_eq_false (fun e => h1 (by injection e with e _))⟩
    rw [HD.out]
    have b1 : (k == k2) = false := beq_eq_false_iff_ne.2 h1
    clear h1 se1 se2
    go_enter Try.func38, Try.ntmps38
    go_wp2
    go_ret
    exact ⟨rfl, HB.out⟩
end Go.Proofs.Ytfojeegepfjbiaa.RdJ
