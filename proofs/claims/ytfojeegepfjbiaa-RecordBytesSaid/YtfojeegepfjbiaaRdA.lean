/- Contracts of record.Check and of the reference. -/
import Derived.Test.YtfojeegepfjbiaaProg
import Derived.Below
import Derived.Deep.Draws
import Derived.Deep.AppendLies
import Derived.Maps.AppendAt
import Derived.OwnWalk
import Derived.Laws.BytesArg
import Derived.Laws.MakeOwn
import Derived.Laws.OwnMore
import Derived.Deep.OwnRows
import Derived.Tactics
import Derived.Lib.ConvBytes
import Derived.Laws.Slices
import Derived.WalkKit
import Derived.KernelRfl
import Derived.RowKit3
import Derived.Deep.LoopGhost
import Derived.Deep.QuietTactic
import Derived.BigQuiet
import Derived.WideLaws
import Derived.Deep.DeepCutAuto
import Derived.Deep.CutBlock
import Derived.Deep.RegionHeld3
import Derived.Laws.Rows
import Derived.Lib.AppendStr
import Derived.ArgAppend
import Derived.Laws.IdiomCopy
import Derived.OrdersHeld
import Derived.Laws.BitsLemmas
import Derived.RowKit
import Derived.Laws.Strings
import Derived.WalkSpells
import Derived.Outline
import Derived.Test.YtfojeegepfjbiaaWWords
import Derived.Test.YtfojeegepfjbiaaWLast
import Derived.Test.YtfojeegepfjbiaaWMore
import Derived.Test.YtfojeegepfjbiaaWArr
import Derived.Test.YtfojeegepfjbiaaWTab
import Derived.Test.YtfojeegepfjbiaaWZeros
import Derived.Test.YtfojeegepfjbiaaWRepsOne
import Derived.Test.YtfojeegepfjbiaaNmI
import Derived.Test.YtfojeegepfjbiaaCrK
namespace Go.Proofs.Ytfojeegepfjbiaa.RdA
open Go.RowKit Go.Proofs.YtfojeegepfjbiaaW.PrintWords Go.Proofs.YtfojeegepfjbiaaW.PrintLast Go.Proofs.YtfojeegepfjbiaaW.PrintMore Go.Proofs.Ytfojeegepfjbiaa.Nm Go.Proofs.Ytfojeegepfjbiaa.NmA Go.Proofs.Ytfojeegepfjbiaa.NmB Go.Proofs.Ytfojeegepfjbiaa.NmC Go.Proofs.Ytfojeegepfjbiaa.NmD Go.Proofs.Ytfojeegepfjbiaa.NmE Go.Proofs.Ytfojeegepfjbiaa.NmI Go.Proofs.Ytfojeegepfjbiaa.CrP Go.Proofs.Ytfojeegepfjbiaa.CrA Go.Proofs.Ytfojeegepfjbiaa.CrB Go.Proofs.Ytfojeegepfjbiaa.Mix
set_option linter.unusedSimpArgs false
set_option linter.unusedVariables false
attribute [local go_sem] max2_int min2_int max_two min_two

/-- A record's value in the frame. -/
def recV (k s : Int) (key v : ByteArray) : Value := .agg #[.int .i64 k, .int .i64 s, .string key, .string v]
/-- Its first fault, or 0. -/
def checkL (k s : Int) (key v : ByteArray) : Int :=
  if key.size = 0 then 1 else if 100 < key.size ∨ 4000 < v.size then 2 else if (k ≠ 1 ∧ k ≠ 0) ∨ (k = 0 ∧ v.size ≠ 0) ∨ s < 1 ∨ 1125899906842624 < s then 10 else 0
theorem empty_iff (s : ByteArray) : s.toList.isEmpty = decide (s.size = 0) := by
  have hl : s.toList.length = s.size := by rw [ByteArray.toList_eq, Array.length_toList]; rfl
  cases h : s.toList with
  | nil =>
    have h0 : s.size = 0 := by rw [← hl, h]; rfl
    rw [decide_eq_true h0]; rfl
  | cons x l =>
    have h0 : ¬ s.size = 0 := by rw [← hl, h]; simp
    rw [decide_eq_false h0]; rfl
set_option maxRecDepth 100000 in
theorem check_calls (k s : Int) (key v : ByteArray) (w : World) :
    Calls Try.prog 35 #[recV k s key v] w fun e w' => e = .returned (.int .i64 (checkL k s key v)) ∧ Below w.heap.size w w' := by
  have HB := Aside0.mk ((Below.refl w.heap.size w).alloc (Nat.le_refl _) (.cells #[.int .i64 k, .int .i64 s, .string key, .string v] 45 (0, 0)))
  have HC : Aside0 (checkL k s key v = if key.size = 0 then 1 else if 100 < key.size ∨ 4000 < v.size then 2 else if (k ≠ 1 ∧ k ≠ 0) ∨ (k = 0 ∧ v.size ≠ 0) ∨ s < 1 ∨ 1125899906842624 < s then 10 else 0) := ⟨rfl⟩
  unfold recV
  have be := empty_iff key
  have bv := empty_iff v
  by_cases h0 : key.size = 0
  · rw [decide_eq_true h0] at be
    have HE := Aside0.mk (HC.out.trans (if_pos h0))
    clear h0 bv
    go_enter Try.func35, Try.ntmps35
    go_wp2
    go_ret
    exact ⟨by rw [HE.out]; rfl, HB.out⟩
  rw [decide_eq_false h0] at be
  have HC1 := Aside0.mk (HC.out.trans (if_neg h0))
  clear h0 HC
  by_cases h1 : 100 < key.size
  · have HE := Aside0.mk (HC1.out.trans (if_pos (Or.inl h1)))
    have k1 : ((100 : Int) < (key.size : Int)) = True := eq_true (by omega)
    clear h1 bv HC1
    go_enter Try.func35, Try.ntmps35
    go_wp2
    go_ret
    exact ⟨by rw [HE.out]; rfl, HB.out⟩
  have k1 : ((100 : Int) < (key.size : Int)) = False := eq_false (by omega)
  by_cases h2 : 4000 < v.size
  · have HE := Aside0.mk (HC1.out.trans (if_pos (Or.inr h2)))
    have k2 : ((4000 : Int) < (v.size : Int)) = True := eq_true (by omega)
    clear h1 h2 bv HC1
    go_enter Try.func35, Try.ntmps35
    go_wp2
    go_ret
    exact ⟨by rw [HE.out]; rfl, HB.out⟩
  have k2 : ((4000 : Int) < (v.size : Int)) = False := eq_false (by omega)
  have HC2 := Aside0.mk (HC1.out.trans (if_neg (by omega)))
  clear h1 h2 HC1
  by_cases hk1 : k = 1
  · subst hk1
    by_cases h3 : s < 1
    · have HE := Aside0.mk (HC2.out.trans (if_pos (Or.inr (Or.inr (Or.inl h3)))))
      clear bv HC2
      go_enter Try.func35, Try.ntmps35
      go_wp2
      go_ret
      exact ⟨by rw [HE.out]; rfl, HB.out⟩
    · by_cases h4 : 1125899906842624 < s
      · have HE := Aside0.mk (HC2.out.trans (if_pos (Or.inr (Or.inr (Or.inr h4)))))
        clear bv HC2
        go_enter Try.func35, Try.ntmps35
        go_wp2
        go_ret
        exact ⟨by rw [HE.out]; rfl, HB.out⟩
      · have HE := Aside0.mk (HC2.out.trans (if_neg (by omega)))
        clear bv HC2
        go_enter Try.func35, Try.ntmps35
        go_wp2
        go_ret
        exact ⟨by rw [HE.out]; rfl, HB.out⟩
  · have b1 : (k != 1) = true := bne_iff_ne.2 hk1
    by_cases hk0 : k = 0
    · subst hk0
      by_cases hv : v.size = 0
      · rw [decide_eq_true hv] at bv
        by_cases h3 : s < 1
        · have HE := Aside0.mk (HC2.out.trans (if_pos (Or.inr (Or.inr (Or.inl h3)))))
          clear hv hk1 HC2
          go_enter Try.func35, Try.ntmps35
          go_wp2
          go_ret
          exact ⟨by rw [HE.out]; rfl, HB.out⟩
        · by_cases h4 : 1125899906842624 < s
          · have HE := Aside0.mk (HC2.out.trans (if_pos (Or.inr (Or.inr (Or.inr h4)))))
            clear hv hk1 HC2
            go_enter Try.func35, Try.ntmps35
            go_wp2
            go_ret
            exact ⟨by rw [HE.out]; rfl, HB.out⟩
          · have HE := Aside0.mk (HC2.out.trans (if_neg (by omega)))
            clear hv hk1 HC2
            go_enter Try.func35, Try.ntmps35
            go_wp2
            go_ret
            exact ⟨by rw [HE.out]; rfl, HB.out⟩
      · rw [decide_eq_false hv] at bv
        have HE := Aside0.mk (HC2.out.trans (if_pos (Or.inr (Or.inl ⟨rfl, hv⟩))))
        clear hv hk1 HC2
        go_enter Try.func35, Try.ntmps35
        go_wp2
        go_ret
        exact ⟨by rw [HE.out]; rfl, HB.out⟩
    · have b2 : (k != 0) = true := bne_iff_ne.2 hk0
      have HE := Aside0.mk (HC2.out.trans (if_pos (Or.inl ⟨hk1, hk0⟩)))
      clear hk0 hk1 bv HC2
      go_enter Try.func35, Try.ntmps35
      go_wp2
      go_ret
      exact ⟨by rw [HE.out]; rfl, HB.out⟩
set_option maxRecDepth 100000 in
theorem rcheck_calls (k s : Int) (key v : ByteArray) (w : World) :
    Calls Try.prog 34 #[recV k s key v] w fun e w' => e = .returned (.int .i64 (checkL k s key v)) ∧ Below w.heap.size w w' := by
  have HB := Aside0.mk ((Below.refl w.heap.size w).alloc (Nat.le_refl _) (.cells #[.int .i64 k, .int .i64 s, .string key, .string v] 45 (0, 0)))
  have HC : Aside0 (checkL k s key v = if key.size = 0 then 1 else if 100 < key.size ∨ 4000 < v.size then 2 else if (k ≠ 1 ∧ k ≠ 0) ∨ (k = 0 ∧ v.size ≠ 0) ∨ s < 1 ∨ 1125899906842624 < s then 10 else 0) := ⟨rfl⟩
  unfold recV
  have be := empty_iff key
  have bv := empty_iff v
  by_cases h0 : key.size = 0
  · rw [decide_eq_true h0] at be
    have HE := Aside0.mk (HC.out.trans (if_pos h0))
    clear h0 bv
    go_enter Try.func34, Try.ntmps34
    go_wp2
    go_ret
    exact ⟨by rw [HE.out]; rfl, HB.out⟩
  rw [decide_eq_false h0] at be
  have HC1 := Aside0.mk (HC.out.trans (if_neg h0))
  clear h0 HC
  by_cases h1 : 100 < key.size
  · have HE := Aside0.mk (HC1.out.trans (if_pos (Or.inl h1)))
    have k1 : ((100 : Int) < (key.size : Int)) = True := eq_true (by omega)
    clear h1 bv HC1
    go_enter Try.func34, Try.ntmps34
    go_wp2
    go_ret
    exact ⟨by rw [HE.out]; rfl, HB.out⟩
  have k1 : ((100 : Int) < (key.size : Int)) = False := eq_false (by omega)
  by_cases h2 : 4000 < v.size
  · have HE := Aside0.mk (HC1.out.trans (if_pos (Or.inr h2)))
    have k2 : ((4000 : Int) < (v.size : Int)) = True := eq_true (by omega)
    clear h1 h2 bv HC1
    go_enter Try.func34, Try.ntmps34
    go_wp2
    go_ret
    exact ⟨by rw [HE.out]; rfl, HB.out⟩
  have k2 : ((4000 : Int) < (v.size : Int)) = False := eq_false (by omega)
  have HC2 := Aside0.mk (HC1.out.trans (if_neg (by omega)))
  clear h1 h2 HC1
  by_cases hk1 : k = 1
  · subst hk1
    by_cases h3 : s < 1
    · have HE := Aside0.mk (HC2.out.trans (if_pos (Or.inr (Or.inr (Or.inl h3)))))
      clear bv HC2
      go_enter Try.func34, Try.ntmps34
      go_wp2
      go_ret
      exact ⟨by rw [HE.out]; rfl, HB.out⟩
    · by_cases h4 : 1125899906842624 < s
      · have HE := Aside0.mk (HC2.out.trans (if_pos (Or.inr (Or.inr (Or.inr h4)))))
        clear bv HC2
        go_enter Try.func34, Try.ntmps34
        go_wp2
        go_ret
        exact ⟨by rw [HE.out]; rfl, HB.out⟩
      · have HE := Aside0.mk (HC2.out.trans (if_neg (by omega)))
        clear bv HC2
        go_enter Try.func34, Try.ntmps34
        go_wp2
        go_ret
        exact ⟨by rw [HE.out]; rfl, HB.out⟩
  · have b1 : (k != 1) = true := bne_iff_ne.2 hk1
    by_cases hk0 : k = 0
    · subst hk0
      by_cases hv : v.size = 0
      · rw [decide_eq_true hv] at bv
        by_cases h3 : s < 1
        · have HE := Aside0.mk (HC2.out.trans (if_pos (Or.inr (Or.inr (Or.inl h3)))))
          clear hv hk1 HC2
          go_enter Try.func34, Try.ntmps34
          go_wp2
          go_ret
          exact ⟨by rw [HE.out]; rfl, HB.out⟩
        · by_cases h4 : 1125899906842624 < s
          · have HE := Aside0.mk (HC2.out.trans (if_pos (Or.inr (Or.inr (Or.inr h4)))))
            clear hv hk1 HC2
            go_enter Try.func34, Try.ntmps34
            go_wp2
            go_ret
            exact ⟨by rw [HE.out]; rfl, HB.out⟩
          · have HE := Aside0.mk (HC2.out.trans (if_neg (by omega)))
            clear hv hk1 HC2
            go_enter Try.func34, Try.ntmps34
            go_wp2
            go_ret
            exact ⟨by rw [HE.out]; rfl, HB.out⟩
      · rw [decide_eq_false hv] at bv
        have HE := Aside0.mk (HC2.out.trans (if_pos (Or.inr (Or.inl ⟨rfl, hv⟩))))
        clear hv hk1 HC2
        go_enter Try.func34, Try.ntmps34
        go_wp2
        go_ret
        exact ⟨by rw [HE.out]; rfl, HB.out⟩
    · have b2 : (k != 0) = true := bne_iff_ne.2 hk0
      have HE := Aside0.mk (HC2.out.trans (if_pos (Or.inl ⟨hk1, hk0⟩)))
      clear hk0 hk1 bv HC2
      go_enter Try.func34, Try.ntmps34
      go_wp2
      go_ret
      exact ⟨by rw [HE.out]; rfl, HB.out⟩
end Go.Proofs.Ytfojeegepfjbiaa.RdA
