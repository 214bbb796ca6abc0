/- Contract of crc.Open. -/
import Derived.Test.YtfojeegepfjbiaaProg
import Derived.Below
import Derived.Deep.Draws
import Derived.Deep.AppendLies
import Derived.Maps.AppendAt
import Derived.OwnWalk
import Derived.Laws.BytesArg
import Derived.Laws.MakeOwn
import Derived.Laws.OwnMore
import Derived.Deep.OwnRows
import Derived.Tactics
import Derived.Lib.ConvBytes
import Derived.Laws.Slices
import Derived.WalkKit
import Derived.KernelRfl
import Derived.RowKit3
import Derived.Deep.LoopGhost
import Derived.Deep.QuietTactic
import Derived.BigQuiet
import Derived.WideLaws
import Derived.Deep.DeepCutAuto
import Derived.Deep.CutBlock
import Derived.Deep.RegionHeld3
import Derived.Laws.Rows
import Derived.Lib.AppendStr
import Derived.ArgAppend
import Derived.Laws.IdiomCopy
import Derived.OrdersHeld
import Derived.Laws.BitsLemmas
import Derived.RowKit
import Derived.WalkSpells
import Derived.Outline
import Derived.Test.YtfojeegepfjbiaaWWords
import Derived.Test.YtfojeegepfjbiaaWLast
import Derived.Test.YtfojeegepfjbiaaWMore
import Derived.Test.YtfojeegepfjbiaaWArr
import Derived.Test.YtfojeegepfjbiaaWTab
import Derived.Test.YtfojeegepfjbiaaWZeros
import Derived.Test.YtfojeegepfjbiaaWRepsOne
import Derived.Test.YtfojeegepfjbiaaCrC
namespace Go.Proofs.Ytfojeegepfjbiaa.CrD
open Go.RowKit Go.Proofs.YtfojeegepfjbiaaW.PrintWords Go.Proofs.YtfojeegepfjbiaaW.PrintLast Go.Proofs.YtfojeegepfjbiaaW.PrintMore Go.Proofs.Ytfojeegepfjbiaa.Nm Go.Proofs.Ytfojeegepfjbiaa.NmA Go.Proofs.Ytfojeegepfjbiaa.NmB Go.Proofs.Ytfojeegepfjbiaa.NmC Go.Proofs.Ytfojeegepfjbiaa.NmH Go.Proofs.Ytfojeegepfjbiaa.CrP Go.Proofs.Ytfojeegepfjbiaa.CrA Go.Proofs.Ytfojeegepfjbiaa.CrB Go.Proofs.Ytfojeegepfjbiaa.CrC Go.Proofs.Ytfojeegepfjbiaa.Mix
set_option linter.unusedSimpArgs false
set_option linter.unusedVariables false
attribute [local go_sem] max2_int min2_int max_two min_two

/-- What Open tells. -/
def openL (l : List Int) : List Int × Bool := if (firstL l).2.1 = 0 ∨ (firstL l).2.1 ≠ l.length then ([], false) else ((firstL l).1, true)
set_option maxRecDepth 100000 in
theorem open_calls (A : Option Addr) (c : Nat) (l : List Int) (hby : Bys l) (w : World) (hr : Kd.C (Kd.int .u8) w A l.length l) (hc : l.length ≤ c) (hl : l.length ≤ 140737488351232) :
    Calls Try.prog 24 #[.slice A l.length c] w fun e w' => ∃ v : Value, e = .returned (.tuple #[v, .bool (openL l).2]) ∧ Kd.R (Kd.int .u8) 5 w' w.heap.size (fun _ => True) v (openL l).1 ∧ Below w.heap.size w w' := by
  have HNIL := Aside0.mk (Kd.R_nil (Kd.int .u8) 5)
  have HFC := Aside0.mk (first_calls A c l hby w hr hc hl)
  have HF : Aside0 (openL l = if (firstL l).2.1 = 0 ∨ (firstL l).2.1 ≠ l.length then ([], false) else ((firstL l).1, true)) := ⟨rfl⟩
  generalize (firstL l).1 = x at *
  generalize (firstL l).2.1 = n at *
  generalize (firstL l).2.2 = ok at *
  clear hby hr
  go_enter Try.func24, Try.ntmps24
  go_wp2_with fail
  refine HFC.out.mono ?_
  rintro e_ w1 ⟨v, rfl, ho, hb⟩
  have HO := Aside0.mk ho
  have HB := Aside0.mk hb
  clear ho hb
  by_cases h0 : n = 0
  · have e := HF.out.trans (if_pos (Or.inl h0))
    have HE := Aside0.mk e
    subst h0
    clear e
    go_wp2
    go_ret2
    exact ⟨_, by rw [HE.out]; rfl, by rw [HE.out]; exact HNIL.out _ _ _, HB.out⟩
  · have b0 : ((n : Int) == 0) = false := by simp [h0]
    by_cases h1 : n = l.length
    · have HE := Aside0.mk (HF.out.trans (if_neg (by omega)))
      have b1 : ((n : Int) != (l.length : Int)) = false := by simp [h1]
      clear h0 h1
      go_wp2
      go_ret2
      exact ⟨_, by rw [HE.out]; rfl, by rw [HE.out]; exact HO.out, HB.out⟩
    · have HE := Aside0.mk (HF.out.trans (if_pos (Or.inr h1)))
      have b1 : ((n : Int) != (l.length : Int)) = true := by simp; omega
      clear h0 h1
      go_wp2
      go_ret2
      exact ⟨_, by rw [HE.out]; rfl, by rw [HE.out]; exact HNIL.out _ _ _, HB.out⟩
end Go.Proofs.Ytfojeegepfjbiaa.CrD
