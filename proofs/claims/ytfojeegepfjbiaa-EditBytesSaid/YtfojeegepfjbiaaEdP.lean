/- Contracts of the reference: has, range50. -/
import Derived.Test.YtfojeegepfjbiaaProg
import Derived.Below
import Derived.Deep.Draws
import Derived.Deep.AppendLies
import Derived.Maps.AppendAt
import Derived.OwnWalk
import Derived.Laws.BytesArg
import Derived.Laws.MakeOwn
import Derived.Laws.OwnMore
import Derived.Deep.OwnRows
import Derived.Tactics
import Derived.Lib.ConvBytes
import Derived.Laws.Slices
import Derived.WalkKit
import Derived.KernelRfl
import Derived.RowKit3
import Derived.Deep.LoopGhost
import Derived.Deep.QuietTactic
import Derived.BigQuiet
import Derived.WideLaws
import Derived.Deep.DeepCutAuto
import Derived.Deep.CutBlock
import Derived.Deep.RegionHeld3
import Derived.Laws.Rows
import Derived.Lib.AppendStr
import Derived.ArgAppend
import Derived.Laws.IdiomCopy
import Derived.OrdersHeld
import Derived.Laws.BitsLemmas
import Derived.RowKit
import Derived.Deep.RegionWith
import Derived.WalkSpells
import Derived.Outline
import Derived.Test.YtfojeegepfjbiaaWWords
import Derived.Test.YtfojeegepfjbiaaWLast
import Derived.Test.YtfojeegepfjbiaaWMore
import Derived.Test.YtfojeegepfjbiaaWArr
import Derived.Test.YtfojeegepfjbiaaWTab
import Derived.Test.YtfojeegepfjbiaaWZeros
import Derived.Test.YtfojeegepfjbiaaWRepsOne
import Derived.Test.YtfojeegepfjbiaaEdO
namespace Go.Proofs.Ytfojeegepfjbiaa.EdP
open Go.RowKit Go.Proofs.YtfojeegepfjbiaaW.PrintWords Go.Proofs.YtfojeegepfjbiaaW.PrintLast Go.Proofs.YtfojeegepfjbiaaW.PrintMore Go.Proofs.Ytfojeegepfjbiaa.Mix Go.Proofs.Ytfojeegepfjbiaa.MixB Go.Proofs.Ytfojeegepfjbiaa.MixT Go.Proofs.Ytfojeegepfjbiaa.Nm Go.Proofs.Ytfojeegepfjbiaa.NmA Go.Proofs.Ytfojeegepfjbiaa.NmB Go.Proofs.Ytfojeegepfjbiaa.NmC Go.Proofs.Ytfojeegepfjbiaa.NmH Go.Proofs.Ytfojeegepfjbiaa.CrP Go.Proofs.Ytfojeegepfjbiaa.CrA Go.Proofs.Ytfojeegepfjbiaa.CrB Go.Proofs.Ytfojeegepfjbiaa.CrC Go.Proofs.Ytfojeegepfjbiaa.CrD Go.Proofs.Ytfojeegepfjbiaa.CrE Go.Proofs.Ytfojeegepfjbiaa.CrG Go.Proofs.Ytfojeegepfjbiaa.CrH Go.Proofs.Ytfojeegepfjbiaa.CrI Go.Proofs.Ytfojeegepfjbiaa.EdZ Go.Proofs.Ytfojeegepfjbiaa.EdA Go.Proofs.Ytfojeegepfjbiaa.EdB Go.Proofs.Ytfojeegepfjbiaa.EdC Go.Proofs.Ytfojeegepfjbiaa.EdD Go.Proofs.Ytfojeegepfjbiaa.EdE Go.Proofs.Ytfojeegepfjbiaa.EdF Go.Proofs.Ytfojeegepfjbiaa.EdG Go.Proofs.Ytfojeegepfjbiaa.EdH Go.Proofs.Ytfojeegepfjbiaa.EdI Go.Proofs.Ytfojeegepfjbiaa.EdJ Go.Proofs.Ytfojeegepfjbiaa.EdK Go.Proofs.Ytfojeegepfjbiaa.EdL Go.Proofs.Ytfojeegepfjbiaa.EdM Go.Proofs.Ytfojeegepfjbiaa.EdN Go.Proofs.Ytfojeegepfjbiaa.EdO
set_option linter.unusedSimpArgs false
set_option linter.unusedVariables false
attribute [local go_sem] max2_int min2_int max_two min_two

set_option maxRecDepth 100000 in
theorem has_calls (A : Option Addr) (c : Nat) (xs : List Int) (n : Int) (w : World) (hr : (Kd.int .i64).C w A xs.length xs) :
    Calls Try.prog 61 #[.slice A xs.length c, .int .i64 n] w fun e w' => e = .returned (.bool (xs.contains n)) ∧ Below w.heap.size w w' := by
  have hln := hr.2.1
  have HR := Aside0.mk hr
  have HB := Aside0.mk (Below.refl w.heap.size w)
  obtain ⟨E, hE⟩ : ∃ E, xs.contains n = E := ⟨_, rfl⟩
  have HE := Aside0.mk hE
  rw [hE]
  clear hr hE
  go_enter Try.func61, Try.ntmps61
  go_wp2_with fail
  go_loopg [5] xs.length (fun q v5 w' => ∃ i : Nat, v5 = .int .i64 (i : Int) ∧ Aside0 (i + q = xs.length ∧ (xs.drop i).contains n = E) ∧ Aside0 (Below w.heap.size w w'))
  case atStart => exact ⟨0, rfl, ⟨by omega, HE.out⟩, HB⟩
  case round =>
    clear HB HE
    obtain ⟨i, rfl, HI, HB⟩ := hrel
    have hix := HI.out
    by_cases hlt : i < xs.length
    · obtain ⟨f, rfl⟩ : ∃ f, gk = f + 1 := ⟨gk - 1, by omega⟩
      have k0 : ((i : Int) < (xs.length : Int)) = True := eq_true (by omega)
      have kw : IntKind.i64.wrap ((i : Int) + 1) = (i : Int) + 1 := by rw [IntKind.wrap_i64]; omega
      obtain ⟨ad, e_, h0⟩ := i64_at (Kd.C_below HR.out HB.out) i hlt
      subst e_
      have hf := hix.2
      rw [drop_getD (d := 0) hlt, List.contains_cons] at hf
      generalize xs.getD i 0 = o at *
      have HF := Aside0.mk hf
      clear hf hix
      by_cases hq : n = o
      · subst hq
        have HE : Aside0 (E = true) := ⟨by rw [← HF.out]; simp⟩
        have b1 : (n == n) = true := by simp
        go_wp2
        go_ret
        exact ⟨by rw [HE.out]; rfl, HB.out⟩
      · have b1 : (n == o) = false := beq_eq_false_iff_ne.2 hq
        have b2 : (o == n) = false := beq_eq_false_iff_ne.2 (fun h => hq h.symm)
        have HE : Aside0 ((xs.drop (i + 1)).contains n = E) := ⟨by rw [← HF.out, b1]; rfl⟩
        clear hq
        go_wp2_with fail
        go_roundg f
        case measure => omega
        case rel => exact ⟨i + 1, by simp, ⟨by have := HI.out; omega, HE.out⟩, HB⟩
    · have k0 : ((i : Int) < (xs.length : Int)) = False := eq_false (by omega)
      have hf := hix.2
      rw [List.drop_of_length_le (by omega)] at hf
      have HE : Aside0 (E = false) := ⟨hf.symm⟩
      clear hix hf hlt
      go_wp2
      go_ret
      exact ⟨by rw [HE.out]; rfl, HB.out⟩
theorem in_cons (lo hi n : Int) (xs : List Int) : inL lo hi (n :: xs) = (!offB lo hi n && inL lo hi xs) := by simp [inL]
set_option maxRecDepth 100000 in
theorem range50_calls (A : Option Addr) (c : Nat) (xs : List Int) (w : World) (hr : (Kd.int .i64).C w A xs.length xs) :
    Calls Try.prog 62 #[.slice A xs.length c] w fun e w' => e = .returned (.bool (inL 1 1125899906842624 xs)) ∧ Below w.heap.size w w' := by
  have hln := hr.2.1
  have HR := Aside0.mk hr
  have HB := Aside0.mk (Below.refl w.heap.size w)
  obtain ⟨E, hE⟩ : ∃ E, inL 1 1125899906842624 xs = E := ⟨_, rfl⟩
  have HE := Aside0.mk hE
  rw [hE]
  clear hr hE
  go_enter Try.func62, Try.ntmps62
  go_wp2_with fail
  go_loopg [3] xs.length (fun q v3 w' => ∃ i : Nat, v3 = .int .i64 (i : Int) ∧ Aside0 (i + q = xs.length ∧ inL 1 1125899906842624 (xs.drop i) = E) ∧ Aside0 (Below w.heap.size w w'))
  case atStart => exact ⟨0, rfl, ⟨by omega, HE.out⟩, HB⟩
  case round =>
    clear HB HE
    obtain ⟨i, rfl, HI, HB⟩ := hrel
    have hix := HI.out
    by_cases hlt : i < xs.length
    · obtain ⟨f, rfl⟩ : ∃ f, gk = f + 1 := ⟨gk - 1, by omega⟩
      have k0 : ((i : Int) < (xs.length : Int)) = True := eq_true (by omega)
      have kw : IntKind.i64.wrap ((i : Int) + 1) = (i : Int) + 1 := by rw [IntKind.wrap_i64]; omega
      obtain ⟨ad, e_, h0⟩ := i64_at (Kd.C_below HR.out HB.out) i hlt
      subst e_
      have hf := hix.2
      rw [drop_getD (d := 0) hlt, in_cons] at hf
      generalize xs.getD i 0 = o at *
      have HF := Aside0.mk hf
      clear hf hix
      by_cases h1 : o < 1
      · have HE : Aside0 (E = false) := ⟨by rw [← HF.out]; simp [offB, h1]⟩
        go_wp2
        go_ret
        exact ⟨by rw [HE.out]; rfl, HB.out⟩
      · by_cases h2 : 1125899906842624 < o
        · have HE : Aside0 (E = false) := ⟨by rw [← HF.out]; simp [offB, h2]⟩
          have k1 : (o < 1) = False := eq_false h1
          go_wp2
          go_ret
          exact ⟨by rw [HE.out]; rfl, HB.out⟩
        · have k1 : (o < 1) = False := eq_false h1
          have k2 : (1125899906842624 < o) = False := eq_false h2
          have HE : Aside0 (inL 1 1125899906842624 (xs.drop (i + 1)) = E) := ⟨by rw [← HF.out]; simp [offB, h1, h2]⟩
          clear h1 h2
          go_wp2_with fail
          go_roundg f
          case measure => omega
          case rel => exact ⟨i + 1, by simp, ⟨by have := HI.out; omega, HE.out⟩, HB⟩
    · have k0 : ((i : Int) < (xs.length : Int)) = False := eq_false (by omega)
      have hf := hix.2
      rw [List.drop_of_length_le (by omega)] at hf
      have HE : Aside0 (E = true) := ⟨hf.symm⟩
      clear hix hf hlt
      go_wp2
      go_ret
      exact ⟨by rw [HE.out]; rfl, HB.out⟩
end Go.Proofs.Ytfojeegepfjbiaa.EdP
