/- Contracts of number.Put: what it writes. -/
import Derived.Test.YtfojeegepfjbiaaProg
import Derived.Below
import Derived.Deep.Draws
import Derived.Deep.AppendLies
import Derived.Maps.AppendAt
import Derived.OwnWalk
import Derived.Laws.BytesArg
import Derived.Laws.MakeOwn
import Derived.Laws.OwnMore
import Derived.Deep.OwnRows
import Derived.Tactics
import Derived.Lib.ConvBytes
import Derived.Laws.Slices
import Derived.WalkKit
import Derived.KernelRfl
import Derived.RowKit3
import Derived.Deep.LoopGhost
import Derived.Deep.QuietTactic
import Derived.BigQuiet
import Derived.WideLaws
import Derived.Deep.DeepCutAuto
import Derived.Deep.CutBlock
import Derived.Deep.RegionHeld3
import Derived.Laws.Rows
import Derived.Lib.AppendStr
import Derived.ArgAppend
import Derived.Laws.IdiomCopy
import Derived.OrdersHeld
import Derived.Laws.BitsLemmas
import Derived.RowKit
import Derived.WalkSpells
import Derived.Outline
import Derived.Test.YtfojeegepfjbiaaWWords
import Derived.Test.YtfojeegepfjbiaaWLast
import Derived.Test.YtfojeegepfjbiaaWMore
import Derived.Test.YtfojeegepfjbiaaWArr
import Derived.Test.YtfojeegepfjbiaaWTab
import Derived.Test.YtfojeegepfjbiaaWZeros
import Derived.Test.YtfojeegepfjbiaaWRepsOne
import Derived.Test.YtfojeegepfjbiaaNm
namespace Go.Proofs.Ytfojeegepfjbiaa.NmA
open Go.RowKit Go.Proofs.YtfojeegepfjbiaaW.PrintWords Go.Proofs.YtfojeegepfjbiaaW.PrintLast Go.Proofs.YtfojeegepfjbiaaW.PrintMore Go.Proofs.Ytfojeegepfjbiaa.Nm
set_option linter.unusedSimpArgs false
set_option linter.unusedVariables false
attribute [local go_sem] max2_int min2_int max_two min_two

theorem info5 : (Try.prog.info? 5).map (fun i => (i.zero, i.size, i.bytes)) = some (some (.int .u8 0), 1, 1) := by kernel_rfl

theorem cell_at {k : IntKind} {w wq : World} {ad : Addr} {l : List Int} {n : Nat} (h : (Kd.int k).C w (some ad) n l) (hb : Below w.heap.size w wq) (q : Nat) (hq : q < n) :
    wq.cell? (ad.add q) = some (.int k (rd l (q : Int))) := by
  obtain ⟨ad', e, hx⟩ := Kd.at_int h (q : Int) (by omega) (by omega)
  simp only [Int.toNat_natCast] at hx
  obtain rfl : ad = ad' := by injection e
  exact (hb.cell (World.block_lt_of_cell? w _ hx)).trans hx

/-- What the world owes to the world of the call. -/
theorem put_calls (n : Nat) (hn : n < 18446744073709551616) (w : World) :
    Calls Try.prog 54 #[.int .u64 (n : Int)] w fun e w' => ∃ v : Value, e = .returned v ∧ Kd.R (Kd.int .u8) 5 w' w.heap.size (fun _ => True) v (enc n) ∧ Below w.heap.size w w' := by
  have HB := Aside0.mk (Below.refl w.heap.size w)
  have HN := Aside0.mk hn
  clear hn
  go_enter Try.func54, Try.ntmps54
  go_wp2
  go_loopg [0, 3] n (fun kq v0 v3 w' => ∃ (m : Nat) (acc : List Int), v0 = .int .u64 m ∧ Aside0 (m ≤ kq ∧ m ≤ n ∧ acc ++ enc m = enc n) ∧ Aside0 (Kd.R (Kd.int .u8) 5 w' w.heap.size (fun _ => True) v3 acc) ∧ Aside0 (Below w.heap.size w w'))
  case atStart => exact ⟨n, [], rfl, ⟨by simp⟩, ⟨Kd.R_nil _ _ _ _ _⟩, ⟨HB.out⟩⟩
  case round =>
    clear HB
    obtain ⟨m, acc, rfl, HA, HR, HB⟩ := hrel
    have hlen : acc.length < 20 := by
      have h1 := congrArg List.length HA.out.2.2
      have h2 := enc_len 9 n (Nat.lt_of_lt_of_le HN.out (by decide))
      simp at h1; omega
    have HL := Aside0.mk hlen
    clear hlen
    by_cases h : (127 : Int) < m
    · go_wp2_with ((with_reducible refine gate_builtin (b := .append) (xs := #[.tmp 6, .tmp 10]) rfl ?_); at_builtin; go_must (refine Kd.R_append (Kd.int .u8) (w0 := w) w.heap.size rfl (.tmp 6) (.tmp 10) 22 5 (.int .u8 0) 1 rfl Try.underlying22 info5 rfl (by decide) (by omega) u3 acc (Go.bits .or .u8 ((m : Int) % 256) 128) [.int .u8 (Go.bits .or .u8 ((m : Int) % 256) 128)] (fun _ => True) (fun _ => False) rfl rfl rfl (fun _ hk => hk.elim) (fun _ _ => trivial) HR.out HB.out HB.out.size (by have := HL.out; omega) ?_; intro v102 w4 ho hb hg hat; have HO := Aside0.mk ho; have HB2 := Aside0.mk hb; clear ho hb hg hat))
      have e1 : ((m : Int) / 128) = ((m / 128 : Nat) : Int) := by omega
      go_roundg (m / 128)
      case measure => have := HA.out; omega
      case rel =>
        refine ⟨m / 128, _, by rw [e1], ⟨Nat.le_refl _, by have := HA.out; omega, ?_⟩, ⟨HO.out⟩, ⟨HB2.out⟩⟩
        rw [← HA.out.2.2, enc_large (n := m) (by omega), or128 (by omega) (by omega)]
        have : (m : Int) % 256 % 128 + 128 = ((m % 128 + 128 : Nat) : Int) := by omega
        rw [this]; simp
    · go_wp2_with ((with_reducible refine gate_builtin (b := .append) (xs := #[.tmp 14, .tmp 17]) rfl ?_); at_builtin; go_must (refine Kd.R_append (Kd.int .u8) (w0 := w) w.heap.size rfl (.tmp 14) (.tmp 17) 22 5 (.int .u8 0) 1 rfl Try.underlying22 info5 rfl (by decide) (by omega) u3 acc (m : Int) [.int .u8 (m : Int)] (fun _ => True) (fun _ => False) rfl rfl rfl (fun _ hk => hk.elim) (fun _ _ => trivial) HR.out HB.out HB.out.size (by have := HL.out; omega) ?_; intro v102 w4 ho hb hg hat; have HO := Aside0.mk ho; have HB2 := Aside0.mk hb; clear ho hb hg hat))
      go_ret
      refine ⟨v102, rfl, ?_, HB2.out⟩
      have h1 := HO.out
      rw [← enc_small (n := m) (by omega), HA.out.2.2] at h1
      exact h1
end Go.Proofs.Ytfojeegepfjbiaa.NmA
