/- Contract of crc.Scan. -/
import Derived.Test.YtfojeegepfjbiaaProg
import Derived.Below
import Derived.Deep.Draws
import Derived.Deep.AppendLies
import Derived.Maps.AppendAt
import Derived.OwnWalk
import Derived.Laws.BytesArg
import Derived.Laws.MakeOwn
import Derived.Laws.OwnMore
import Derived.Deep.OwnRows
import Derived.Tactics
import Derived.Lib.ConvBytes
import Derived.Laws.Slices
import Derived.WalkKit
import Derived.KernelRfl
import Derived.RowKit3
import Derived.Deep.LoopGhost
import Derived.Deep.QuietTactic
import Derived.BigQuiet
import Derived.WideLaws
import Derived.Deep.DeepCutAuto
import Derived.Deep.CutBlock
import Derived.Deep.RegionHeld3
import Derived.Laws.Rows
import Derived.Lib.AppendStr
import Derived.ArgAppend
import Derived.Laws.IdiomCopy
import Derived.OrdersHeld
import Derived.Laws.BitsLemmas
import Derived.RowKit
import Derived.WalkSpells
import Derived.Outline
import Derived.Test.YtfojeegepfjbiaaWWords
import Derived.Test.YtfojeegepfjbiaaWLast
import Derived.Test.YtfojeegepfjbiaaWMore
import Derived.Test.YtfojeegepfjbiaaWArr
import Derived.Test.YtfojeegepfjbiaaWTab
import Derived.Test.YtfojeegepfjbiaaWZeros
import Derived.Test.YtfojeegepfjbiaaWRepsOne
import Derived.Test.YtfojeegepfjbiaaCrD
namespace Go.Proofs.Ytfojeegepfjbiaa.CrE
open Go.RowKit Go.Proofs.YtfojeegepfjbiaaW.PrintWords Go.Proofs.YtfojeegepfjbiaaW.PrintLast Go.Proofs.YtfojeegepfjbiaaW.PrintMore Go.Proofs.Ytfojeegepfjbiaa.Nm Go.Proofs.Ytfojeegepfjbiaa.NmA Go.Proofs.Ytfojeegepfjbiaa.NmB Go.Proofs.Ytfojeegepfjbiaa.NmC Go.Proofs.Ytfojeegepfjbiaa.NmH Go.Proofs.Ytfojeegepfjbiaa.CrP Go.Proofs.Ytfojeegepfjbiaa.CrA Go.Proofs.Ytfojeegepfjbiaa.CrB Go.Proofs.Ytfojeegepfjbiaa.CrC Go.Proofs.Ytfojeegepfjbiaa.Mix
set_option linter.unusedSimpArgs false
set_option linter.unusedVariables false
attribute [local go_sem] max2_int min2_int max_two min_two

theorem info22 : (Try.prog.info? 22).map (fun i => (i.zero, i.size, i.bytes)) = some (some (.slice none 0 0), 1, 24) := by kernel_rfl
/-- The seals one behind the other. -/
def scanF : Nat → List Int → Nat → List (List Int) × Nat × Bool
  | 0, _, at_ => ([], at_, false)
  | f + 1, l, at_ => if (firstL (l.drop at_)).2.1 = 0 then ([], at_, (firstL (l.drop at_)).2.2) else ((firstL (l.drop at_)).1 :: (scanF f l (at_ + (firstL (l.drop at_)).2.1)).1, (scanF f l (at_ + (firstL (l.drop at_)).2.1)).2)
def scanL (l : List Int) : List (List Int) × Nat × Bool := scanF (l.length + 1) l 0
theorem firstL_le {l : List Int} (h : Bys l) : (firstL l).2.1 ≤ l.length := by
  have := fourV_bd h
  unfold firstL
  split
  · simp
  · split
    · simp
    · split
      · simp
      · split
        · simp
        · simp only []; omega
set_option maxRecDepth 100000 in
theorem scan_calls (A : Option Addr) (c : Nat) (l : List Int) (hby : Bys l) (w : World) (hr : Kd.C (Kd.int .u8) w A l.length l) (hc : l.length ≤ c) (hl : l.length ≤ 1000000000) :
    Calls Try.prog 27 #[.slice A l.length c] w fun e w' => ∃ v : Value, e = .returned (.tuple #[v, .int .i64 ((scanL l).2.1 : Int), .bool (scanL l).2.2]) ∧ Kd.R (Kd.slice 5 (Kd.int .u8)) 22 w' w.heap.size (fun _ => True) v (scanL l).1 ∧ Below w.heap.size w w' := by
  have HR := Aside0.mk hr
  have HB := Aside0.mk (Below.refl w.heap.size w)
  obtain ⟨E1, h1⟩ : ∃ E1, (scanF (l.length + 1) l 0).1 = E1 := ⟨_, rfl⟩
  obtain ⟨E2, h2⟩ : ∃ E2, (scanF (l.length + 1) l 0).2 = E2 := ⟨_, rfl⟩
  have HE1 := Aside0.mk h1
  have HE2 := Aside0.mk h2
  have HSL : Aside0 (scanL l = (E1, E2)) := ⟨by rw [← h1, ← h2]; rfl⟩
  have HBY := Aside0.mk hby
  clear hr h1 h2 hby
  go_enter Try.func27, Try.ntmps27
  go_wp2_with fail
  go_loopg [5, 6] (l.length + 1) (fun q v5 v6 w' => ∃ (i : Nat) (acc : List (List Int)), v6 = .int .i64 (i : Int) ∧ Aside0 (i ≤ l.length ∧ l.length < q + i ∧ acc.length ≤ i ∧ acc ++ (scanF q l i).1 = E1 ∧ (scanF q l i).2 = E2) ∧ Aside0 (Kd.R (Kd.slice 5 (Kd.int .u8)) 22 w' w.heap.size (fun _ => True) v5 acc) ∧ Aside0 (Below w.heap.size w w'))
  case atStart => exact ⟨0, [], rfl, ⟨Nat.zero_le _, by omega, Nat.le_refl _, HE1.out, HE2.out⟩, ⟨Kd.R_nil _ _ _ _ _⟩, HB⟩
  case round =>
    clear HB HE1 HE2
    obtain ⟨i, acc, rfl, HI, HO, HB⟩ := hrel
    have hil := HI.out.1
    obtain ⟨f, rfl⟩ : ∃ f, gk = f + 1 := ⟨gk - 1, by have := HI.out; omega⟩
    obtain ⟨A1, hs1, hc1⟩ := from_of A c l i hil hc
    have HC1 := Aside0.mk (hc1 wr (Kd.C_below HR.out HB.out))
    have hdl : (l.drop i).length = l.length - i := List.length_drop
    have HFC := Aside0.mk (fun h => first_calls A1 (c - i) (l.drop i) (bys_drop HBY.out i) wr h (by omega) (by omega))
    have hfl := firstL_le (bys_drop HBY.out i)
    rw [hdl] at hfl
    have HSC : Aside0 (scanF (f + 1) l i = if (firstL (l.drop i)).2.1 = 0 then ([], i, (firstL (l.drop i)).2.2) else ((firstL (l.drop i)).1 :: (scanF f l (i + (firstL (l.drop i)).2.1)).1, (scanF f l (i + (firstL (l.drop i)).2.1)).2)) := ⟨rfl⟩
    clear hdl hc1
    generalize (firstL (l.drop i)).1 = x at *
    generalize (firstL (l.drop i)).2.1 = n at *
    generalize (firstL (l.drop i)).2.2 = ct at *
    generalize l.drop i = ld at *
    go_wp2_with fail
    refine (HFC.out HC1.out).mono ?_
    rintro e_ w1 ⟨v, rfl, ho, hb⟩
    obtain ⟨Av, cv, ev⟩ := Kd.R_slice ho
    subst ev
    have HX := Aside0.mk ho
    have HO1 := Aside0.mk (Kd.R_below HO.out hb)
    have HLT := Aside0.mk (Kd.R_lt HO.out)
    have HB1 := Aside0.mk (below_step HB.out hb)
    clear ho hb hs1
    by_cases h0 : n = 0
    · have hsc := HSC.out.trans (if_pos h0)
      have b0 : ((n : Int) == 0) = true := by simp [h0]
      have hE := HI.out.2.2.2
      rw [hsc, List.append_nil] at hE
      have HE := Aside0.mk hE
      clear h0 hE hsc
      go_wp2
      go_ret3
      have e1 := HE.out.1
      have e2 := HE.out.2
      exact ⟨_, by rw [HSL.out, ← e2]; rfl, by rw [HSL.out, ← e1]; exact HO1.out, HB1.out⟩
    · have hsc := HSC.out.trans (if_neg h0)
      have b0 : ((n : Int) == 0) = false := by simp [h0]
      have hE := HI.out.2.2.2
      rw [hsc] at hE
      have HE := Aside0.mk hE
      have HAL : Aside0 (acc.length ≤ 1000000000) := ⟨by have := HI.out.2.2.1; omega⟩
      have kw : IntKind.i64.wrap ((i : Int) + (n : Int)) = (i : Int) + (n : Int) := by rw [IntKind.wrap_i64]; omega
      have HN0 := Aside0.mk h0
      have hxm : (Kd.slice 5 (Kd.int .u8)).M w1 w.heap.size (fun k => wr.heap.size ≤ k) x [.slice Av x.length cv] := ⟨_, rfl, Kd.R_lower (Kd.R_mono (Kd.R_bound HX.out) (fun k hk => hk.2.1)) HB.out.size⟩
      have HXM := Aside0.mk hxm
      clear h0 hE hsc hxm
      go_wp2_with ((with_reducible refine gate_builtin (b := .append) (xs := #[.tmp 23, .tmp 25]) rfl ?_); at_builtin; go_must (refine Kd.R_append (Kd.slice 5 (Kd.int .u8)) (w0 := w) (w.heap.size) rfl (.tmp 23) (.tmp 25) 32 22 (.slice none 0 0) 24 rfl Try.underlying32 info22 rfl (by decide) (by omega) u5 acc x [.slice Av x.length cv] (fun _ => True) (fun k => wr.heap.size ≤ k) ?hs_ ?hx_ HXM.out (fun k hk => ⟨trivial, fun e => by have := HLT.out k e.symm; omega⟩) (fun _ _ => trivial) HO1.out HB1.out HB1.out.size (by have := HAL.out; omega) ?_; (case hs_ => rfl); (case hx_ => rfl); intro v102 w4 ho hb hg hat; have HO4 := Aside0.mk ho; have HB4 := Aside0.mk hb; clear ho hb hg hat))
      go_roundg f
      case measure => omega
      case rel => exact ⟨i + n, acc ++ [x], by simp, ⟨by omega, by have := HI.out; have := HN0.out; omega, by rw [List.length_append]; have := HI.out; have := HN0.out; simp; omega, by rw [List.append_assoc]; exact HE.out.1, HE.out.2⟩, HO4, HB4⟩
end Go.Proofs.Ytfojeegepfjbiaa.CrE
