/- The contract of number.Get: what it tells of any bytes. -/
import Derived.Test.YtfojeegepfjbiaaProg
import Derived.Below
import Derived.Deep.Draws
import Derived.Deep.AppendLies
import Derived.Maps.AppendAt
import Derived.OwnWalk
import Derived.Laws.BytesArg
import Derived.Laws.MakeOwn
import Derived.Laws.OwnMore
import Derived.Deep.OwnRows
import Derived.Tactics
import Derived.Lib.ConvBytes
import Derived.Laws.Slices
import Derived.WalkKit
import Derived.KernelRfl
import Derived.RowKit3
import Derived.Deep.LoopGhost
import Derived.Deep.QuietTactic
import Derived.BigQuiet
import Derived.WideLaws
import Derived.Deep.DeepCutAuto
import Derived.Deep.CutBlock
import Derived.Deep.RegionHeld3
import Derived.Laws.Rows
import Derived.Lib.AppendStr
import Derived.ArgAppend
import Derived.Laws.IdiomCopy
import Derived.OrdersHeld
import Derived.Laws.BitsLemmas
import Derived.RowKit
import Derived.WalkSpells
import Derived.Outline
import Derived.Test.YtfojeegepfjbiaaWWords
import Derived.Test.YtfojeegepfjbiaaWLast
import Derived.Test.YtfojeegepfjbiaaWMore
import Derived.Test.YtfojeegepfjbiaaWArr
import Derived.Test.YtfojeegepfjbiaaWTab
import Derived.Test.YtfojeegepfjbiaaWZeros
import Derived.Test.YtfojeegepfjbiaaWRepsOne
import Derived.Test.YtfojeegepfjbiaaNmA
namespace Go.Proofs.Ytfojeegepfjbiaa.NmB
open Go.RowKit Go.Proofs.YtfojeegepfjbiaaW.PrintWords Go.Proofs.YtfojeegepfjbiaaW.PrintLast Go.Proofs.YtfojeegepfjbiaaW.PrintMore Go.Proofs.Ytfojeegepfjbiaa.Nm Go.Proofs.Ytfojeegepfjbiaa.NmA
set_option linter.unusedSimpArgs false
set_option linter.unusedVariables false
attribute [local go_sem] max2_int min2_int max_two min_two

theorem info5' : (Try.prog.info? 5).map (fun i => (i.zero, i.size, i.bytes)) = some (some (.int .u8 0), 1, 1) := by kernel_rfl


theorem fin_ret {g : Int × Int} {a b v : Int} {i : Nat} (h1 : g = (b, v)) (h2 : a = b) (hi : i ≤ 9) {k : v = (i : Int) + 1} :
    Ending.returned (.tuple #[.int .u64 a, .int .i64 (wrap64 ((i : Int) + 1))]) = Ending.returned (.tuple #[.int .u64 g.1, .int .i64 g.2]) := by
  rw [h1, h2, k, wrap64_id (by omega) (by omega)]
theorem get_calls (A : Option Addr) (c : Nat) (l : List Int) (hby : Bys l) (w : World) (hr : Kd.C (Kd.int .u8) w A l.length l) (hc : l.length ≤ c) :
    Calls Try.prog 89 #[.slice A l.length c] w fun e w' => e = .returned (.tuple #[.int .u64 (getS l).1, .int .i64 (getS l).2]) ∧ Below w.heap.size w w' := by
  obtain ⟨m, hm⟩ : ∃ m : Nat, (if (10 : Int) < (l.length : Int) then (10 : Int) else (l.length : Int)) = (m : Int) := by
    by_cases h : (10 : Int) < (l.length : Int)
    · exact ⟨10, by rw [if_pos h]; rfl⟩
    · exact ⟨l.length, by rw [if_neg h]⟩
  have hm1 : m ≤ l.length ∧ m ≤ 10 ∧ (m = l.length ∨ m = 10) := by split at hm <;> omega
  have HM := Aside0.mk hm1
  have htl : (l.take m).length = m := by rw [List.length_take]; omega
  have hts : getS (l.take m) = getS l := by
    rcases hm1.2.2 with h | h
    · rw [h, List.take_length]
    · rw [h, getS_take]
  obtain ⟨i05, hi05, _, hsz5, _⟩ := info_parts info5
  have hcut := cut_to (P := Try.prog) 22 5 .i64 Try.underlying22 hi05 A l.length c (m : Int) (by omega) (by omega) hc
  simp only [Int.toNat_natCast] at hcut
  have HR := Aside0.mk hr
  have HBY := Aside0.mk hby
  have HTS := Aside0.mk hts
  have HTL := Aside0.mk htl
  have HB := Aside0.mk (Below.refl w.heap.size w)
  clear hr hby hts htl hm1 hc hi05 hsz5
  go_enter Try.func89, Try.ntmps89
  go_wp2
  go_loopg [4, 13] m (fun g v4 v13 w' => ∃ (i : Nat) (acc : Int), v4 = .int .u64 acc ∧ v13 = .int .i64 i ∧ Aside0 (i + g = m ∧ (∀ c ∈ (l.take m).take i, c > 127) ∧ (i ≤ 9 → acc = val ((l.take m).take i))) ∧ Aside0 (Below w.heap.size w w'))
  case atStart => exact ⟨0, 0, rfl, rfl, ⟨by omega, by simp, by simp [val]⟩, HB⟩
  case round =>
    clear hm hcut HB
    obtain ⟨i, acc, rfl, rfl, HA, HB⟩ := hrel
    by_cases hlt : i < m
    · have hm1 := HM.out
      obtain ⟨ad, rfl, hx⟩ := Kd.at_int HR.out (i : Int) (by omega) (by omega)
      simp only [Int.toNat_natCast] at hx
      replace hx := (HB.out.cell (World.block_lt_of_cell? w _ hx)).trans hx
      have hbx : 0 ≤ rd l i ∧ rd l i < 256 := rd_bys HBY.out (by omega)
      clear hm1
      obtain ⟨x, hxx⟩ : ∃ x, rd l i = x := ⟨_, rfl⟩
      rw [hxx] at hx hbx
      have HX := Aside0.mk hxx
      clear hxx
      obtain ⟨s, hs⟩ : ∃ s : Nat, wrap64 (7 * (i : Int)) = (s : Int) := ⟨7 * i, by have := HM.out; rw [wrap64_id] <;> omega⟩
      have HS : Aside0 (s = 7 * i) := ⟨by have := HM.out; rw [wrap64_id] at hs <;> omega⟩
      by_cases h127 : 127 < x
      · go_wp2
        go_roundg (m - (i + 1))
        case measure => have := HA.out; omega
        case rel =>
          have hm1 := HM.out
          obtain ⟨e1, e2, e3⟩ := split_at hlt hm1.1
          rw [HX.out] at e3
          refine ⟨i + 1, _, rfl, (by rw [wrap64_id (by omega) (by omega)]; rfl), ⟨by omega, ?_, ?_⟩, HB⟩
          · rw [e3]; intro c hc; simp only [List.mem_append, List.mem_singleton] at hc
            rcases hc with hc | rfl
            · exact HA.out.2.1 c hc
            · exact h127
          · intro h9
            rw [e3, HA.out.2.2 (by omega), HS.out]
            have := or_val (x := x) (pre := (l.take m).take i) (by omega) hbx (Or.inl (by omega))
            rw [e2] at this; exact this
      · have hm1 := HM.out
        obtain ⟨e1, e2, e3⟩ := split_at hlt hm1.1
        rw [HX.out] at e1 e3
        have hg := getS_at _ ((l.take m).drop (i + 1)) x HA.out.2.1 h127 (by omega)
        rw [← e1, HTS.out, e2] at hg
        have hv : ¬ (i = 9 ∧ x > 1) → Go.bits .or .u64 acc (IntKind.u64.wrap (IntKind.u64.wrap (Go.bits .and .u8 x 127) * 2 ^ min s 64)) = val ((l.take m).take i ++ [x]) := by
          intro h
          rw [HA.out.2.2 (by omega), HS.out]
          have := or_val (x := x) (pre := (l.take m).take i) (by omega) hbx (by omega)
          rw [e2] at this; exact this
        have HG := Aside0.mk hg
        have HV := Aside0.mk hv
        have HI : Aside0 (i ≤ 9) := ⟨by omega⟩
        clear hg hv hm1 e1 e2 e3
        by_cases p0 : 0 < i
        · by_cases x0 : x = 0
          · have b1 : (x == 0) = true := beq_iff_eq.2 x0
            have HE := Aside0.mk x0
            clear x0
            go_wp2
            go_ret2
            exact ⟨by rw [HG.out, if_pos (Or.inl ⟨p0, HE.out⟩)]; rfl, HB.out⟩
          · have b1 : (x == 0) = false := beq_eq_false_iff_ne.2 x0
            by_cases i9 : i = 9
            · have b2 : ((i : Int) == 9) = true := beq_iff_eq.2 (by omega)
              have HE := Aside0.mk i9
              clear i9
              by_cases x1 : 1 < x
              · go_wp2
                go_ret2
                exact ⟨by rw [HG.out, if_pos (Or.inr ⟨HE.out, x1⟩)]; rfl, HB.out⟩
              · have HF := Aside0.mk (fin_ret (k := rfl) (HG.out.trans (if_neg (by have := HE.out; omega))) (HV.out (by omega)) HI.out)
                go_wp2
                go_ret2
                exact ⟨HF.out, HB.out⟩
            · have b2 : ((i : Int) == 9) = false := beq_eq_false_iff_ne.2 (by omega)
              have HF := Aside0.mk (fin_ret (k := rfl) (HG.out.trans (if_neg (by omega))) (HV.out (by omega)) HI.out)
              go_wp2
              go_ret2
              exact ⟨HF.out, HB.out⟩
        · have b2 : ((i : Int) == 9) = false := beq_eq_false_iff_ne.2 (by omega)
          have HF := Aside0.mk (fin_ret (k := rfl) (HG.out.trans (if_neg (by omega))) (HV.out (by omega)) HI.out)
          go_wp2
          go_ret2
          refine ⟨?_, HB.out⟩
          have h := HF.out
          rw [wrap64_id (n := (i : Int) + 1) (by omega) (by omega), HS.out, Nat.min_eq_left (by omega)] at h
          exact h
    · have hm1 := HM.out
      have hi : i = m := by have := HA.out; omega
      have hg := getS_all _ HA.out.2.1
      rw [hi, List.take_take, Nat.min_self, HTS.out] at hg
      have HG := Aside0.mk hg
      clear hg hi hm1
      go_wp2
      go_ret2
      exact ⟨by rw [HG.out]; rfl, HB.out⟩
end Go.Proofs.Ytfojeegepfjbiaa.NmB
