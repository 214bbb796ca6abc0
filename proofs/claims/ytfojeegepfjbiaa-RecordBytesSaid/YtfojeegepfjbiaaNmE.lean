/- Contracts of folioref1.Put, Get: as those of number. -/
import Derived.Test.YtfojeegepfjbiaaProg
import Derived.Below
import Derived.Deep.Draws
import Derived.Deep.AppendLies
import Derived.Maps.AppendAt
import Derived.OwnWalk
import Derived.Laws.BytesArg
import Derived.Laws.MakeOwn
import Derived.Laws.OwnMore
import Derived.Deep.OwnRows
import Derived.Tactics
import Derived.Lib.ConvBytes
import Derived.Laws.Slices
import Derived.WalkKit
import Derived.KernelRfl
import Derived.RowKit3
import Derived.Deep.LoopGhost
import Derived.Deep.QuietTactic
import Derived.BigQuiet
import Derived.WideLaws
import Derived.Deep.DeepCutAuto
import Derived.Deep.CutBlock
import Derived.Deep.RegionHeld3
import Derived.Laws.Rows
import Derived.Lib.AppendStr
import Derived.ArgAppend
import Derived.Laws.IdiomCopy
import Derived.OrdersHeld
import Derived.Laws.BitsLemmas
import Derived.RowKit
import Derived.WalkSpells
import Derived.Outline
import Derived.Test.YtfojeegepfjbiaaWWords
import Derived.Test.YtfojeegepfjbiaaWLast
import Derived.Test.YtfojeegepfjbiaaWMore
import Derived.Test.YtfojeegepfjbiaaWArr
import Derived.Test.YtfojeegepfjbiaaWTab
import Derived.Test.YtfojeegepfjbiaaWZeros
import Derived.Test.YtfojeegepfjbiaaWRepsOne
import Derived.Test.YtfojeegepfjbiaaNmC
namespace Go.Proofs.Ytfojeegepfjbiaa.NmE
open Go.RowKit Go.Proofs.YtfojeegepfjbiaaW.PrintWords Go.Proofs.YtfojeegepfjbiaaW.PrintLast Go.Proofs.YtfojeegepfjbiaaW.PrintMore Go.Proofs.Ytfojeegepfjbiaa.Nm Go.Proofs.Ytfojeegepfjbiaa.NmA Go.Proofs.Ytfojeegepfjbiaa.NmB Go.Proofs.Ytfojeegepfjbiaa.NmC
set_option linter.unusedSimpArgs false
set_option linter.unusedVariables false
attribute [local go_sem] max2_int min2_int max_two min_two

theorem rput_calls (n : Nat) (hn : n < 18446744073709551616) (w : World) :
    Calls Try.prog 56 #[.int .u64 (n : Int)] w fun e w' => ∃ v : Value, e = .returned v ∧ Kd.R (Kd.int .u8) 5 w' w.heap.size (fun _ => True) v (enc n) ∧ Below w.heap.size w w' := by
  have HB := Aside0.mk (Below.refl w.heap.size w)
  have HN := Aside0.mk hn
  clear hn
  go_enter Try.func56, Try.ntmps56
  go_wp2
  go_loopg [0, 3] n (fun kq v0 v3 w' => ∃ (m : Nat) (acc : List Int), v0 = .int .u64 m ∧ Aside0 (m ≤ kq ∧ m ≤ n ∧ acc ++ enc m = enc n) ∧ Aside0 (Kd.R (Kd.int .u8) 5 w' w.heap.size (fun _ => True) v3 acc) ∧ Aside0 (Below w.heap.size w w'))
  case atStart => exact ⟨n, [], rfl, ⟨by simp⟩, ⟨Kd.R_nil _ _ _ _ _⟩, ⟨HB.out⟩⟩
  case round =>
    clear HB
    obtain ⟨m, acc, rfl, HA, HR, HB⟩ := hrel
    have hlen : acc.length < 20 := by
      have h1 := congrArg List.length HA.out.2.2
      have h2 := enc_len 9 n (Nat.lt_of_lt_of_le HN.out (by decide))
      simp at h1; omega
    have HL := Aside0.mk hlen
    clear hlen
    by_cases h : m < 128
    · have hb : decide (128 ≤ (m : Int)) = false := decide_eq_false (by omega)
      go_wp2_with ((with_reducible refine gate_builtin (b := .append) (xs := #[.tmp 15, .tmp 18]) rfl ?_); at_builtin; go_must (refine Kd.R_append (Kd.int .u8) (w0 := w) (w.heap.size) rfl (.tmp 15) (.tmp 18) 22 5 (.int .u8 0) 1 rfl Try.underlying22 info5 rfl (by decide) (by omega) u3 acc (m : Int) [.int .u8 (m : Int)] (fun _ => True) (fun _ => False) rfl rfl rfl (fun _ hk => hk.elim) (fun _ _ => trivial) HR.out HB.out HB.out.size (by have := HL.out; omega) ?_; intro v102 w4 ho hb hg hat; have HO := Aside0.mk ho; have HB2 := Aside0.mk hb; clear ho hb hg hat))
      go_ret
      refine ⟨v102, rfl, ?_, HB2.out⟩
      have h1 := HO.out
      rw [← enc_small h, HA.out.2.2] at h1
      exact h1
    · have hb : decide (128 ≤ (m : Int)) = true := decide_eq_true (by omega)
      go_wp2_with ((with_reducible refine gate_builtin (b := .append) (xs := #[.tmp 6, .tmp 11]) rfl ?_); at_builtin; go_must (refine Kd.R_append (Kd.int .u8) (w0 := w) (w.heap.size) rfl (.tmp 6) (.tmp 11) 22 5 (.int .u8 0) 1 rfl Try.underlying22 info5 rfl (by decide) (by omega) u3 acc ((m : Int) % 128 + 128) [.int .u8 ((m : Int) % 128 + 128)] (fun _ => True) (fun _ => False) rfl rfl rfl (fun _ hk => hk.elim) (fun _ _ => trivial) HR.out HB.out HB.out.size (by have := HL.out; omega) ?_; intro v102 w4 ho hb hg hat; have HO := Aside0.mk ho; have HB2 := Aside0.mk hb; clear ho hb hg hat))
      have e1 : ((m : Int) / 128) = ((m / 128 : Nat) : Int) := by omega
      go_roundg (m / 128)
      case measure => have := HA.out; omega
      case rel =>
        refine ⟨m / 128, _, by rw [e1, u64_id (by omega) (by have := HA.out; have := HN.out; omega)], ⟨Nat.le_refl _, by have := HA.out; omega, ?_⟩, ⟨HO.out⟩, ⟨HB2.out⟩⟩
        rw [← HA.out.2.2, enc_large (n := m) h]
        have : (m : Int) % 128 + 128 = ((m % 128 + 128 : Nat) : Int) := by omega
        rw [this]; simp

theorem rget_calls (A : Option Addr) (c : Nat) (l : List Int) (hby : Bys l) (w : World) (hr : Kd.C (Kd.int .u8) w A l.length l) (_hc : l.length ≤ c) (hl : l.length ≤ 140737488351232) :
    Calls Try.prog 79 #[.slice A l.length c] w fun e w' => e = .returned (.tuple #[.int .u64 (getS l).1, .int .i64 (getS l).2]) ∧ Below w.heap.size w w' := by
  have HR := Aside0.mk hr
  have HBY := Aside0.mk hby
  have HB := Aside0.mk (Below.refl w.heap.size w)
  clear hr hby
  go_enter Try.func79, Try.ntmps79
  go_wp2
  go_loopg [4] 20 (fun g v4 w' => ∃ (i : Nat), v4 = .int .i64 ((i : Int) + 1) ∧ Aside0 (i + g = 20 ∧ i ≤ 10 ∧ i ≤ l.length ∧ (∀ c ∈ l.take i, c > 127)) ∧ Aside0 (Below w.heap.size w w'))
  case atStart => exact ⟨0, rfl, ⟨by omega, by omega, by omega, by simp⟩, HB⟩
  case round =>
    clear HB
    obtain ⟨i, rfl, HA, HB⟩ := hrel
    have hi10 : i ≤ 10 := HA.out.2.1
    by_cases i10 : i = 10
    · have b0 : decide ((i : Int) + 1 ≤ 10) = false := decide_eq_false (by omega)
      have HE := Aside0.mk (getS_far HA.out.2.2.2 HA.out.2.2.1 (Or.inr i10))
      clear i10 hi10
      go_wp2
      go_ret2
      exact ⟨by rw [HE.out]; rfl, HB.out⟩
    · have b0 : decide ((i : Int) + 1 ≤ 10) = true := decide_eq_true (by omega)
      by_cases hlt : i < l.length
      · have b1 : decide ((i : Int) + 1 ≤ (l.length : Int)) = true := decide_eq_true (by omega)
        obtain ⟨ad, rfl, hx⟩ := Kd.at_int HR.out (i : Int) (by omega) (by omega)
        simp only [Int.toNat_natCast] at hx
        replace hx := (HB.out.cell (World.block_lt_of_cell? w _ hx)).trans hx
        have hbx : 0 ≤ rd l i ∧ rd l i < 256 := rd_bys HBY.out hlt
        obtain ⟨x, hxx⟩ : ∃ x, rd l i = x := ⟨_, rfl⟩
        rw [hxx] at hx hbx
        have HX := Aside0.mk hxx
        clear hxx
        have hsub : (i : Int) + 1 - 1 = i := by omega
        by_cases h128 : 128 ≤ x
        · have b2 : decide (128 ≤ x) = true := decide_eq_true h128
          go_wp2
          go_roundg (20 - (i + 1))
          case measure => have := HA.out; omega
          case rel =>
            refine ⟨i + 1, rfl, ⟨by omega, by omega, by omega, ?_⟩, HB⟩
            have e3 := (split_at (l := l) (m := l.length) (i := i) hlt (by omega)).2.2
            rw [List.take_length, HX.out] at e3
            rw [e3]; intro c hc; simp only [List.mem_append, List.mem_singleton] at hc
            rcases hc with hc | rfl
            · exact HA.out.2.2.2 c hc
            · omega
        · have b2 : decide (128 ≤ x) = false := decide_eq_false h128
          have hg : getS l = if (0 < i ∧ x = 0) ∨ (i = 9 ∧ x > 1) then (0, 0) else (val (l.take i ++ [x]), (i : Int) + 1) := by
            have e1 := (split_at (l := l) (m := l.length) (i := i) hlt (by omega)).1
            have e2 := (split_at (l := l) (m := l.length) (i := i) hlt (by omega)).2.1
            rw [List.take_length, HX.out] at e1
            rw [List.take_length] at e2
            have := getS_at (l.take i) (l.drop (i + 1)) x HA.out.2.2.2 (by omega) (by omega)
            rw [← e1, e2] at this
            exact this
          have hv : val (l.take i ++ [x]) = val ((l.take (i + 1)).drop 0) := by
            have e3 := (split_at (l := l) (m := l.length) (i := i) hlt (by omega)).2.2
            rw [List.take_length, HX.out] at e3
            rw [← e3]; rfl
          rw [hv] at hg
          have HG := Aside0.mk hg
          have HI : Aside0 (i ≤ 9 ∧ i < l.length) := ⟨by omega, hlt⟩
          clear hg hv
          go_wp2
          go_loopg [5, 6] (i + 1) (fun g v5 v6 w' => ∃ (j : Nat) (n : Int), v5 = .int .u64 n ∧ v6 = .int .i64 ((j : Int) - 1) ∧ Aside0 (j = g ∧ j ≤ i + 1 ∧ n = val ((l.take (i + 1)).drop j) ∧ (j = 0 → ¬ (i = 9 ∧ x > 1))) ∧ Aside0 (Below w.heap.size w w'))
          case atStart => exact ⟨i + 1, 0, rfl, by simp, ⟨rfl, by omega, by rw [List.drop_of_length_le (by rw [List.length_take]; omega)]; rfl, by omega⟩, HB⟩
          case round =>
            clear hx HB
            obtain ⟨j, n, rfl, rfl, HJ, HB⟩ := hrel
            cases j with
            | zero =>
              have c0 : decide ((0 : Int) ≤ ((0 : Nat) : Int) - 1) = false := by decide
              have hx := cell_at HR.out HB.out i HI.out.2
              rw [HX.out] at hx
              have HN := Aside0.mk HJ.out.2.2.1
              have HN9 := Aside0.mk (HJ.out.2.2.2 rfl)
              clear b0 b1 b2
              by_cases p0 : 0 < i
              · have d0 : decide ((1 : Int) < (i : Int) + 1) = true := decide_eq_true (by omega)
                by_cases x0 : x = 0
                · have d1 : (x == 0) = true := beq_iff_eq.2 x0
                  have HF := Aside0.mk (HG.out.trans (if_pos (Or.inl ⟨p0, x0⟩)))
                  clear x0
                  go_wp2
                  go_ret2
                  exact ⟨by rw [HF.out]; rfl, HB.out⟩
                · have d1 : (x == 0) = false := beq_eq_false_iff_ne.2 x0
                  have HF := Aside0.mk (HG.out.trans (if_neg (by have := HN9.out; omega)))
                  go_wp2
                  go_ret2
                  exact ⟨by rw [HF.out, ← HN.out]; rfl, HB.out⟩
              · have d0 : decide ((1 : Int) < (i : Int) + 1) = false := decide_eq_false (by omega)
                have HF := Aside0.mk (HG.out.trans (if_neg (by have := HN9.out; omega)))
                go_wp2
                go_ret2
                exact ⟨by rw [HF.out, ← HN.out]; rfl, HB.out⟩
            | succ j =>
              have c0 : decide ((0 : Int) ≤ ((j + 1 : Nat) : Int) - 1) = true := decide_eq_true (by omega)
              have c1 : ((j + 1 : Nat) : Int) - 1 = (j : Int) := by omega
              have hx := cell_at HR.out HB.out j (by have := HJ.out; have := HI.out; omega)
              obtain ⟨z, hz⟩ : ∃ z, rd l j = z := ⟨_, rfl⟩
              have hbz := rd_bys HBY.out (i := j) (by have := HJ.out; have := HI.out; omega)
              rw [hz] at hx hbz
              have HZ := Aside0.mk hz
              clear hz b0 b1 b2
              have hjl : j < l.length := by have := HJ.out; have := HI.out; omega
              have hn0 : 0 ≤ n := by rw [HJ.out.2.2.1]; exact (val_drop_bd (by have := HI.out; omega)).1
              by_cases hbig : 144115188075855872 ≤ n
              · have hj0 : j = 0 ∧ i = 9 := by
                  have h1 := HJ.out
                  have h2 := HI.out
                  have h3 := small_digits (l := l) (k := i + 1) (j := j + 1) (by omega)
                  rw [← h1.2.2.1] at h3
                  omega
                have h1x : x > 1 := by
                  have h1 := HJ.out.2.2.1
                  have h2 := HI.out.2
                  have h4 := HX.out
                  rw [hj0.1, hj0.2] at h1
                  rw [hj0.2] at h4 h2
                  have h5 := nine (l := l) (by omega) (by rw [h4]; omega) (by rw [h4]; exact h128)
                  rw [h4] at h5
                  exact h5.1 (by rw [← h1]; exact hbig)
                have HF := Aside0.mk (HG.out.trans (if_pos (Or.inr ⟨hj0.2, h1x⟩)))
                clear hj0 h1x
                go_wp2
                go_ret2
                exact ⟨by rw [HF.out]; rfl, HB.out⟩
              · go_wp2
                go_roundg j
                case measure => have := HJ.out; omega
                case rel =>
                  refine ⟨j, _, rfl, rfl, ⟨rfl, by have := HJ.out; omega, ?_, ?_⟩, HB⟩
                  · have h2 := HI.out
                    have h3 := HJ.out.2.1
                    rw [val_drop (by omega) (by omega), HZ.out, ← HJ.out.2.2.1]; omega
                  · intro j0 ⟨i9, x1⟩
                    have h1 := HJ.out.2.2.1
                    have h2 := HI.out.2
                    have h4 := HX.out
                    rw [j0, i9] at h1
                    rw [i9] at h4 h2
                    have h5 := nine (l := l) (by omega) (by rw [h4]; omega) (by rw [h4]; exact h128)
                    rw [h4] at h5
                    have h6 := h5.2 x1
                    rw [← h1] at h6
                    omega
      · have b1 : decide ((i : Int) + 1 ≤ (l.length : Int)) = false := decide_eq_false (by omega)
        have HE := Aside0.mk (getS_far HA.out.2.2.2 HA.out.2.2.1 (Or.inl (by have := HA.out; omega)))
        go_wp2
        go_ret2
        exact ⟨by rw [HE.out]; rfl, HB.out⟩
end Go.Proofs.Ytfojeegepfjbiaa.NmE
