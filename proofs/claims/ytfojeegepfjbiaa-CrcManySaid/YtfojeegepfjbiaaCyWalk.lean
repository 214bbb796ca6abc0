/- CrcMany: many seals one behind the other are all told: it answers true. No condition. -/
import Derived.Test.YtfojeegepfjbiaaProg
import Derived.Below
import Derived.Deep.Draws
import Derived.Deep.AppendLies
import Derived.Maps.AppendAt
import Derived.OwnWalk
import Derived.Laws.BytesArg
import Derived.Laws.MakeOwn
import Derived.Laws.OwnMore
import Derived.Deep.OwnRows
import Derived.Tactics
import Derived.Lib.ConvBytes
import Derived.Laws.Slices
import Derived.WalkKit
import Derived.KernelRfl
import Derived.RowKit3
import Derived.Deep.LoopGhost
import Derived.Deep.QuietTactic
import Derived.BigQuiet
import Derived.WideLaws
import Derived.Deep.DeepCutAuto
import Derived.Deep.CutBlock
import Derived.Deep.RegionHeld3
import Derived.Laws.Rows
import Derived.Lib.AppendStr
import Derived.ArgAppend
import Derived.Laws.IdiomCopy
import Derived.OrdersHeld
import Derived.Laws.BitsLemmas
import Derived.RowKit
import Derived.Deep.RegionWith
import Derived.WalkSpells
import Derived.Outline
import Derived.Test.YtfojeegepfjbiaaWWords
import Derived.Test.YtfojeegepfjbiaaWLast
import Derived.Test.YtfojeegepfjbiaaWMore
import Derived.Test.YtfojeegepfjbiaaWArr
import Derived.Test.YtfojeegepfjbiaaWTab
import Derived.Test.YtfojeegepfjbiaaWZeros
import Derived.Test.YtfojeegepfjbiaaWRepsOne
import Derived.Test.YtfojeegepfjbiaaCrI
import Derived.Test.YtfojeegepfjbiaaCtWalk
namespace Go.Proofs.Ytfojeegepfjbiaa.CyWalk
open Go.RowKit Go.Proofs.YtfojeegepfjbiaaW.PrintWords Go.Proofs.YtfojeegepfjbiaaW.PrintLast Go.Proofs.YtfojeegepfjbiaaW.PrintMore Go.Proofs.Ytfojeegepfjbiaa.Nm Go.Proofs.Ytfojeegepfjbiaa.NmA Go.Proofs.Ytfojeegepfjbiaa.NmB Go.Proofs.Ytfojeegepfjbiaa.NmC Go.Proofs.Ytfojeegepfjbiaa.NmH Go.Proofs.Ytfojeegepfjbiaa.CrP Go.Proofs.Ytfojeegepfjbiaa.CrA Go.Proofs.Ytfojeegepfjbiaa.CrB Go.Proofs.Ytfojeegepfjbiaa.CrC Go.Proofs.Ytfojeegepfjbiaa.CrD Go.Proofs.Ytfojeegepfjbiaa.CrE Go.Proofs.Ytfojeegepfjbiaa.CrF Go.Proofs.Ytfojeegepfjbiaa.CrG Go.Proofs.Ytfojeegepfjbiaa.CrH Go.Proofs.Ytfojeegepfjbiaa.CrI Go.Proofs.Ytfojeegepfjbiaa.CtWalk Go.Proofs.Ytfojeegepfjbiaa.Mix
set_option linter.unusedSimpArgs false
set_option linter.unusedVariables false
attribute [local go_sem] max2_int min2_int max_two min_two

/-- The text number i. -/
def tx (size i : Nat) : List Int := (List.range size).map (fun k => (((i + k) % 256 : Nat) : Int))
def txs (size n : Nat) : List (List Int) := (List.range n).map (tx size)
theorem tx_len (size i : Nat) : (tx size i).length = size := by simp [tx]
theorem tx_rd {size i k : Nat} (h : k < size) : rd (tx size i) (k : Int) = (((i + k) % 256 : Nat) : Int) := by
  unfold rd tx
  rw [Int.toNat_natCast, List.getD_eq_getElem?_getD, List.getElem?_map, List.getElem?_range h]
  rfl
theorem bys_tx (size i : Nat) : Bys (tx size i) := by
  intro z hz
  unfold tx at hz
  obtain ⟨k, _, rfl⟩ := List.mem_map.1 hz
  omega
theorem txs_snoc (size n : Nat) : txs size (n + 1) = txs size n ++ [tx size n] := by simp [txs, List.range_succ]
theorem txs_len (size n : Nat) : (txs size n).length = n := by simp [txs]
theorem txs_mem {size n : Nat} {p : List Int} (h : p ∈ txs size n) : Bys p ∧ p.length = size := by
  unfold txs at h
  obtain ⟨i, _, rfl⟩ := List.mem_map.1 h
  exact ⟨bys_tx size i, tx_len size i⟩
theorem txs_laid {size n : Nat} (h : size ≤ 60) : laidL ((txs size n).take n) = sealsL (txs size n) := by
  rw [laidL_seals, List.take_of_length_le (by rw [txs_len]; omega)]
  congr 1
  have : ∀ p ∈ txs size n, List.take 60 p = id p := fun p hp => List.take_of_length_le (by have := (txs_mem hp).2; omega)
  rw [List.map_congr_left this, List.map_id]
set_option maxRecDepth 100000 in
set_option maxHeartbeats 1000000 in
theorem walk (a0 a1 : Int) (w : World) (w0 : (Lit.int .i64 a0).wf = true) (w1 : (Lit.int .i64 a1).wf = true) :
    Calls Try.prog 10 #[.int .i64 a0, .int .i64 a1] w fun e w' => e = .returned (.bool true) ∧ Below w.heap.size w w' := by
  clear w0 w1
  go_enter Try.func10, Try.ntmps10
  go_wp2_with fail
  refine (begun_calls w).mono ?_
  rintro e_ w1 ⟨rfl, hb⟩
  have HB1 := Aside0.mk hb
  clear hb
  by_cases h1 : a0 < 0
  · go_wp2
    go_ret
    exact ⟨by simp, HB1.out⟩
  by_cases h2 : 60 < a0
  · go_wp2
    go_ret
    exact ⟨by simp, HB1.out⟩
  by_cases h3 : a1 < 0
  · go_wp2
    go_ret
    exact ⟨by simp, HB1.out⟩
  by_cases h4 : 60 < a1
  · go_wp2
    go_ret
    exact ⟨by simp, HB1.out⟩
  obtain ⟨n, rfl⟩ := Int.eq_ofNat_of_zero_le (by omega : 0 ≤ a0)
  obtain ⟨size, rfl⟩ := Int.eq_ofNat_of_zero_le (by omega : 0 ≤ a1)
  have HN : Aside0 (n ≤ 60 ∧ size ≤ 60) := ⟨by omega⟩
  go_wp2_with fail
  clear h1 h2 h3 h4
  go_loopg [6, 7, 8, 9] n (fun q v6 v7 v8 v9 w' => ∃ i : Nat, v7 = .int .i64 (i : Int) ∧ Aside0 (i + q = n) ∧ Aside0 (Kd.R (Kd.slice 5 (Kd.int .u8)) 22 w' w.heap.size (fun _ => True) v6 (txs size i)) ∧ Aside0 (Below w.heap.size w w'))
  case atStart => exact ⟨0, rfl, ⟨by omega⟩, ⟨Kd.R_nil _ _ _ _ _⟩, HB1⟩
  case round =>
    clear HB1
    obtain ⟨i, rfl, HI, HO, HB⟩ := hrel
    have hi := HI.out
    by_cases hlt : i < n
    · obtain ⟨f, rfl⟩ : ∃ f, gk = f + 1 := ⟨gk - 1, by omega⟩
      have k0 : ((i : Int) < (n : Int)) = True := eq_true (by omega)
      have kw : IntKind.i64.wrap ((i : Int) + 1) = ((i + 1 : Nat) : Int) := by rw [IntKind.wrap_i64]; have := HN.out; omega
      generalize wr = wo at *
      have HBR := Aside0.mk (Below.refl wo.heap.size wo)
      clear hi
      go_wp2_with ((with_reducible refine gate_dst (N := 34) rfl ?_); go_must (refine Kd.R_make (Kd.int .u8) (w0 := wo) (wo.heap.size) 5 ?hg (N := 34) ?hd 22 (.tmp 33) (.tmp 33) ?ho_ ((size : Int)) ?hx_ ?hy_ Try.underlying22 (.int .u8 0) 1 info5 rfl (by decide) (by decide) (0) (ok := fun _ => True) (okp := fun _ => True) ?hz_ (fun _ hk => hk) trivial (by omega) ?hl_ (HBR.out) (Below.size (HBR.out)) ?_; (case hd => rfl); (case hg => rfl); (case ho_ => rfl); (case hx_ => first | (go_simp; done) | (go_simp; rfl)); (case hy_ => first | (go_simp; done) | (go_simp; rfl)); (case hz_ => first | rfl | exact ⟨rfl⟩ | trivial); (case hl_ => have := HN.out; omega); intro vd w2 ho3 hb hg_ hnew_; have HX := Aside0.mk ho3; have HBX := Aside0.mk hb; clear ho3 hb hg_ hnew_))
      obtain ⟨Ad, cd, ev⟩ := Kd.R_slice HX.out
      rw [List.length_replicate, Int.toNat_natCast] at ev
      subst ev
      rw [Int.toNat_natCast] at HX
      go_loopg [9] size (fun q v9 w' => ∃ k : Nat, v9 = .int .i64 (k : Int) ∧ Aside0 (k + q = size) ∧ Aside0 (Kd.R (Kd.int .u8) 5 w' wo.heap.size (fun _ => True) (.slice Ad size cd) ((tx size i).take k ++ List.replicate (size - k) 0)) ∧ Aside0 (Below wo.heap.size wo w'))
      case atStart => exact ⟨0, rfl, ⟨by omega⟩, ⟨by simpa using HX.out⟩, HBX⟩
      case round =>
        clear HX HBX HBR
        obtain ⟨k, rfl, HK, HX, HBX⟩ := hrel
        have hk := HK.out
        by_cases hkl : k < size
        · obtain ⟨f2, rfl⟩ : ∃ f, gk = f + 1 := ⟨gk - 1, by omega⟩
          have hn := HN.out
          have hsf := set_fill (tx size i) k size hkl (tx_len size i)
          have hrl : ((tx size i).take k ++ List.replicate (size - k) (0 : Int)).length = size := by rw [List.length_append, List.length_take, List.length_replicate, tx_len]; omega
          rw [tx_rd hkl] at hsf
          generalize (tx size i).take k ++ List.replicate (size - k) 0 = row at *
          have hz : IntKind.u8.wrap ((i + k : Nat) : Int) = (((i + k) % 256 : Nat) : Int) := by rw [IntKind.wrap_u8]; omega
          have kk : IntKind.i64.wrap ((i : Int) + (k : Int)) = ((i + k : Nat) : Int) := by rw [IntKind.wrap_i64]; omega
          have kw2 : IntKind.i64.wrap ((k : Int) + 1) = ((k + 1 : Nat) : Int) := by rw [IntKind.wrap_i64]; omega
          have k1 : ((k : Int) < (size : Int)) = True := eq_true (by omega)
          generalize (((i + k) % 256 : Nat) : Int) = z at *
          generalize i + k = m at *
          obtain ⟨g, cap, ev, hgb, hgl, hj_⟩ := Kd.R_form HX.out (by omega)
          rw [hrl] at ev
          injection ev with e1 e2 e3
          subst e1
          have hcl := Kd.R_celln 0 HX.out (k : Int) (by omega) (by omega)
          obtain ⟨hpr, hpg⟩ := Kd.R_putg HX.out (k : Int) z
          rw [Int.toNat_natCast] at hcl hpr hpg
          rw [hsf] at hpr
          have HPR := Aside0.mk hpr
          have HB5 := Aside0.mk (pw_below_grown HBX.out (some g) HBX.out.size hpg (fun q hq => by simp at hq; omega))
          obtain ⟨hc1, hc2⟩ := hcl
          clear hsf hrl hj_ hpr hpg e2 e3 hn hk HX HBX
          go_wp2_with fail
          go_roundg f2
          case measure => omega
          case rel => exact ⟨k + 1, by simp, ⟨by have := HK.out; omega⟩, HPR, HB5⟩
        · have hks : k = size := by omega
          subst hks
          have k1 : ((k : Int) < (k : Int)) = False := eq_false (by omega)
          have hx := HX.out
          rw [Nat.sub_self, List.replicate_zero, List.append_nil, List.take_of_length_le (by rw [tx_len]; omega)] at hx
          have HO1 := Aside0.mk (Kd.R_below HO.out HBX.out)
          have HLT := Aside0.mk (Kd.R_lt HO.out)
          have HB1 := Aside0.mk (below_step HB.out HBX.out)
          have hxm : (Kd.slice 5 (Kd.int .u8)).M wr w.heap.size (fun j => wo.heap.size ≤ j) (tx k i) [.slice Ad k cd] := ⟨_, rfl, Kd.R_lower (Kd.R_mono (Kd.R_bound hx) (fun j hj => hj.2.1)) HB.out.size⟩
          have HXM := Aside0.mk hxm
          have HTX : Aside0 (txs k (i + 1) = txs k i ++ [tx k i] ∧ (txs k i).length = i ∧ (tx k i).length = k) := ⟨txs_snoc k i, txs_len k i, tx_len k i⟩
          clear hxm hx HX HBX HO HB hk hkl
          generalize txs k i = acc at *
          generalize tx k i = x at *
          go_wp2_with ((with_reducible refine gate_builtin (b := .append) (xs := #[.tmp 47, .tmp 49]) rfl ?_); at_builtin; go_must (refine Kd.R_append (Kd.slice 5 (Kd.int .u8)) (w0 := w) (w.heap.size) rfl (.tmp 47) (.tmp 49) 32 22 (.slice none 0 0) 24 rfl Try.underlying32 info22 rfl (by decide) (by omega) u6 acc x [.slice Ad k cd] (fun _ => True) (fun j => wo.heap.size ≤ j) ?hs_ ?hx_ HXM.out (fun j hj => ⟨trivial, fun e => by have := HLT.out j e.symm; omega⟩) (fun _ _ => trivial) HO1.out HB1.out HB1.out.size (by have := HTX.out; have := HN.out; omega) ?_; (case hs_ => rfl); (case hx_ => rfl); intro v102 w4 ho hb hg hat; have HO4 := Aside0.mk ho; have HB4 := Aside0.mk hb; clear ho hb hg hat))
          go_roundg f
          case measure => omega
          case rel => exact ⟨i + 1, by simp, ⟨by have := HI.out; omega⟩, ⟨by rw [HTX.out.1]; exact HO4.out⟩, HB4⟩
    · have hin : i = n := by omega
      subst hin
      have k0 : ((i : Int) < (i : Int)) = False := eq_false (by omega)
      obtain ⟨Ap, cp, ev⟩ := Kd.R_slice HO.out
      subst ev
      have hC := (Kd.R_reads' HO.out).2.2
      have hn := HN.out
      have hlaid := laid_calls Ap cp (txs size i) (fun p hp => (txs_mem hp).1) i (by omega) wr hC (by rw [txs_len]; omega)
      rw [txs_laid hn.2] at hlaid
      have hok : Okt (txs size i) := fun t ht => ⟨(txs_mem ht).1, by have := (txs_mem ht).2; omega⟩
      have hsl : (sealsL (txs size i)).length ≤ 4320 := by
        have := laidL_len ((txs size i).take i)
        rw [txs_laid hn.2, List.length_take, txs_len] at this
        omega
      have HTD := Aside0.mk (fun A c w h1 h2 h3 => told_calls A c Ap cp (txs size i) hok w h1 h2 (by omega) h3)
      have HLA := Aside0.mk hlaid
      have HC := Aside0.mk hC
      clear hC hlaid hok hi hlt HO
      generalize txs size i = ts at *
      go_wp2_with fail
      refine HLA.out.mono ?_
      rintro e_ w5 ⟨v5, rfl, ho, hb⟩
      obtain ⟨A5, c5, rfl⟩ := Kd.R_slice ho
      have HV5 := Aside0.mk (Kd.R_reads' ho)
      have HB5 := Aside0.mk (below_step HB.out hb)
      have HC5 := Aside0.mk (Kd.C_below HC.out hb)
      clear ho hb
      go_wp2_with fail
      refine (HTD.out A5 c5 w5 HV5.out.2.2 HV5.out.2.1 HC5.out).mono ?_
      rintro e_ w6 ⟨rfl, hb⟩
      have HB6 := Aside0.mk (below_step HB5.out hb)
      clear hb
      go_wp2
      go_ret
      exact ⟨by simp, HB6.out⟩
end Go.Proofs.Ytfojeegepfjbiaa.CyWalk
