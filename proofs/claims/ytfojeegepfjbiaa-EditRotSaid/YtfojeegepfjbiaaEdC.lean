/- Contracts of slices.Contains and par. -/
import Derived.Test.YtfojeegepfjbiaaProg
import Derived.Below
import Derived.Deep.Draws
import Derived.Deep.AppendLies
import Derived.Maps.AppendAt
import Derived.OwnWalk
import Derived.Laws.BytesArg
import Derived.Laws.MakeOwn
import Derived.Laws.OwnMore
import Derived.Deep.OwnRows
import Derived.Tactics
import Derived.Lib.ConvBytes
import Derived.Laws.Slices
import Derived.WalkKit
import Derived.KernelRfl
import Derived.RowKit3
import Derived.Deep.LoopGhost
import Derived.Deep.QuietTactic
import Derived.BigQuiet
import Derived.WideLaws
import Derived.Deep.DeepCutAuto
import Derived.Deep.CutBlock
import Derived.Deep.RegionHeld3
import Derived.Laws.Rows
import Derived.Lib.AppendStr
import Derived.ArgAppend
import Derived.Laws.IdiomCopy
import Derived.OrdersHeld
import Derived.Laws.BitsLemmas
import Derived.RowKit
import Derived.WalkSpells
import Derived.Outline
import Derived.Test.YtfojeegepfjbiaaWWords
import Derived.Test.YtfojeegepfjbiaaWLast
import Derived.Test.YtfojeegepfjbiaaWMore
import Derived.Test.YtfojeegepfjbiaaWArr
import Derived.Test.YtfojeegepfjbiaaWTab
import Derived.Test.YtfojeegepfjbiaaWZeros
import Derived.Test.YtfojeegepfjbiaaWRepsOne
import Derived.Test.YtfojeegepfjbiaaEdB
namespace Go.Proofs.Ytfojeegepfjbiaa.EdC
open Go.RowKit Go.Proofs.YtfojeegepfjbiaaW.PrintWords Go.Proofs.YtfojeegepfjbiaaW.PrintLast Go.Proofs.YtfojeegepfjbiaaW.PrintMore Go.Proofs.Ytfojeegepfjbiaa.Mix Go.Proofs.Ytfojeegepfjbiaa.MixB Go.Proofs.Ytfojeegepfjbiaa.Nm Go.Proofs.Ytfojeegepfjbiaa.NmA Go.Proofs.Ytfojeegepfjbiaa.NmH Go.Proofs.Ytfojeegepfjbiaa.CrA Go.Proofs.Ytfojeegepfjbiaa.EdZ Go.Proofs.Ytfojeegepfjbiaa.EdA Go.Proofs.Ytfojeegepfjbiaa.EdB
set_option linter.unusedSimpArgs false
set_option linter.unusedVariables false
attribute [local go_sem] max2_int min2_int max_two min_two

set_option maxRecDepth 100000 in
theorem indexn_calls (A : Option Addr) (c : Nat) (xs : List Int) (n : Int) (w : World) (hr : (Kd.int .i64).C w A xs.length xs) :
    Calls Try.prog 93 #[.slice A xs.length c, .int .i64 n] w fun e w' => ∃ i : Int, e = .returned (.int .i64 i) ∧ decide (0 ≤ i) = xs.contains n ∧ Below w.heap.size w w' := by
  have hln := hr.2.1
  have HR := Aside0.mk hr
  have HB := Aside0.mk (Below.refl w.heap.size w)
  obtain ⟨E, hE⟩ : ∃ E, xs.contains n = E := ⟨_, rfl⟩
  have HE := Aside0.mk hE
  rw [hE]
  clear hr hE
  go_enter Try.func93, Try.ntmps93
  go_wp2_with fail
  go_loopg [5, 8] xs.length (fun q v5 v8 w' => ∃ i : Nat, v8 = .int .i64 (i : Int) ∧ Aside0 (i + q = xs.length ∧ (xs.drop i).contains n = E) ∧ Aside0 (Below w.heap.size w w'))
  case atStart => exact ⟨0, rfl, ⟨by omega, HE.out⟩, HB⟩
  case round =>
    clear HB HE
    obtain ⟨i, rfl, HI, HB⟩ := hrel
    have hix := HI.out
    by_cases hlt : i < xs.length
    · obtain ⟨f, rfl⟩ : ∃ f, gk = f + 1 := ⟨gk - 1, by omega⟩
      have k0 : ((i : Int) < (xs.length : Int)) = True := eq_true (by omega)
      have kw : IntKind.i64.wrap ((i : Int) + 1) = (i : Int) + 1 := by rw [IntKind.wrap_i64]; omega
      obtain ⟨ad, e_, h0⟩ := i64_at (Kd.C_below HR.out HB.out) i hlt
      subst e_
      have hf := hix.2
      rw [drop_getD (d := 0) hlt, List.contains_cons] at hf
      generalize xs.getD i 0 = o at *
      have HF := Aside0.mk hf
      clear hf hix
      by_cases hq : n = o
      · subst hq
        have HE : Aside0 (E = true) := ⟨by rw [← HF.out]; simp⟩
        have b1 : (n == n) = true := by simp
        go_wp2
        go_ret
        exact ⟨(i : Int), rfl, by rw [HE.out]; exact decide_eq_true (by omega), HB.out⟩
      · have b1 : (n == o) = false := beq_eq_false_iff_ne.2 hq
        have HE : Aside0 ((xs.drop (i + 1)).contains n = E) := ⟨by rw [← HF.out, b1]; rfl⟩
        clear hq
        go_wp2_with fail
        go_roundg f
        case measure => omega
        case rel => exact ⟨i + 1, by simp, ⟨by have := HI.out; omega, HE.out⟩, HB⟩
    · have k0 : ((i : Int) < (xs.length : Int)) = False := eq_false (by omega)
      have hf := hix.2
      rw [List.drop_of_length_le (by omega)] at hf
      have HE : Aside0 (E = false) := ⟨hf.symm⟩
      clear hix hf hlt
      go_wp2
      go_ret
      exact ⟨-1, rfl, by rw [HE.out]; rfl, HB.out⟩
set_option maxRecDepth 100000 in
theorem contn_calls (A : Option Addr) (c : Nat) (xs : List Int) (n : Int) (w : World) (hr : (Kd.int .i64).C w A xs.length xs) :
    Calls Try.prog 87 #[.slice A xs.length c, .int .i64 n] w fun e w' => e = .returned (.bool (xs.contains n)) ∧ Below w.heap.size w w' := by
  have HI := Aside0.mk (indexn_calls A c xs n w hr)
  clear hr
  go_enter Try.func87, Try.ntmps87
  go_wp2_with fail
  refine HI.out.mono ?_
  rintro e_ w1 ⟨i, rfl, hix, hb⟩
  have HB1 := Aside0.mk hb
  have HI2 := Aside0.mk hix
  clear hb hix
  go_wp2
  go_ret
  exact ⟨by rw [HI2.out]; rfl, HB1.out⟩
theorem info2 : (Try.prog.info? 2).map (fun i => (i.zero, i.size, i.bytes)) = some (some (.int .i64 0), 1, 8) := by kernel_rfl
theorem to64 (A : Option Addr) (c : Nat) (l : List Int) (m : Nat) (hm : m ≤ l.length) (hc : l.length ≤ c) :
    ∀ W : World, (Instr.slice 63 (.slice A l.length c) none (some (.int .i64 (m : Int))) none).run Try.prog W = .ok (.slice A (l.take m).length c) W := by
  obtain ⟨i05, hi05, _, hsz5, _⟩ := info_parts info2
  intro W
  have h := cut_to (P := Try.prog) 63 2 .i64 Try.underlying63 hi05 A l.length c (m : Int) (by omega) (by omega) hc W
  rw [Int.toNat_natCast] at h
  rw [List.length_take, Nat.min_eq_left hm]
  exact h
/-- Members and sizes from a place on. -/
def parF (ns zs : List Int) : Nat → Nat → Bool
  | 0, _ => true
  | q + 1, i => !(ns.take i).contains (ns.getD i 0) && (inL 0 4194304 [zs.getD i 0] && parF ns zs q (i + 1))
def parOk (p : ParT) : Bool :=
  if p.2.1.length < 1 then false else if 3 < p.2.1.length then false else if p.2.2.1.length ≠ p.2.1.length then false else
  inL 1 1125899906842624 p.2.1 && (inL 1 1125899906842624 [p.1] && (inL 0 4194304 [p.2.2.2.1] && parF p.2.1 p.2.2.1 p.2.1.length 0))
set_option maxRecDepth 100000 in
set_option maxHeartbeats 2000000 in
theorem par_calls (p : ParT) (v : Value) (w : World) (hp : ParAt w v p) :
    Calls Try.prog 69 #[v] w fun e w' => e = .returned (.bool (parOk p)) ∧ Below w.heap.size w w' := by
  obtain ⟨g, ns, zs, z, u⟩ := p
  obtain ⟨A1, c1, A2, c2, rfl, l1, l2, r1, r2⟩ := hp
  have hE : parOk (g, ns, zs, z, u) = if ns.length < 1 then false else if 3 < ns.length then false else if zs.length ≠ ns.length then false else
    inL 1 1125899906842624 ns && (inL 1 1125899906842624 [g] && (inL 0 4194304 [z] && parF ns zs ns.length 0)) := rfl
  obtain ⟨E, he⟩ : ∃ E, parOk (g, ns, zs, z, u) = E := ⟨_, rfl⟩
  rw [he] at hE ⊢
  have HE := Aside0.mk hE
  change ns.length ≤ c1 at l1
  change zs.length ≤ c2 at l2
  change (Kd.int .i64).C w A1 ns.length ns at r1
  change (Kd.int .i64).C w A2 zs.length zs at r2
  show Calls _ _ #[.agg #[.int .i64 g, .slice A1 ns.length c1, .slice A2 zs.length c2, .int .i64 z, .int .u32 u]] _ _
  have HB := Aside0.mk ((Below.refl w.heap.size w).alloc (Nat.le_refl _) (.cells #[.int .i64 g, .slice A1 ns.length c1, .slice A2 zs.length c2, .int .i64 z, .int .u32 u] 90 (0, 0)))
  have hb0 := blk_new w (.cells #[.int .i64 g, .slice A1 ns.length c1, .slice A2 zs.length c2, .int .i64 z, .int .u32 u] 90 (0, 0))
  have HB0 := Aside0.mk hb0
  have HR1 := Aside0.mk (Kd.C_below r1 HB.out)
  have HR2 := Aside0.mk (Kd.C_below r2 HB.out)
  have HLL := Aside0.mk (And.intro l1 l2)
  have HTO := Aside0.mk (fun m hm => to64 A1 c1 ns m hm l1)
  obtain ⟨w0, hw0⟩ : ∃ q, w.alloc (.cells #[.int .i64 g, .slice A1 ns.length c1, .slice A2 zs.length c2, .int .i64 z, .int .u32 u] 90 (0, 0)) = q := ⟨_, rfl⟩
  rw [hw0] at HB HB0 HR1 HR2
  obtain ⟨n1, hn1⟩ : ∃ q, ns.length = q := ⟨_, rfl⟩
  obtain ⟨n2, hn2⟩ : ∃ q, zs.length = q := ⟨_, rfl⟩
  have HN1 := Aside0.mk hn1
  have HN2 := Aside0.mk hn2
  rw [hn1] at HTO HR1
  rw [hn2] at HR2
  rw [hn1, hn2] at HE HB0 hw0 ⊢
  have c0 : w0.cell? ⟨w.heap.size, 0, none⟩ = some (.int .i64 g) := blk_cell HB0.out 0
  have c1' : w0.cell? ⟨w.heap.size, 1, none⟩ = some (.slice A1 n1 c1) := blk_cell HB0.out 1
  have c2' : w0.cell? ⟨w.heap.size, 2, none⟩ = some (.slice A2 n2 c2) := blk_cell HB0.out 2
  clear hb0 he hE l1 l2 r1 r2 hn1 hn2
  by_cases q1 : n1 < 1
  · have HF : Aside0 (E = false) := ⟨by rw [HE.out, if_pos q1]⟩
    have k1 : ((n1 : Int) < 1) = True := eq_true (by omega)
    clear q1
    go_enter Try.func69, Try.ntmps69
    go_wp2
    go_ret
    exact ⟨by rw [HF.out]; rfl, HB.out⟩
  have k1 : ((n1 : Int) < 1) = False := eq_false (by omega)
  by_cases q2 : 3 < n1
  · have HF : Aside0 (E = false) := ⟨by rw [HE.out, if_neg q1, if_pos q2]⟩
    have k2 : ((3 : Int) < (n1 : Int)) = True := eq_true (by omega)
    clear q1 q2
    go_enter Try.func69, Try.ntmps69
    go_wp2
    go_ret
    exact ⟨by rw [HF.out]; rfl, HB.out⟩
  have k2 : ((3 : Int) < (n1 : Int)) = False := eq_false (by omega)
  by_cases q3 : n2 ≠ n1
  · have HF : Aside0 (E = false) := ⟨by rw [HE.out, if_neg q1, if_neg q2, if_pos q3]⟩
    have k3 : ((n2 : Int) != (n1 : Int)) = true := bne_iff_ne.2 (by omega)
    clear q1 q2 q3
    go_enter Try.func69, Try.ntmps69
    go_wp2
    go_ret
    exact ⟨by rw [HF.out]; rfl, HB.out⟩
  obtain rfl : n1 = n2 := by omega
  have hE := HE.out
  rw [if_neg q1, if_neg q2, if_neg q3] at hE
  have HE := Aside0.mk hE
  have hc1 := in_calls 1 1125899906842624 A1 c1 ns w0 (by rw [HN1.out]; exact HR1.out)
  rw [HN1.out] at hc1
  have HC2 := Aside0.mk (fun w => in1_calls 1 1125899906842624 g w)
  have HC3 := Aside0.mk (fun w => in1_calls 0 4194304 z w)
  have HNL : Aside0 (1 ≤ n1 ∧ n1 ≤ 3) := ⟨by omega⟩
  generalize inL 1 1125899906842624 ns = b1 at *
  generalize inL 1 1125899906842624 [g] = b2 at *
  generalize inL 0 4194304 [z] = b3 at *
  clear hE q1 q2 q3
  go_enter Try.func69, Try.ntmps69
  go_wp2_with fail
  refine hc1.mono ?_
  rintro e_ w1 ⟨rfl, hb⟩
  have HB1 := Aside0.mk (below_step HB.out hb)
  have HP1 := Aside0.mk (blk_below HB0.out hb)
  have HS1 := Aside0.mk (Kd.C_below HR1.out hb)
  have HS2 := Aside0.mk (Kd.C_below HR2.out hb)
  clear hb hc1 c0 c1' c2' HB HB0 HR1 HR2
  cases b1 with
  | false =>
    go_wp2
    go_ret
    exact ⟨by rw [HE.out]; rfl, HB1.out⟩
  | true =>
    have c0 : w1.cell? ⟨w.heap.size, 0, none⟩ = some (.int .i64 g) := blk_cell HP1.out 0
    go_wp2_with fail
    refine (HC2.out w1).mono ?_
    rintro e_ w2 ⟨rfl, hb⟩
    have HB2 := Aside0.mk (below_step HB1.out hb)
    have HP2 := Aside0.mk (blk_below HP1.out hb)
    have HT1 := Aside0.mk (Kd.C_below HS1.out hb)
    have HT2 := Aside0.mk (Kd.C_below HS2.out hb)
    clear hb c0
    cases b2 with
    | false =>
      go_wp2
      go_ret
      exact ⟨by rw [HE.out]; rfl, HB2.out⟩
    | true =>
      have c0 : w2.cell? ⟨w.heap.size, 3, none⟩ = some (.int .i64 z) := blk_cell HP2.out 3
      go_wp2_with fail
      refine (HC3.out w2).mono ?_
      rintro e_ w3 ⟨rfl, hb⟩
      have HB3 := Aside0.mk (below_step HB2.out hb)
      have HP3 := Aside0.mk (blk_below HP2.out hb)
      have HU1 := Aside0.mk (Kd.C_below HT1.out hb)
      have HU2 := Aside0.mk (Kd.C_below HT2.out hb)
      clear hb c0 hw0
      cases b3 with
      | false =>
        go_wp2
        go_ret
        exact ⟨by rw [HE.out]; rfl, HB3.out⟩
      | true =>
        have c1' : w3.cell? ⟨w.heap.size, 1, none⟩ = some (.slice A1 n1 c1) := blk_cell HP3.out 1
        go_wp2_with fail
        go_loopg [3, 4, 47] n1 (fun q v3 v4 v47 w' => ∃ i : Nat, v47 = .int .i64 (i : Int) ∧ Aside0 (i + q = n1 ∧ parF ns zs q i = E) ∧ Aside0 (Below w3.heap.size w3 w'))
        case atStart => exact ⟨0, rfl, ⟨by omega, by rw [HE.out]; simp⟩, ⟨Below.refl _ _⟩⟩
        case round =>
          clear c1'
          obtain ⟨i, rfl, HI, HB⟩ := hrel
          have hix := HI.out
          by_cases hlt : i < n1
          · obtain ⟨f, rfl⟩ : ∃ f, gk = f + 1 := ⟨gk - 1, by omega⟩
            have k0 : ((i : Int) < (n1 : Int)) = True := eq_true (by omega)
            have kw : IntKind.i64.wrap ((i : Int) + 1) = (i : Int) + 1 := by have := HNL.out; rw [IntKind.wrap_i64]; omega
            have HPr := Aside0.mk (blk_below HP3.out HB.out)
            have c1' : wr.cell? ⟨w.heap.size, 1, none⟩ = some (.slice A1 n1 c1) := blk_cell HPr.out 1
            obtain ⟨ad, e_, h0⟩ := i64_at (Kd.C_below HU1.out HB.out) i hlt
            subst e_
            obtain ⟨ad2, e_, h02⟩ := i64_at (Kd.C_below HU2.out HB.out) i hlt
            subst e_
            have HG2 := Aside0.mk h02
            have hto := HTO.out i (by omega)
            have hct := contn_calls (some ad) c1 (ns.take i) (ns.getD i 0) wr (C_take i (by rw [HN1.out]; exact Kd.C_below HU1.out HB.out))
            have hf := hix.2
            unfold parF at hf
            have HF := Aside0.mk hf
            have HC4 := Aside0.mk (fun w => in1_calls 0 4194304 (zs.getD i 0) w)
            generalize (ns.take i).contains (ns.getD i 0) = d1 at *
            generalize ns.take i = tk at *
            generalize ns.getD i 0 = o at *
            generalize zs.getD i 0 = o2 at *
            generalize inL 0 4194304 [o2] = d2 at *
            clear hf hix h02
            go_wp2_with fail
            refine hct.mono ?_
            rintro e_ w4 ⟨rfl, hb⟩
            have HB4 := Aside0.mk (below_step HB.out hb)
            have HPs := Aside0.mk (blk_below HPr.out hb)
            have h02 := pw_cell_below hb HG2.out
            clear hb hct c1' h0 hto
            cases d1 with
            | true =>
              go_wp2
              go_ret
              exact ⟨by rw [← HF.out]; rfl, below_step HB3.out HB4.out⟩
            | false =>
              have c1' : w4.cell? ⟨w.heap.size, 2, none⟩ = some (.slice (some ad2) n1 c2) := blk_cell HPs.out 2
              go_wp2_with fail
              refine (HC4.out w4).mono ?_
              rintro e_ w5 ⟨rfl, hb⟩
              have HB5 := Aside0.mk (below_step HB4.out hb)
              clear hb c1' h02
              cases d2 with
              | false =>
                go_wp2
                go_ret
                exact ⟨by rw [← HF.out]; rfl, below_step HB3.out HB5.out⟩
              | true =>
                go_wp2_with fail
                go_roundg f
                case measure => omega
                case rel => exact ⟨i + 1, by simp, ⟨by have := HI.out; omega, HF.out⟩, HB5⟩
          · have k0 : ((i : Int) < (n1 : Int)) = False := eq_false (by omega)
            have hf := hix.2
            obtain rfl : gk = 0 := by omega
            have HF : Aside0 (E = true) := ⟨hf.symm⟩
            clear hix hf hlt
            go_wp2
            go_ret
            exact ⟨by rw [HF.out]; rfl, below_step HB3.out HB.out⟩
end Go.Proofs.Ytfojeegepfjbiaa.EdC
