/- CrcRot: of seals of which one byte was changed, each one ahead of it is told, and it is spoilt: it answers true. No condition. -/
import Derived.Test.YtfojeegepfjbiaaProg
import Derived.Below
import Derived.Deep.Draws
import Derived.Deep.AppendLies
import Derived.Maps.AppendAt
import Derived.OwnWalk
import Derived.Laws.BytesArg
import Derived.Laws.MakeOwn
import Derived.Laws.OwnMore
import Derived.Deep.OwnRows
import Derived.Tactics
import Derived.Lib.ConvBytes
import Derived.Laws.Slices
import Derived.WalkKit
import Derived.KernelRfl
import Derived.RowKit3
import Derived.Deep.LoopGhost
import Derived.Deep.QuietTactic
import Derived.BigQuiet
import Derived.WideLaws
import Derived.Deep.DeepCutAuto
import Derived.Deep.CutBlock
import Derived.Deep.RegionHeld3
import Derived.Laws.Rows
import Derived.Lib.AppendStr
import Derived.ArgAppend
import Derived.Laws.IdiomCopy
import Derived.OrdersHeld
import Derived.Laws.BitsLemmas
import Derived.RowKit
import Derived.Deep.RegionWith
import Derived.Laws.BitsAllLaws
import Derived.WalkSpells
import Derived.Outline
import Derived.Test.YtfojeegepfjbiaaWWords
import Derived.Test.YtfojeegepfjbiaaWLast
import Derived.Test.YtfojeegepfjbiaaWMore
import Derived.Test.YtfojeegepfjbiaaWArr
import Derived.Test.YtfojeegepfjbiaaWTab
import Derived.Test.YtfojeegepfjbiaaWZeros
import Derived.Test.YtfojeegepfjbiaaWRepsOne
import Derived.Test.YtfojeegepfjbiaaCvWalk
import Derived.Test.YtfojeegepfjbiaaCrJ
namespace Go.Proofs.Ytfojeegepfjbiaa.CwWalk
open Go.RowKit Go.Proofs.YtfojeegepfjbiaaW.PrintWords Go.Proofs.YtfojeegepfjbiaaW.PrintLast Go.Proofs.YtfojeegepfjbiaaW.PrintMore Go.Proofs.Ytfojeegepfjbiaa.Nm Go.Proofs.Ytfojeegepfjbiaa.NmA Go.Proofs.Ytfojeegepfjbiaa.NmB Go.Proofs.Ytfojeegepfjbiaa.NmC Go.Proofs.Ytfojeegepfjbiaa.NmH Go.Proofs.Ytfojeegepfjbiaa.CrP Go.Proofs.Ytfojeegepfjbiaa.CrA Go.Proofs.Ytfojeegepfjbiaa.CrB Go.Proofs.Ytfojeegepfjbiaa.CrC Go.Proofs.Ytfojeegepfjbiaa.CrD Go.Proofs.Ytfojeegepfjbiaa.CrE Go.Proofs.Ytfojeegepfjbiaa.CrF Go.Proofs.Ytfojeegepfjbiaa.CrG Go.Proofs.Ytfojeegepfjbiaa.CrH Go.Proofs.Ytfojeegepfjbiaa.CrI Go.Proofs.Ytfojeegepfjbiaa.CrJ Go.Proofs.Ytfojeegepfjbiaa.CrL Go.Proofs.Ytfojeegepfjbiaa.CvWalk Go.Proofs.Ytfojeegepfjbiaa.Mix
set_option linter.unusedSimpArgs false
set_option linter.unusedVariables false
attribute [local go_sem] max2_int min2_int max_two min_two

set_option maxRecDepth 100000 in
set_option maxHeartbeats 1000000 in
theorem walk (A : Option Addr) (c : Nat) (ps : List (List Int)) (a1 : Int) (x : Int) (w : World) (hr : (Kd.slice 5 (Kd.int .u8)).C w A ps.length ps) (hc : ps.length ≤ c)
    (hg : ps.length ≤ maxLen ∧ ∀ p ∈ ps, p.length ≤ maxLen ∧ ∀ x ∈ p, (Lit.int .u8 x).wf = true) (w1 : (Lit.int .i64 a1).wf = true) (w2 : (Lit.int .u8 x).wf = true) :
    Calls Try.prog 7 #[.slice A ps.length c, .int .i64 a1, .int .u8 x] w fun e w' => e = .returned (.bool true) ∧ Below w.heap.size w w' := by
  have hby := bys_ps (fun p hp => (hg.2 p hp).2)
  have hpl : ps.length ≤ 9223372036854775807 := by have := hg.1; unfold maxLen at this; omega
  have hx : 0 ≤ x ∧ x < 256 := by
    simp [Lit.wf, IntKind.min, IntKind.max, IntKind.bits, IntKind.signed] at w2
    omega
  have ha : -9223372036854775808 ≤ a1 ∧ a1 ≤ 9223372036854775807 := by
    simp [Lit.wf, IntKind.min, IntKind.max, IntKind.bits, IntKind.signed] at w1
    omega
  clear hg w1 w2
  have HL := Aside0.mk (fun w h => laid_calls A c ps hby 6 (by omega) w h hpl)
  have hbb := bys_laidL (ps := ps.take 6) (fun p hp => hby p (List.mem_of_mem_take hp))
  have hbl := laidL_len (ps.take 6)
  rw [List.length_take] at hbl
  have hok := okt_take hby 6
  have hls := laidL_seals (ps.take 6)
  have htl : ((ps.take 6).map (List.take 60)).length = min 6 ps.length := by rw [List.length_map, List.length_take]
  generalize (ps.take 6).map (List.take 60) = ts at *
  generalize laidL (ps.take 6) = b at *
  have HR := Aside0.mk hr
  have HT := Aside0.mk htl
  have HOK := Aside0.mk (And.intro hls hok)
  have HBB := Aside0.mk hbb
  have HBL : Aside0 (b.length ≤ 432) := ⟨by omega⟩
  clear hr hby htl hls hok hbb hbl
  go_enter Try.func7, Try.ntmps7
  go_wp2_with fail
  refine (begun_calls w).mono ?_
  rintro e_ w1 ⟨rfl, hb⟩
  have HB1 := Aside0.mk hb
  clear hb
  go_wp2_with fail
  refine (HL.out w1 (Kd.C_below HR.out HB1.out)).mono ?_
  rintro e_ w2 ⟨v2, rfl, ho, hb⟩
  obtain ⟨Ab, cb, rfl⟩ := Kd.R_slice ho
  have HO2 := Aside0.mk (Kd.R_lower ho HB1.out.size)
  have HB2 := Aside0.mk (below_step HB1.out hb)
  clear ho hb HB1
  by_cases h0 : b = []
  · have hl0 : b.length = 0 := by rw [h0]; rfl
    clear h0
    go_wp2
    all_goals go_ret
    all_goals exact ⟨by simp, HB2.out⟩
  have htl : 0 < b.length := List.length_pos_iff.2 h0
  have b0 : ((b.length : Int) == 0) = false := beq_eq_false_iff_ne.2 (by omega)
  clear h0
  by_cases h1 : x = 0
  · subst h1
    go_wp2
    all_goals go_ret
    all_goals exact ⟨by simp, HB2.out⟩
  by_cases h2 : a1 < 0
  · go_wp2
    all_goals go_ret
    all_goals exact ⟨by simp, HB2.out⟩
  have b1 : (x == 0) = false := beq_eq_false_iff_ne.2 h1
  obtain ⟨k, hk⟩ := Int.eq_ofNat_of_zero_le (Int.emod_nonneg a1 (by omega : (b.length : Int) ≠ 0))
  have hkl : k < b.length := by have := Int.emod_lt_of_pos a1 (by omega : (0 : Int) < (b.length : Int)); omega
  have hr1 : a1.tmod (b.length : Int) = (k : Int) := by rw [Int.tmod_eq_emod_of_nonneg (by omega)]; exact hk
  have hr2 : IntKind.i64.wrap (k : Int) = (k : Int) := by have := HBL.out; rw [IntKind.wrap_i64]; omega
  have hxb := rd_bys HBB.out hkl
  obtain ⟨y, hy⟩ : ∃ y, rd b (k : Int) = y := ⟨_, rfl⟩
  obtain ⟨z, hz⟩ : ∃ z, bits .xor .u8 y x = z := ⟨_, rfl⟩
  rw [hy] at hxb
  have hzv := u8_xor y x hxb.1 hxb.2 hx.1 hx.2
  rw [hz] at hzv
  have hzb : 0 ≤ z ∧ z < 256 := by
    have : y.toNat ^^^ x.toNat < 2 ^ 8 := Nat.xor_lt_two_pow (by omega) (by omega)
    omega
  have hzy : z ≠ y := by
    intro e
    have h3 : y.toNat ^^^ x.toNat = y.toNat ^^^ 0 := by rw [Nat.xor_zero]; omega
    have := xor_cancel h3
    omega
  have hrot := rot_law HOK.out.2 (i := k) (by rw [← HOK.out.1]; exact hkl) hzb (by rw [← HOK.out.1, hy]; exact hzy)
  rw [← HOK.out.1] at hrot
  obtain ⟨q, hq1, hq2, hq3⟩ := hrot
  have hbs : Bys (b.set k z) := bys_set HBB.out hzb
  have hln : (b.set k z).length = b.length := List.length_set
  have hqt : (ts.take q).length = q := by rw [List.length_take]; omega
  have HSZ := Aside0.mk (fun A c w h hc => scan_calls A c (b.set k z) hbs w h hc (by rw [List.length_set]; have := HBL.out; omega))
  rw [hq3, hln] at HSZ
  obtain ⟨g, cap, ev, hgb, hgl, hj_⟩ := Kd.R_form HO2.out htl
  injection ev with e1 e2 e3
  subst e1
  subst e3
  have hcl := Kd.R_cell 0 HO2.out (k : Int) (by omega) (by omega)
  obtain ⟨hpr, hpg⟩ := Kd.R_put HO2.out (k : Int) z
  rw [Int.toNat_natCast] at hcl hpr hpg
  rw [show rdOf 0 b (k : Int) = y from hy] at hcl
  obtain ⟨hc1, hc2⟩ := hcl
  have HPR := Aside0.mk hpr
  have HB5 := Aside0.mk (pw_below_grown HB2.out (some g) HB2.out.size hpg (fun q hq => by simp at hq; omega))
  have HLN := Aside0.mk hln
  have hsk : (sealsL (ts.take q)).length ≤ k := hq2
  generalize (sealsL (ts.take q)).length = sk at *
  generalize hacc : ts.take q = acc at *
  have HQ : Aside0 (q < ps.length) := ⟨by have := HT.out; omega⟩
  have hkz : ((k : Int) < (b.length : Int)) = True := eq_true (by omega)
  have kq : ((q : Int) < (ps.length : Int)) = True := eq_true (by have := HQ.out; omega)
  have ks : ((sk : Int) ≤ (k : Int)) = True := eq_true (by omega)
  clear hj_ hpr hpg hbs hln hzv hzy hq1 hq2 hq3 hy hk e2 HO2 hacc
  go_wp2_with fail
  generalize w2.setCell ⟨g, k, none⟩ (.int .u8 z) = w5 at *
  have hrr := (Kd.R_reads' HPR.out).2.2
  have hcc := (Kd.R_reads' HPR.out).2.1
  rw [HLN.out] at hrr
  refine (HSZ.out (some ⟨g, 0, none⟩) cb w5 hrr hcc).mono ?_
  rintro e_ w6 ⟨v6, rfl, ho, hb⟩
  obtain ⟨A6, c6, e6⟩ := Kd.R_slice ho
  rw [hqt] at e6
  subst e6
  have HB6 := Aside0.mk (below_step HB5.out hb)
  clear hb ho hrr hcc HSZ
  go_wp2_with fail
  go_ret
  exact ⟨by simp, HB6.out⟩
end Go.Proofs.Ytfojeegepfjbiaa.CwWalk
