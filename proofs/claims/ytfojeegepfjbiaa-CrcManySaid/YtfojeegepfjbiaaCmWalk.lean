/- CrcSum: any bytes have their sum; a byte that was changed changes it: it answers true. No condition. -/
import Derived.Test.YtfojeegepfjbiaaProg
import Derived.Below
import Derived.Deep.Draws
import Derived.Deep.AppendLies
import Derived.Maps.AppendAt
import Derived.OwnWalk
import Derived.Laws.BytesArg
import Derived.Laws.MakeOwn
import Derived.Laws.OwnMore
import Derived.Deep.OwnRows
import Derived.Tactics
import Derived.Lib.ConvBytes
import Derived.Laws.Slices
import Derived.WalkKit
import Derived.KernelRfl
import Derived.RowKit3
import Derived.Deep.LoopGhost
import Derived.Deep.QuietTactic
import Derived.BigQuiet
import Derived.WideLaws
import Derived.Deep.DeepCutAuto
import Derived.Deep.CutBlock
import Derived.Deep.RegionHeld3
import Derived.Laws.Rows
import Derived.Lib.AppendStr
import Derived.ArgAppend
import Derived.Laws.IdiomCopy
import Derived.OrdersHeld
import Derived.Laws.BitsLemmas
import Derived.RowKit
import Derived.Deep.RegionWith
import Derived.Laws.BitsAllLaws
import Derived.WalkSpells
import Derived.Outline
import Derived.Test.YtfojeegepfjbiaaWWords
import Derived.Test.YtfojeegepfjbiaaWLast
import Derived.Test.YtfojeegepfjbiaaWMore
import Derived.Test.YtfojeegepfjbiaaWArr
import Derived.Test.YtfojeegepfjbiaaWTab
import Derived.Test.YtfojeegepfjbiaaWZeros
import Derived.Test.YtfojeegepfjbiaaWRepsOne
import Derived.Test.YtfojeegepfjbiaaCrF
import Derived.Test.YtfojeegepfjbiaaCrL
namespace Go.Proofs.Ytfojeegepfjbiaa.CmWalk
open Go.RowKit Go.Proofs.YtfojeegepfjbiaaW.PrintWords Go.Proofs.YtfojeegepfjbiaaW.PrintLast Go.Proofs.YtfojeegepfjbiaaW.PrintMore Go.Proofs.Ytfojeegepfjbiaa.Nm Go.Proofs.Ytfojeegepfjbiaa.NmA Go.Proofs.Ytfojeegepfjbiaa.NmB Go.Proofs.Ytfojeegepfjbiaa.NmC Go.Proofs.Ytfojeegepfjbiaa.NmH Go.Proofs.Ytfojeegepfjbiaa.CrP Go.Proofs.Ytfojeegepfjbiaa.CrA Go.Proofs.Ytfojeegepfjbiaa.CrB Go.Proofs.Ytfojeegepfjbiaa.CrC Go.Proofs.Ytfojeegepfjbiaa.CrD Go.Proofs.Ytfojeegepfjbiaa.CrE Go.Proofs.Ytfojeegepfjbiaa.CrF Go.Proofs.Ytfojeegepfjbiaa.CrL Go.Proofs.Ytfojeegepfjbiaa.Mix
set_option linter.unusedSimpArgs false
set_option linter.unusedVariables false
attribute [local go_sem] max2_int min2_int max_two min_two

set_option maxRecDepth 100000 in
set_option maxHeartbeats 1000000 in
theorem walk (A : Option Addr) (c : Nat) (l : List Int) (a1 : Int) (x : Int) (w : World) (hr : (Kd.int .u8).C w A l.length l) (hc : l.length ≤ c) (hm : l.length * 1 ≤ 140737488351232) (hw : ∀ x ∈ l, (Lit.int .u8 x).wf = true) (w1 : (Lit.int .i64 a1).wf = true) (w2 : (Lit.int .u8 x).wf = true) :
    Calls Try.prog 3 #[.slice A l.length c, .int .i64 a1, .int .u8 x] w fun e w' => e = .returned (.bool true) ∧ Below w.heap.size w w' := by
  have hby := bys_take (bys_wf hw) 300
  have hr2 := C_take 300 hr
  have hl3 : (l.take 300).length ≤ 300 := by rw [List.length_take]; omega
  have HS := Aside0.mk (fun w => short_calls A c l 300 hc w)
  have hx : 0 ≤ x ∧ x < 256 := by
    simp [Lit.wf, IntKind.min, IntKind.max, IntKind.bits, IntKind.signed] at w2
    omega
  have ha : -9223372036854775808 ≤ a1 ∧ a1 ≤ 9223372036854775807 := by
    simp [Lit.wf, IntKind.min, IntKind.max, IntKind.bits, IntKind.signed] at w1
    omega
  clear w1 w2
  generalize l.take 300 = t at *
  have HY := Aside0.mk hby
  have HR := Aside0.mk hr2
  have HL := Aside0.mk hl3
  have HSU := Aside0.mk (fun w h => sum_calls A c t hby w h (by omega))
  have HRS := Aside0.mk (fun w h => rsum_calls A c t hby w h (by omega))
  clear hby hr hr2 hc hm hw hl3
  go_enter Try.func3, Try.ntmps3
  go_wp2_with fail
  refine (begun_calls w).mono ?_
  rintro e_ w1 ⟨rfl, hb⟩
  have HB1 := Aside0.mk hb
  clear hb
  go_wp2_with fail
  refine (HS.out w1).mono ?_
  rintro e_ w2 ⟨rfl, rfl⟩
  go_wp2_with fail
  refine (HSU.out w1 (Kd.C_below HR.out HB1.out)).mono ?_
  rintro e_ w2 ⟨rfl, hb⟩
  have HB2 := Aside0.mk (below_step HB1.out hb)
  clear hb HB1
  go_wp2_with fail
  refine (HRS.out w2 (Kd.C_below HR.out HB2.out)).mono ?_
  rintro e_ w3 ⟨rfl, hb⟩
  have HB3 := Aside0.mk (below_step HB2.out hb)
  clear hb HB2
  by_cases h0 : t = []
  · subst h0
    go_wp2
    go_ret
    exact ⟨by simp, HB3.out⟩
  by_cases h1 : x = 0
  · subst h1
    go_wp2
    go_ret
    exact ⟨by simp, HB3.out⟩
  by_cases h2 : a1 < 0
  · go_wp2
    go_ret
    exact ⟨by simp, HB3.out⟩
  have htl : 0 < t.length := List.length_pos_iff.2 h0
  have b0 : ((t.length : Int) == 0) = false := beq_eq_false_iff_ne.2 (by omega)
  have b1 : (x == 0) = false := beq_eq_false_iff_ne.2 h1
  obtain ⟨k, hk⟩ := Int.eq_ofNat_of_zero_le (Int.emod_nonneg a1 (by omega : (t.length : Int) ≠ 0))
  have hkl : k < t.length := by have := Int.emod_lt_of_pos a1 (by omega : (0 : Int) < (t.length : Int)); omega
  have hr1 : a1.tmod (t.length : Int) = (k : Int) := by rw [Int.tmod_eq_emod_of_nonneg (by omega)]; exact hk
  have hr2 : IntKind.i64.wrap (k : Int) = (k : Int) := by have := HL.out; rw [IntKind.wrap_i64]; omega
  have hxb := rd_bys HY.out hkl
  obtain ⟨y, hy⟩ : ∃ y, rd t (k : Int) = y := ⟨_, rfl⟩
  obtain ⟨z, hz⟩ : ∃ z, bits .xor .u8 y x = z := ⟨_, rfl⟩
  rw [hy] at hxb
  have hzv := u8_xor y x hxb.1 hxb.2 hx.1 hx.2
  rw [hz] at hzv
  have hzb : 0 ≤ z ∧ z < 256 := by
    have : y.toNat ^^^ x.toNat < 2 ^ 8 := Nat.xor_lt_two_pow (by omega) (by omega)
    omega
  have hzy : z ≠ y := by
    intro e
    have h3 : y.toNat ^^^ x.toNat = y.toNat ^^^ 0 := by rw [Nat.xor_zero]; omega
    have := xor_cancel h3
    omega
  have hset : t.set k z = t.take k ++ z :: t.drop (k + 1) := List.set_eq_take_append_cons_drop.trans (if_pos hkl)
  have hsp : t = t.take k ++ y :: t.drop (k + 1) := by
    rw [← hy]
    have e := List.take_append_drop k t
    rw [drop_rd hkl] at e
    exact e.symm
  have hcr : crc (t.set k z) ≠ crc t := by
    have h3 := crc_one (a := t.take k) (b := t.drop (k + 1)) (bys_take HY.out k) (bys_drop HY.out _) hzb hxb hzy
    rw [← hset, ← hsp] at h3
    exact h3
  have hbs : Bys (t.set k z) := by
    rw [hset]
    exact bys_append (bys_take HY.out k) (fun v hv => by
      rcases List.mem_cons.1 hv with rfl | hv
      · exact hzb
      · exact bys_drop HY.out _ v hv)
  have HSZ := Aside0.mk (fun A c w h => sum_calls A c (t.set k z) hbs w h (by rw [List.length_set]; have := HL.out; omega))
  have hcn : (((crc (t.set k z) : Nat) : Int) != ((crc t : Nat) : Int)) = true := bne_iff_ne.2 (fun e => hcr (by omega))
  have hln : (t.set k z).length = t.length := List.length_set
  have HLN := Aside0.mk hln
  have HYY := Aside0.mk hy
  have HN0 := Aside0.mk (Kd.R_nil (Kd.int .u8) 5 w3 w3.heap.size (fun _ => True))
  have HBW := Aside0.mk (Below.refl w3.heap.size w3)
  have HR3 := Aside0.mk (Kd.C_below HR.out HB3.out)
  have HSU2 := Aside0.mk (fun w h => HSU.out w h)
  have hkz : ((k : Int) < (t.length : Int)) = True := eq_true (by omega)
  clear hcr hbs hset hsp hzv hzy hln hy hk HRS HSU
  go_wp2_with ((with_reducible refine gate_builtin (b := .append) (xs := #[.const (.slice none 0 0), .tmp 30]) rfl ?_); at_builtin; go_must (refine Kd.R_append_row (Value.int .u8) (0) (h1 := fun _ => rfl) (w0 := w3) (w3.heap.size) rfl (.const (.slice none 0 0)) (.tmp 30) 22 5 (.int .u8 0) 1 rfl Try.underlying22 info5 rfl (by decide) (.slice none 0 0) ([] : List Int) t A (t.length) c (fun _ => True) rfl rfl (fun _ _ => trivial) (HN0.out) (HR3.out) (HBW.out) (Below.size (HBW.out)) ?aL_ ?_; (case aL_ => have := HL.out; simp only [List.length_nil]; omega); intro v4 w4 ho hb hg hat; have HO4 := Aside0.mk ho; have HB4 := Aside0.mk hb; have ho2 : Kd.R (Kd.int .u8) 5 w4 w3.heap.size (fun _ => True) v4 t := (by have := HO4.out; rw [List.nil_append] at this; exact this); obtain ⟨g, cap, e4, hgb, hgl, hj_⟩ := Kd.R_form ho2 htl; subst e4; have hcl := Kd.R_cell 0 ho2 (k : Int) (by omega) (by omega); obtain ⟨hpr, hpg⟩ := Kd.R_put ho2 (k : Int) z; rw [Int.toNat_natCast] at hcl hpr hpg; rw [show rdOf 0 t (k : Int) = y from HYY.out] at hcl; obtain ⟨hc1, hc2⟩ := hcl; have HPR := Aside0.mk hpr; have HB5 := Aside0.mk (pw_below_grown HB4.out (some g) HB4.out.size hpg (fun q hq => by simp at hq; omega)); clear hj_ hpr hpg ho2 HO4 HB4; clear ho hb hg hat))
  generalize w4.setCell ⟨g, k, none⟩ (.int .u8 z) = w5 at *
  have hrr := (Kd.R_reads' HPR.out).2.2
  rw [HLN.out] at hrr
  have h5 := HSZ.out (some ⟨g, 0, none⟩) cap w5
  rw [HLN.out] at h5
  refine (h5 hrr).mono ?_
  rintro e_ w6 ⟨rfl, hb⟩
  have HB6 := Aside0.mk (below_step HB3.out (below_step HB5.out hb))
  clear hb h5 hrr
  go_wp2_with fail
  refine (HSU2.out w6 (Kd.C_below HR.out HB6.out)).mono ?_
  rintro e_ w7 ⟨rfl, hb⟩
  have HB7 := Aside0.mk (below_step HB6.out hb)
  clear hb
  go_wp2_with fail
  go_ret
  exact ⟨by simp, HB7.out⟩
end Go.Proofs.Ytfojeegepfjbiaa.CmWalk
