/- Contracts of crc.Sum and of the reference. -/
import Derived.Test.YtfojeegepfjbiaaProg
import Derived.Below
import Derived.Deep.Draws
import Derived.Deep.AppendLies
import Derived.Maps.AppendAt
import Derived.OwnWalk
import Derived.Laws.BytesArg
import Derived.Laws.MakeOwn
import Derived.Laws.OwnMore
import Derived.Deep.OwnRows
import Derived.Tactics
import Derived.Lib.ConvBytes
import Derived.Laws.Slices
import Derived.WalkKit
import Derived.KernelRfl
import Derived.RowKit3
import Derived.Deep.LoopGhost
import Derived.Deep.QuietTactic
import Derived.BigQuiet
import Derived.WideLaws
import Derived.Deep.DeepCutAuto
import Derived.Deep.CutBlock
import Derived.Deep.RegionHeld3
import Derived.Laws.Rows
import Derived.Lib.AppendStr
import Derived.ArgAppend
import Derived.Laws.IdiomCopy
import Derived.OrdersHeld
import Derived.Laws.BitsLemmas
import Derived.RowKit
import Derived.Laws.BitsAllLaws
import Derived.WalkSpells
import Derived.Outline
import Derived.Test.YtfojeegepfjbiaaWWords
import Derived.Test.YtfojeegepfjbiaaWLast
import Derived.Test.YtfojeegepfjbiaaWMore
import Derived.Test.YtfojeegepfjbiaaWArr
import Derived.Test.YtfojeegepfjbiaaWTab
import Derived.Test.YtfojeegepfjbiaaWZeros
import Derived.Test.YtfojeegepfjbiaaWRepsOne
import Derived.Test.YtfojeegepfjbiaaCrP
namespace Go.Proofs.Ytfojeegepfjbiaa.CrA
open Go.RowKit Go.Proofs.YtfojeegepfjbiaaW.PrintWords Go.Proofs.YtfojeegepfjbiaaW.PrintLast Go.Proofs.YtfojeegepfjbiaaW.PrintMore Go.Proofs.Ytfojeegepfjbiaa.Nm Go.Proofs.Ytfojeegepfjbiaa.NmA Go.Proofs.Ytfojeegepfjbiaa.NmH Go.Proofs.Ytfojeegepfjbiaa.CrP
set_option linter.unusedSimpArgs false
set_option linter.unusedVariables false
attribute [local go_sem] max2_int min2_int max_two min_two

theorem drop_rd {l : List Int} {i : Nat} (h : i < l.length) : l.drop i = rd l (i : Int) :: l.drop (i + 1) := by
  rw [List.drop_eq_getElem_cons h]
  congr 1
  unfold rd; rw [Int.toNat_natCast, List.getD_eq_getElem?_getD, List.getElem?_eq_getElem h]; rfl
set_option maxRecDepth 100000 in
theorem sum_calls (A : Option Addr) (c : Nat) (l : List Int) (hby : Bys l) (w : World) (hr : Kd.C (Kd.int .u8) w A l.length l) (hl : l.length ≤ 140737488351232) :
    Calls Try.prog 21 #[.slice A l.length c] w fun e w' => e = .returned (.int .u32 (crc l : Int)) ∧ Below w.heap.size w w' := by
  have HR := Aside0.mk hr
  have HBY := Aside0.mk hby
  have HENC : Aside0 (∃ e, run 4294967295 l = e) := ⟨⟨_, rfl⟩⟩
  obtain ⟨E, hE⟩ := HENC.out
  have HE := Aside0.mk hE
  have HB := Aside0.mk (Below.refl w.heap.size w)
  clear hr hby hE HENC
  go_enter Try.func21, Try.ntmps21
  go_wp2_with fail
  go_loopg [3, 8] l.length (fun q v3 v8 w' => ∃ (i x : Nat), v8 = .int .i64 (i : Int) ∧ v3 = .int .u32 (x : Int) ∧ Aside0 (i + q = l.length ∧ x < 4294967296 ∧ run x (l.drop i) = E) ∧ Aside0 (Below w.heap.size w w'))
  case atStart => exact ⟨0, 4294967295, rfl, rfl, ⟨by omega, by decide, HE.out⟩, HB⟩
  case round =>
    clear HB
    obtain ⟨i, x, rfl, rfl, HI, HB⟩ := hrel
    by_cases hlt : i < l.length
    · obtain ⟨ad, e_, _⟩ := Kd.at_int HR.out (i : Int) (by omega) (by omega)
      subst e_
      have hx := cell_at HR.out HB.out i hlt
      have hbx := rd_bys HBY.out hlt
      have hst : run x (l.drop i) = run (stp x (rd l (i : Int))) (l.drop (i + 1)) := by rw [drop_rd hlt]; rfl
      generalize rd l (i : Int) = y at *
      obtain ⟨yn, rfl⟩ := Int.eq_ofNat_of_zero_le hbx.1
      have hxl := HI.out.2.1
      have hxr : bits .xor .u32 (x : Int) (yn : Int) = ((x ^^^ yn : Nat) : Int) := u32_xor_nat x yn hxl (by omega)
      have HZ : Aside0 (x ^^^ yn < 4294967296) := ⟨Nat.xor_lt_two_pow (n := 32) (by omega) (by omega)⟩
      have HST : Aside0 (run (gs 8 (x ^^^ yn)) (l.drop (i + 1)) = E) := ⟨by rw [← HI.out.2.2, hst]; rfl⟩
      clear hst
      generalize x ^^^ yn = z at *
      go_wp2_with fail
      go_loopg [3, 16] 8 (fun q v3 v16 w' => ∃ (k u : Nat), v16 = .int .i64 (k : Int) ∧ v3 = .int .u32 (u : Int) ∧ Aside0 (k + q = 8 ∧ u = gs k z) ∧ Aside0 (Below w.heap.size w w'))
      case atStart => exact ⟨0, z, rfl, rfl, ⟨by omega, rfl⟩, HB⟩
      case round =>
        clear HB hx hxr
        obtain ⟨k, u, rfl, rfl, HK, HB⟩ := hrel
        by_cases hk : k < 8
        · have hul : u < 4294967296 := by rw [HK.out.2]; exact gs_lt k HZ.out
          have ha : bits .and .u32 (u : Int) 1 = ((u % 2 : Nat) : Int) := by
            have := u32_and_nat u 1 hul (by decide)
            rw [Nat.and_one_is_mod] at this
            exact this
          have m0 : bits .and .u32 3988292384 0 = 0 := by decide
          have m1 : bits .and .u32 3988292384 4294967295 = 3988292384 := by decide
          rcases Nat.mod_two_eq_zero_or_one u with h2 | h2
          · rw [h2] at ha
            have hv : bits .xor .u32 ((u : Int) / 2) 0 = ((g u : Nat) : Int) := by
              have h3 := u32_xor_nat (u / 2) 0 (by omega) (by decide)
              rw [Nat.xor_zero] at h3
              rw [show g u = u / 2 from by unfold g; rw [if_neg (by omega)]]
              exact h3
            have HV : Aside0 (g u = gs (k + 1) z) := ⟨by rw [HK.out.2]; rfl⟩
            generalize g u = v at *
            go_wp2_with fail
            go_roundg (8 - (k + 1))
            case measure => have := HK.out; omega
            case rel => exact ⟨k + 1, v, by simp, rfl, ⟨by omega, HV.out⟩, HB⟩
          · rw [h2] at ha
            have hv : bits .xor .u32 ((u : Int) / 2) 3988292384 = ((g u : Nat) : Int) := by
              have h3 := u32_xor_nat (u / 2) 3988292384 (by omega) (by decide)
              rw [show g u = (u / 2) ^^^ 3988292384 from by unfold g; rw [if_pos h2]]
              exact h3
            have HV : Aside0 (g u = gs (k + 1) z) := ⟨by rw [HK.out.2]; rfl⟩
            generalize g u = v at *
            go_wp2_with fail
            go_roundg (8 - (k + 1))
            case measure => have := HK.out; omega
            case rel => exact ⟨k + 1, v, by simp, rfl, ⟨by omega, HV.out⟩, HB⟩
        · go_wp2_with fail
          go_roundg (l.length - (i + 1))
          case measure => have := HI.out; omega
          case rel => exact ⟨i + 1, u, by simp, rfl, ⟨by omega, by rw [HK.out.2]; exact gs_lt k HZ.out, by rw [HK.out.2, show k = 8 by have := HK.out; omega]; exact HST.out⟩, HB⟩
    · have hi : i = l.length := by have := HI.out; omega
      have he := HI.out.2.2
      rw [hi, List.drop_length] at he
      have HF : Aside0 (x = E) := ⟨he⟩
      have hxl := HI.out.2.1
      clear he hi
      have hv : bits .xor .u32 IntKind.u32.max (x : Int) = ((crc l : Nat) : Int) := by
        rw [crc, HE.out, ← HF.out]
        exact u32_xor_nat 4294967295 x (by decide) hxl
      obtain ⟨r, hr⟩ : ∃ r, crc l = r := ⟨_, rfl⟩
      have HRR := Aside0.mk hr
      rw [hr] at hv
      clear hr
      go_wp2
      go_ret
      exact ⟨by rw [HRR.out]; first | rfl | rw [hv] | simp, HB.out⟩

set_option maxRecDepth 100000 in
theorem rsum_calls (A : Option Addr) (c : Nat) (l : List Int) (hby : Bys l) (w : World) (hr : Kd.C (Kd.int .u8) w A l.length l) (hl : l.length ≤ 140737488351232) :
    Calls Try.prog 22 #[.slice A l.length c] w fun e w' => e = .returned (.int .u32 (crc l : Int)) ∧ Below w.heap.size w w' := by
  have HR := Aside0.mk hr
  have HBY := Aside0.mk hby
  have HENC : Aside0 (∃ e, run 4294967295 l = e) := ⟨⟨_, rfl⟩⟩
  obtain ⟨E, hE⟩ := HENC.out
  have HE := Aside0.mk hE
  have HB := Aside0.mk (Below.refl w.heap.size w)
  clear hr hby hE HENC
  go_enter Try.func22, Try.ntmps22
  go_wp2_with fail
  go_loopg [3, 4] l.length (fun q v3 v8 w' => ∃ (i x : Nat), v8 = .int .i64 (i : Int) ∧ v3 = .int .u32 (x : Int) ∧ Aside0 (i + q = l.length ∧ x < 4294967296 ∧ run x (l.drop i) = E) ∧ Aside0 (Below w.heap.size w w'))
  case atStart => exact ⟨0, 4294967295, rfl, rfl, ⟨by omega, by decide, HE.out⟩, HB⟩
  case round =>
    clear HB
    obtain ⟨i, x, rfl, rfl, HI, HB⟩ := hrel
    by_cases hlt : i < l.length
    · obtain ⟨ad, e_, _⟩ := Kd.at_int HR.out (i : Int) (by omega) (by omega)
      subst e_
      have hx := cell_at HR.out HB.out i hlt
      have hbx := rd_bys HBY.out hlt
      have hst : run x (l.drop i) = run (stp x (rd l (i : Int))) (l.drop (i + 1)) := by rw [drop_rd hlt]; rfl
      generalize rd l (i : Int) = y at *
      obtain ⟨yn, rfl⟩ := Int.eq_ofNat_of_zero_le hbx.1
      have hxl := HI.out.2.1
      have hxr : bits .xor .u32 (x : Int) (yn : Int) = ((x ^^^ yn : Nat) : Int) := u32_xor_nat x yn hxl (by omega)
      have HZ : Aside0 (x ^^^ yn < 4294967296) := ⟨Nat.xor_lt_two_pow (n := 32) (by omega) (by omega)⟩
      have HST : Aside0 (run (gs 8 (x ^^^ yn)) (l.drop (i + 1)) = E) := ⟨by rw [← HI.out.2.2, hst]; rfl⟩
      clear hst
      generalize x ^^^ yn = z at *
      go_wp2_with fail
      go_loopg [3, 5] 8 (fun q v3 v16 w' => ∃ (k u : Nat), v16 = .int .i64 (k : Int) ∧ v3 = .int .u32 (u : Int) ∧ Aside0 (k + q = 8 ∧ u = gs k z) ∧ Aside0 (Below w.heap.size w w'))
      case atStart => exact ⟨0, z, rfl, rfl, ⟨by omega, rfl⟩, HB⟩
      case round =>
        clear HB hx hxr
        obtain ⟨k, u, rfl, rfl, HK, HB⟩ := hrel
        by_cases hk : k < 8
        · have hul : u < 4294967296 := by rw [HK.out.2]; exact gs_lt k HZ.out
          have ha : bits .and .u32 (u : Int) 1 = ((u % 2 : Nat) : Int) := by
            have := u32_and_nat u 1 hul (by decide)
            rw [Nat.and_one_is_mod] at this
            exact this
          have m0 : bits .and .u32 3988292384 0 = 0 := by decide
          have m1 : bits .and .u32 3988292384 4294967295 = 3988292384 := by decide
          rcases Nat.mod_two_eq_zero_or_one u with h2 | h2
          · rw [h2] at ha
            have hv : (u : Int) / 2 = ((g u : Nat) : Int) := by
              rw [show g u = u / 2 from by unfold g; rw [if_neg (by omega)]]
              rfl
            have HV : Aside0 (g u = gs (k + 1) z) := ⟨by rw [HK.out.2]; rfl⟩
            generalize g u = v at *
            go_wp2_with fail
            go_roundg (8 - (k + 1))
            case measure => have := HK.out; omega
            case rel => exact ⟨k + 1, v, by simp, rfl, ⟨by omega, HV.out⟩, HB⟩
          · rw [h2] at ha
            have hv : bits .xor .u32 ((u : Int) / 2) 3988292384 = ((g u : Nat) : Int) := by
              have h3 := u32_xor_nat (u / 2) 3988292384 (by omega) (by decide)
              rw [show g u = (u / 2) ^^^ 3988292384 from by unfold g; rw [if_pos h2]]
              exact h3
            have HV : Aside0 (g u = gs (k + 1) z) := ⟨by rw [HK.out.2]; rfl⟩
            generalize g u = v at *
            go_wp2_with fail
            go_roundg (8 - (k + 1))
            case measure => have := HK.out; omega
            case rel => exact ⟨k + 1, v, by simp, rfl, ⟨by omega, HV.out⟩, HB⟩
        · go_wp2_with fail
          go_roundg (l.length - (i + 1))
          case measure => have := HI.out; omega
          case rel => exact ⟨i + 1, u, by simp, rfl, ⟨by omega, by rw [HK.out.2]; exact gs_lt k HZ.out, by rw [HK.out.2, show k = 8 by have := HK.out; omega]; exact HST.out⟩, HB⟩
    · have hi : i = l.length := by have := HI.out; omega
      have he := HI.out.2.2
      rw [hi, List.drop_length] at he
      have HF : Aside0 (x = E) := ⟨he⟩
      have hxl := HI.out.2.1
      clear he hi
      have hv : bits .xor .u32 IntKind.u32.max (x : Int) = ((crc l : Nat) : Int) := by
        rw [crc, HE.out, ← HF.out]
        exact u32_xor_nat 4294967295 x (by decide) hxl
      obtain ⟨r, hr⟩ : ∃ r, crc l = r := ⟨_, rfl⟩
      have HRR := Aside0.mk hr
      rw [hr] at hv
      clear hr
      go_wp2
      go_ret
      exact ⟨by rw [HRR.out]; first | rfl | rw [hv] | simp, HB.out⟩

end Go.Proofs.Ytfojeegepfjbiaa.CrA
