/- Contracts of mtf.Encode and mtf.Decode. -/
import Derived.Test.YtpgbapbmikneiaaProg
import Derived.Below
import Derived.Deep.Draws
import Derived.Deep.AppendLies
import Derived.Maps.AppendAt
import Derived.OwnWalk
import Derived.Laws.BytesArg
import Derived.Laws.MakeOwn
import Derived.Laws.OwnMore
import Derived.Deep.OwnRows
import Derived.Tactics
import Derived.Lib.ConvBytes
import Derived.Laws.Slices
import Derived.WalkKit
import Derived.KernelRfl
import Derived.RowKit3
import Derived.Deep.LoopGhost
import Derived.Deep.QuietTactic
import Derived.BigQuiet
import Derived.WideLaws
import Derived.Deep.DeepCutAuto
import Derived.Deep.CutBlock
import Derived.Deep.RegionHeld3
import Derived.Laws.Rows
import Derived.Lib.AppendStr
import Derived.ArgAppend
import Derived.Laws.IdiomCopy
import Derived.OrdersHeld
import Derived.Laws.BitsLemmas
import Derived.RowKit
import Derived.WalkSpells
import Derived.Outline
import Derived.Test.YtpgbapbmikneiaaWWords
import Derived.Test.YtpgbapbmikneiaaWLast
import Derived.Test.YtpgbapbmikneiaaWMore
import Derived.Test.YtpgbapbmikneiaaWArr
import Derived.Test.YtpgbapbmikneiaaWTab
import Derived.Test.YtpgbapbmikneiaaWZeros
import Derived.Test.YtpgbapbmikneiaaWRepsOne
import Derived.Test.YtpgbapbmikneiaaMtA
namespace Go.Proofs.Ytpgbapbmikneiaa.MtB
open Go.RowKit Go.Proofs.YtpgbapbmikneiaaW.PrintWords Go.Proofs.YtpgbapbmikneiaaW.PrintLast Go.Proofs.YtpgbapbmikneiaaW.PrintMore Go.Proofs.Ytpgbapbmikneiaa.Nm Go.Proofs.Ytpgbapbmikneiaa.NmA Go.Proofs.Ytpgbapbmikneiaa.Mt Go.Proofs.Ytpgbapbmikneiaa.Mix Go.Proofs.Ytpgbapbmikneiaa.MtA
set_option linter.unusedSimpArgs false
set_option linter.unusedVariables false
attribute [local go_sem] max2_int min2_int max_two min_two

/-- The list's own row, under its block's name. -/
theorem R_named {w : World} {base g cap n : Nat} {ok : Nat → Prop} {L : List Int} (h : Kd.R (Kd.int .u8) 5 w base ok (.slice (some ⟨g, 0, none⟩) n cap) L) :
    Kd.R (Kd.int .u8) 5 w base (fun k => k = g) (.slice (some ⟨g, 0, none⟩) n cap) L := Kd.R_of_own (Kd.own_of_R h) (fun k hk => by simpa [Value.ownBlock] using hk.symm)

set_option maxRecDepth 100000 in
theorem encode_calls (A : Option Addr) (c : Nat) (l : List Int) (hby : Bys l) (w : World) (hr : Kd.C (Kd.int .u8) w A l.length l) (hl : l.length ≤ 140737488351232) :
    Calls Try.prog 14 #[.slice A l.length c] w fun e w' => ∃ v : Value, e = .returned v ∧ Kd.R (Kd.int .u8) 5 w' w.heap.size (fun _ => True) v (encM initL l) ∧ Below w.heap.size w w' := by
  have HR := Aside0.mk hr
  have HBY := Aside0.mk hby
  have HENC : Aside0 (∃ e, encM initL l = e) := ⟨⟨_, rfl⟩⟩
  obtain ⟨E, hE⟩ := HENC.out
  have HE := Aside0.mk hE
  clear hr hby hE HENC
  go_enter Try.func14, Try.ntmps14
  go_wp2_with fail
  refine (list_calls w).mono ?_
  rintro e_ w1 ⟨v1, rfl, ho, hb⟩
  obtain ⟨g, cap, e1, hgb, hgl, _⟩ := Kd.R_form ho (by rw [ok_initL.len]; decide)
  rw [ok_initL.len] at e1
  subst e1
  have HL0 := Aside0.mk (R_named ho)
  have HB1 := Aside0.mk hb
  have HGB := Aside0.mk hgb
  clear ho hb hgb hgl
  go_wp2_with fail
  go_loopg [4, 11] l.length (fun q v4 v11 w' => ∃ (i : Nat) (L acc : List Int), v11 = .int .i64 (i : Int) ∧ Aside0 (i + q = l.length ∧ acc ++ encM L (l.drop i) = E ∧ Ok L ∧ acc.length = i) ∧ Aside0 (Kd.R (Kd.int .u8) 5 w' w.heap.size (fun k => k ≠ g) v4 acc) ∧
    Aside0 (Kd.R (Kd.int .u8) 5 w' w.heap.size (fun k => k = g) (.slice (some ⟨g, 0, none⟩) 256 cap) L) ∧ Aside0 (Below w.heap.size w w'))
  case atStart => exact ⟨0, initL, [], rfl, ⟨by omega, by rw [← HE.out]; rfl, ok_initL, rfl⟩, ⟨Kd.R_nil _ _ _ _ _⟩, HL0, HB1⟩
  case round =>
    clear HB1 HL0
    obtain ⟨i, L, acc, rfl, HI, HO, HL, HB⟩ := hrel
    by_cases hlt : i < l.length
    · obtain ⟨ad, e_, _⟩ := Kd.at_int HR.out (i : Int) (by omega) (by omega)
      subst e_
      have hx := cell_at HR.out HB.out i hlt
      have hbx := rd_bys HBY.out hlt
      obtain ⟨hp, hpx⟩ := pos_spec (HI.out.2.2.1.mem.2 hbx)
      rw [HI.out.2.2.1.len] at hp
      have hpb := fun j (h : j < pos L (rd l (i : Int))) => pos_before h
      have hst : l.drop i = rd l (i : Int) :: l.drop (i + 1) := by
        have e := split_rd hlt
        have e2 : (l.take i).length = i := by rw [List.length_take]; omega
        conv => lhs; rw [e]
        rw [List.drop_left' e2]
      have henc : acc ++ [((pos L (rd l (i : Int)) : Nat) : Int)] ++ encM (mvf L (pos L (rd l (i : Int)))) (l.drop (i + 1)) = E := by
        rw [← HI.out.2.1, hst]; simp [encM]
      generalize pos L (rd l (i : Int)) = p at *
      generalize rd l (i : Int) = x at *
      have HEN := Aside0.mk henc
      have HPB := Aside0.mk hpb
      have HPX := Aside0.mk hpx
      have HPL : Aside0 (p < 256) := ⟨hp⟩
      have HAL : Aside0 (acc.length ≤ 140737488351232) := ⟨by have := HI.out; omega⟩
      clear henc hpb hpx hst
      go_wp2
      go_loop [7] (fun v7 => ∃ j : Nat, j ≤ p ∧ v7 = .int .i64 (j : Int)) (fun v7 => p - (intOf v7).toNat)
      case atStart => exact ⟨0, Nat.zero_le _, rfl⟩
      case round =>
        obtain ⟨j, hjp, rfl⟩ := hrel
        have hc := (Kd.R_celln 0 HL.out (j : Int) (by omega) (by omega)).1
        rw [Int.toNat_natCast] at hc
        by_cases hjl : j < p
        · have hne := HPB.out j hjl
          have hc2 : wr.cell? ⟨g, j, none⟩ = some (.int .u8 (rd L (j : Int))) := hc
          generalize rd L (j : Int) = y at hc2 hne
          have bn : (y != x) = true := bne_iff_ne.2 hne
          have be : (y == x) = false := beq_eq_false_iff_ne.2 hne
          clear hc hne
          go_wp2
          go_round
          case rel => exact ⟨j + 1, by omega, by go_num⟩
          case measure => simp [intOf]; omega
        · obtain rfl : j = p := by omega
          have hc2 : wr.cell? ⟨g, j, none⟩ = some (.int .u8 x) := by rw [← HPX.out]; exact hc
          clear hc hjl
          go_wp2_with ((with_reducible refine gate_builtin (b := .append) (xs := #[.tmp 23, .tmp 26]) rfl ?_); at_builtin; go_must (refine Kd.R_append (Kd.int .u8) (w0 := w) (w.heap.size) rfl (.tmp 23) (.tmp 26) 24 5 (.int .u8 0) 1 rfl Try.underlying24 info5 rfl (by decide) (by omega) u4 acc (j : Int) [.int .u8 (j : Int)] (fun k => k ≠ g) (fun _ => False) rfl rfl rfl (fun _ hk => hk.elim) (fun k hk => by have := Kd.R_lt HL.out g (by simp [Value.ownBlock]); omega) HO.out HB.out HB.out.size (by have := HAL.out; omega) ?_; intro v102 w4 ho hb hg hat; have HO3 := Aside0.mk ho; have HB2 := Aside0.mk hb; have HL2 := Aside0.mk (Kd.R_grown HL.out hg (fun k hk => by rw [hk]; exact Kd.R_away HO.out (fun k hk => hk))); clear ho hb hg hat))
          refine (front_calls w4 w.heap.size _ g cap L j (by omega) HI.out.2.2.1.len HL2.out).mono ?_
          rintro e_ w5 ⟨rfl, hl5, hg5⟩
          have HL5 := Aside0.mk hl5
          have HO5 := Aside0.mk (Kd.R_grown HO3.out hg5 (fun k hk => by simpa using hk))
          have HB5 := Aside0.mk (pw_below_grown HB2.out (some g) HB2.out.size hg5 (fun k hk => by simp at hk; have := HGB.out; omega))
          clear hl5 hg5 HL2 HO3 HB2 hc2
          go_wp2_with fail
          go_roundg (l.length - (i + 1))
          case measure => have := HI.out; omega
          case rel => exact ⟨i + 1, mvf L j, _, rfl, ⟨by omega, HEN.out, HI.out.2.2.1.mvf HPL.out, by simp; exact HI.out.2.2.2⟩, HO5, HL5, HB5⟩
    · have hi : i = l.length := by have := HI.out; omega
      have he := HI.out.2.1
      rw [hi, List.drop_length] at he
      simp only [encM, List.append_nil] at he
      have h1 := HO.out
      rw [he] at h1
      have HF := Aside0.mk (Kd.R_mono h1 (fun _ _ => trivial) : Kd.R (Kd.int .u8) 5 wr w.heap.size (fun _ => True) u4 E)
      clear he h1 hi
      go_wp2
      go_ret
      exact ⟨_, rfl, by rw [HE.out]; exact HF.out, HB.out⟩

set_option maxRecDepth 100000 in
theorem decode_calls (A : Option Addr) (c : Nat) (l : List Int) (hby : Bys l) (w : World) (hr : Kd.C (Kd.int .u8) w A l.length l) (hl : l.length ≤ 140737488351232) :
    Calls Try.prog 16 #[.slice A l.length c] w fun e w' => ∃ v : Value, e = .returned v ∧ Kd.R (Kd.int .u8) 5 w' w.heap.size (fun _ => True) v (decM initL l) ∧ Below w.heap.size w w' := by
  have HR := Aside0.mk hr
  have HBY := Aside0.mk hby
  have HENC : Aside0 (∃ e, decM initL l = e) := ⟨⟨_, rfl⟩⟩
  obtain ⟨E, hE⟩ := HENC.out
  have HE := Aside0.mk hE
  clear hr hby hE HENC
  go_enter Try.func16, Try.ntmps16
  go_wp2_with fail
  refine (list_calls w).mono ?_
  rintro e_ w1 ⟨v1, rfl, ho, hb⟩
  obtain ⟨g, cap, e1, hgb, hgl, _⟩ := Kd.R_form ho (by rw [ok_initL.len]; decide)
  rw [ok_initL.len] at e1
  subst e1
  have HL0 := Aside0.mk (R_named ho)
  have HB1 := Aside0.mk hb
  have HGB := Aside0.mk hgb
  clear ho hb hgb hgl
  go_wp2_with fail
  go_loopg [4, 10] l.length (fun q v4 v10 w' => ∃ (i : Nat) (L acc : List Int), v10 = .int .i64 (i : Int) ∧ Aside0 (i + q = l.length ∧ acc ++ decM L (l.drop i) = E ∧ Ok L ∧ acc.length = i) ∧ Aside0 (Kd.R (Kd.int .u8) 5 w' w.heap.size (fun k => k ≠ g) v4 acc) ∧
    Aside0 (Kd.R (Kd.int .u8) 5 w' w.heap.size (fun k => k = g) (.slice (some ⟨g, 0, none⟩) 256 cap) L) ∧ Aside0 (Below w.heap.size w w'))
  case atStart => exact ⟨0, initL, [], rfl, ⟨by omega, by rw [← HE.out]; rfl, ok_initL, rfl⟩, ⟨Kd.R_nil _ _ _ _ _⟩, HL0, HB1⟩
  case round =>
    clear HB1 HL0
    obtain ⟨i, L, acc, rfl, HI, HO, HL, HB⟩ := hrel
    by_cases hlt : i < l.length
    · obtain ⟨ad, e_, _⟩ := Kd.at_int HR.out (i : Int) (by omega) (by omega)
      subst e_
      have hx := cell_at HR.out HB.out i hlt
      have hbx := rd_bys HBY.out hlt
      have hst : l.drop i = rd l (i : Int) :: l.drop (i + 1) := by
        have e := split_rd hlt
        have e2 : (l.take i).length = i := by rw [List.length_take]; omega
        conv => lhs; rw [e]
        rw [List.drop_left' e2]
      obtain ⟨j, hj⟩ : ∃ j : Nat, rd l (i : Int) = (j : Int) := ⟨(rd l (i : Int)).toNat, by omega⟩
      rw [hj] at hx hst hbx
      have hjl : j < 256 := by omega
      have henc : acc ++ [rd L (j : Int)] ++ decM (mvf L j) (l.drop (i + 1)) = E := by
        rw [← HI.out.2.1, hst]; simp [decM]
      have hc := (Kd.R_celln 0 HL.out (j : Int) (by omega) (by omega)).1
      rw [Int.toNat_natCast] at hc
      have hc2 : wr.cell? ⟨g, j, none⟩ = some (.int .u8 (rd L (j : Int))) := hc
      generalize rd L (j : Int) = y at hc2 henc
      have HEN := Aside0.mk henc
      have HAL : Aside0 (acc.length ≤ 140737488351232) := ⟨by have := HI.out; omega⟩
      clear henc hst hj hbx hc
      go_wp2_with ((with_reducible refine gate_builtin (b := .append) (xs := #[.tmp 14, .tmp 19]) rfl ?_); at_builtin; go_must (refine Kd.R_append (Kd.int .u8) (w0 := w) (w.heap.size) rfl (.tmp 14) (.tmp 19) 24 5 (.int .u8 0) 1 rfl Try.underlying24 info5 rfl (by decide) (by omega) u4 acc y [.int .u8 y] (fun k => k ≠ g) (fun _ => False) rfl rfl rfl (fun _ hk => hk.elim) (fun k hk => by have := Kd.R_lt HL.out g (by simp [Value.ownBlock]); omega) HO.out HB.out HB.out.size (by have := HAL.out; omega) ?_; intro v102 w4 ho hb hg hat; have HO3 := Aside0.mk ho; have HB2 := Aside0.mk hb; have HL2 := Aside0.mk (Kd.R_grown HL.out hg (fun k hk => by rw [hk]; exact Kd.R_away HO.out (fun k hk => hk))); clear ho hb hg hat))
      refine (front_calls w4 w.heap.size _ g cap L j (by omega) HI.out.2.2.1.len HL2.out).mono ?_
      rintro e_ w5 ⟨rfl, hl5, hg5⟩
      have HL5 := Aside0.mk hl5
      have HO5 := Aside0.mk (Kd.R_grown HO3.out hg5 (fun k hk => by simpa using hk))
      have HB5 := Aside0.mk (pw_below_grown HB2.out (some g) HB2.out.size hg5 (fun k hk => by simp at hk; have := HGB.out; omega))
      clear hl5 hg5 HL2 HO3 HB2 hc2
      go_wp2_with fail
      go_roundg (l.length - (i + 1))
      case measure => have := HI.out; omega
      case rel => exact ⟨i + 1, mvf L j, _, rfl, ⟨by omega, HEN.out, HI.out.2.2.1.mvf hjl, by simp; exact HI.out.2.2.2⟩, HO5, HL5, HB5⟩
    · have hi : i = l.length := by have := HI.out; omega
      have he := HI.out.2.1
      rw [hi, List.drop_length] at he
      simp only [decM, List.append_nil] at he
      have h1 := HO.out
      rw [he] at h1
      have HF := Aside0.mk (Kd.R_mono h1 (fun _ _ => trivial) : Kd.R (Kd.int .u8) 5 wr w.heap.size (fun _ => True) u4 E)
      clear he h1 hi
      go_wp2
      go_ret
      exact ⟨_, rfl, by rw [HE.out]; exact HF.out, HB.out⟩
end Go.Proofs.Ytpgbapbmikneiaa.MtB
