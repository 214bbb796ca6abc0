/- Plain law: the reference reads the same record. -/
import Derived.Test.YtfojeegepfjbiaaProg
import Derived.Below
import Derived.Deep.Draws
import Derived.Deep.AppendLies
import Derived.Maps.AppendAt
import Derived.OwnWalk
import Derived.Laws.BytesArg
import Derived.Laws.MakeOwn
import Derived.Laws.OwnMore
import Derived.Deep.OwnRows
import Derived.Tactics
import Derived.Lib.ConvBytes
import Derived.Laws.Slices
import Derived.WalkKit
import Derived.KernelRfl
import Derived.RowKit3
import Derived.Deep.LoopGhost
import Derived.Deep.QuietTactic
import Derived.BigQuiet
import Derived.WideLaws
import Derived.Deep.DeepCutAuto
import Derived.Deep.CutBlock
import Derived.Deep.RegionHeld3
import Derived.Laws.Rows
import Derived.Lib.AppendStr
import Derived.ArgAppend
import Derived.Laws.IdiomCopy
import Derived.OrdersHeld
import Derived.Laws.BitsLemmas
import Derived.RowKit
import Derived.WalkSpells
import Derived.Outline
import Derived.Test.YtfojeegepfjbiaaWWords
import Derived.Test.YtfojeegepfjbiaaWLast
import Derived.Test.YtfojeegepfjbiaaWMore
import Derived.Test.YtfojeegepfjbiaaWArr
import Derived.Test.YtfojeegepfjbiaaWTab
import Derived.Test.YtfojeegepfjbiaaWZeros
import Derived.Test.YtfojeegepfjbiaaWRepsOne
import Derived.Test.YtfojeegepfjbiaaRdF
namespace Go.Proofs.Ytfojeegepfjbiaa.RdG
open Go.RowKit Go.Proofs.YtfojeegepfjbiaaW.PrintWords Go.Proofs.YtfojeegepfjbiaaW.PrintLast Go.Proofs.YtfojeegepfjbiaaW.PrintMore Go.Proofs.Ytfojeegepfjbiaa.Nm Go.Proofs.Ytfojeegepfjbiaa.NmA Go.Proofs.Ytfojeegepfjbiaa.NmB Go.Proofs.Ytfojeegepfjbiaa.NmC Go.Proofs.Ytfojeegepfjbiaa.NmD Go.Proofs.Ytfojeegepfjbiaa.NmE Go.Proofs.Ytfojeegepfjbiaa.NmI Go.Proofs.Ytfojeegepfjbiaa.CrP Go.Proofs.Ytfojeegepfjbiaa.CrA Go.Proofs.Ytfojeegepfjbiaa.CrB Go.Proofs.Ytfojeegepfjbiaa.CrC Go.Proofs.Ytfojeegepfjbiaa.CrD Go.Proofs.Ytfojeegepfjbiaa.CrE Go.Proofs.Ytfojeegepfjbiaa.CrG Go.Proofs.Ytfojeegepfjbiaa.CrH Go.Proofs.Ytfojeegepfjbiaa.Mix Go.Proofs.Ytfojeegepfjbiaa.RdA Go.Proofs.Ytfojeegepfjbiaa.RdB Go.Proofs.Ytfojeegepfjbiaa.RdC Go.Proofs.Ytfojeegepfjbiaa.RdD Go.Proofs.Ytfojeegepfjbiaa.RdE Go.Proofs.Ytfojeegepfjbiaa.RdF
set_option linter.unusedSimpArgs false
set_option linter.unusedVariables false
attribute [local go_sem] max2_int min2_int max_two min_two

/-- What the reference's one does. -/
def oneL (b : List Int) : Option Rec :=
  if b.length = 0 ∨ rd b 0 > 1 then none else
  if (getS (b.drop 1)).2 = 0 ∨ (getS (b.drop 1)).1 > 1125899906842624 then none else
  let b1 := b.drop (1 + (getS (b.drop 1)).2.toNat)
  if (textV b1).2 = 0 then none else
  let b2 := b1.drop (textV b1).2.toNat
  if rd b 0 = 1 then
    if (textV b2).2 = 0 then none else
    if (b2.drop (textV b2).2.toNat).length > 0 ∨ checkL 1 (getS (b.drop 1)).1 (textV b1).1 (textV b2).1 ≠ 0 then none else some (1, (getS (b.drop 1)).1, (textV b1).1, (textV b2).1)
  else if b2.length > 0 ∨ checkL (rd b 0) (getS (b.drop 1)).1 (textV b1).1 ⟨#[]⟩ ≠ 0 then none else some (rd b 0, (getS (b.drop 1)).1, (textV b1).1, ⟨#[]⟩)
theorem rd_cons0 (c : Int) (t : List Int) : rd (c :: t) 0 = c := rfl
theorem one_rec {k s : Int} {key v : ByteArray} (h : checkL k s key v = 0) : oneL (recB k s key v) = some (k, s, key, v) := by
  have hok := check_ok h
  obtain ⟨sn, rfl⟩ := Int.eq_ofNat_of_zero_le (show 0 ≤ s by omega)
  have hpk := enc_pos key.size
  have hpv := enc_pos v.size
  have hps := enc_pos sn
  rcases hok.2.2.2.1 with rfl | ⟨rfl, hv0⟩
  · have hr : recB 1 (sn : Int) key v = 1 :: (enc sn ++ ((enc key.size ++ bytesOf key) ++ ((enc v.size ++ bytesOf v) ++ []))) := by
      unfold recB
      rw [if_pos rfl, Int.toNat_natCast]
      simp
    have a1 := getS_enc (n := sn) (by omega) ((enc key.size ++ bytesOf key) ++ ((enc v.size ++ bytesOf v) ++ []))
    have b1 := textV_text (s := key) (by omega) ((enc v.size ++ bytesOf v) ++ [])
    have c1 := textV_text (s := v) (by omega) []
    rw [hr]
    unfold oneL
    simp only [rd_cons0, List.drop_succ_cons, List.drop_zero, a1, Int.toNat_natCast, Nat.add_comm 1 _, List.drop_left, b1, c1]
    rw [if_neg (by simp), if_neg (by omega), if_neg (by rw [List.length_append]; omega), if_pos trivial, if_neg (by rw [List.length_append]; omega), if_neg (by rw [h]; simp)]
  · have hvn : v = ⟨#[]⟩ := by
      rcases v with ⟨d⟩
      have : d.size = 0 := hv0
      congr 1
      exact Array.size_eq_zero_iff.1 this
    subst hvn
    have hr : recB 0 (sn : Int) key ⟨#[]⟩ = 0 :: (enc sn ++ ((enc key.size ++ bytesOf key) ++ [])) := by
      unfold recB
      rw [if_neg (by decide), Int.toNat_natCast]
      simp
    have a1 := getS_enc (n := sn) (by omega) ((enc key.size ++ bytesOf key) ++ [])
    have b1 := textV_text (s := key) (by omega) []
    rw [hr]
    unfold oneL
    simp only [rd_cons0, List.drop_succ_cons, List.drop_zero, a1, Int.toNat_natCast, Nat.add_comm 1 _, List.drop_left, b1]
    rw [if_neg (by simp), if_neg (by omega), if_neg (by rw [List.length_append]; omega), if_neg (by decide), if_neg (by rw [h]; simp)]
theorem one_sound {b : List Int} (hby : Bys b) {r : Rec} (h : oneL b = some r) : chkT r = 0 ∧ recT r = b := by
  unfold oneL at h
  split at h
  · exact absurd h (by simp)
  rename_i c1
  split at h
  · exact absurd h (by simp)
  rename_i c2
  simp only at h
  split at h
  · exact absurd h (by simp)
  rename_i c3
  have hb0 : b = rd b 0 :: b.drop 1 := by
    cases b with
    | nil => exact absurd (Or.inl rfl) c1
    | cons c t => rfl
  have hr0 : 0 ≤ rd b 0 := by
    have := rd_bys hby (i := 0) (by omega)
    exact this.1
  have y1 : Bys (b.drop 1) := bys_drop hby 1
  obtain ⟨g1, g2⟩ := getS_back y1 (fun e => c2 (Or.inl e))
  have hbd := getS_bd y1
  rw [List.drop_drop] at g1
  obtain ⟨b1, hb1⟩ : ∃ x, b.drop (1 + (getS (b.drop 1)).2.toNat) = x := ⟨_, rfl⟩
  have y2 : Bys b1 := by rw [← hb1]; exact bys_drop hby _
  rw [hb1] at g1 h c3
  obtain ⟨t1, t2⟩ := textV_back y2 c3
  obtain ⟨b2, hb2⟩ : ∃ x, b1.drop (textV b1).2.toNat = x := ⟨_, rfl⟩
  have y3 : Bys b2 := by rw [← hb2]; exact bys_drop y2 _
  rw [hb2] at t1 h
  split at h
  · rename_i hk
    split at h
    · exact absurd h (by simp)
    rename_i c4
    split at h
    · exact absurd h (by simp)
    rename_i c5
    obtain ⟨u1, u2⟩ := textV_back y3 c4
    obtain rfl : _ = r := by injection h
    refine ⟨?_, ?_⟩
    · show checkL _ _ _ _ = 0
      by_cases hc : checkL 1 (getS (b.drop 1)).1 (textV b1).1 (textV b2).1 = 0
      · exact hc
      · exact absurd (Or.inr hc) c5
    · show recB _ _ _ _ = b
      have he : b2.drop (textV b2).2.toNat = [] := List.eq_nil_of_length_eq_zero (by
        by_cases hz : (b2.drop (textV b2).2.toNat).length = 0
        · exact hz
        · exact absurd (Or.inl (by omega)) c5)
      rw [he, List.append_nil] at u1
      unfold recB
      rw [if_pos rfl]
      conv => rhs; rw [hb0, hk, g1, t1, u1]
      simp
  · rename_i hk
    split at h
    · exact absurd h (by simp)
    rename_i c5
    obtain rfl : _ = r := by injection h
    refine ⟨?_, ?_⟩
    · show checkL _ _ _ _ = 0
      by_cases hc : checkL (rd b 0) (getS (b.drop 1)).1 (textV b1).1 ⟨#[]⟩ = 0
      · exact hc
      · exact absurd (Or.inr hc) c5
    · show recB _ _ _ _ = b
      have he : b2 = [] := List.eq_nil_of_length_eq_zero (by
        by_cases hz : b2.length = 0
        · exact hz
        · exact absurd (Or.inl (by omega)) c5)
      rw [he, List.append_nil] at t1
      unfold recB
      rw [if_neg hk]
      conv => rhs; rw [hb0, g1, t1]
      simp
theorem one_parse {b : List Int} (hby : Bys b) : oneL b = parseR b := by
  cases h : parseR b with
  | some r =>
    obtain ⟨h1, h2⟩ := parse_some h
    rw [← h2]
    exact one_rec h1
  | none =>
    cases h2 : oneL b with
    | none => rfl
    | some r =>
      obtain ⟨h3, h4⟩ := one_sound hby h2
      have := parse_rec h3
      rw [h4, h] at this
      exact absurd this (by simp)
end Go.Proofs.Ytfojeegepfjbiaa.RdG
