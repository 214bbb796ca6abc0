/- What a record is read from: plain law. -/
import Derived.Test.YtfojeegepfjbiaaProg
import Derived.Below
import Derived.Deep.Draws
import Derived.Deep.AppendLies
import Derived.Maps.AppendAt
import Derived.OwnWalk
import Derived.Laws.BytesArg
import Derived.Laws.MakeOwn
import Derived.Laws.OwnMore
import Derived.Deep.OwnRows
import Derived.Tactics
import Derived.Lib.ConvBytes
import Derived.Laws.Slices
import Derived.WalkKit
import Derived.KernelRfl
import Derived.RowKit3
import Derived.Deep.LoopGhost
import Derived.Deep.QuietTactic
import Derived.BigQuiet
import Derived.WideLaws
import Derived.Deep.DeepCutAuto
import Derived.Deep.CutBlock
import Derived.Deep.RegionHeld3
import Derived.Laws.Rows
import Derived.Lib.AppendStr
import Derived.ArgAppend
import Derived.Laws.IdiomCopy
import Derived.OrdersHeld
import Derived.Laws.BitsLemmas
import Derived.RowKit
import Derived.WalkSpells
import Derived.Outline
import Derived.Test.YtfojeegepfjbiaaWWords
import Derived.Test.YtfojeegepfjbiaaWLast
import Derived.Test.YtfojeegepfjbiaaWMore
import Derived.Test.YtfojeegepfjbiaaWArr
import Derived.Test.YtfojeegepfjbiaaWTab
import Derived.Test.YtfojeegepfjbiaaWZeros
import Derived.Test.YtfojeegepfjbiaaWRepsOne
import Derived.Test.YtfojeegepfjbiaaRdD
namespace Go.Proofs.Ytfojeegepfjbiaa.RdE
open Go.RowKit Go.Proofs.YtfojeegepfjbiaaW.PrintWords Go.Proofs.YtfojeegepfjbiaaW.PrintLast Go.Proofs.YtfojeegepfjbiaaW.PrintMore Go.Proofs.Ytfojeegepfjbiaa.Nm Go.Proofs.Ytfojeegepfjbiaa.NmA Go.Proofs.Ytfojeegepfjbiaa.NmB Go.Proofs.Ytfojeegepfjbiaa.NmC Go.Proofs.Ytfojeegepfjbiaa.NmD Go.Proofs.Ytfojeegepfjbiaa.NmE Go.Proofs.Ytfojeegepfjbiaa.NmI Go.Proofs.Ytfojeegepfjbiaa.CrP Go.Proofs.Ytfojeegepfjbiaa.CrA Go.Proofs.Ytfojeegepfjbiaa.CrB Go.Proofs.Ytfojeegepfjbiaa.CrC Go.Proofs.Ytfojeegepfjbiaa.CrG Go.Proofs.Ytfojeegepfjbiaa.CrH Go.Proofs.Ytfojeegepfjbiaa.Mix Go.Proofs.Ytfojeegepfjbiaa.RdA Go.Proofs.Ytfojeegepfjbiaa.RdB Go.Proofs.Ytfojeegepfjbiaa.RdC Go.Proofs.Ytfojeegepfjbiaa.RdD
set_option linter.unusedSimpArgs false
set_option linter.unusedVariables false
attribute [local go_sem] max2_int min2_int max_two min_two

theorem enc_val : ∀ (a : List Int) (x : Int), (∀ c ∈ a, 127 < c ∧ c < 256) → 0 ≤ x → x < 128 → (0 < a.length → x ≠ 0) → enc (val (a ++ [x])).toNat = a ++ [x] := by
  intro a
  induction a with
  | nil =>
    intro x _ h0 h1 _
    have e : val ([] ++ [x]) = x := by simp only [List.nil_append, val]; omega
    rw [e, enc_small (by omega), Int.toNat_of_nonneg h0]
    rfl
  | cons c a ih =>
    intro x ha h0 h1 hx
    have hx0 : x ≠ 0 := hx (by simp)
    have hc := ha c (by simp)
    have hi := ih x (fun y hy => ha y (by simp [hy])) h0 h1 (fun _ => hx0)
    have e : val ((c :: a) ++ [x]) = c % 128 + 128 * val (a ++ [x]) := rfl
    have hv : 1 ≤ val (a ++ [x]) := by
      have hb := val_bd a
      have hp : (1 : Int) ≤ 128 ^ a.length := by exact_mod_cast Nat.one_le_pow _ _ (by decide)
      rw [val_append]
      have : val [x] = x := by simp only [val]; omega
      rw [this]
      have : (128 : Int) ^ a.length * 1 ≤ 128 ^ a.length * x := Int.mul_le_mul_of_nonneg_left (by omega) (by omega)
      omega
    generalize val (a ++ [x]) = m at *
    rw [e, enc_large (by omega), show (c % 128 + 128 * m).toNat / 128 = m.toNat by omega, hi, List.cons_append]
    congr 1
    omega
theorem getS_back {l : List Int} (hby : Bys l) (hk : (getS l).2 ≠ 0) : l = enc (getS l).1.toNat ++ l.drop (getS l).2.toNat ∧ (getS l).2.toNat = (enc (getS l).1.toNat).length := by
  by_cases h : stop l < 10 ∧ stop l < l.length
  · by_cases h2 : (0 < stop l ∧ rd l (stop l) = 0) ∨ (stop l = 9 ∧ rd l (stop l) > 1)
    · have : getS l = (0, 0) := by unfold getS; rw [if_pos h, if_pos h2]
      rw [this] at hk
      exact absurd rfl hk
    · have e : getS l = (val (l.take (stop l + 1)), (stop l : Int) + 1) := by unfold getS; rw [if_pos h, if_neg h2]
      obtain ⟨e1, e2, e3⟩ := split_at (l := l) (m := l.length) (i := stop l) (by omega) (by omega)
      rw [List.take_length] at e2 e3
      have hx := stop_get l h.2
      have hb := rd_bys hby h.2
      have ha : ∀ c ∈ l.take (stop l), 127 < c ∧ c < 256 := by
        intro c hc
        refine ⟨?_, (hby c (List.mem_of_mem_take hc)).2⟩
        clear e e1 e2 e3 h h2 hk hx hb hby
        induction l with
        | nil => simp at hc
        | cons d t ih =>
          simp only [stop] at hc
          split at hc
          · rename_i hd
            rw [List.take_succ_cons, List.mem_cons] at hc
            rcases hc with rfl | hc
            · exact hd
            · exact ih hc
          · simp at hc
      have hv := enc_val (l.take (stop l)) (rd l (stop l)) ha hb.1 (by omega) (fun hp he => h2 (Or.inl ⟨by rw [List.length_take] at hp; omega, he⟩))
      rw [← e3] at hv
      rw [e]
      simp only []
      rw [hv, show ((stop l : Int) + 1).toNat = stop l + 1 by omega, List.take_append_drop, List.length_take]
      exact ⟨rfl, by omega⟩
  · rw [getS_short h] at hk
    exact absurd rfl hk
theorem bytesOf_strOf {l : List Int} (h : Bys l) : bytesOf (strOfNums l) = l := by
  unfold strOfNums bytesOf
  rw [List.map_map]
  induction l with
  | nil => rfl
  | cons c l ih =>
    have hc := h c (by simp)
    rw [List.map_cons, ih (fun x hx => h x (by simp [hx]))]
    congr 1
    simp only [Function.comp, UInt8.toNat_ofNat']
    omega
theorem textV_back {l : List Int} (hby : Bys l) (hk : (textV l).2 ≠ 0) : l = (enc (textV l).1.size ++ bytesOf (textV l).1) ++ l.drop (textV l).2.toNat ∧ (textV l).2.toNat = (enc (textV l).1.size ++ bytesOf (textV l).1).length := by
  have hbd := getS_bd hby
  by_cases h : (getS l).2 = 0 ∨ (getS l).1 > (l.length : Int) - (getS l).2
  · unfold textV at hk
    rw [if_pos h] at hk
    exact absurd rfl hk
  · have e : textV l = (strOfNums ((l.take ((getS l).2 + (getS l).1).toNat).drop (getS l).2.toNat), (getS l).2 + (getS l).1) := by unfold textV; rw [if_neg h]
    obtain ⟨g1, g2⟩ := getS_back hby (fun e => h (Or.inl e))
    obtain ⟨n, hn⟩ : ∃ n : Nat, (getS l).1 = n := ⟨(getS l).1.toNat, by omega⟩
    obtain ⟨k, hk2⟩ : ∃ n : Nat, (getS l).2 = n := ⟨(getS l).2.toNat, by omega⟩
    rw [hn, hk2] at e
    rw [hn, hk2] at g1 g2
    rw [hn, hk2] at h
    rw [Int.toNat_natCast, Int.toNat_natCast] at g1 g2
    rw [show ((k : Int) + (n : Int)).toNat = k + n by omega, Int.toNat_natCast] at e
    have hl2 : ((l.take (k + n)).drop k).length = n := by rw [List.length_drop, List.length_take]; omega
    have hb2 : bytesOf (strOfNums ((l.take (k + n)).drop k)) = (l.take (k + n)).drop k := bytesOf_strOf (bys_drop (bys_take hby _) _)
    have hs2 : (strOfNums ((l.take (k + n)).drop k)).size = n := by rw [← bytesOf_length, hb2, hl2]
    rw [e]
    simp only []
    rw [hs2, hb2, show ((k : Int) + (n : Int)).toNat = k + n by omega, List.append_assoc]
    refine ⟨?_, by rw [List.length_append, hl2, ← g2]⟩
    have e2 : (l.take (k + n)).drop k ++ l.drop (k + n) = l.drop k := by
      rw [List.drop_take, show k + n - k = n by omega, ← List.drop_drop, List.take_append_drop]
    rw [e2]
    exact g1
theorem step_app (a t : List Int) (ha : 0 < a.length) : stepR (a ++ t) false a.length = (t, false) := by
  unfold stepR
  rw [if_neg (by simp; intro e; rw [e] at ha; simp at ha), List.drop_left]
theorem num_enc {n : Nat} (hn : n < 18446744073709551616) {most : Int} (hm : (n : Int) ≤ most) (t : List Int) : numV (enc n ++ t) false most = n ∧ stepR (enc n ++ t) false (numK (enc n ++ t) most) = (t, false) := by
  have hg := getS_enc hn t
  have hk : numK (enc n ++ t) most = (enc n).length := by unfold numK; rw [hg]; simp only []; rw [if_neg (by omega), Int.toNat_natCast]
  have hs := step_app (enc n) t (enc_pos n)
  rw [hk]
  refine ⟨?_, hs⟩
  unfold numV
  rw [hk, hs, hg]
  rfl
theorem txt_enc {s : ByteArray} (hs : s.size ≤ 140737488351232) (t : List Int) : txtV ((enc s.size ++ bytesOf s) ++ t) false = s ∧ stepR ((enc s.size ++ bytesOf s) ++ t) false (textV ((enc s.size ++ bytesOf s) ++ t)).2.toNat = (t, false) := by
  have hg := textV_text hs t
  have hp := enc_pos s.size
  have h2 := step_app (enc s.size ++ bytesOf s) t (by rw [List.length_append]; omega)
  have hk : (textV ((enc s.size ++ bytesOf s) ++ t)).2.toNat = (enc s.size ++ bytesOf s).length := by rw [hg]; exact Int.toNat_natCast _
  rw [hk]
  refine ⟨?_, h2⟩
  unfold txtV
  rw [hk, h2, hg]
  rfl
theorem dec_rec {k s : Int} {key v : ByteArray} (h : checkL k s key v = 0) : decB (recB k s key v) = ((k, s, key, v), true) := by
  have hok := check_ok h
  obtain ⟨sn, rfl⟩ := Int.eq_ofNat_of_zero_le (show 0 ≤ s by omega)
  rcases hok.2.2.2.1 with rfl | ⟨rfl, hv0⟩
  · have hr : recB 1 (sn : Int) key v = enc 1 ++ (enc sn ++ ((enc key.size ++ bytesOf key) ++ ((enc v.size ++ bytesOf v) ++ []))) := by
      unfold recB
      rw [if_pos rfl, enc_small (n := 1) (by decide), Int.toNat_natCast]
      simp
    obtain ⟨a1, a2⟩ := num_enc (n := 1) (by decide) (most := 1) (by decide) (enc sn ++ ((enc key.size ++ bytesOf key) ++ ((enc v.size ++ bytesOf v) ++ [])))
    obtain ⟨b1, b2⟩ := num_enc (n := sn) (by omega) (most := 1125899906842624) (by omega) ((enc key.size ++ bytesOf key) ++ ((enc v.size ++ bytesOf v) ++ []))
    obtain ⟨c1, c2⟩ := txt_enc (s := key) (by omega) ((enc v.size ++ bytesOf v) ++ [])
    obtain ⟨d1, d2⟩ := txt_enc (s := v) (by omega) []
    have hd : decB (recB 1 (sn : Int) key v) = ((1, (sn : Int), key, v), (!false && decide (([] : List Int).length = 0)) && (decide (checkL 1 sn key v = 0) && decide (sealL (recB 1 sn key v) = sealL (recB 1 (sn : Int) key v)))) := by
      rw [show decB (recB 1 (sn : Int) key v) = decB (enc 1 ++ (enc sn ++ ((enc key.size ++ bytesOf key) ++ ((enc v.size ++ bytesOf v) ++ [])))) by rw [hr]]
      rw [show ((1 : Nat) : Int) = 1 from rfl] at a1
      unfold decB
      simp only [a1, a2, b1, b2, c1, c2, d1, d2, if_true]
      rw [← hr]
      simp
    rw [hd, h]
    simp
  · have hvn : v = ⟨#[]⟩ := by
      rcases v with ⟨d⟩
      have : d.size = 0 := hv0
      congr 1
      exact Array.size_eq_zero_iff.1 this
    subst hvn
    have hr : recB 0 (sn : Int) key ⟨#[]⟩ = enc 0 ++ (enc sn ++ ((enc key.size ++ bytesOf key) ++ [])) := by
      unfold recB
      rw [if_neg (by decide), enc_small (n := 0) (by decide), Int.toNat_natCast]
      simp
    obtain ⟨a1, a2⟩ := num_enc (n := 0) (by decide) (most := 1) (by decide) (enc sn ++ ((enc key.size ++ bytesOf key) ++ []))
    obtain ⟨b1, b2⟩ := num_enc (n := sn) (by omega) (most := 1125899906842624) (by omega) ((enc key.size ++ bytesOf key) ++ [])
    obtain ⟨c1, c2⟩ := txt_enc (s := key) (by omega) []
    have hd : decB (recB 0 (sn : Int) key ⟨#[]⟩) = ((0, (sn : Int), key, ⟨#[]⟩), (!false && decide (([] : List Int).length = 0)) && (decide (checkL 0 sn key ⟨#[]⟩ = 0) && decide (sealL (recB 0 sn key ⟨#[]⟩) = sealL (recB 0 (sn : Int) key ⟨#[]⟩)))) := by
      rw [show decB (recB 0 (sn : Int) key ⟨#[]⟩) = decB (enc 0 ++ (enc sn ++ ((enc key.size ++ bytesOf key) ++ []))) by rw [hr]]
      rw [show ((0 : Nat) : Int) = 0 from rfl] at a1
      unfold decB
      simp only [a1, a2, b1, b2, c1, c2, show ((0 : Int) = 1) = False from eq_false (by decide), if_false]
      rw [← hr]
      simp
    rw [hd, h]
    simp
theorem seal_inj {a b : List Int} (h : sealL a = sealL b) : a = b := by
  have hl := congrArg List.length h
  rw [sealL_len, sealL_len] at hl
  unfold sealL at h
  exact (List.append_inj' h (by omega)).2
/-- A record, and whether it is one. -/
def parseR (b : List Int) : Option (Int × Int × ByteArray × ByteArray) := if (decB b).2 = true then some (decB b).1 else none
def recT (r : Int × Int × ByteArray × ByteArray) : List Int := recB r.1 r.2.1 r.2.2.1 r.2.2.2
def chkT (r : Int × Int × ByteArray × ByteArray) : Int := checkL r.1 r.2.1 r.2.2.1 r.2.2.2
theorem dec_sound {b : List Int} (h : (decB b).2 = true) : chkT (decB b).1 = 0 ∧ recT (decB b).1 = b := by
  unfold decB at h
  simp only [Bool.and_eq_true, decide_eq_true_eq] at h
  exact ⟨h.2.1, seal_inj h.2.2⟩
theorem parse_rec {r : Int × Int × ByteArray × ByteArray} (h : chkT r = 0) : parseR (recT r) = some r := by
  unfold parseR recT
  rw [dec_rec h]
  rfl
theorem parse_some {b : List Int} {r : Int × Int × ByteArray × ByteArray} (h : parseR b = some r) : chkT r = 0 ∧ recT r = b := by
  unfold parseR at h
  split at h
  · rename_i h2
    obtain rfl : (decB b).1 = r := by injection h
    exact dec_sound h2
  · exact absurd h (by simp)
end Go.Proofs.Ytfojeegepfjbiaa.RdE
