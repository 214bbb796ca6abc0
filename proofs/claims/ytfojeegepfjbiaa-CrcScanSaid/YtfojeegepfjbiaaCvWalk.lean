/- CrcCut: what is sealed and cut anywhere is cut off, and what stands ahead is told: it answers true. No condition. -/
import Derived.Test.YtfojeegepfjbiaaProg
import Derived.Below
import Derived.Deep.Draws
import Derived.Deep.AppendLies
import Derived.Maps.AppendAt
import Derived.OwnWalk
import Derived.Laws.BytesArg
import Derived.Laws.MakeOwn
import Derived.Laws.OwnMore
import Derived.Deep.OwnRows
import Derived.Tactics
import Derived.Lib.ConvBytes
import Derived.Laws.Slices
import Derived.WalkKit
import Derived.KernelRfl
import Derived.RowKit3
import Derived.Deep.LoopGhost
import Derived.Deep.QuietTactic
import Derived.BigQuiet
import Derived.WideLaws
import Derived.Deep.DeepCutAuto
import Derived.Deep.CutBlock
import Derived.Deep.RegionHeld3
import Derived.Laws.Rows
import Derived.Lib.AppendStr
import Derived.ArgAppend
import Derived.Laws.IdiomCopy
import Derived.OrdersHeld
import Derived.Laws.BitsLemmas
import Derived.RowKit
import Derived.Deep.RegionWith
import Derived.WalkSpells
import Derived.Outline
import Derived.Test.YtfojeegepfjbiaaWWords
import Derived.Test.YtfojeegepfjbiaaWLast
import Derived.Test.YtfojeegepfjbiaaWMore
import Derived.Test.YtfojeegepfjbiaaWArr
import Derived.Test.YtfojeegepfjbiaaWTab
import Derived.Test.YtfojeegepfjbiaaWZeros
import Derived.Test.YtfojeegepfjbiaaWRepsOne
import Derived.Test.YtfojeegepfjbiaaCrI
namespace Go.Proofs.Ytfojeegepfjbiaa.CvWalk
open Go.RowKit Go.Proofs.YtfojeegepfjbiaaW.PrintWords Go.Proofs.YtfojeegepfjbiaaW.PrintLast Go.Proofs.YtfojeegepfjbiaaW.PrintMore Go.Proofs.Ytfojeegepfjbiaa.Nm Go.Proofs.Ytfojeegepfjbiaa.NmA Go.Proofs.Ytfojeegepfjbiaa.NmB Go.Proofs.Ytfojeegepfjbiaa.NmC Go.Proofs.Ytfojeegepfjbiaa.NmH Go.Proofs.Ytfojeegepfjbiaa.CrP Go.Proofs.Ytfojeegepfjbiaa.CrA Go.Proofs.Ytfojeegepfjbiaa.CrB Go.Proofs.Ytfojeegepfjbiaa.CrC Go.Proofs.Ytfojeegepfjbiaa.CrD Go.Proofs.Ytfojeegepfjbiaa.CrE Go.Proofs.Ytfojeegepfjbiaa.CrF Go.Proofs.Ytfojeegepfjbiaa.CrG Go.Proofs.Ytfojeegepfjbiaa.CrH Go.Proofs.Ytfojeegepfjbiaa.CrI Go.Proofs.Ytfojeegepfjbiaa.Mix
set_option linter.unusedSimpArgs false
set_option linter.unusedVariables false
attribute [local go_sem] max2_int min2_int max_two min_two

theorem first_cut {t : List Int} (hl : t.length < 4294967296) {m : Nat} (hm : m < 12 + t.length) : firstL ((sealL t).take m) = ([], 0, true) := by
  have hlen : ((sealL t).take m).length = m := by rw [List.length_take, sealL_len]; omega
  by_cases h12 : m < 12
  · unfold firstL
    rw [if_pos (by omega)]
  · have h4 : ∀ n : Int, (fourL n).length = 4 := fun _ => rfl
    have e : (sealL t).take m = fourL (t.length : Int) ++ (fourL (crc (fourL (t.length : Int)) : Int) ++ (fourL (crc t : Int) ++ t.take (m - 12))) := by
      show ((fourL (t.length : Int) ++ fourL (crc (fourL (t.length : Int)) : Int) ++ fourL (crc t : Int)) ++ t).take m = _
      rw [List.take_append, List.take_of_length_le (by simp [fourL]; omega)]
      simp [fourL]
    have hf : fourV ((sealL t).take m) = (t.length : Int) := by rw [e]; exact fourV_fourL (by omega) (by omega) _
    have d4 : ((sealL t).take m).drop 4 = fourL (crc (fourL (t.length : Int)) : Int) ++ (fourL (crc t : Int) ++ t.take (m - 12)) := by rw [e]; exact List.drop_left' (h4 _)
    have t4 : ((sealL t).take m).take 4 = fourL (t.length : Int) := by rw [e]; exact List.take_left' (h4 _)
    have hcf := crc_lt (bys_fourL (t.length : Int))
    unfold firstL
    rw [if_neg (by omega), d4, t4, if_neg (by rw [fourV_fourL (by omega) (by omega)]; simp), hf, hlen, if_pos (by omega)]
theorem cut_law {ts : List (List Int)} (hok : Okt ts) {m k : Nat} (hk : k ≤ ts.length) (h1 : (sealsL (ts.take k)).length ≤ m) (h2 : k = ts.length ∨ m < (sealsL (ts.take (k + 1))).length) (h3 : m ≤ (sealsL ts).length) :
    scanL ((sealsL ts).take m) = (ts.take k, (sealsL (ts.take k)).length, true) := by
  rcases Nat.lt_or_ge k ts.length with hlt | hge
  · have h2' : m < (sealsL (ts.take (k + 1))).length := by rcases h2 with h | h; omega; exact h
    have hsp : ts = ts.take k ++ ts.getD k [] :: ts.drop (k + 1) := by
      rw [List.getD_eq_getElem?_getD, List.getElem?_eq_getElem hlt]
      simp
    have hts := take_snoc hlt
    have hokt := hok _ (getD_mem hlt)
    have hokk : Okt (ts.take k) := fun x hx => hok x (List.mem_of_mem_take hx)
    generalize ts.getD k [] = t at *
    rw [hts, sealsL_append, List.length_append, sealsL_cons, List.length_append, sealL_len] at h2'
    have h0 : (sealsL ([] : List (List Int))).length = 0 := rfl
    have e : (sealsL ts).take m = sealsL (ts.take k) ++ (sealL t).take (m - (sealsL (ts.take k)).length) := by
      conv => lhs; rw [hsp]
      rw [sealsL_append, sealsL_cons, List.take_append, List.take_of_length_le h1, List.take_append]
      rw [show m - (sealsL (ts.take k)).length - (sealL t).length = 0 by rw [sealL_len]; omega, List.take_zero, List.append_nil]
    have hf := first_cut (t := t) hokt.2 (m := m - (sealsL (ts.take k)).length) (by omega)
    rw [e, scan_end hokk (by rw [hf]), hf]
  · have hke : k = ts.length := by omega
    subst hke
    rw [List.take_of_length_le (Nat.le_refl ts.length)] at h1 ⊢
    rw [List.take_of_length_le h1, scan_all hok]
theorem okt_take {ps : List (List Int)} (h : ∀ p ∈ ps, Bys p) (n : Nat) : Okt ((ps.take n).map (List.take 60)) := by
  intro t ht
  obtain ⟨p, hp, rfl⟩ := List.mem_map.1 ht
  exact ⟨bys_take (h p (List.mem_of_mem_take hp)) 60, by rw [List.length_take]; omega⟩
theorem seals_snoc {ts : List (List Int)} {k : Nat} (h : k < ts.length) : (sealsL (ts.take (k + 1))).length = (sealsL (ts.take k)).length + (12 + (ts.getD k []).length) := by
  rw [take_snoc h, sealsL_append, List.length_append, sealsL_cons, List.length_append, sealL_len]
  rfl
theorem bys_ps {ps : List (List Int)} (h : ∀ p ∈ ps, ∀ x ∈ p, (Lit.int .u8 x).wf = true) : ∀ p ∈ ps, Bys p := fun p hp => bys_wf (h p hp)
set_option maxRecDepth 100000 in
set_option maxHeartbeats 1000000 in
theorem walk (A : Option Addr) (c : Nat) (ps : List (List Int)) (a1 : Int) (w : World) (hr : (Kd.slice 5 (Kd.int .u8)).C w A ps.length ps) (hc : ps.length ≤ c)
    (hg : ps.length ≤ maxLen ∧ ∀ p ∈ ps, p.length ≤ maxLen ∧ ∀ x ∈ p, (Lit.int .u8 x).wf = true) (w1 : (Lit.int .i64 a1).wf = true) :
    Calls Try.prog 6 #[.slice A ps.length c, .int .i64 a1] w fun e w' => e = .returned (.bool true) ∧ Below w.heap.size w w' := by
  have hby := bys_ps (fun p hp => (hg.2 p hp).2)
  have hpl : ps.length ≤ 9223372036854775807 := by have := hg.1; unfold maxLen at this; omega
  clear hg w1
  have HL := Aside0.mk (fun w h => laid_calls A c ps hby 6 (by omega) w h hpl)
  have hbb := bys_laidL (ps := ps.take 6) (fun p hp => hby p (List.mem_of_mem_take hp))
  have hbl := laidL_len (ps.take 6)
  rw [List.length_take] at hbl
  have hok := okt_take hby 6
  have hls := laidL_seals (ps.take 6)
  have htl : ((ps.take 6).map (List.take 60)).length = min 6 ps.length := by rw [List.length_map, List.length_take]
  have htg : ∀ k, k < ps.length → k < 6 → ((ps.take 6).map (List.take 60)).getD k [] = (ps.getD k []).take 60 := by
    intro k h1 h2
    rw [List.getD_eq_getElem?_getD, List.getD_eq_getElem?_getD, List.getElem?_map, List.getElem?_take_of_lt h2, List.getElem?_eq_getElem h1]
    rfl
  generalize (ps.take 6).map (List.take 60) = ts at *
  generalize laidL (ps.take 6) = b at *
  have HR := Aside0.mk hr
  have HBY := Aside0.mk hby
  have HT := Aside0.mk (And.intro htl htg)
  have HOK := Aside0.mk (And.intro hls hok)
  have HBB := Aside0.mk hbb
  have HBL : Aside0 (b.length ≤ 432) := ⟨by omega⟩
  clear hr hby htl htg hls hok hbb hbl
  go_enter Try.func6, Try.ntmps6
  go_wp2_with fail
  refine (begun_calls w).mono ?_
  rintro e_ w1 ⟨rfl, hb⟩
  have HB1 := Aside0.mk hb
  clear hb
  go_wp2_with fail
  refine (HL.out w1 (Kd.C_below HR.out HB1.out)).mono ?_
  rintro e_ w2 ⟨v2, rfl, ho, hb⟩
  obtain ⟨Ab, cb, rfl⟩ := Kd.R_slice ho
  have HV2 := Aside0.mk (Kd.R_reads' ho)
  have HB2 := Aside0.mk (below_step HB1.out hb)
  clear ho hb HB1
  by_cases h1 : a1 < 0
  · go_wp2
    go_ret
    exact ⟨by simp, HB2.out⟩
  by_cases h2 : (b.length : Int) < a1
  · go_wp2
    go_ret
    exact ⟨by simp, HB2.out⟩
  obtain ⟨m, rfl⟩ := Int.eq_ofNat_of_zero_le (by omega : 0 ≤ a1)
  have hml : m ≤ b.length := by omega
  have hcut := to_of Ab cb b m hml HV2.out.2.1
  have hbt := bys_take HBB.out m
  have HSC := Aside0.mk (fun w h => scan_calls Ab cb (b.take m) hbt w h (by rw [List.length_take]; have := HV2.out.2.1; omega) (by rw [List.length_take]; have := HBL.out; omega))
  have HCT := Aside0.mk (C_take m HV2.out.2.2)
  have HLAW : Aside0 (∀ k, k ≤ ts.length → (sealsL (ts.take k)).length ≤ m → (k = ts.length ∨ m < (sealsL (ts.take (k + 1))).length) → scanL (b.take m) = (ts.take k, (sealsL (ts.take k)).length, true)) := ⟨by
    intro k a1 a2 a3
    rw [HOK.out.1]
    exact cut_law HOK.out.2 a1 a2 a3 (by rw [← HOK.out.1]; exact hml)⟩
  obtain ⟨E, hE⟩ : ∃ E, scanL (b.take m) = E := ⟨_, rfl⟩
  rw [hE] at HSC HLAW
  clear hE hbt
  generalize b.take m = bm at *
  go_wp2_with fail
  refine (HSC.out w2 HCT.out).mono ?_
  rintro e_ w3 ⟨v3, rfl, ho, hb⟩
  obtain ⟨A3, c3, rfl⟩ := Kd.R_slice ho
  have HB3 := Aside0.mk (below_step HB2.out hb)
  clear ho hb HB2
  go_wp2_with fail
  go_loopg [10, 11] 7 (fun q v10 v11 w' => ∃ k : Nat, v10 = .int .i64 (k : Int) ∧ v11 = .int .i64 ((sealsL (ts.take k)).length : Int) ∧ Aside0 (k + q = 7 ∧ k ≤ ts.length ∧ (sealsL (ts.take k)).length ≤ m) ∧ Aside0 (w3 = w'))
  case atStart => exact ⟨0, rfl, rfl, ⟨by omega, by omega, Nat.zero_le _⟩, ⟨rfl⟩⟩
  case round =>
    obtain ⟨k, rfl, rfl, HK, HW⟩ := hrel
    have hw := HW.out
    subst hw
    clear HW
    have htl := HT.out.1
    have hk := HK.out
    by_cases hlt : k < ts.length
    · obtain ⟨f, rfl⟩ : ∃ f, gk = f + 1 := ⟨gk - 1, by omega⟩
      have k0 : ((k : Int) < (ps.length : Int)) = True := eq_true (by omega)
      have k1 : ((k : Int) < 6) = True := eq_true (by omega)
      obtain ⟨ad, A1, c1, e1, hcell, hc1, hC1⟩ := row_at (Kd.C_below HR.out HB3.out) k (by omega)
      subst e1
      have hge := HT.out.2 k (by omega) (by omega)
      have hsn := seals_snoc hlt
      rw [hge] at hsn
      generalize ps.getD k [] = p at *
      have HSH := Aside0.mk (fun w => short_calls A1 c1 p 60 hc1 w)
      have hp60 : (p.take 60).length ≤ 60 := by rw [List.length_take]; omega
      generalize p.take 60 = t at *
      have hsl : (sealsL (ts.take k)).length ≤ 432 := by have := HBL.out; omega
      have HSN := Aside0.mk hsn
      obtain ⟨sk, hsk⟩ : ∃ sk, (sealsL (ts.take k)).length = sk := ⟨_, rfl⟩
      rw [hsk] at hk hsn hsl ⊢
      have kt : IntKind.i64.wrap (12 + (t.length : Int)) = ((12 + t.length : Nat) : Int) := by rw [IntKind.wrap_i64]; omega
      have ks : IntKind.i64.wrap ((sk : Int) + ((12 + t.length : Nat) : Int)) = ((sk + (12 + t.length) : Nat) : Int) := by rw [IntKind.wrap_i64]; omega
      have kw : IntKind.i64.wrap ((k : Int) + 1) = ((k + 1 : Nat) : Int) := by rw [IntKind.wrap_i64]; omega
      obtain ⟨tn, htn⟩ : ∃ tn, 12 + t.length = tn := ⟨_, rfl⟩
      rw [htn] at kt ks hsn
      obtain ⟨sn, hsn2⟩ : ∃ sn, sk + tn = sn := ⟨_, rfl⟩
      rw [hsn2] at ks hsn
      have HS2 := Aside0.mk hsn
      have HSK := Aside0.mk hsk
      clear hsn hsk htn hsn2 hge hC1 htl
      go_wp2_with fail
      refine (HSH.out w3).mono ?_
      rintro e_ w4 ⟨rfl, rfl⟩
      by_cases hgt : m < sn
      · have HE := Aside0.mk (HLAW.out k (by omega) (by rw [HSK.out]; omega) (.inr (by rw [HS2.out]; exact hgt)))
        have hE := HE.out
        subst hE
        have hkl : (ts.take k).length = k := by rw [List.length_take]; omega
        have b1 : (((ts.take k).length : Int) == (k : Int)) = true := by rw [hkl]; exact beq_self_eq_true _
        have b2 : ((sealsL (ts.take k)).length : Int) ≤ (m : Int) := by have := HK.out; omega
        clear hkl
        go_wp2
        go_ret
        exact ⟨by simp, HB3.out⟩
      · go_wp2_with fail
        go_roundg f
        case measure => omega
        case rel => exact ⟨k + 1, by simp, by rw [HS2.out], ⟨by have := HK.out; omega, by omega, by rw [HS2.out]; omega⟩, ⟨rfl⟩⟩
    · have hkk : k = ts.length := by omega
      have hE := HLAW.out k (by omega) (by omega) (.inl hkk)
      have hmk : min k ts.length = k := by omega
      subst hE
      have hkl : (ts.take k).length = k := by rw [List.length_take]; omega
      have b1 : (((ts.take k).length : Int) == (k : Int)) = true := by rw [hkl]; exact beq_self_eq_true _
      have b2 : ((sealsL (ts.take k)).length : Int) ≤ (m : Int) := by have := HK.out; omega
      by_cases hp : k < ps.length
      · have k0 : ((k : Int) < (ps.length : Int)) = True := eq_true (by omega)
        have k1 : ((k : Int) < 6) = False := eq_false (by omega)
        clear hkl hkk htl hk hlt
        go_wp2
        go_ret
        exact ⟨by simp, HB3.out⟩
      · have k0 : ((k : Int) < (ps.length : Int)) = False := eq_false (by omega)
        clear hkl hkk htl hk hlt
        go_wp2
        go_ret
        exact ⟨by simp, HB3.out⟩
end Go.Proofs.Ytfojeegepfjbiaa.CvWalk
