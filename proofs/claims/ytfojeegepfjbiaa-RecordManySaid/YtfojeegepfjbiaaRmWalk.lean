/- RecordMany: records one behind the other are all told; cut anywhere, those that are whole: it answers true. No condition. -/
import Derived.Test.YtfojeegepfjbiaaProg
import Derived.Below
import Derived.Deep.Draws
import Derived.Deep.AppendLies
import Derived.Maps.AppendAt
import Derived.OwnWalk
import Derived.Laws.BytesArg
import Derived.Laws.MakeOwn
import Derived.Laws.OwnMore
import Derived.Deep.OwnRows
import Derived.Tactics
import Derived.Lib.ConvBytes
import Derived.Laws.Slices
import Derived.WalkKit
import Derived.KernelRfl
import Derived.RowKit3
import Derived.Deep.LoopGhost
import Derived.Deep.QuietTactic
import Derived.BigQuiet
import Derived.WideLaws
import Derived.Deep.DeepCutAuto
import Derived.Deep.CutBlock
import Derived.Deep.RegionHeld3
import Derived.Laws.Rows
import Derived.Lib.AppendStr
import Derived.ArgAppend
import Derived.Laws.IdiomCopy
import Derived.OrdersHeld
import Derived.Laws.BitsLemmas
import Derived.RowKit
import Derived.Deep.RegionWith
import Derived.Deep.DeepCutAuto
import Derived.WalkSpells
import Derived.Outline
import Derived.Test.YtfojeegepfjbiaaWWords
import Derived.Test.YtfojeegepfjbiaaWLast
import Derived.Test.YtfojeegepfjbiaaWMore
import Derived.Test.YtfojeegepfjbiaaWArr
import Derived.Test.YtfojeegepfjbiaaWTab
import Derived.Test.YtfojeegepfjbiaaWZeros
import Derived.Test.YtfojeegepfjbiaaWRepsOne
import Derived.Test.YtfojeegepfjbiaaRdN
namespace Go.Proofs.Ytfojeegepfjbiaa.RmWalk
open Go.RowKit Go.Proofs.YtfojeegepfjbiaaW.PrintWords Go.Proofs.YtfojeegepfjbiaaW.PrintLast Go.Proofs.YtfojeegepfjbiaaW.PrintMore Go.Proofs.Ytfojeegepfjbiaa.Nm Go.Proofs.Ytfojeegepfjbiaa.NmA Go.Proofs.Ytfojeegepfjbiaa.NmB Go.Proofs.Ytfojeegepfjbiaa.NmC Go.Proofs.Ytfojeegepfjbiaa.NmD Go.Proofs.Ytfojeegepfjbiaa.NmE Go.Proofs.Ytfojeegepfjbiaa.NmH Go.Proofs.Ytfojeegepfjbiaa.NmI Go.Proofs.Ytfojeegepfjbiaa.CrP Go.Proofs.Ytfojeegepfjbiaa.CrA Go.Proofs.Ytfojeegepfjbiaa.CrB Go.Proofs.Ytfojeegepfjbiaa.CrC Go.Proofs.Ytfojeegepfjbiaa.CrD Go.Proofs.Ytfojeegepfjbiaa.CrE Go.Proofs.Ytfojeegepfjbiaa.CrG Go.Proofs.Ytfojeegepfjbiaa.CrH Go.Proofs.Ytfojeegepfjbiaa.CrI Go.Proofs.Ytfojeegepfjbiaa.CrJ Go.Proofs.Ytfojeegepfjbiaa.Mix Go.Proofs.Ytfojeegepfjbiaa.RdA Go.Proofs.Ytfojeegepfjbiaa.RdB Go.Proofs.Ytfojeegepfjbiaa.RdC Go.Proofs.Ytfojeegepfjbiaa.RdD Go.Proofs.Ytfojeegepfjbiaa.RdE Go.Proofs.Ytfojeegepfjbiaa.RdF Go.Proofs.Ytfojeegepfjbiaa.RdI Go.Proofs.Ytfojeegepfjbiaa.RdJ Go.Proofs.Ytfojeegepfjbiaa.RdK Go.Proofs.Ytfojeegepfjbiaa.RdL Go.Proofs.Ytfojeegepfjbiaa.RdM Go.Proofs.Ytfojeegepfjbiaa.RdN
set_option linter.unusedSimpArgs false
set_option linter.unusedVariables false
attribute [local go_sem] max2_int min2_int max_two min_two

theorem first_cut {t : List Int} (hl : t.length < 4294967296) {m : Nat} (hm : m < 12 + t.length) : firstL ((sealL t).take m) = ([], 0, true) := by
  have hlen : ((sealL t).take m).length = m := by rw [List.length_take, sealL_len]; omega
  by_cases h12 : m < 12
  · unfold firstL
    rw [if_pos (by omega)]
  · have h4 : ∀ n : Int, (fourL n).length = 4 := fun _ => rfl
    have e : (sealL t).take m = fourL (t.length : Int) ++ (fourL (crc (fourL (t.length : Int)) : Int) ++ (fourL (crc t : Int) ++ t.take (m - 12))) := by
      show ((fourL (t.length : Int) ++ fourL (crc (fourL (t.length : Int)) : Int) ++ fourL (crc t : Int)) ++ t).take m = _
      rw [List.take_append, List.take_of_length_le (by simp [fourL]; omega)]
      simp [fourL]
    have hf : fourV ((sealL t).take m) = (t.length : Int) := by rw [e]; exact fourV_fourL (by omega) (by omega) _
    have d4 : ((sealL t).take m).drop 4 = fourL (crc (fourL (t.length : Int)) : Int) ++ (fourL (crc t : Int) ++ t.take (m - 12)) := by rw [e]; exact List.drop_left' (h4 _)
    have t4 : ((sealL t).take m).take 4 = fourL (t.length : Int) := by rw [e]; exact List.take_left' (h4 _)
    have hcf := crc_lt (bys_fourL (t.length : Int))
    unfold firstL
    rw [if_neg (by omega), d4, t4, if_neg (by rw [fourV_fourL (by omega) (by omega)]; simp), hf, hlen, if_pos (by omega)]
theorem cut_law {ts : List (List Int)} (hok : Okt ts) {m k : Nat} (hk : k ≤ ts.length) (h1 : (sealsL (ts.take k)).length ≤ m) (h2 : k = ts.length ∨ m < (sealsL (ts.take (k + 1))).length) (h3 : m ≤ (sealsL ts).length) :
    scanL ((sealsL ts).take m) = (ts.take k, (sealsL (ts.take k)).length, true) := by
  rcases Nat.lt_or_ge k ts.length with hlt | hge
  · have h2' : m < (sealsL (ts.take (k + 1))).length := by rcases h2 with h | h; omega; exact h
    have hsp : ts = ts.take k ++ ts.getD k [] :: ts.drop (k + 1) := by
      rw [List.getD_eq_getElem?_getD, List.getElem?_eq_getElem hlt]
      simp
    have hts := take_snoc hlt
    have hokt := hok _ (getD_mem hlt)
    have hokk : Okt (ts.take k) := fun x hx => hok x (List.mem_of_mem_take hx)
    generalize ts.getD k [] = t at *
    rw [hts, sealsL_append, List.length_append, sealsL_cons, List.length_append, sealL_len] at h2'
    have h0 : (sealsL ([] : List (List Int))).length = 0 := rfl
    have e : (sealsL ts).take m = sealsL (ts.take k) ++ (sealL t).take (m - (sealsL (ts.take k)).length) := by
      conv => lhs; rw [hsp]
      rw [sealsL_append, sealsL_cons, List.take_append, List.take_of_length_le h1, List.take_append]
      rw [show m - (sealsL (ts.take k)).length - (sealL t).length = 0 by rw [sealL_len]; omega, List.take_zero, List.append_nil]
    have hf := first_cut (t := t) hokt.2 (m := m - (sealsL (ts.take k)).length) (by omega)
    rw [e, scan_end hokk (by rw [hf]), hf]
  · have hke : k = ts.length := by omega
    subst hke
    rw [List.take_of_length_le (Nat.le_refl ts.length)] at h1 ⊢
    rw [List.take_of_length_le h1, scan_all hok]

theorem info3 : (Try.prog.info? 3).map (fun i => (i.zero, i.size, i.bytes)) = some (some (.int .i64 0), 1, 8) := by kernel_rfl
/-- Where each record ends. -/
def endsL (gs : List Rec) (i : Nat) : List Int := (List.range i).map (fun j => ((sealsL ((gs.take (j + 1)).map recT)).length : Int))
theorem endsL_len (gs : List Rec) (i : Nat) : (endsL gs i).length = i := by simp [endsL]
theorem endsL_succ (gs : List Rec) (i : Nat) : endsL gs (i + 1) = endsL gs i ++ [((sealsL ((gs.take (i + 1)).map recT)).length : Int)] := by simp [endsL, List.range_succ]
theorem endsL_rd (gs : List Rec) (n : Nat) {j : Nat} (h : j < n) : rd (endsL gs n) (j : Int) = ((sealsL ((gs.take (j + 1)).map recT)).length : Int) := by
  unfold rd endsL
  rw [Int.toNat_natCast, List.getD_eq_getElem?_getD, List.getElem?_map, List.getElem?_range h]
  rfl
theorem seals_take_mono {gs : List Rec} {i j : Nat} (h : i ≤ j) : (sealsL ((gs.take i).map recT)).length ≤ (sealsL ((gs.take j).map recT)).length := by
  have e : gs.take j = gs.take i ++ (gs.take j).drop i := by
    have := List.take_append_drop i (gs.take j)
    rw [List.take_take, Nat.min_eq_left h] at this
    exact this.symm
  rw [e, List.map_append, sealsL_append, List.length_append]
  omega
theorem many_law {gs : List Rec} (hok : ∀ r ∈ gs, chkT r = 0) {m k : Nat} (hk : k ≤ gs.length) (h1 : (sealsL ((gs.take k).map recT)).length ≤ m) (h2 : k = gs.length ∨ m < (sealsL ((gs.take (k + 1)).map recT)).length) (h3 : m ≤ (sealsL (gs.map recT)).length) :
    rscanL ((sealsL (gs.map recT)).take m) = (gs.take k, (sealsL ((gs.take k).map recT)).length, true) := by
  have hc := cut_law (ts := gs.map recT) (okt_recs hok) (m := m) (k := k) (by rw [List.length_map]; exact hk) (by rw [← List.map_take]; exact h1) (by rw [List.length_map, ← List.map_take]; exact h2) h3
  unfold rscanL
  rw [hc]
  simp only []
  rw [← List.map_take, recs_all _ (fun r hr => hok r (List.mem_of_mem_take hr)), Nat.zero_add]
set_option maxRecDepth 100000 in
set_option maxHeartbeats 2000000 in
theorem walk (A : Option Addr) (c : Nat) (l : List Rec) (a1 : Int) (w : World) (hr : recK.C w A l.length l) (hc : l.length ≤ c)
    (hg : l.length ≤ maxLen ∧ ∀ p ∈ l, (Lit.int .i64 p.1).wf = true ∧ (Lit.int .i64 p.2.1).wf = true ∧ p.2.2.1.size ≤ maxLen ∧ p.2.2.2.size ≤ maxLen) (w1 : (Lit.int .i64 a1).wf = true) :
    Calls Try.prog 13 #[.slice A l.length c, .int .i64 a1] w fun e w' => e = .returned (.bool true) ∧ Below w.heap.size w w' := by
  have hsz := good_size hg
  have hll : l.length ≤ 9223372036854775807 := by have := hg.1; unfold maxLen at this; omega
  have ha : -9223372036854775808 ≤ a1 ∧ a1 ≤ 9223372036854775807 := by
    simp [Lit.wf, IntKind.min, IntKind.max, IntKind.bits, IntKind.signed] at w1
    omega
  have HGD := Aside0.mk (fun w h => good_calls A c l 15 (by decide) w h hll hsz)
  have hgl := goodF_len l 15
  have hgo := goodF_ok l 15
  have HR := Aside0.mk hr
  clear hg w1 hr hsz hll
  generalize goodF l 15 = gs at *
  have HGO := Aside0.mk (And.intro hgl hgo)
  clear hgo
  go_enter Try.func13, Try.ntmps13
  go_wp2_with fail
  refine (begun_calls w).mono ?_
  rintro e_ w1 ⟨rfl, hb⟩
  have HB1 := Aside0.mk hb
  clear hb
  go_wp2_with fail
  refine (HGD.out w1 (Kd.C_below HR.out HB1.out)).mono ?_
  rintro e_ w2 ⟨v2, rfl, ho, hb⟩
  obtain ⟨A3, c3, rfl⟩ := Kd.R_slice ho
  have HG2 := Aside0.mk (Kd.R_reads' ho).2.2
  have HGC := Aside0.mk (Kd.R_reads' ho).2.1
  have HB2 := Aside0.mk (below_step HB1.out hb)
  obtain ⟨n, hn⟩ : ∃ n, gs.length = n := ⟨_, rfl⟩
  have HN := Aside0.mk hn
  rw [hn] at HG2 hgl HGC ⊢
  clear ho hb HB1 hn HGD HR
  go_wp2_with fail
  go_loopg [6, 7, 8, 9, 10] n (fun q v6 v7 v8 v9 v10 w' => ∃ i : Nat, v8 = .int .i64 (i : Int) ∧ Aside0 (i + q = n) ∧ Aside0 (Kd.R (Kd.int .u8) 5 w' w2.heap.size (fun _ => True) v6 (sealsL ((gs.take i).map recT))) ∧ Aside0 (Kd.R (Kd.int .i64) 3 w' w2.heap.size (fun _ => True) v7 (endsL gs i)) ∧ Aside0 (Below w2.heap.size w2 w'))
  case atStart => exact ⟨0, rfl, ⟨by omega⟩, ⟨Kd.R_nil _ _ _ _ _⟩, ⟨Kd.R_nil _ _ _ _ _⟩, ⟨Below.refl _ _⟩⟩
  case round =>
    obtain ⟨i, rfl, HI, HO, HE, HB⟩ := hrel
    have hi := HI.out
    by_cases hlt : i < n
    · obtain ⟨f, rfl⟩ : ∃ f, gk = f + 1 := ⟨gk - 1, by omega⟩
      obtain ⟨ad, e1, p0, p1, p2, p3⟩ := rec_at (Kd.C_below HG2.out HB.out) i hlt
      subst e1
      have hil : i < gs.length := by rw [HN.out]; exact hlt
      have hck := HGO.out.2 _ (mem_rec hil)
      have hle : (sealsL ((gs.take i).map recT)).length ≤ 4173 * (gs.take i).length := seals_recs_len (fun r hr => HGO.out.2 r (List.mem_of_mem_take hr))
      rw [List.length_take] at hle
      have hes := endsL_succ gs i
      have hto : sealsL ((gs.take (i + 1)).map recT) = sealsL ((gs.take i).map recT) ++ sealL (recT (gs.getD i rec0)) := by rw [take_rec hil, List.map_append, List.map_cons, List.map_nil, sealsL_snoc]
      generalize gs.getD i rec0 = r at *
      have hrl : (sealL (recT r)).length ≤ 4173 := by rw [sealL_len]; have := rec_len hck; omega
      have k0 : ((i : Int) < (n : Int)) = True := eq_true (by omega)
      have kw : IntKind.i64.wrap ((i : Int) + 1) = ((i + 1 : Nat) : Int) := by rw [IntKind.wrap_i64]; omega
      have HEN := Aside0.mk (fun w => encode_ok r.1 r.2.1 r.2.2.1 r.2.2.2 hck w)
      change Aside0 (∀ w, Calls _ _ _ _ fun e w' => ∃ x : Value, _ ∧ Kd.R _ _ _ _ _ x (sealL (recT r)) ∧ _) at HEN
      have HTO := Aside0.mk hto
      obtain ⟨E1, hE1⟩ : ∃ e, sealsL ((gs.take (i + 1)).map recT) = e := ⟨_, rfl⟩
      rw [hE1] at HTO hes
      have HES := Aside0.mk hes
      have HE1 := Aside0.mk hE1
      generalize sealL (recT r) = s at *
      generalize sealsL ((gs.take i).map recT) = acc at *
      have hel := endsL_len gs i
      generalize endsL gs i = es at *
      have HLN : Aside0 (acc.length ≤ 62595 ∧ s.length ≤ 4173 ∧ es.length ≤ 15) := ⟨by omega⟩
      clear hck hle hto hrl hi hil hes hE1 hel
      unfold recV at HEN
      go_wp2_with fail
      refine (HEN.out wr).mono ?_
      rintro e_ w3 ⟨v3, rfl, ho, hb⟩
      obtain ⟨A4, c4, rfl⟩ := Kd.R_slice ho
      have HC3 := Aside0.mk (Kd.R_reads' ho).2.2
      have HO3 := Aside0.mk (Kd.R_below HO.out hb)
      have HE3 := Aside0.mk (Kd.R_below HE.out hb)
      have HB3 := Aside0.mk (below_step HB.out hb)
      clear ho hb HO HB HE p0 p1 p2 p3
      go_wp2_with (first | ((with_reducible refine gate_builtin (b := .append) (xs := #[.tmp 36, .tmp 37]) rfl ?_); at_builtin; go_must (refine Kd.R_append_row (Value.int .u8) (0) (h1 := fun _ => rfl) (w0 := w2) (w2.heap.size) rfl (.tmp 36) (.tmp 37) 22 5 (.int .u8 0) 1 rfl Try.underlying22 info5 rfl (by decide) u6 acc s A4 (s.length) c4 (fun _ => True) rfl rfl (fun _ _ => trivial) (HO3.out) (HC3.out) (HB3.out) (Below.size (HB3.out)) ?aL_ ?_; (case aL_ => have := HLN.out; omega); intro v4 w4 ho hb hg hat; have HO4 := Aside0.mk ho; have HB4 := Aside0.mk hb; rw [← HTO.out] at ho; have HE4 := Aside0.mk (Kd.R_over HE3.out HO3.out (by intro q hq; have hq : q ∈ [3] := hq; simp at hq; omega) hg); have HO4b := Aside0.mk ho; obtain ⟨Ab, cb, rfl⟩ := Kd.R_slice ho; clear ho hb hg hat)) | ((with_reducible refine gate_builtin (b := .append) (xs := #[.tmp 39, .tmp 42]) rfl ?_); at_builtin; go_must (refine Kd.R_append (Kd.int .i64) (w0 := w2) (w2.heap.size) rfl (.tmp 39) (.tmp 42) 60 3 (.int .i64 0) 8 rfl Try.underlying60 info3 rfl (by decide) (by omega) u7 es (E1.length : Int) [.int .i64 (E1.length : Int)] (fun _ => True) (fun _ => False) rfl rfl rfl (fun _ hk => hk.elim) (fun _ _ => trivial) HE4.out HB4.out HB4.out.size (by have := HLN.out; omega) ?_; intro v5 w5 ho hb hg hat; have HE5 := Aside0.mk ho; have HB5 := Aside0.mk hb; have HO5 := Aside0.mk (Kd.R_over HO4b.out HE4.out (by intro q hq; have hq : q ∈ [5] := hq; simp at hq; omega) hg); clear ho hb hg hat)))
      go_roundg f
      case measure => omega
      case rel => exact ⟨i + 1, by simp, ⟨by have := HI.out; omega⟩, ⟨by rw [HE1.out]; exact HO5.out⟩, ⟨by rw [HES.out]; exact HE5.out⟩, HB5⟩
    · have hin : i = n := by omega
      subst hin
      have k0 : ((i : Int) < (i : Int)) = False := eq_false (by omega)
      rw [List.take_of_length_le (by have := HN.out; omega)] at HO
      have hbb := bys_seals (okt_recs HGO.out.2)
      have hbl := seals_recs_len HGO.out.2
      have HLAW := Aside0.mk (fun m k => many_law HGO.out.2 (m := m) (k := k))
      generalize sealsL (gs.map recT) = b at *
      obtain ⟨Lb, hLb⟩ : ∃ q, b.length = q := ⟨_, rfl⟩
      have hLl : Lb ≤ 62595 := by rw [← hLb]; have := HN.out; omega
      obtain ⟨Ab, cb, rfl⟩ := Kd.R_slice HO.out
      obtain ⟨Ae, ce, rfl⟩ := Kd.R_slice HE.out
      have HVB := Aside0.mk (Kd.R_reads' HO.out).2
      have HVE := Aside0.mk (Kd.R_reads' HE.out).2.2
      have HLB := Aside0.mk hLb
      have HLL := Aside0.mk hLl
      have HBB := Aside0.mk hbb
      have HBA := Aside0.mk (below_step HB2.out HB.out)
      have HG3 := Aside0.mk (Kd.C_below HG2.out HB.out)
      rw [endsL_len] at HVE ⊢
      rw [hLb] at HVB ⊢
      have HGO2 := HGO
      rw [HLB.out] at HLAW
      clear hbb hbl hi hlt HO HE HB HB2 HG2 hLb hLl HI HGO
      go_upto_region 15 with fail
      go_cut [51] (fun s51 wx => wr = wx ∧ s51 = .bool (decide (a1 < 0 ∨ (Lb : Int) < a1)))
      case first =>
        by_cases q1 : a1 < 0
        · have k1 : (a1 < 0) = True := eq_true q1
          have KD : Aside0 (decide (a1 < 0 ∨ (Lb : Int) < a1) = true) := ⟨decide_eq_true (.inl q1)⟩
          clear q1
          go_wp2_with fail
          go_meet
          exact ⟨rfl, by rw [KD.out]⟩
        · have k1 : (a1 < 0) = False := eq_false q1
          by_cases q2 : (Lb : Int) < a1
          · have k2 : ((Lb : Int) < a1) = True := eq_true q2
            have KD : Aside0 (decide (a1 < 0 ∨ (Lb : Int) < a1) = true) := ⟨decide_eq_true (.inr q2)⟩
            clear q2
            go_wp2_with fail
            go_meet
            exact ⟨rfl, by rw [KD.out]⟩
          · have k2 : ((Lb : Int) < a1) = False := eq_false q2
            have KD : Aside0 (decide (a1 < 0 ∨ (Lb : Int) < a1) = false) := ⟨decide_eq_false (by omega)⟩
            clear q2
            go_wp2_with fail
            go_meet
            exact ⟨rfl, by rw [KD.out]⟩
      case rest =>
        obtain ⟨rfl, rfl⟩ := hcut
        go_upto_if 51 with fail
        go_cut [1] (fun s1 wx => wr = wx ∧ ∃ m : Nat, s1 = .int .i64 (m : Int) ∧ m ≤ Lb)
        case first =>
          by_cases q : a1 < 0 ∨ (Lb : Int) < a1
          · rw [decide_eq_true q]
            clear q
            go_wp2_with fail
            go_meet
            exact ⟨rfl, Lb, rfl, Nat.le_refl _⟩
          · rw [decide_eq_false q]
            obtain ⟨m, rfl⟩ := Int.eq_ofNat_of_zero_le (by omega : 0 ≤ a1)
            have hm : m ≤ Lb := by omega
            clear q
            go_wp2_with fail
            go_meet
            exact ⟨rfl, m, rfl, hm⟩
        case rest =>
          obtain ⟨rfl, m, rfl, hm⟩ := hcut
          have hml : m ≤ b.length := by rw [HLB.out]; exact hm
          have htl : (b.take m).length = m := by rw [List.length_take]; omega
          have hmc : m ≤ cb := by have := HVB.out.1; omega
          have hct := Kd.C_take (by rw [HLB.out]; exact HVB.out.2) hml
          rw [htl] at hct
          have HCT := Aside0.mk hct
          have HSC := Aside0.mk (fun A c w h1 h2 => recscan_calls A c (b.take m) (bys_take HBB.out m) w h1 h2 (by have := HLL.out; omega))
          rw [htl] at HSC
          have HLW := Aside0.mk (fun k h1 h2 h3 => HLAW.out m k h1 h2 h3 hm)
          obtain ⟨E, hE⟩ : ∃ E, rscanL (b.take m) = E := ⟨_, rfl⟩
          rw [hE] at HSC HLW
          clear hE htl hml hct HLAW
          have hll := HLL.out
          go_wp2_with fail
          refine (HSC.out Ab cb wr HCT.out hmc).mono ?_
          rintro e_ w3 ⟨v3, rfl, ho, hb⟩
          obtain ⟨Am, cm, rfl⟩ := Kd.R_slice ho
          have HM3 := Aside0.mk (Kd.R_reads' ho).2.2
          have HB3 := Aside0.mk (below_step HBA.out hb)
          have HE3 := Aside0.mk (Kd.C_below HVE.out hb)
          have HG4 := Aside0.mk (Kd.C_below HG3.out hb)
          clear ho hb HVE HG3 HCT HSC HBA HVB
          go_wp2_with fail
          go_loopg [14] i (fun q v14 w' => ∃ k : Nat, v14 = .int .i64 (k : Int) ∧ Aside0 (k + q = i ∧ (sealsL ((gs.take k).map recT)).length ≤ m) ∧ Aside0 (w3 = w'))
          case atStart => exact ⟨0, rfl, ⟨by omega, by simp [sealsL]⟩, ⟨rfl⟩⟩
          case round =>
            obtain ⟨k, rfl, HK, HW⟩ := hrel
            have hw := HW.out
            subst hw
            clear HW
            have hk := HK.out
            have hend : ∀ (h1 : k ≤ i), (k = i ∨ m < (sealsL ((gs.take (k + 1)).map recT)).length) → E = (gs.take k, (sealsL ((gs.take k).map recT)).length, true) := fun h1 h2 => HLW.out k (by rw [HN.out]; exact h1) hk.2 (by rw [HN.out]; exact h2)
            by_cases hlt : k < i
            · have k0 : ((k : Int) < (i : Int)) = True := eq_true (by omega)
              obtain ⟨ae, e1, hce⟩ := Kd.at_int HE3.out (k : Int) (by omega) (by omega)
              subst e1
              rw [Int.toNat_natCast, endsL_rd gs i hlt] at hce
              have hsl : (sealsL ((gs.take (k + 1)).map recT)).length ≤ 4173 * (gs.take (k + 1)).length := seals_recs_len (fun r hr => HGO2.out.2 r (List.mem_of_mem_take hr))
              by_cases hle : (sealsL ((gs.take (k + 1)).map recT)).length ≤ m
              · obtain ⟨f, rfl⟩ : ∃ f, gk = f + 1 := ⟨gk - 1, by omega⟩
                have kw : IntKind.i64.wrap ((k : Int) + 1) = ((k + 1 : Nat) : Int) := by rw [IntKind.wrap_i64]; omega
                have HLE := Aside0.mk hle
                have kle : (((sealsL ((gs.take (k + 1)).map recT)).length : Int) ≤ (m : Int)) = True := eq_true (by omega)
                obtain ⟨sk, hsk2⟩ : ∃ q, (sealsL ((gs.take (k + 1)).map recT)).length = q := ⟨_, rfl⟩
                rw [hsk2] at hce kle
                clear hle hend hk hsl hsk2
                go_wp2_with fail
                go_roundg f
                case measure => omega
                case rel => exact ⟨k + 1, by simp, ⟨by have := HK.out; omega, HLE.out⟩, ⟨rfl⟩⟩
              · have hE := hend (by omega) (.inr (by omega))
                subst hE
                obtain ⟨sj, hsj⟩ : ∃ q, (sealsL ((gs.take (k + 1)).map recT)).length = q := ⟨_, rfl⟩
                have kle : ((sj : Int) ≤ (m : Int)) = False := eq_false (by omega)
                rw [hsj] at hce
                clear hle hsl hsj
                have hgk : (gs.take k).length = k := by rw [List.length_take, HN.out]; omega
                have hsk : (sealsL ((gs.take k).map recT)).length ≤ 62595 := by have := hk.2; omega
                have b1 : (((gs.take k).length : Int) != (k : Int)) = false := by rw [hgk]; simp
                have hkc : k ≤ c3 := by have := HGC.out; omega
                have hki : k ≤ i := by omega
                have HTK := Kd.C_take (m := k) (show recK.C w3 A3 gs.length gs by rw [HN.out]; exact HG4.out) (by rw [HN.out]; omega)
                have HCE := Aside0.mk (fun w (hb : Below w3.heap.size w3 w) => eqall_calls Am cm (gs.take k) A3 c3 (gs.take k) w (Kd.C_below HM3.out hb) (Kd.C_below HTK hb))
                simp only [decide_true] at HCE
                rcases Nat.eq_zero_or_pos k with hz | hp
                · have kp : (0 < k) = False := eq_false (by omega)
                  obtain ⟨sk, hsk2⟩ : ∃ q, (sealsL ((gs.take k).map recT)).length = q := ⟨_, rfl⟩
                  rw [hsk2] at hsk ⊢
                  rw [hgk] at HCE b1 ⊢
                  clear hk hend HTK HLW HM3 hgk hz hsk2 HK hlt
                  go_wp2_with fail
                  refine (HCE.out w3 (Below.refl _ _)).mono ?_
                  rintro e_ w4 ⟨rfl, hb⟩
                  have HB4 := Aside0.mk (below_step HB3.out hb)
                  clear hb
                  go_wp2
                  go_ret
                  exact ⟨by simp, HB4.out⟩
                · have hk1 : IntKind.i64.wrap ((k : Int) - 1) = ((k - 1 : Nat) : Int) := by rw [IntKind.wrap_i64]; omega
                  obtain ⟨ap, e1, hcp⟩ := Kd.at_int HE3.out ((k - 1 : Nat) : Int) (by omega) (by omega)
                  obtain rfl : ae = ap := by injection e1
                  rw [Int.toNat_natCast, endsL_rd gs i (by omega), show k - 1 + 1 = k by omega] at hcp
                  have kp : (0 < k) = True := eq_true hp
                  have kj : (k - 1 < i) = True := eq_true (by omega)
                  obtain ⟨sk, hsk2⟩ : ∃ q, (sealsL ((gs.take k).map recT)).length = q := ⟨_, rfl⟩
                  rw [hsk2] at hcp hsk ⊢
                  rw [hgk] at HCE b1 ⊢
                  clear hk hend HTK HLW HM3 hgk hsk2 HK hlt
                  go_wp2_with fail
                  refine (HCE.out w3 (Below.refl _ _)).mono ?_
                  rintro e_ w4 ⟨rfl, hb⟩
                  have HB4 := Aside0.mk (below_step HB3.out hb)
                  clear hb
                  go_wp2
                  go_ret
                  exact ⟨by simp, HB4.out⟩
            · have k0 : ((k : Int) < (i : Int)) = False := eq_false (by omega)
              have hE := hend (by omega) (.inl (by omega))
              subst hE
              have hgk : (gs.take k).length = k := by rw [List.length_take, HN.out]; omega
              have hsk : (sealsL ((gs.take k).map recT)).length ≤ 62595 := by have := hk.2; omega
              have b1 : (((gs.take k).length : Int) != (k : Int)) = false := by rw [hgk]; simp
              have hkc : k ≤ c3 := by have := HGC.out; omega
              have hki : k ≤ i := by omega
              have HTK := Kd.C_take (m := k) (show recK.C w3 A3 gs.length gs by rw [HN.out]; exact HG4.out) (by rw [HN.out]; omega)
              have HCE := Aside0.mk (fun w (hb : Below w3.heap.size w3 w) => eqall_calls Am cm (gs.take k) A3 c3 (gs.take k) w (Kd.C_below HM3.out hb) (Kd.C_below HTK hb))
              simp only [decide_true] at HCE
              rcases Nat.eq_zero_or_pos k with hz | hp
              · have kp : (0 < k) = False := eq_false (by omega)
                obtain ⟨sk, hsk2⟩ : ∃ q, (sealsL ((gs.take k).map recT)).length = q := ⟨_, rfl⟩
                rw [hsk2] at hsk ⊢
                rw [hgk] at HCE b1 ⊢
                clear hk hend HTK HLW HM3 hgk hz hsk2 HK hlt
                go_wp2_with fail
                refine (HCE.out w3 (Below.refl _ _)).mono ?_
                rintro e_ w4 ⟨rfl, hb⟩
                have HB4 := Aside0.mk (below_step HB3.out hb)
                clear hb
                go_wp2
                go_ret
                exact ⟨by simp, HB4.out⟩
              · have hk1 : IntKind.i64.wrap ((k : Int) - 1) = ((k - 1 : Nat) : Int) := by rw [IntKind.wrap_i64]; omega
                obtain ⟨ap, e1, hcp⟩ := Kd.at_int HE3.out ((k - 1 : Nat) : Int) (by omega) (by omega)
                subst e1
                rw [Int.toNat_natCast, endsL_rd gs i (by omega), show k - 1 + 1 = k by omega] at hcp
                have kp : (0 < k) = True := eq_true hp
                have kj : (k - 1 < i) = True := eq_true (by omega)
                obtain ⟨sk, hsk2⟩ : ∃ q, (sealsL ((gs.take k).map recT)).length = q := ⟨_, rfl⟩
                rw [hsk2] at hcp hsk ⊢
                rw [hgk] at HCE b1 ⊢
                clear hk hend HTK HLW HM3 hgk hsk2 HK hlt
                go_wp2_with fail
                refine (HCE.out w3 (Below.refl _ _)).mono ?_
                rintro e_ w4 ⟨rfl, hb⟩
                have HB4 := Aside0.mk (below_step HB3.out hb)
                clear hb
                go_wp2
                go_ret
                exact ⟨by simp, HB4.out⟩
end Go.Proofs.Ytfojeegepfjbiaa.RmWalk
