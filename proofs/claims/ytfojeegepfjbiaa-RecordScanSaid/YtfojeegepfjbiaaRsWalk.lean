/- RecordScan: any bytes are records as far as they go, and what stands behind is cut off or spoilt: it answers true. No condition. -/
import Derived.Test.YtfojeegepfjbiaaProg
import Derived.Below
import Derived.Deep.Draws
import Derived.Deep.AppendLies
import Derived.Maps.AppendAt
import Derived.OwnWalk
import Derived.Laws.BytesArg
import Derived.Laws.MakeOwn
import Derived.Laws.OwnMore
import Derived.Deep.OwnRows
import Derived.Tactics
import Derived.Lib.ConvBytes
import Derived.Laws.Slices
import Derived.WalkKit
import Derived.KernelRfl
import Derived.RowKit3
import Derived.Deep.LoopGhost
import Derived.Deep.QuietTactic
import Derived.BigQuiet
import Derived.WideLaws
import Derived.Deep.DeepCutAuto
import Derived.Deep.CutBlock
import Derived.Deep.RegionHeld3
import Derived.Laws.Rows
import Derived.Lib.AppendStr
import Derived.ArgAppend
import Derived.Laws.IdiomCopy
import Derived.OrdersHeld
import Derived.Laws.BitsLemmas
import Derived.RowKit
import Derived.Deep.RegionWith
import Derived.Laws.BitsAllLaws
import Derived.Deep.DeepCutAuto
import Derived.WalkSpells
import Derived.Outline
import Derived.Test.YtfojeegepfjbiaaWWords
import Derived.Test.YtfojeegepfjbiaaWLast
import Derived.Test.YtfojeegepfjbiaaWMore
import Derived.Test.YtfojeegepfjbiaaWArr
import Derived.Test.YtfojeegepfjbiaaWTab
import Derived.Test.YtfojeegepfjbiaaWZeros
import Derived.Test.YtfojeegepfjbiaaWRepsOne
import Derived.Test.YtfojeegepfjbiaaRdN
namespace Go.Proofs.Ytfojeegepfjbiaa.RsWalk
open Go.RowKit Go.Proofs.YtfojeegepfjbiaaW.PrintWords Go.Proofs.YtfojeegepfjbiaaW.PrintLast Go.Proofs.YtfojeegepfjbiaaW.PrintMore Go.Proofs.Ytfojeegepfjbiaa.Nm Go.Proofs.Ytfojeegepfjbiaa.NmA Go.Proofs.Ytfojeegepfjbiaa.NmB Go.Proofs.Ytfojeegepfjbiaa.NmC Go.Proofs.Ytfojeegepfjbiaa.NmD Go.Proofs.Ytfojeegepfjbiaa.NmE Go.Proofs.Ytfojeegepfjbiaa.NmH Go.Proofs.Ytfojeegepfjbiaa.NmI Go.Proofs.Ytfojeegepfjbiaa.CrP Go.Proofs.Ytfojeegepfjbiaa.CrA Go.Proofs.Ytfojeegepfjbiaa.CrB Go.Proofs.Ytfojeegepfjbiaa.CrC Go.Proofs.Ytfojeegepfjbiaa.CrD Go.Proofs.Ytfojeegepfjbiaa.CrE Go.Proofs.Ytfojeegepfjbiaa.CrG Go.Proofs.Ytfojeegepfjbiaa.CrH Go.Proofs.Ytfojeegepfjbiaa.CrI Go.Proofs.Ytfojeegepfjbiaa.CrJ Go.Proofs.Ytfojeegepfjbiaa.Mix Go.Proofs.Ytfojeegepfjbiaa.RdA Go.Proofs.Ytfojeegepfjbiaa.RdB Go.Proofs.Ytfojeegepfjbiaa.RdC Go.Proofs.Ytfojeegepfjbiaa.RdD Go.Proofs.Ytfojeegepfjbiaa.RdE Go.Proofs.Ytfojeegepfjbiaa.RdF Go.Proofs.Ytfojeegepfjbiaa.RdI Go.Proofs.Ytfojeegepfjbiaa.RdJ Go.Proofs.Ytfojeegepfjbiaa.RdK Go.Proofs.Ytfojeegepfjbiaa.RdL Go.Proofs.Ytfojeegepfjbiaa.RdM Go.Proofs.Ytfojeegepfjbiaa.RdN
set_option linter.unusedSimpArgs false
set_option linter.unusedVariables false
attribute [local go_sem] max2_int min2_int max_two min_two

theorem take_rec {os : List Rec} {k : Nat} (hk : k < os.length) : os.take (k + 1) = os.take k ++ [os.getD k rec0] := by
  rw [List.take_add_one, List.getElem?_eq_getElem hk, List.getD_eq_getElem?_getD, List.getElem?_eq_getElem hk]
  rfl
theorem sealsL_snoc (ts : List (List Int)) (t : List Int) : sealsL (ts ++ [t]) = sealsL ts ++ sealL t := by simp [sealsL]
theorem seals_recs_len {rs : List Rec} (h : ∀ r ∈ rs, chkT r = 0) : (sealsL (rs.map recT)).length ≤ 4173 * rs.length := by
  induction rs with
  | nil => simp [sealsL]
  | cons r rs ih =>
    have h1 := rec_len (h r (by simp))
    have h2 := ih (fun q hq => h q (by simp [hq]))
    rw [List.map_cons, sealsL_cons, List.length_append, sealL_len, List.length_cons]
    omega
theorem good_size {l : List Rec} (h : l.length ≤ maxLen ∧ ∀ p ∈ l, (Lit.int .i64 p.1).wf = true ∧ (Lit.int .i64 p.2.1).wf = true ∧ p.2.2.1.size ≤ maxLen ∧ p.2.2.2.size ≤ maxLen) : ∀ r ∈ l, r.2.2.1.size ≤ 9223372036854775807 ∧ r.2.2.2.size ≤ 9223372036854775807 := by
  intro r hr
  have := (h.2 r hr).2.2
  unfold maxLen at this
  omega
set_option maxRecDepth 100000 in
set_option maxHeartbeats 2000000 in
theorem walk (A : Option Addr) (c : Nat) (l : List Rec) (a1 : Int) (x : Int) (A2 : Option Addr) (c2 : Nat) (l2 : List Int) (a4 : Int) (w : World) (hr : recK.C w A l.length l) (hc : l.length ≤ c)
    (hg : l.length ≤ maxLen ∧ ∀ p ∈ l, (Lit.int .i64 p.1).wf = true ∧ (Lit.int .i64 p.2.1).wf = true ∧ p.2.2.1.size ≤ maxLen ∧ p.2.2.2.size ≤ maxLen) (w1 : (Lit.int .i64 a1).wf = true) (w2 : (Lit.int .u8 x).wf = true)
    (hr2 : (Kd.int .u8).C w A2 l2.length l2) (hc2 : l2.length ≤ c2) (hm2 : l2.length * 1 ≤ 140737488351232) (hw2 : ∀ x ∈ l2, (Lit.int .u8 x).wf = true) (w4 : (Lit.int .i64 a4).wf = true) :
    Calls Try.prog 12 #[.slice A l.length c, .int .i64 a1, .int .u8 x, .slice A2 l2.length c2, .int .i64 a4] w fun e w' => e = .returned (.bool true) ∧ Below w.heap.size w w' := by
  have hsz := good_size hg
  have hll : l.length ≤ 9223372036854775807 := by have := hg.1; unfold maxLen at this; omega
  have hx : 0 ≤ x ∧ x < 256 := by
    simp [Lit.wf, IntKind.min, IntKind.max, IntKind.bits, IntKind.signed] at w2
    omega
  have ha : -9223372036854775808 ≤ a1 ∧ a1 ≤ 9223372036854775807 := by
    simp [Lit.wf, IntKind.min, IntKind.max, IntKind.bits, IntKind.signed] at w1
    omega
  have ha4 : -9223372036854775808 ≤ a4 ∧ a4 ≤ 9223372036854775807 := by
    simp [Lit.wf, IntKind.min, IntKind.max, IntKind.bits, IntKind.signed] at w4
    omega
  have HGD := Aside0.mk (fun w h => good_calls A c l 8 (by decide) w h hll hsz)
  have hgl := goodF_len l 8
  have hgo := goodF_ok l 8
  have HSH := Aside0.mk (fun w => short_calls A2 c2 l2 30 hc2 w)
  have hb2 := bys_take (bys_wf hw2) 30
  have hl2 : (l2.take 30).length ≤ 30 := by rw [List.length_take]; omega
  have HC2 := Aside0.mk (C_take 30 hr2)
  have HR := Aside0.mk hr
  clear hg w1 w2 w4 hr hr2 hm2 hw2 hsz hll
  generalize l2.take 30 = t at *
  generalize goodF l 8 = gs at *
  have HGO := Aside0.mk (And.intro hgl hgo)
  have HBT := Aside0.mk (And.intro hb2 hl2)
  clear hgo hb2 hl2
  go_enter Try.func12, Try.ntmps12
  go_wp2_with fail
  refine (begun_calls w).mono ?_
  rintro e_ w1 ⟨rfl, hb⟩
  have HB1 := Aside0.mk hb
  clear hb
  go_wp2_with fail
  refine (HGD.out w1 (Kd.C_below HR.out HB1.out)).mono ?_
  rintro e_ w2 ⟨v2, rfl, ho, hb⟩
  obtain ⟨A3, c3, rfl⟩ := Kd.R_slice ho
  have HG2 := Aside0.mk (Kd.R_reads' ho).2.2
  have HB2 := Aside0.mk (below_step HB1.out hb)
  obtain ⟨n, hn⟩ : ∃ n, gs.length = n := ⟨_, rfl⟩
  have HN := Aside0.mk hn
  rw [hn] at HG2 hgl ⊢
  clear ho hb HB1 hn
  go_wp2_with fail
  go_loopg [12, 13] n (fun q v12 v13 w' => ∃ i : Nat, v13 = .int .i64 (i : Int) ∧ Aside0 (i + q = n) ∧ Aside0 (Kd.R (Kd.int .u8) 5 w' w2.heap.size (fun _ => True) v12 (sealsL ((gs.take i).map recT))) ∧ Aside0 (Below w2.heap.size w2 w'))
  case atStart => exact ⟨0, rfl, ⟨by omega⟩, ⟨Kd.R_nil _ _ _ _ _⟩, ⟨Below.refl _ _⟩⟩
  case round =>
    obtain ⟨i, rfl, HI, HO, HB⟩ := hrel
    have hi := HI.out
    by_cases hlt : i < n
    · obtain ⟨f, rfl⟩ : ∃ f, gk = f + 1 := ⟨gk - 1, by omega⟩
      obtain ⟨ad, e1, p0, p1, p2, p3⟩ := rec_at (Kd.C_below HG2.out HB.out) i hlt
      subst e1
      have hil : i < gs.length := by rw [HN.out]; exact hlt
      have hck := HGO.out.2 _ (mem_rec hil)
      have hle : (sealsL ((gs.take i).map recT)).length ≤ 4173 * (gs.take i).length := seals_recs_len (fun r hr => HGO.out.2 r (List.mem_of_mem_take hr))
      rw [List.length_take] at hle
      have hto : sealsL ((gs.take (i + 1)).map recT) = sealsL ((gs.take i).map recT) ++ sealL (recT (gs.getD i rec0)) := by rw [take_rec hil, List.map_append, List.map_cons, List.map_nil, sealsL_snoc]
      generalize gs.getD i rec0 = r at *
      have hrl : (sealL (recT r)).length ≤ 4173 := by rw [sealL_len]; have := rec_len hck; omega
      have k0 : ((i : Int) < (n : Int)) = True := eq_true (by omega)
      have kw : IntKind.i64.wrap ((i : Int) + 1) = ((i + 1 : Nat) : Int) := by rw [IntKind.wrap_i64]; omega
      have HEN := Aside0.mk (fun w => rencode_ok r.1 r.2.1 r.2.2.1 r.2.2.2 hck w)
      change Aside0 (∀ w, Calls _ _ _ _ fun e w' => ∃ x : Value, _ ∧ Kd.R _ _ _ _ _ x (sealL (recT r)) ∧ _) at HEN
      have HTO := Aside0.mk hto
      generalize sealL (recT r) = s at *
      generalize sealsL ((gs.take i).map recT) = acc at *
      have HLN : Aside0 (acc.length ≤ 33384 ∧ s.length ≤ 4173) := ⟨by omega⟩
      clear hck hle hto hrl hi hil
      unfold recV at HEN
      go_wp2_with fail
      refine (HEN.out wr).mono ?_
      rintro e_ w3 ⟨v3, rfl, ho, hb⟩
      obtain ⟨A4, c4, rfl⟩ := Kd.R_slice ho
      have HC3 := Aside0.mk (Kd.R_reads' ho).2.2
      have HO3 := Aside0.mk (Kd.R_below HO.out hb)
      have HB3 := Aside0.mk (below_step HB.out hb)
      clear ho hb HO HB p0 p1 p2 p3
      go_wp2_with ((with_reducible refine gate_builtin (b := .append) (xs := #[.tmp 31, .tmp 36]) rfl ?_); at_builtin; go_must (refine Kd.R_append_row (Value.int .u8) (0) (h1 := fun _ => rfl) (w0 := w2) (w2.heap.size) rfl (.tmp 31) (.tmp 36) 22 5 (.int .u8 0) 1 rfl Try.underlying22 info5 rfl (by decide) u12 acc s A4 (s.length) c4 (fun _ => True) rfl rfl (fun _ _ => trivial) (HO3.out) (HC3.out) (HB3.out) (Below.size (HB3.out)) ?aL_ ?_; (case aL_ => have := HLN.out; omega); intro v4 w4 ho hb hg hat; have HO4 := Aside0.mk ho; have HB4 := Aside0.mk hb; clear ho hb hg hat))
      go_roundg f
      case measure => omega
      case rel => exact ⟨i + 1, by simp, ⟨by have := HI.out; omega⟩, ⟨by rw [HTO.out]; exact HO4.out⟩, HB4⟩
    · have hin : i = n := by omega
      subst hin
      have k0 : ((i : Int) < (i : Int)) = False := eq_false (by omega)
      rw [List.take_of_length_le (by have := HN.out; omega)] at HO
      have hbb := bys_seals (okt_recs HGO.out.2)
      have hbl := seals_recs_len HGO.out.2
      generalize sealsL (gs.map recT) = b at *
      have HBB := Aside0.mk (bys_append hbb HBT.out.1)
      have HBL : Aside0 (b.length ≤ 33384 ∧ t.length ≤ 30) := ⟨by have := HN.out; have := HBT.out.2; omega⟩
      clear hbb hbl hi hlt
      have HBA := Aside0.mk (below_step HB2.out HB.out)
      have HT2 := Aside0.mk (Kd.C_below HC2.out HBA.out)
      go_wp2_with fail
      refine (HSH.out wr).mono ?_
      rintro e_ w3 ⟨rfl, rfl⟩
      obtain ⟨b0, hb0⟩ : ∃ b0, b ++ t = b0 := ⟨_, rfl⟩
      have hbl0 : b0.length ≤ 33414 := by rw [← hb0, List.length_append]; have := HBL.out; omega
      rw [hb0] at HBB
      have HBE := Aside0.mk hb0
      have HBXL := Aside0.mk hbl0
      clear hb0 hbl0 k0
      go_upto_region 11 with ((with_reducible refine gate_builtin (b := .append) (xs := #[.tmp 38, .tmp 40]) rfl ?_); at_builtin; go_must (refine Kd.R_append_row (Value.int .u8) (0) (h1 := fun _ => rfl) (w0 := w2) (w2.heap.size) rfl (.tmp 38) (.tmp 40) 22 5 (.int .u8 0) 1 rfl Try.underlying22 info5 rfl (by decide) u12 b t A2 (t.length) c2 (fun _ => True) rfl rfl (fun _ _ => trivial) (HO.out) (HT2.out) (HB.out) (Below.size (HB.out)) ?aL_ ?_; (case aL_ => have := HBL.out; omega); intro v4 w4 ho hb hg hat; have HO4 := Aside0.mk ho; have HB4 := Aside0.mk hb; have ho5 := HO4.out; rw [HBE.out] at ho5; obtain ⟨Ax, cx, e4⟩ := Kd.R_slice ho5; subst e4; have HO5 := Aside0.mk ho5; clear ho5 HO4; clear ho hb hg hat))
      go_cut [49] (fun s49 wx => wx = w4 ∧ s49 = .bool (decide (0 < a4 ∧ a4 ≤ (b0.length : Int))))
      case first =>
        by_cases q1 : 0 < a4
        · by_cases q2 : a4 ≤ (b0.length : Int)
          · have k2 : (a4 ≤ (b0.length : Int)) = True := eq_true q2
            have kd : decide (0 < a4 ∧ a4 ≤ (b0.length : Int)) = true := decide_eq_true ⟨q1, q2⟩
            have KD := Aside0.mk kd
            clear q2 kd
            go_wp2_with fail
            go_meet
            exact ⟨rfl, by rw [KD.out]⟩
          · have k2 : (a4 ≤ (b0.length : Int)) = False := eq_false q2
            have kd : decide (0 < a4 ∧ a4 ≤ (b0.length : Int)) = false := decide_eq_false (fun h => q2 h.2)
            have KD := Aside0.mk kd
            clear q2 kd
            go_wp2_with fail
            go_meet
            exact ⟨rfl, by rw [KD.out]⟩
        · have k1 : (0 < a4) = False := eq_false q1
          have kd : decide (0 < a4 ∧ a4 ≤ (b0.length : Int)) = false := decide_eq_false (fun h => q1 h.1)
          have KD := Aside0.mk kd
          clear q1 kd
          go_wp2_with fail
          go_meet
          exact ⟨rfl, by rw [KD.out]⟩
      case rest =>
        obtain ⟨rfl, rfl⟩ := hcut
        clear HBT HC2 HSH HGD HR HG2 HGO HT2 HBE
        go_upto_if 49 with fail
        go_cut [12] (fun s12 wx => ∃ (Ay : Option Addr) (cy : Nat) (by_ : List Int), s12 = .slice Ay by_.length cy ∧ Aside0 (Bys by_ ∧ by_.length ≤ 33414) ∧ Aside0 (Kd.R (Kd.int .u8) 5 wx w2.heap.size (fun _ => True) s12 by_) ∧ Aside0 (Below w2.heap.size w2 wx))
        case first =>
          by_cases q : 0 < a4 ∧ a4 ≤ (b0.length : Int)
          · obtain ⟨k, hk⟩ := Int.eq_ofNat_of_zero_le (by omega : 0 ≤ (b0.length : Int) - a4)
            have hkl : k ≤ b0.length := by omega
            have hkc : k ≤ cx := by have := (Kd.R_reads' HO5.out).2.1; omega
            have hw : IntKind.i64.wrap (k : Int) = (k : Int) := by have := HBXL.out; rw [IntKind.wrap_i64]; omega
            have kd : decide (0 < a4 ∧ a4 ≤ (b0.length : Int)) = true := decide_eq_true q
            have HRT := Aside0.mk (Kd.R_take HO5.out hkl)
            have htl : (b0.take k).length = k := by rw [List.length_take]; omega
            have HTL := Aside0.mk htl
            have HBR := Aside0.mk (And.intro (bys_take HBB.out k) (Nat.le_trans hkl HBXL.out))
            rw [kd]
            clear kd q htl
            go_wp2_with fail
            go_meet
            exact ⟨_, _, b0.take k, by rw [HTL.out], ⟨HBR.out.1, by rw [HTL.out]; exact HBR.out.2⟩, HRT, HB4⟩
          · rw [decide_eq_false q]
            clear q
            go_wp2_with fail
            go_meet
            exact ⟨_, _, b0, rfl, ⟨HBB.out, HBXL.out⟩, HO5, HB4⟩
        case rest =>
          clear HO5 HBB HBXL HB4
          obtain ⟨Ay, cy, b1, rfl, HBY1, HO6, HB6⟩ := hcut
          obtain ⟨wd, hwd⟩ : ∃ q, wc = q := ⟨_, rfl⟩
          subst hwd
          go_upto_region 13 with fail
          go_cut [62] (fun s62 wx => wx = wc ∧ s62 = .bool (decide (0 < b1.length ∧ 0 ≤ a1)))
          case first =>
            by_cases q1 : 0 < b1.length
            · by_cases q2 : 0 ≤ a1
              · have kd : decide (0 < b1.length ∧ 0 ≤ a1) = true := decide_eq_true ⟨q1, q2⟩
                have KD := Aside0.mk kd
                clear kd
                go_wp2_with fail
                go_meet
                exact ⟨rfl, by rw [KD.out]⟩
              · have k2 : (0 ≤ a1) = False := eq_false q2
                have kd : decide (0 < b1.length ∧ 0 ≤ a1) = false := decide_eq_false (fun h => q2 h.2)
                have KD := Aside0.mk kd
                clear q2 kd
                go_wp2_with fail
                go_meet
                exact ⟨rfl, by rw [KD.out]⟩
            · have k1 : (0 < b1.length) = False := eq_false q1
              have kd : decide (0 < b1.length ∧ 0 ≤ a1) = false := decide_eq_false (fun h => q1 h.1)
              have KD := Aside0.mk kd
              clear q1 kd
              go_wp2_with fail
              go_meet
              exact ⟨rfl, by rw [KD.out]⟩
          case rest =>
            obtain ⟨rfl, rfl⟩ := hcut
            go_upto_if 62 with fail
            go_cut [] (fun wx => ∃ bx : List Int, Aside0 (b1.length = bx.length) ∧ Aside0 (Bys bx) ∧ Aside0 (Kd.C (Kd.int .u8) wx Ay b1.length bx) ∧ Aside0 (Below w.heap.size w wx))
            case first =>
              by_cases q : 0 < b1.length ∧ 0 ≤ a1
              · have h0 := q.1
                obtain ⟨k, hk⟩ := Int.eq_ofNat_of_zero_le (Int.emod_nonneg a1 (by omega : (b1.length : Int) ≠ 0))
                have hkl : k < b1.length := by have := Int.emod_lt_of_pos a1 (by omega : (0 : Int) < (b1.length : Int)); omega
                have hr1 : a1.tmod (b1.length : Int) = (k : Int) := by rw [Int.tmod_eq_emod_of_nonneg (by omega)]; exact hk
                have hr2 : IntKind.i64.wrap (k : Int) = (k : Int) := by have := HBY1.out.2; rw [IntKind.wrap_i64]; omega
                have hxb := rd_bys HBY1.out.1 hkl
                obtain ⟨y, hy⟩ : ∃ y, rd b1 (k : Int) = y := ⟨_, rfl⟩
                obtain ⟨z, hz⟩ : ∃ z, bits .xor .u8 y x = z := ⟨_, rfl⟩
                rw [hy] at hxb
                have hzv := u8_xor y x hxb.1 hxb.2 hx.1 hx.2
                rw [hz] at hzv
                have hzb : 0 ≤ z ∧ z < 256 := by
                  have : y.toNat ^^^ x.toNat < 2 ^ 8 := Nat.xor_lt_two_pow (by omega) (by omega)
                  omega
                have HYY := Aside0.mk hy
                have hbs : Bys (b1.set k z) := bys_set HBY1.out.1 hzb
                have hln : (b1.set k z).length = b1.length := List.length_set
                have HBS := Aside0.mk (And.intro hbs hln)
                have hkz : ((k : Int) < (b1.length : Int)) = True := eq_true (by omega)
                have kd : decide (0 < b1.length ∧ 0 ≤ a1) = true := decide_eq_true q
                rw [kd]
                obtain ⟨g, c4, e4, hgb, hgl, hj_⟩ := Kd.R_form HO6.out h0
                injection e4 with e5 e6 e7
                subst e5
                subst e7
                have hcl := Kd.R_cell 0 HO6.out (k : Int) (by omega) (by omega)
                obtain ⟨hpr, hpg⟩ := Kd.R_put HO6.out (k : Int) z
                rw [Int.toNat_natCast] at hcl hpr hpg
                rw [show rdOf 0 b1 (k : Int) = y from HYY.out] at hcl
                obtain ⟨hc1, hc2⟩ := hcl
                have HPR := Aside0.mk hpr
                have HB7 := Aside0.mk (below_step HB2.out (pw_below_grown HB6.out (some g) HB6.out.size hpg (fun q hq => by simp [Value.ownBlock] at hq; omega)))
                clear hzv hzb hy hbs hln hj_ hpr hpg kd q h0 hxb
                go_wp2_with fail
                go_meet
                exact ⟨_, ⟨HBS.out.2.symm⟩, ⟨HBS.out.1⟩, ⟨by have := (Kd.R_reads' HPR.out).2.2; rw [HBS.out.2] at this; exact this⟩, HB7⟩
              · rw [decide_eq_false q]
                clear q
                go_wp2_with fail
                go_meet
                exact ⟨b1, ⟨rfl⟩, ⟨HBY1.out.1⟩, ⟨(Kd.R_reads' HO6.out).2.2⟩, ⟨below_step HB2.out HB6.out⟩⟩
            case rest =>
              have HCXL := Aside0.mk (Kd.R_reads' HO6.out).2.1
              obtain ⟨bx, HEQ, HBXB, HCX, HBX⟩ := hcut
              have HBXL := Aside0.mk HBY1.out.2
              rw [HEQ.out] at HCX HCXL HBXL ⊢
              clear HO6 HB6 HB2 HBY1 HEQ
              have HSC := Aside0.mk (fun w h => recscan_calls Ay cy bx HBXB.out w h HCXL.out (by have := HBXL.out; omega))
              have HRSC := Aside0.mk (fun w h => rrecscan_calls Ay cy bx HBXB.out w h HCXL.out (by have := HBXL.out; omega))
              obtain ⟨Ls, hLs⟩ : ∃ q, (rscanL bx).1 = q := ⟨_, rfl⟩
              obtain ⟨Nn, hNn⟩ : ∃ q, (rscanL bx).2.1 = q := ⟨_, rfl⟩
              obtain ⟨Oo, hOo⟩ : ∃ q, (rscanL bx).2.2 = q := ⟨_, rfl⟩
              rw [hLs, hNn, hOo] at HSC HRSC
              clear hLs hNn hOo
              obtain ⟨nx, hnx⟩ : ∃ q, bx.length = q := ⟨_, rfl⟩
              rw [hnx] at HSC HRSC HCX ⊢
              have HNX := Aside0.mk hnx
              clear hnx HBXL HCXL
              go_wp2_with fail
              refine (HSC.out _ HCX.out).mono ?_
              rintro e_ w6 ⟨v6, rfl, ho, hb⟩
              obtain ⟨A6, c6, rfl⟩ := Kd.R_slice ho
              have HV6 := Aside0.mk (Kd.R_reads' ho).2.2
              have HX6 := Aside0.mk (Kd.C_below HCX.out hb)
              have HB6 := Aside0.mk (below_step HBX.out hb)
              clear ho hb
              go_wp2_with fail
              refine (HRSC.out _ HX6.out).mono ?_
              rintro e_ w7 ⟨v7, rfl, ho, hb⟩
              obtain ⟨A7, c7, rfl⟩ := Kd.R_slice ho
              have HV7 := Aside0.mk (Kd.R_reads' ho).2.2
              have HV67 := Aside0.mk (Kd.C_below HV6.out hb)
              have HB7 := Aside0.mk (below_step HB6.out hb)
              clear ho hb
              go_wp2_with fail
              refine (eqall_calls A6 c6 Ls A7 c7 Ls _ HV67.out HV7.out).mono ?_
              rintro e_ w8 ⟨rfl, hb⟩
              have HB8 := Aside0.mk (below_step HB7.out hb)
              simp only [decide_true]
              clear hb HSC HRSC
              cases Oo with
              | true =>
                go_wp2
                go_ret
                exact ⟨by simp, HB8.out⟩
              | false =>
                go_wp2
                go_ret
                exact ⟨by simp, HB8.out⟩
end Go.Proofs.Ytfojeegepfjbiaa.RsWalk
