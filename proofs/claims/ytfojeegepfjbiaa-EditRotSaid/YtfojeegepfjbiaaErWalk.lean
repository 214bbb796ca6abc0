/- EditRot: of edits that were cut, or of which a byte was changed, the whole ones ahead are told: it answers true. No condition. -/
import Derived.Test.YtfojeegepfjbiaaProg
import Derived.Below
import Derived.Deep.Draws
import Derived.Deep.AppendLies
import Derived.Maps.AppendAt
import Derived.OwnWalk
import Derived.Laws.BytesArg
import Derived.Laws.MakeOwn
import Derived.Laws.OwnMore
import Derived.Deep.OwnRows
import Derived.Tactics
import Derived.Lib.ConvBytes
import Derived.Laws.Slices
import Derived.WalkKit
import Derived.KernelRfl
import Derived.RowKit3
import Derived.Deep.LoopGhost
import Derived.Deep.QuietTactic
import Derived.BigQuiet
import Derived.WideLaws
import Derived.Deep.DeepCutAuto
import Derived.Deep.CutBlock
import Derived.Deep.RegionHeld3
import Derived.Laws.Rows
import Derived.Lib.AppendStr
import Derived.ArgAppend
import Derived.Laws.IdiomCopy
import Derived.OrdersHeld
import Derived.Laws.BitsLemmas
import Derived.RowKit
import Derived.Deep.RegionWith
import Derived.Deep.DeepCutAuto
import Derived.Laws.BitsAllLaws
import Derived.WalkSpells
import Derived.Outline
import Derived.Test.YtfojeegepfjbiaaWWords
import Derived.Test.YtfojeegepfjbiaaWLast
import Derived.Test.YtfojeegepfjbiaaWMore
import Derived.Test.YtfojeegepfjbiaaWArr
import Derived.Test.YtfojeegepfjbiaaWTab
import Derived.Test.YtfojeegepfjbiaaWZeros
import Derived.Test.YtfojeegepfjbiaaWRepsOne
import Derived.Test.YtfojeegepfjbiaaErP
namespace Go.Proofs.Ytfojeegepfjbiaa.ErWalk
open Go.RowKit Go.Proofs.YtfojeegepfjbiaaW.PrintWords Go.Proofs.YtfojeegepfjbiaaW.PrintLast Go.Proofs.YtfojeegepfjbiaaW.PrintMore Go.Proofs.Ytfojeegepfjbiaa.Mix Go.Proofs.Ytfojeegepfjbiaa.MixB Go.Proofs.Ytfojeegepfjbiaa.MixT Go.Proofs.Ytfojeegepfjbiaa.Nm Go.Proofs.Ytfojeegepfjbiaa.NmA Go.Proofs.Ytfojeegepfjbiaa.NmB Go.Proofs.Ytfojeegepfjbiaa.NmC Go.Proofs.Ytfojeegepfjbiaa.NmH Go.Proofs.Ytfojeegepfjbiaa.CrP Go.Proofs.Ytfojeegepfjbiaa.CrA Go.Proofs.Ytfojeegepfjbiaa.CrB Go.Proofs.Ytfojeegepfjbiaa.CrC Go.Proofs.Ytfojeegepfjbiaa.CrD Go.Proofs.Ytfojeegepfjbiaa.CrE Go.Proofs.Ytfojeegepfjbiaa.CrG Go.Proofs.Ytfojeegepfjbiaa.CrH Go.Proofs.Ytfojeegepfjbiaa.CrI Go.Proofs.Ytfojeegepfjbiaa.EdZ Go.Proofs.Ytfojeegepfjbiaa.EdA Go.Proofs.Ytfojeegepfjbiaa.EdB Go.Proofs.Ytfojeegepfjbiaa.EdC Go.Proofs.Ytfojeegepfjbiaa.EdD Go.Proofs.Ytfojeegepfjbiaa.EdE Go.Proofs.Ytfojeegepfjbiaa.EdF Go.Proofs.Ytfojeegepfjbiaa.EdG Go.Proofs.Ytfojeegepfjbiaa.EdH Go.Proofs.Ytfojeegepfjbiaa.EdI Go.Proofs.Ytfojeegepfjbiaa.EdJ Go.Proofs.Ytfojeegepfjbiaa.EdK Go.Proofs.Ytfojeegepfjbiaa.EdL Go.Proofs.Ytfojeegepfjbiaa.EdM Go.Proofs.Ytfojeegepfjbiaa.EdN Go.Proofs.Ytfojeegepfjbiaa.EdO Go.Proofs.Ytfojeegepfjbiaa.EdQ Go.Proofs.Ytfojeegepfjbiaa.ErP
set_option linter.unusedSimpArgs false
set_option linter.unusedVariables false
attribute [local go_sem] max2_int min2_int max_two min_two

set_option maxRecDepth 100000 in
set_option maxHeartbeats 4000000 in
theorem walk (A : Option Addr) (c : Nat) (l : List EdT) (a1 a2 : Int) (x : Int) (w : World) (hr : KEd.C w A l.length l) (hc : l.length ≤ c) (hg : l.length ≤ maxLen ∧ ∀ e ∈ l, EdGd e) (v1 : (Lit.int .i64 a1).wf = true) (v2 : (Lit.int .i64 a2).wf = true) (v3 : (Lit.int .u8 x).wf = true) :
    Calls Try.prog 15 #[.slice A l.length c, .int .i64 a1, .int .i64 a2, .int .u8 x] w fun e w' => e = .returned (.bool true) ∧ Below w.heap.size w w' := by
  have hll : l.length ≤ 9223372036854775807 := hr.2.1
  have hx : 0 ≤ x ∧ x < 256 := by
    simp [Lit.wf, IntKind.min, IntKind.max, IntKind.bits, IntKind.signed] at v3
    omega
  have ha1 : -9223372036854775808 ≤ a1 ∧ a1 ≤ 9223372036854775807 := by
    simp [Lit.wf, IntKind.min, IntKind.max, IntKind.bits, IntKind.signed] at v1
    omega
  have ha2 : -9223372036854775808 ≤ a2 ∧ a2 ≤ 9223372036854775807 := by
    simp [Lit.wf, IntKind.min, IntKind.max, IntKind.bits, IntKind.signed] at v2
    omega
  have HA := Aside0.mk (And.intro hx (And.intro ha1 ha2))
  have HGD := Aside0.mk hg.2
  obtain ⟨nl, hnl⟩ : ∃ q, l.length = q := ⟨_, rfl⟩
  obtain ⟨n, hn⟩ : ∃ q, min 6 nl = q := ⟨_, rfl⟩
  have HN : Aside0 (n ≤ 6 ∧ n ≤ nl ∧ l.length = nl ∧ (n = 6 ∨ n = nl) ∧ nl ≤ 9223372036854775807) := ⟨by omega⟩
  rw [hnl] at hr ⊢
  have HR := Aside0.mk hr
  clear hr hc hg v1 v2 v3 hll hx ha1 ha2 hnl hn
  go_enter Try.func15, Try.ntmps15
  go_wp2_with fail
  refine (begun_calls w).mono ?_
  rintro e_ w1 ⟨rfl, hb⟩
  have HB1 := Aside0.mk hb
  obtain ⟨W1, hW1⟩ : ∃ q, w1.heap.size = q := ⟨_, rfl⟩
  have HW1 := Aside0.mk hW1
  clear hb hW1
  go_wp2_with fail
  go_loopg [10, 11, 12, 13, 14, 15] n (fun q v10 v11 v12 v13 v14 v15 w' => ∃ i : Nat, v13 = .int .i64 (i : Int) ∧ Aside0 (i + q = n) ∧ Aside0 ((Kd.int .u8).R 5 w' W1 (fun _ => True) v10 (sealsL ((gF l i).map textL))) ∧ Aside0 ((Kd.int .i64).R 3 w' W1 (fun _ => True) v11 (endsE (gF l i))) ∧ Aside0 ((KM w).R 66 w' W1 (fun _ => True) v12 (gF l i)) ∧ Aside0 (Below W1 w1 w'))
  case atStart => exact ⟨0, rfl, ⟨by omega⟩, ⟨Kd.R_nil _ _ _ _ _⟩, ⟨Kd.R_nil _ _ _ _ _⟩, ⟨Kd.R_nil _ _ _ _ _⟩, ⟨Below.refl _ _⟩⟩
  case round =>
    obtain ⟨i, rfl, HI, HO, HE, HM, HB⟩ := hrel
    have hix := HI.out
    go_upto_region 8 with fail
    go_cut [32] (fun s32 wx => wx = wr ∧ s32 = .bool (decide (i < n)))
    case first =>
      by_cases h1 : i < nl
      · have k0 : ((i : Int) < (nl : Int)) = True := eq_true (by omega)
        by_cases h2 : i < 6
        · have k1 : ((i : Int) < 6) = True := eq_true (by omega)
          have KD : Aside0 (decide (i < n) = true) := ⟨decide_eq_true (by have := HN.out; omega)⟩
          clear h1 h2 hix
          go_wp2_with fail
          go_meet
          exact ⟨rfl, by rw [KD.out]⟩
        · have k1 : ((i : Int) < 6) = False := eq_false (by omega)
          have KD : Aside0 (decide (i < n) = false) := ⟨decide_eq_false (by have := HN.out; omega)⟩
          clear h1 h2 hix
          go_wp2_with fail
          go_meet
          exact ⟨rfl, by rw [KD.out]⟩
      · have k0 : ((i : Int) < (nl : Int)) = False := eq_false (by omega)
        have KD : Aside0 (decide (i < n) = false) := ⟨decide_eq_false (by have := HN.out; omega)⟩
        clear h1 hix
        go_wp2_with fail
        go_meet
        exact ⟨rfl, by rw [KD.out]⟩
    case rest =>
      obtain ⟨h1_, rfl⟩ := hcut
      subst wc
      by_cases hlt : i < n
      · --[[rd
        obtain ⟨f, rfl⟩ : ∃ f, gk = f + 1 := ⟨gk - 1, by omega⟩
        have HBW0 := Aside0.mk (below_step HB1.out (HW1.out ▸ HB.out))
        obtain ⟨ad, a0, a1, aA2, al2, ac2, aA3, al3, ac3, aA4, al4, ac4, aA5, al5, ac5, e_, y0, y1, y2, y3, y4, y5, hea⟩ := ed_at6 HR.out i (by have := HN.out; omega)
        subst e_
        have HYC := Aside0.mk (fun wx (h : Below w.heap.size w wx) => And.intro (pw_cell_below h y0) (And.intro (pw_cell_below h y1) (And.intro (pw_cell_below h y2) (And.intro (pw_cell_below h y3) (And.intro (pw_cell_below h y4) (pw_cell_below h y5))))))
        have y0 := pw_cell_below HBW0.out y0
        have y1 := pw_cell_below HBW0.out y1
        have y2 := pw_cell_below HBW0.out y2
        have y3 := pw_cell_below HBW0.out y3
        have y4 := pw_cell_below HBW0.out y4
        have y5 := pw_cell_below HBW0.out y5
        have HCM := Aside0.mk (fun wx (hx : Below w.heap.size w wx) => cut_callsM (l.getD i ed0) _ w wx hea hx)
        have HGB := Aside0.mk (fun hb => gF_bad (l := l) (i := i) (by have := HN.out; omega) hb)
        have HGO := Aside0.mk (fun hb => gF_ok (l := l) (i := i) (by have := HN.out; omega) hb)
        have HGG := Aside0.mk (good_cut (HGD.out _ (EdG.getD_mem (d := ed0) (show i < l.length by have := HN.out; omega))))
        have HGL := Aside0.mk (gF_len l i)
        have HGS := Aside0.mk (seals_bound _ (gF_w HGD.out i))
        rw [decide_eq_true hlt]
        have k0 : ((i : Int) < (nl : Int)) = True := eq_true (by have := HN.out; omega)
        have kw : IntKind.i64.wrap ((i : Int) + 1) = ((i + 1 : Nat) : Int) := by have := HN.out; rw [IntKind.wrap_i64]; omega
        generalize hG : gF l i = G0 at *
        generalize hec : cutE (l.getD i ed0) = ec at *
        generalize hEE : endsE G0 = E0 at *
        generalize hSS : sealsL (G0.map textL) = B0 at *
        have HGX := Aside0.mk (And.intro hEE hSS)
        clear hea hix hG hec hEE hSS
        go_wp2_with fail
        refine (HCM.out wr HBW0.out).mono ?_
        rintro e_ w3 ⟨cs, rfl, hm, hb⟩
        have hbw := HBW0.out.trans (hb.mono (by have := HBW0.out.size; exact this))
        have hed := km_ed ((KM w).K_of_M hm) hbw
        obtain ⟨c0, c1, cA2, cl2, cc2, cA3, cl3, cc3, cA4, cl4, cc4, cA5, cl5, cc5, hv⟩ := ed_six hed
        injection hv with hv
        subst hv
        have HO3 := Aside0.mk (Kd.R_below HO.out hb)
        have HE3 := Aside0.mk (Kd.R_below HE.out hb)
        have HM3 := Aside0.mk (Kd.R_below HM.out hb)
        have HB3 := Aside0.mk (HB.out.trans (hb.mono (by have := HB.out.size; have := HW1.out; omega)))
        have HBW3 := Aside0.mk hbw
        have HED3 := Aside0.mk hed
        clear hm hb hbw hed HO HE HM HB
        by_cases hok : edOk ec = true
        · have HEN := Aside0.mk (encode_ok ec _ w3 HED3.out hok HGG.out)
          have HBY := Aside0.mk (bys_text hok HGG.out)
          have hgo := HGO.out hok
          have HGN := Aside0.mk hgo
          obtain ⟨s, hs⟩ : ∃ q, sealL (textL ec) = q := ⟨_, rfl⟩
          have hsl : s.length ≤ 15012 := by rw [← hs, sealL_len]; have := HBY.out.2; omega
          have HSS := Aside0.mk hs
          rw [hs] at HEN
          clear hok hgo hs
          go_wp2_with fail
          refine HEN.out.mono ?_
          rintro e_ w4 ⟨v4, rfl, ho, hb⟩
          obtain ⟨A4, c4, rfl⟩ := Kd.R_slice ho
          have HC4 := Aside0.mk (Kd.R_reads' ho).2.2
          obtain ⟨n4, hn4⟩ : ∃ q, s.length = q := ⟨_, rfl⟩
          rw [hn4] at HC4 hsl ⊢
          have HN4 := Aside0.mk hn4
          have HO4 := Aside0.mk (Kd.R_below HO3.out hb)
          have HE4 := Aside0.mk (Kd.R_below HE3.out hb)
          have HM4 := Aside0.mk (Kd.R_below HM3.out hb)
          have HB4 := Aside0.mk (HB3.out.trans (hb.mono (by have := HB3.out.size; have := HW1.out; omega)))
          have HQ4 : Aside0 (W1 ≤ w4.heap.size) := ⟨by have := HB4.out.size; have := HW1.out; omega⟩
          have hgl := HGL.out
          have hgs := HGS.out
          have hgx := HGX.out
          have HLN : Aside0 (E0.length ≤ 6 ∧ G0.length ≤ 6 ∧ B0.length ≤ 90072 ∧ n4 ≤ 15012 ∧ s.length = n4) := ⟨by rw [← hgx.1, endsE_len, hn4]; have := HN.out; omega⟩
          clear ho hb hn4 hsl hgl hgs hgx y0 y1 y2 y3 y4 y5 HEN HBW3 HED3 HO3 HE3 HM3 HB3
          go_wp2_with (first | ((with_reducible refine gate_builtin (b := .append) (xs := #[.tmp 46, .tmp 47]) rfl ?_); at_builtin; go_must (refine Kd.R_append_row (Value.int .u8) (0) (h1 := fun _ => rfl) (w0 := w1) (W1) rfl (.tmp 46) (.tmp 47) 22 5 (.int .u8 0) 1 rfl Try.underlying22 info5 rfl (by decide) u10 B0 s A4 (n4) c4 (fun _ => True) rfl rfl (fun _ _ => trivial) (HO4.out) (HC4.out) (HB4.out) HQ4.out ?aL_ ?_; (case aL_ => have := HLN.out; omega); intro v5 w5 ho hb hg hat; have HO5 := Aside0.mk ho; have HB5 := Aside0.mk hb; have HE5 := Aside0.mk (Kd.R_over HE4.out HO4.out (by decide) hg); have HM5 := Aside0.mk (Kd.R_over HM4.out HO4.out (km_ne (by decide) (by decide)) hg); have ho5 := HO5.out; obtain ⟨B1, hB1⟩ : ∃ q, B0 ++ s = q := ⟨_, rfl⟩; rw [hB1] at ho5; obtain ⟨Ab, cb, e5⟩ := Kd.R_slice ho5; subst e5; have HO5b := Aside0.mk ho5; have HBE := Aside0.mk hB1; have HQ5 : Aside0 (W1 ≤ w5.heap.size) := ⟨by have := HB5.out.size; have := HW1.out; omega⟩; clear ho5 HO5 hB1; clear ho hb hg hat)) | ((with_reducible refine gate_builtin (b := .append) (xs := #[.tmp 49, .tmp 52]) rfl ?_); at_builtin; go_must (refine Kd.R_append (Kd.int .i64) (w0 := w1) W1 rfl (.tmp 49) (.tmp 52) 60 3 (.int .i64 0) 8 rfl Try.underlying60 info3 rfl (by decide) (by decide) u11 E0 (B1.length : Int) [.int .i64 (B1.length : Int)] (fun _ => True) (fun _ => False) ?hs_ ?hx_ rfl (fun _ hk => hk.elim) (fun _ _ => trivial) HE5.out HB5.out HQ5.out (by have := HLN.out; omega) ?_; (case hs_ => rfl); (case hx_ => rfl); intro v6 w6 ho hb hg hat; have HO6 := Aside0.mk (Kd.R_over HO5b.out HE5.out (by decide) hg); have HM6 := Aside0.mk (Kd.R_over HM5.out HE5.out (km_ne (by decide) (by decide)) hg); have HE6 := Aside0.mk ho; have HB6 := Aside0.mk hb; have HBW6 := Aside0.mk (below_step HB1.out (HW1.out ▸ HB6.out)); have HQ6 : Aside0 (W1 ≤ w6.heap.size) := ⟨by have := HB6.out.size; have := HW1.out; omega⟩; obtain ⟨y0, y1, y2, y3, y4, y5⟩ := HYC.out w6 HBW6.out; clear ho hb hg hat)))
          refine (HCM.out w6 HBW6.out).mono ?_
          rintro e_ w7 ⟨cs, rfl, hm, hb⟩
          have hbw := HBW6.out.trans (hb.mono (by have := HBW6.out.size; exact this))
          have hed := km_ed ((KM w).K_of_M hm) hbw
          obtain ⟨d0, d1, dA2, dl2, dc2, dA3, dl3, dc3, dA4, dl4, dc4, dA5, dl5, dc5, hv⟩ := ed_six hed
          injection hv with hv
          subst hv
          have HO7 := Aside0.mk (Kd.R_below HO6.out hb)
          have HE7 := Aside0.mk (Kd.R_below HE6.out hb)
          have HM7 := Aside0.mk (Kd.R_below HM6.out hb)
          have HB7 := Aside0.mk (HB6.out.trans (hb.mono (by have := HB6.out.size; have := HW1.out; omega)))
          have HQ7 : Aside0 (W1 ≤ w7.heap.size) := ⟨by have := HB7.out.size; have := HW1.out; omega⟩
          have HM7e := Aside0.mk ((KM w).M_lower HQ6.out ((KM w).M_mono (ok' := fun k => w6.heap.size ≤ k) (fun k hk => hk.2.1) ((KM w).M_bound hm)))
          have HOK : Aside0 (∀ k, w6.heap.size ≤ k → True ∧ some k ≠ u12.ownBlock) := ⟨fun k hk => ⟨trivial, fun e_ => by obtain ⟨_, ho⟩ := Kd.R_own HM6.out; have := own_lt ho k e_.symm; omega⟩⟩
          clear hm hb hbw hed HCM HO6 HE6 HM6 HB6
          go_wp2_with ((with_reducible refine gate_builtin (b := .append) (xs := #[.tmp 54, .tmp 60]) rfl ?_); at_builtin; go_must (refine Kd.R_append (KM w) (w0 := w1) W1 rfl (.tmp 54) (.tmp 60) 71 66 (.agg #[.int .i64 0, .int .i64 0, .slice none 0 0, .slice none 0 0, .slice none 0 0, .slice none 0 0]) 112 rfl Try.underlying71 info66 rfl (by show 0 < 6; decide) (by decide) u12 G0 ec [.int .i64 d0, .int .i64 d1, .slice dA2 dl2 dc2, .slice dA3 dl3 dc3, .slice dA4 dl4 dc4, .slice dA5 dl5 dc5] (fun _ => True) (fun k => w6.heap.size ≤ k) ?hs_ ?hx_ HM7e.out (fun k hk => HOK.out k hk) (fun _ _ => trivial) HM7.out HB7.out HQ7.out (by have := HLN.out; omega) ?_; (case hs_ => rfl); (case hx_ => rfl); intro v8 w8 ho hb hg hat; have HO8 := Aside0.mk (Kd.R_over HO7.out HM7.out (by decide) hg); have HE8 := Aside0.mk (Kd.R_over HE7.out HM7.out (by decide) hg); have HM8 := Aside0.mk ho; have HB8 := Aside0.mk hb; clear ho hb hg hat))
          go_roundg f
          case measure => omega
          case rel => exact ⟨i + 1, rfl, ⟨by have := HI.out; omega⟩, ⟨by rw [HGN.out, seals_g_snoc, HGX.out.2, HSS.out, HBE.out]; exact HO8.out⟩, ⟨by rw [HGN.out, endsE_snoc, HGX.out.1, HGX.out.2, HSS.out, HBE.out]; exact HE8.out⟩, ⟨by rw [HGN.out]; exact HM8.out⟩, HB8⟩
        · have hok : edOk ec = false := by simpa using hok
          have HEN := Aside0.mk (encode_bad ec _ w3 HED3.out hok)
          have hgb := HGB.out hok
          have HGN := Aside0.mk hgb
          clear hok hgb
          go_wp2_with fail
          refine HEN.out.mono ?_
          rintro e_ w4 ⟨rfl, hb⟩
          have HO4 := Aside0.mk (Kd.R_below HO3.out hb)
          have HE4 := Aside0.mk (Kd.R_below HE3.out hb)
          have HM4 := Aside0.mk (Kd.R_below HM3.out hb)
          have HB4 := Aside0.mk (HB3.out.trans (hb.mono (by have := HB3.out.size; have := HW1.out; omega)))
          clear hb
          go_wp2_with fail
          go_roundg f
          case measure => omega
          case rel => exact ⟨i + 1, rfl, ⟨by have := HI.out; omega⟩, ⟨by rw [HGN.out, HGX.out.2]; exact HO4.out⟩, ⟨by rw [HGN.out, HGX.out.1]; exact HE4.out⟩, ⟨by rw [HGN.out]; exact HM4.out⟩, HB4⟩
      · rw [decide_eq_false hlt]
        obtain rfl : i = n := by omega
        obtain ⟨G, hG⟩ : ∃ q, gF l i = q := ⟨_, rfl⟩
        have hgw := gF_w HGD.out i
        have hgl := gF_len l i
        rw [hG] at HO HE HM hgw hgl
        have hgb := seals_bound G hgw
        have hbb := bys_seals (okt_eds hgw)
        have HGW := Aside0.mk hgw
        obtain ⟨bs, hbs⟩ : ∃ q, sealsL (G.map textL) = q := ⟨_, rfl⟩
        rw [hbs] at HO hgb hbb
        have HBS := Aside0.mk hbs
        have HBL : Aside0 (bs.length ≤ 90072 ∧ G.length ≤ 6) := ⟨by have := HN.out; omega⟩
        have HBB := Aside0.mk hbb
        obtain ⟨Ab, cb, e_⟩ := Kd.R_slice HO.out
        subst e_
        obtain ⟨Ae, ce, e_⟩ := Kd.R_slice HE.out
        subst e_
        obtain ⟨Am, cm, e_⟩ := Kd.R_slice HM.out
        subst e_
        rw [endsE_len] at HE ⊢
        have HTO := Aside0.mk (fun k hk => to_of Ab cb bs k hk (Kd.R_reads' HO.out).2.1)
        obtain ⟨nb, hnb⟩ : ∃ q, bs.length = q := ⟨_, rfl⟩
        obtain ⟨nG, hnG⟩ : ∃ q, G.length = q := ⟨_, rfl⟩
        have HNB := Aside0.mk hnb
        have HNG := Aside0.mk hnG
        rw [hnb] at HO HTO HBL ⊢
        rw [hnG] at HE HM HBL ⊢
        clear hix hlt hG hgw hgl hgb hbb hbs hnb hnG HR HGD
        go_upto_region 16 with fail
        go_cut [69] (fun s69 wx => wx = wr ∧ s69 = .bool (decide (0 ≤ a1 ∧ a1 ≤ (nb : Int))))
        case first =>
          by_cases q1 : 0 ≤ a1
          · have k1 : (0 ≤ a1) = True := eq_true q1
            by_cases q2 : a1 ≤ (nb : Int)
            · have k2 : (a1 ≤ (nb : Int)) = True := eq_true q2
              have KD : Aside0 (decide (0 ≤ a1 ∧ a1 ≤ (nb : Int)) = true) := ⟨decide_eq_true ⟨q1, q2⟩⟩
              clear q1 q2
              go_wp2_with fail
              go_meet
              exact ⟨rfl, by rw [KD.out]⟩
            · have k2 : (a1 ≤ (nb : Int)) = False := eq_false q2
              have KD : Aside0 (decide (0 ≤ a1 ∧ a1 ≤ (nb : Int)) = false) := ⟨decide_eq_false (fun h => q2 h.2)⟩
              clear q1 q2
              go_wp2_with fail
              go_meet
              exact ⟨rfl, by rw [KD.out]⟩
          · have k1 : (0 ≤ a1) = False := eq_false q1
            have KD : Aside0 (decide (0 ≤ a1 ∧ a1 ≤ (nb : Int)) = false) := ⟨decide_eq_false (fun h => q1 h.1)⟩
            clear q1
            go_wp2_with fail
            go_meet
            exact ⟨rfl, by rw [KD.out]⟩
        case rest =>
          obtain ⟨h1_, rfl⟩ := hcut
          subst wc
          go_upto_if 69 with fail
          go_cut [10] (fun s10 wx => ∃ (cy m : Nat), s10 = .slice Ab m cy ∧ wx = wr ∧ Aside0 (m ≤ nb ∧ m ≤ cy) ∧ Aside0 ((Kd.int .u8).R 5 wr W1 (fun _ => True) (.slice Ab m cy) (bs.take m)))
          case first =>
            by_cases q : 0 ≤ a1 ∧ a1 ≤ (nb : Int)
            · obtain ⟨k, rfl⟩ := Int.eq_ofNat_of_zero_le q.1
              have hk : k ≤ nb := by omega
              rw [decide_eq_true q]
              have hto := HTO.out k hk
              have htl : (bs.take k).length = k := by rw [List.length_take, HNB.out]; omega
              rw [htl] at hto
              have HRT := Aside0.mk (Kd.R_take HO.out (by rw [HNB.out]; exact hk))
              have HCY : Aside0 (k ≤ nb ∧ k ≤ cb) := ⟨hk, by have := (Kd.R_reads' HO.out).2.1; omega⟩
              clear q htl
              go_wp2_with fail
              go_meet
              exact ⟨cb, k, rfl, rfl, HCY, HRT⟩
            · rw [decide_eq_false q]
              have HRT : Aside0 ((Kd.int .u8).R 5 wr W1 (fun _ => True) (.slice Ab nb cb) (bs.take nb)) := ⟨by rw [List.take_of_length_le (by rw [HNB.out]; exact Nat.le_refl _)]; exact HO.out⟩
              have HCY : Aside0 (nb ≤ nb ∧ nb ≤ cb) := ⟨Nat.le_refl _, by have := (Kd.R_reads' HO.out).2.1; exact this⟩
              clear q
              go_wp2_with fail
              go_meet
              exact ⟨cb, nb, rfl, rfl, HCY, HRT⟩
          case rest =>
            obtain ⟨cy, m, rfl, h1_, HCY, HO6⟩ := hcut
            subst wc
            clear HTO HO
            have HML : Aside0 ((bs.take m).length = m) := ⟨by rw [List.length_take, HNB.out]; have := HCY.out; omega⟩
            obtain ⟨P, hP⟩ : ∃ q, decide (0 < m ∧ 0 ≤ a2 ∧ x ≠ 0 ∧ a1.tmod 2 = 1) = q := ⟨_, rfl⟩
            have HPT : Aside0 (0 < m ∧ 0 ≤ a2 ∧ x ≠ 0 ∧ a1.tmod 2 = 1 → P = true) := ⟨fun h => by rw [← hP]; exact decide_eq_true h⟩
            have HPF : Aside0 (¬ (0 < m ∧ 0 ≤ a2 ∧ x ≠ 0 ∧ a1.tmod 2 = 1) → P = false) := ⟨fun h => by rw [← hP]; exact decide_eq_false h⟩
            have HP1 : Aside0 (P = true → 0 < m ∧ 0 ≤ a2 ∧ x ≠ 0) := ⟨fun h => by have h2 : 0 < m ∧ 0 ≤ a2 ∧ x ≠ 0 ∧ a1.tmod 2 = 1 := of_decide_eq_true (by rw [hP]; exact h); exact ⟨h2.1, h2.2.1, h2.2.2.1⟩⟩
            have hrm : IntKind.i64.wrap (a1.tmod 2) = a1.tmod 2 := by have := HA.out; rw [IntKind.wrap_i64]; have := Int.tmod_lt_of_pos a1 (by decide : (0 : Int) < 2); have := Int.lt_tmod_of_pos a1 (by decide : (0 : Int) < 2); omega
            clear hP
            go_upto_region 18 with fail
            go_cut [88] (fun s88 wx => wx = wr ∧ s88 = .bool P)
            case first =>
              as_aux_lemma =>
                by_cases q0 : 0 < m
                · have k0 : ((0 : Int) < (m : Int)) = True := eq_true (by omega)
                  have kn0 : (0 < m) = True := eq_true q0
                  by_cases q1 : 0 ≤ a2
                  · have k1 : (0 ≤ a2) = True := eq_true q1
                    by_cases q2 : x ≠ 0
                    · have k2 : (x != 0) = true := bne_iff_ne.2 q2
                      by_cases q3 : a1.tmod 2 = 1
                      · have k3 : (a1.tmod 2 == 1) = true := beq_iff_eq.2 q3
                        have kd : P = true := HPT.out ⟨q0, q1, q2, q3⟩
                        clear q0 q1 q2 q3
                        go_wp2_with fail
                        go_meet
                        exact ⟨rfl, by rw [kd]⟩
                      · have k3 : (a1.tmod 2 == 1) = false := beq_eq_false_iff_ne.2 q3
                        have kd : P = false := HPF.out (fun h => q3 h.2.2.2)
                        clear q0 q1 q2 q3
                        go_wp2_with fail
                        go_meet
                        exact ⟨rfl, by rw [kd]⟩
                    · have k2 : (x != 0) = false := by simpa using q2
                      have kd : P = false := HPF.out (fun h => q2 h.2.2.1)
                      clear q0 q1 q2
                      go_wp2_with fail
                      go_meet
                      exact ⟨rfl, by rw [kd]⟩
                  · have k1 : (0 ≤ a2) = False := eq_false q1
                    have kd : P = false := HPF.out (fun h => q1 h.2.1)
                    clear q0 q1
                    go_wp2_with fail
                    go_meet
                    exact ⟨rfl, by rw [kd]⟩
                · have k0 : ((0 : Int) < (m : Int)) = False := eq_false (by omega)
                  have kn0 : (0 < m) = False := eq_false q0
                  have kd : P = false := HPF.out (fun h => q0 h.1)
                  clear q0
                  go_wp2_with fail
                  go_meet
                  exact ⟨rfl, by rw [kd]⟩
            case rest =>
              obtain ⟨h1_, rfl⟩ := hcut
              subst wc
              clear HPT HPF hrm
              go_upto_if 88 with fail
              go_cut [2, 16] (fun s2 s16 wx => ∃ (SP : Bool) (at_ : Int) (bx : List Int), s2 = .int .i64 at_ ∧ s16 = .bool SP ∧ Aside0 (∃ k, k ≤ G.length ∧ (∀ j, j < k → EE G (j + 1) ≤ m ∧ (SP = true → ((EE G (j + 1) : Nat) : Int) ≤ at_)) ∧ (k < G.length → m < EE G (k + 1) ∨ (SP = true ∧ at_ < ((EE G (k + 1) : Nat) : Int))) ∧ ∃ ok, escanL bx = (G.take k, EE G k, ok) ∧ (SP = false → ok = true)) ∧ Aside0 (Bys bx) ∧ Aside0 ((Kd.int .u8).C wx Ab m bx ∧ bx.length = m) ∧ Aside0 ((Kd.int .i64).C wx Ae nG (endsE G)) ∧ Aside0 ((KM w).C wx Am nG G) ∧ Aside0 (Below w.heap.size w wx))
              case first =>
                cases P with
                | true =>
                  as_aux_lemma =>
                    obtain ⟨h0, hp2, hp3⟩ := HP1.out (by first | rfl | trivial)
                    obtain ⟨k, hk⟩ := Int.eq_ofNat_of_zero_le (Int.emod_nonneg a2 (by omega : (m : Int) ≠ 0))
                    have hkl : k < m := by have := Int.emod_lt_of_pos a2 (by omega : (0 : Int) < (m : Int)); omega
                    have hr1 : a2.tmod (m : Int) = (k : Int) := by rw [Int.tmod_eq_emod_of_nonneg (by omega)]; exact hk
                    have hr2 : IntKind.i64.wrap (k : Int) = (k : Int) := by have := HBL.out; have := HCY.out; rw [IntKind.wrap_i64]; omega
                    have hml := HML.out
                    have hby := bys_take HBB.out m
                    have hxb := rd_bys hby (i := k) (by omega)
                    obtain ⟨y, hy⟩ : ∃ y, rd (bs.take m) (k : Int) = y := ⟨_, rfl⟩
                    obtain ⟨z, hz⟩ : ∃ z, bits .xor .u8 y x = z := ⟨_, rfl⟩
                    rw [hy] at hxb
                    have hxa := HA.out.1
                    have hzv := u8_xor y x hxb.1 hxb.2 hxa.1 hxa.2
                    rw [hz] at hzv
                    have hzb : 0 ≤ z ∧ z < 256 := by
                      have : y.toNat ^^^ x.toNat < 2 ^ 8 := Nat.xor_lt_two_pow (by omega) (by omega)
                      omega
                    have hzy : z ≠ y := by
                      intro e
                      have h3 : y.toNat ^^^ x.toNat = y.toNat ^^^ 0 := by rw [Nat.xor_zero]; omega
                      have := CrL.xor_cancel h3
                      omega
                    have hsp := er_rot HGW.out (m := m) (i := k) (by rw [HBS.out, HNB.out]; exact HCY.out.1) hkl hzb (by rw [HBS.out, hy]; exact hzy)
                    rw [HBS.out] at hsp
                    have HSPC := Aside0.mk hsp
                    have HBX := Aside0.mk (CrJ.bys_set (k := k) hby hzb)
                    have hln : ((bs.take m).set k z).length = m := by rw [List.length_set]; exact hml
                    have HLN := Aside0.mk hln
                    have hkz : ((k : Int) < (m : Int)) = True := eq_true (by omega)
                    have hrd := hy
                    have ho6 : (Kd.int .u8).R 5 wr W1 (fun _ => True) (.slice Ab (bs.take m).length cy) (bs.take m) := by rw [HML.out]; exact HO6.out
                    obtain ⟨g, c4, e4, hgb, hgl, hj_⟩ := Kd.R_form ho6 (by omega)
                    injection e4 with e5 e6 e7
                    subst e5
                    subst e7
                    obtain ⟨inn, hown⟩ := Kd.R_own ho6
                    obtain ⟨cells, hcells⟩ := own_typed hown g (by simp [Value.ownBlock])
                    have hcl := Kd.R_cell 0 ho6 (k : Int) (by omega) (by omega)
                    obtain ⟨hpr, hpg⟩ := Kd.R_put ho6 (k : Int) z
                    rw [Int.toNat_natCast] at hcl hpr hpg
                    rw [show rdOf 0 (bs.take m) (k : Int) = y from hrd] at hcl
                    obtain ⟨hc1, hc2⟩ := hcl
                    have HE7 := Aside0.mk (Kd.R_reads' (Kd.R_set HE.out hcells (by decide) k (.int .u8 z))).2.2
                    have HM7 := Aside0.mk (Kd.R_reads' (Kd.R_set HM.out hcells (km_ne (by decide) (by decide)) k (.int .u8 z))).2.2
                    have HPR := Aside0.mk (Kd.R_reads' hpr).2.2
                    have HB7 := Aside0.mk (below_step HB1.out (HW1.out ▸ (pw_below_grown HB.out (some g) (by have := HB.out.size; have := HW1.out; omega) hpg (fun q hq => by simp [Value.ownBlock] at hq; omega))))
                    clear hzv hzb hy hrd hln hj_ hpr hpg h0 hp2 hp3 hxb hxa hml hby hzy hsp hown hcells e6 ho6
                    go_wp2_with fail
                    go_meet
                    exact ⟨true, (k : Int), _, rfl, rfl, ⟨by obtain ⟨kk, g1, g2, g3, ok, g4⟩ := HSPC.out; exact ⟨kk, g1, fun j hj => ⟨(g2 j hj).1, fun _ => by have := (g2 j hj).2; omega⟩, fun h => by rcases g3 h with g | g; exact .inl g; exact .inr ⟨rfl, by omega⟩, ok, g4, fun h => by cases h⟩⟩, HBX, ⟨by have := HPR.out; rw [HLN.out] at this; exact this, HLN.out⟩, ⟨by have := HE7.out; rw [endsE_len, HNG.out] at this; exact this⟩, ⟨by have := HM7.out; rw [HNG.out] at this; exact this⟩, HB7⟩
                | false =>
                  as_aux_lemma =>
                    have hsp := er_cut HGW.out (m := m) (by rw [HBS.out, HNB.out]; exact HCY.out.1)
                    rw [HBS.out] at hsp
                    have HSPC := Aside0.mk hsp
                    clear hsp
                    have HBX := Aside0.mk (bys_take HBB.out m)
                    have HC6 : Aside0 ((Kd.int .u8).C wr Ab m (bs.take m) ∧ (bs.take m).length = m) := ⟨by have := (Kd.R_reads' HO6.out).2.2; rw [HML.out] at this; exact this, HML.out⟩
                    have HE7 : Aside0 ((Kd.int .i64).C wr Ae nG (endsE G)) := ⟨by have := (Kd.R_reads' HE.out).2.2; rw [endsE_len, HNG.out] at this; exact this⟩
                    have HM7 : Aside0 ((KM w).C wr Am nG G) := ⟨by have := (Kd.R_reads' HM.out).2.2; rw [HNG.out] at this; exact this⟩
                    have HB7 : Aside0 (Below w.heap.size w wr) := ⟨below_step HB1.out (HW1.out ▸ HB.out)⟩
                    go_wp2_with fail
                    go_meet
                    exact ⟨false, a2, _, rfl, rfl, ⟨by obtain ⟨kk, g1, g2, g3, g4⟩ := HSPC.out; exact ⟨kk, g1, fun j hj => ⟨g2 j hj, fun h => by cases h⟩, fun h => .inl (g3 h), true, g4, fun _ => rfl⟩⟩, HBX, HC6, HE7, HM7, HB7⟩
              case rest =>
                clear HO6 HE HM HB HML HP1
                obtain ⟨SP, at_, bx, rfl, rfl, HSPC, HBX, HC, HE, HM, HB⟩ := hcut
                obtain ⟨K, hK1, hK2, hK3, ok, hsc, hok⟩ := HSPC.out
                rw [HNG.out] at hK1 hK3
                have HSC := Aside0.mk (fun wx h => escan_calls Ab cy bx HBX.out wx h (by rw [HC.out.2]; exact HCY.out.2) (by rw [HC.out.2]; have := HCY.out; have := HBL.out; omega))
                have HKL : Aside0 ((G.take K).length = K) := ⟨by rw [List.length_take, HNG.out]; omega⟩
                rw [hsc, HC.out.2] at HSC
                have HK1 := Aside0.mk hK1
                have HK2 := Aside0.mk hK2
                have HK3 := Aside0.mk hK3
                have HOK := Aside0.mk hok
                clear hsc hok hK1 hK2 hK3 HSPC
                go_wp2_with fail
                refine (HSC.out wc HC.out.1).mono ?_
                rintro e_ w5 ⟨v5, rfl, ho, hb⟩
                obtain ⟨Ag, cg, rfl⟩ := Kd.R_slice ho
                have HG5 := Aside0.mk (Kd.R_reads' ho).2.2
                rw [HKL.out] at HG5 ⊢
                have HE5 := Aside0.mk (Kd.C_below HE.out hb)
                have HM5 := Aside0.mk (Kd.C_below HM.out hb)
                have HB5 := Aside0.mk (below_step HB.out hb)
                clear ho hb HSC HE HM HC HBX HB
                obtain ⟨n20, hn20⟩ : ∃ q, EE G K = q := ⟨_, rfl⟩
                rw [hn20]
                have HN20 := Aside0.mk hn20
                clear hn20
                go_wp2_with fail
                go_loopg [20] K (fun q v20 w' => ∃ j : Nat, v20 = .int .i64 (j : Int) ∧ Aside0 (j + q = K) ∧ Aside0 (Below w5.heap.size w5 w'))
                case atStart => exact ⟨0, rfl, ⟨by omega⟩, ⟨Below.refl _ _⟩⟩
                case round =>
                  obtain ⟨j, rfl, HJ, HBJ⟩ := hrel
                  have hjx := HJ.out
                  go_upto_region 24 with fail
                  go_cut [130] (fun s130 wx => wx = wr ∧ s130 = .bool (decide (j < K)))
                  case first =>
                    as_aux_lemma =>
                      by_cases hjn : j < nG
                      · obtain ⟨ade, e_, h0⟩ := i64_at (Kd.C_below HE5.out HBJ.out) j hjn
                        subst e_
                        rw [endsE_getD (by rw [HNG.out]; exact hjn)] at h0
                        have hj2 := HK2.out j
                        have hj3 := HK3.out
                        obtain ⟨ej, hej⟩ : ∃ q, EE G (j + 1) = q := ⟨_, rfl⟩
                        rw [hej] at h0 hj2
                        have hj4 : j = K → m < ej ∨ (SP = true ∧ at_ < (ej : Int)) := fun h => by subst h; rw [← hej]; exact hj3 hjn
                        have k0 : ((j : Int) < (nG : Int)) = True := eq_true (by omega)
                        by_cases q1 : ej ≤ m
                        · have k1 : ((ej : Int) ≤ (m : Int)) = True := eq_true (by omega)
                          cases SP with
                          | true =>
                            by_cases q2 : at_ < (ej : Int)
                            · have k2 : (at_ < (ej : Int)) = True := eq_true q2
                              have KD : Aside0 (decide (j < K) = false) := ⟨decide_eq_false (fun h => by have := (hj2 h).2 rfl; omega)⟩
                              clear q1 q2 hj2 hj3 hj4 hej hjx
                              go_wp2_with fail
                              go_meet
                              exact ⟨rfl, by rw [KD.out]⟩
                            · have k2 : (at_ < (ej : Int)) = False := eq_false q2
                              have KD : Aside0 (decide (j < K) = true) := ⟨decide_eq_true (by
                                by_cases h : j = K
                                · rcases hj4 h with h | h
                                  · omega
                                  · exact absurd h.2 q2
                                · omega)⟩
                              clear q1 q2 hj2 hj3 hj4 hej hjx
                              go_wp2_with fail
                              go_meet
                              exact ⟨rfl, by rw [KD.out]⟩
                          | false =>
                            have KD : Aside0 (decide (j < K) = true) := ⟨decide_eq_true (by
                              by_cases h : j = K
                              · rcases hj4 h with h | h
                                · omega
                                · exact absurd h.1 (by decide)
                              · omega)⟩
                            clear q1 hj2 hj3 hj4 hej hjx
                            go_wp2_with fail
                            go_meet
                            exact ⟨rfl, by rw [KD.out]⟩
                        · have k1 : ((ej : Int) ≤ (m : Int)) = False := eq_false (by omega)
                          have KD : Aside0 (decide (j < K) = false) := ⟨decide_eq_false (fun h => by have := (hj2 h).1; omega)⟩
                          clear q1 hj2 hj3 hj4 hej hjx
                          go_wp2_with fail
                          go_meet
                          exact ⟨rfl, by rw [KD.out]⟩
                      · have k0 : ((j : Int) < (nG : Int)) = False := eq_false (by omega)
                        have KD : Aside0 (decide (j < K) = false) := ⟨decide_eq_false (by have := HK1.out; omega)⟩
                        clear hjx
                        go_wp2_with fail
                        go_meet
                        exact ⟨rfl, by rw [KD.out]⟩
                  case rest =>
                    obtain ⟨h1_, rfl⟩ := hcut
                    subst wc
                    by_cases hjt : j < K
                    · obtain ⟨fj, rfl⟩ : ∃ f, gk = f + 1 := ⟨gk - 1, by omega⟩
                      rw [decide_eq_true hjt]
                      have kw : IntKind.i64.wrap ((j : Int) + 1) = ((j + 1 : Nat) : Int) := by have := HK1.out; have := HBL.out; rw [IntKind.wrap_i64]; omega
                      clear hjx
                      go_wp2_with fail
                      go_roundg fj
                      case measure => omega
                      case rel => exact ⟨j + 1, rfl, ⟨by have := HJ.out; omega⟩, HBJ⟩
                    · rw [decide_eq_false hjt]
                      obtain rfl : j = K := by omega
                      clear hjx hjt HK2 HK3
                      have HBR := HBJ
                      go_upto_region 26 with fail
                      go_cut [149] (fun s149 wx => wx = wr ∧ s149 = .bool false)
                      case first =>
                        as_aux_lemma =>
                          rcases Nat.eq_zero_or_pos j with rfl | hpos
                          · go_wp2_with fail
                            go_meet
                            exact ⟨rfl, rfl⟩
                          · obtain ⟨j', rfl⟩ : ∃ j', j = j' + 1 := ⟨j - 1, by omega⟩
                            obtain ⟨ade, e_, h0⟩ := i64_at (Kd.C_below HE5.out HBR.out) j' (by have := HK1.out; omega)
                            subst e_
                            rw [endsE_getD (by rw [HNG.out]; have := HK1.out; omega), HN20.out] at h0
                            have k1 : ((0 : Int) < ((j' + 1 : Nat) : Int)) = True := eq_true (by omega)
                            have k2 : (0 < j' + 1) = True := eq_true (by omega)
                            have k3 : ((0 : Int) < (j' : Int) + 1) = True := eq_true (by omega)
                            have k4 : IntKind.i64.wrap (j' : Int) = (j' : Int) := by have := HK1.out; have := HBL.out; rw [IntKind.wrap_i64]; omega
                            have k5 : IntKind.i64.wrap ((j' : Int) + 1 - 1) = (j' : Int) := by have := HK1.out; have := HBL.out; rw [IntKind.wrap_i64]; omega
                            have k6 : IntKind.i64.wrap (((j' + 1 : Nat) : Int) - 1) = (j' : Int) := by have := HK1.out; have := HBL.out; rw [IntKind.wrap_i64]; omega
                            have k7 : ((j' : Int) < (nG : Int)) = True := eq_true (by have := HK1.out; omega)
                            clear hpos
                            go_wp2_with fail
                            go_meet
                            exact ⟨rfl, by first | rfl | simp⟩
                      case rest =>
                        obtain ⟨h1_, rfl⟩ := hcut
                        subst wc
                        clear HE5 HN20 HJ HBJ
                        go_wp2_with fail
                        go_loopg [21] j (fun q v21 w' => ∃ i2 : Nat, v21 = .int .i64 (i2 : Int) ∧ Aside0 (i2 + q = j) ∧ Aside0 (Below w5.heap.size w5 w'))
                        case atStart => exact ⟨0, rfl, ⟨by omega⟩, HBR⟩
                        case round =>
                          clear HBR
                          obtain ⟨t, rfl, HT, HBT⟩ := hrel
                          have htx := HT.out
                          by_cases htl : t < j
                          · obtain ⟨ft, rfl⟩ : ∃ f, gk = f + 1 := ⟨gk - 1, by omega⟩
                            have k0 : ((t : Int) < (j : Int)) = True := eq_true (by omega)
                            have k1 : ((t : Int) < (nG : Int)) = True := eq_true (by have := HK1.out; omega)
                            have kw : IntKind.i64.wrap ((t : Int) + 1) = ((t + 1 : Nat) : Int) := by have := HK1.out; have := HBL.out; rw [IntKind.wrap_i64]; omega
                            obtain ⟨ad, m0, m1, mA2, ml2, mc2, mA3, ml3, mc3, mA4, ml4, mc4, mA5, ml5, mc5, e_, s00, s01, s02, s03, s04, s05, hed0⟩ := ed_at6 (Kd.C_below HG5.out HBT.out) t htl
                            subst e_
                            obtain ⟨ad2, f0, f1, fA2, fl2, fc2, fA3, fl3, fc3, fA4, fl4, fc4, fA5, fl5, fc5, e_, s10, s11, s12, s13, s14, s15, hed1⟩ := km_at (Kd.C_below HM5.out HBT.out) (below_step HB5.out HBT.out) t (by have := HK1.out; omega)
                            subst e_
                            rw [take_getD_lt htl] at hed0
                            generalize G.getD t ed0 = eo at *
                            have HE0 := Aside0.mk hed0
                            have HE1 := Aside0.mk hed1
                            clear htx hed0 hed1
                            go_wp2_with fail
                            refine wp_region_mix (fun w_ w1_ => Below w_.heap.size w_ w1_) [(false, 0), (false, 1), (false, 2), (false, 3), (false, 4), (false, 5), (false, 6), (false, 7), (true, 8), (false, 9)] (by kernel_rfl) (by kernel_rfl) (fun _ => Below.refl _ _) (fun h h' => below_step h h') (fun wd hhp_ hbw_ => ?_)
                            have HBd := Aside0.mk (below_step HBT.out hbw_)
                            have HE0d := Aside0.mk (ed_below HE0.out hbw_)
                            have HE1d := Aside0.mk (ed_below HE1.out hbw_)
                            have g00 := pw_cell_below hbw_ s00
                            have g01 := pw_cell_below hbw_ s01
                            have g02 := pw_cell_below hbw_ s02
                            have g03 := pw_cell_below hbw_ s03
                            have g04 := pw_cell_below hbw_ s04
                            have g05 := pw_cell_below hbw_ s05
                            have g10 := pw_cell_below hbw_ s10
                            have g11 := pw_cell_below hbw_ s11
                            have g12 := pw_cell_below hbw_ s12
                            have g13 := pw_cell_below hbw_ s13
                            have g14 := pw_cell_below hbw_ s14
                            have g15 := pw_cell_below hbw_ s15
                            clear hhp_ hbw_ s00 s01 s02 s03 s04 s05 s10 s11 s12 s13 s14 s15
                            (refine mix_read (o := { dst := some 155, op := Op.move (Operand.tmp 17), type := 71, pos := "law.go:104", after := #[], guard := none }) rfl (by first | rfl | (simp [Region.wanted, yielded]; done)) (by intro w_ hE_; (try dsimp only at hE_); first | (go_simp; done) | (go_simp; rfl)) ?_)
                            (try simp only [Act.put, List.setIfInBounds_toArray, List.set_cons_zero, List.set_cons_succ])
                            (refine mix_read (o := { dst := some 156, op := Op.move (Operand.tmp 21), type := 3, pos := "law.go:104", after := #[], guard := none }) rfl (by first | rfl | (simp [Region.wanted, yielded]; done)) (by intro w_ hE_; (try dsimp only at hE_); first | (go_simp; done) | (go_simp; rfl)) ?_)
                            (try simp only [Act.put, List.setIfInBounds_toArray, List.set_cons_zero, List.set_cons_succ])
                            (refine mix_read (o := { dst := some 157, op := Op.indexAddr 71 (Operand.tmp 155) (Operand.tmp 156), type := 0, pos := "law.go:104", after := #[{ on := 0, ground := Ground.data }, { on := 1, ground := Ground.data }], guard := none }) rfl (by first | rfl | (simp [Region.wanted, yielded]; done)) (by intro w_ hE_; (try dsimp only at hE_); first | (go_simp; done) | (go_simp; rfl)) ?_)
                            (try simp only [Act.put, List.setIfInBounds_toArray, List.set_cons_zero, List.set_cons_succ])
                            (refine mix_read (o := { dst := some 158, op := Op.load 66 (Operand.tmp 157), type := 66, pos := "law.go:104", after := #[{ on := 2, ground := Ground.data }], guard := none }) rfl (by first | rfl | (simp [Region.wanted, yielded]; done)) (by intro w_ hE_; (try dsimp only at hE_); have z0_ := pw_cell_below hE_ g00; have z1_ := pw_cell_below hE_ g01; have z2_ := pw_cell_below hE_ g02; have z3_ := pw_cell_below hE_ g03; have z4_ := pw_cell_below hE_ g04; have z5_ := pw_cell_below hE_ g05; first | (go_simp; done) | (go_simp; rfl)) ?_)
                            (try simp only [Act.put, List.setIfInBounds_toArray, List.set_cons_zero, List.set_cons_succ])
                            (refine mix_read (o := { dst := some 159, op := Op.move (Operand.tmp 12), type := 71, pos := "law.go:104", after := #[], guard := none }) rfl (by first | rfl | (simp [Region.wanted, yielded]; done)) (by intro w_ hE_; (try dsimp only at hE_); first | (go_simp; done) | (go_simp; rfl)) ?_)
                            (try simp only [Act.put, List.setIfInBounds_toArray, List.set_cons_zero, List.set_cons_succ])
                            (refine mix_read (o := { dst := some 160, op := Op.move (Operand.tmp 21), type := 3, pos := "law.go:104", after := #[], guard := none }) rfl (by first | rfl | (simp [Region.wanted, yielded]; done)) (by intro w_ hE_; (try dsimp only at hE_); first | (go_simp; done) | (go_simp; rfl)) ?_)
                            (try simp only [Act.put, List.setIfInBounds_toArray, List.set_cons_zero, List.set_cons_succ])
                            (refine mix_read (o := { dst := some 161, op := Op.indexAddr 71 (Operand.tmp 159) (Operand.tmp 160), type := 0, pos := "law.go:104", after := #[{ on := 4, ground := Ground.data }, { on := 5, ground := Ground.data }], guard := none }) rfl (by first | rfl | (simp [Region.wanted, yielded]; done)) (by intro w_ hE_; (try dsimp only at hE_); first | (go_simp; done) | (go_simp; rfl)) ?_)
                            (try simp only [Act.put, List.setIfInBounds_toArray, List.set_cons_zero, List.set_cons_succ])
                            (refine mix_read (o := { dst := some 162, op := Op.load 66 (Operand.tmp 161), type := 66, pos := "law.go:104", after := #[{ on := 6, ground := Ground.data }], guard := none }) rfl (by first | rfl | (simp [Region.wanted, yielded]; done)) (by intro w_ hE_; (try dsimp only at hE_); have z0_ := pw_cell_below hE_ g10; have z1_ := pw_cell_below hE_ g11; have z2_ := pw_cell_below hE_ g12; have z3_ := pw_cell_below hE_ g13; have z4_ := pw_cell_below hE_ g14; have z5_ := pw_cell_below hE_ g15; first | (go_simp; done) | (go_simp; rfl)) ?_)
                            (try simp only [Act.put, List.setIfInBounds_toArray, List.set_cons_zero, List.set_cons_succ])
                            refine mix_call (o := { dst := some 163, op := Op.call { callee := Callee.value (Operand.func 48), args := #[Operand.tmp 158, Operand.tmp 162], argTypes := #[66, 66] }, type := 4, pos := "law.go:104", after := #[{ on := 3, ground := Ground.data }, { on := 7, ground := Ground.data }], guard := none }) rfl (by first | rfl | (simp [Region.wanted, yielded]; done)) (by first | (go_simp; done) | (go_simp; exact ⟨rfl, rfl⟩) | (go_simp; rfl)) ?_
                            refine (eqe_same _ _ _ wd HE0d.out HE1d.out).mono ?_
                            rintro e_ y1 ⟨rfl, hb⟩
                            refine ⟨_, rfl, hb, ?_⟩
                            have HBf := Aside0.mk (below_step HBd.out hb)
                            clear hb
                            (try simp only [Act.put, List.setIfInBounds_toArray, List.set_cons_zero, List.set_cons_succ])
                            (refine mix_read (o := { dst := some 164, op := Op.unOp UnOp.not 4 (Operand.tmp 163), type := 4, pos := "law.go:104", after := #[{ on := 8, ground := Ground.data }], guard := none }) rfl (by first | rfl | (simp [Region.wanted, yielded]; done)) (by intro w_ hE_; (try dsimp only at hE_); first | (go_simp; done) | (go_simp; rfl)) ?_)
                            (try simp only [Act.put, List.setIfInBounds_toArray, List.set_cons_zero, List.set_cons_succ])
                            refine mix_nil ?_
                            go_wp2_with fail
                            go_roundg ft
                            case measure => omega
                            case rel => exact ⟨t + 1, rfl, ⟨by have := HT.out; omega⟩, HBf⟩
                          · have k0 : ((t : Int) < (j : Int)) = False := eq_false (by omega)
                            clear htx htl
                            cases SP with
                            | true =>
                              go_wp2
                              go_ret
                              exact ⟨by first | rfl | simp, below_step HB5.out HBT.out⟩
                            | false =>
                              obtain rfl := HOK.out (by first | rfl | trivial)
                              go_wp2
                              go_ret
                              exact ⟨by first | rfl | simp, below_step HB5.out HBT.out⟩
end Go.Proofs.Ytfojeegepfjbiaa.ErWalk
