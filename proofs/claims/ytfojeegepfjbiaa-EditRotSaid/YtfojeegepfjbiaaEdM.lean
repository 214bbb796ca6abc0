/- Contract of edit.Scan. -/
import Derived.Test.YtfojeegepfjbiaaProg
import Derived.Below
import Derived.Deep.Draws
import Derived.Deep.AppendLies
import Derived.Maps.AppendAt
import Derived.OwnWalk
import Derived.Laws.BytesArg
import Derived.Laws.MakeOwn
import Derived.Laws.OwnMore
import Derived.Deep.OwnRows
import Derived.Tactics
import Derived.Lib.ConvBytes
import Derived.Laws.Slices
import Derived.WalkKit
import Derived.KernelRfl
import Derived.RowKit3
import Derived.Deep.LoopGhost
import Derived.Deep.QuietTactic
import Derived.BigQuiet
import Derived.WideLaws
import Derived.Deep.DeepCutAuto
import Derived.Deep.CutBlock
import Derived.Deep.RegionHeld3
import Derived.Laws.Rows
import Derived.Lib.AppendStr
import Derived.ArgAppend
import Derived.Laws.IdiomCopy
import Derived.OrdersHeld
import Derived.Laws.BitsLemmas
import Derived.RowKit
import Derived.Deep.RegionWith
import Derived.WalkSpells
import Derived.Outline
import Derived.Test.YtfojeegepfjbiaaWWords
import Derived.Test.YtfojeegepfjbiaaWLast
import Derived.Test.YtfojeegepfjbiaaWMore
import Derived.Test.YtfojeegepfjbiaaWArr
import Derived.Test.YtfojeegepfjbiaaWTab
import Derived.Test.YtfojeegepfjbiaaWZeros
import Derived.Test.YtfojeegepfjbiaaWRepsOne
import Derived.Test.YtfojeegepfjbiaaEdL
namespace Go.Proofs.Ytfojeegepfjbiaa.EdM
open Go.RowKit Go.Proofs.YtfojeegepfjbiaaW.PrintWords Go.Proofs.YtfojeegepfjbiaaW.PrintLast Go.Proofs.YtfojeegepfjbiaaW.PrintMore Go.Proofs.Ytfojeegepfjbiaa.Mix Go.Proofs.Ytfojeegepfjbiaa.MixB Go.Proofs.Ytfojeegepfjbiaa.MixT Go.Proofs.Ytfojeegepfjbiaa.Nm Go.Proofs.Ytfojeegepfjbiaa.NmA Go.Proofs.Ytfojeegepfjbiaa.NmB Go.Proofs.Ytfojeegepfjbiaa.NmC Go.Proofs.Ytfojeegepfjbiaa.NmH Go.Proofs.Ytfojeegepfjbiaa.CrP Go.Proofs.Ytfojeegepfjbiaa.CrA Go.Proofs.Ytfojeegepfjbiaa.CrB Go.Proofs.Ytfojeegepfjbiaa.CrC Go.Proofs.Ytfojeegepfjbiaa.CrD Go.Proofs.Ytfojeegepfjbiaa.CrE Go.Proofs.Ytfojeegepfjbiaa.CrG Go.Proofs.Ytfojeegepfjbiaa.CrH Go.Proofs.Ytfojeegepfjbiaa.EdZ Go.Proofs.Ytfojeegepfjbiaa.EdA Go.Proofs.Ytfojeegepfjbiaa.EdB Go.Proofs.Ytfojeegepfjbiaa.EdC Go.Proofs.Ytfojeegepfjbiaa.EdD Go.Proofs.Ytfojeegepfjbiaa.EdE Go.Proofs.Ytfojeegepfjbiaa.EdF Go.Proofs.Ytfojeegepfjbiaa.EdG Go.Proofs.Ytfojeegepfjbiaa.EdH Go.Proofs.Ytfojeegepfjbiaa.EdI Go.Proofs.Ytfojeegepfjbiaa.EdJ Go.Proofs.Ytfojeegepfjbiaa.EdK Go.Proofs.Ytfojeegepfjbiaa.EdL
set_option linter.unusedSimpArgs false
set_option linter.unusedVariables false
attribute [local go_sem] max2_int min2_int max_two min_two

theorem ed_forms {w : World} {base : Nat} {ok : Nat → Prop} {e : EdT} {a b : Int} {va vd vp vr : Value} (h : KEd.M w base ok e [.int .i64 a, .int .i64 b, va, vd, vp, vr]) : ∃ A1 c1 A2 c2 A3 c3 A4 c4, va = .slice A1 e.2.2.1.length c1 ∧ vd = .slice A2 e.2.2.2.1.length c2 ∧ vp = .slice A3 e.2.2.2.2.1.length c3 ∧ vr = .slice A4 e.2.2.2.2.2.length c4 := by
  have h2 := ed_of_K (cs := #[.int .i64 a, .int .i64 b, va, vd, vp, vr]) (KEd.K_of_M h)
  obtain ⟨A1, c1, A2, c2, A3, c3, A4, c4, e1, _⟩ := h2
  simp only [Value.agg.injEq, Array.mk.injEq, List.cons.injEq] at e1
  exact ⟨A1, c1, A2, c2, A3, c3, A4, c4, e1.2.2.1, e1.2.2.2.1, e1.2.2.2.2.1, e1.2.2.2.2.2.1⟩
set_option maxRecDepth 100000 in
set_option maxHeartbeats 2000000 in
theorem escan_calls (A : Option Addr) (c : Nat) (l : List Int) (hby : Bys l) (w : World) (hr : Kd.C (Kd.int .u8) w A l.length l) (hc : l.length ≤ c) (hl : l.length ≤ 1000000000) :
    Calls Try.prog 47 #[.slice A l.length c] w fun e w' => ∃ v : Value, e = .returned (.tuple #[v, .int .i64 ((escanL l).2.1 : Int), .bool (escanL l).2.2]) ∧ KEd.R 66 w' w.heap.size (fun _ => True) v (escanL l).1 ∧ Below w.heap.size w w' := by
  have HSC := Aside0.mk (scan_calls A c l hby w hr hc hl)
  have hsub := scan_sub hby (l.length + 1) 0
  change (∀ t ∈ (scanL l).1, Bys t ∧ t.length ≤ l.length) ∧ (scanL l).1.length ≤ l.length + 1 at hsub
  obtain ⟨E1, h1⟩ : ∃ E1, (parsL parseE (scanL l).1 (scanL l).2.2 0).1 = E1 := ⟨_, rfl⟩
  obtain ⟨E2, h2⟩ : ∃ E2, (parsL parseE (scanL l).1 (scanL l).2.2 0).2 = E2 := ⟨_, rfl⟩
  have HSL : Aside0 (escanL l = (E1, E2)) := ⟨by rw [← h1, ← h2]; rfl⟩
  obtain ⟨ts, hts⟩ : ∃ ts, (scanL l).1 = ts := ⟨_, rfl⟩
  obtain ⟨cut, hcut⟩ : ∃ ts, (scanL l).2.2 = ts := ⟨_, rfl⟩
  rw [hts, hcut] at h1 h2 HSC
  rw [hts] at hsub
  generalize (scanL l).2.1 = nn at *
  generalize escanL l = SL at *
  have HE1 := Aside0.mk h1
  have HE2 := Aside0.mk h2
  have HSB : Aside0 (ts.length ≤ 1000000001 ∧ ∀ t ∈ ts, Bys t ∧ t.length ≤ 1000000000) := ⟨by omega, fun t ht => ⟨(hsub.1 t ht).1, by have := (hsub.1 t ht).2; omega⟩⟩
  clear hr h1 h2 hby hts hcut hsub hc hl
  go_enter Try.func47, Try.ntmps47
  go_wp2_with fail
  refine HSC.out.mono ?_
  rintro e_ w1 ⟨v, rfl, ho, hb⟩
  obtain ⟨A1, c1, rfl⟩ := Kd.R_slice ho
  have HS1 := Aside0.mk (Kd.R_reads' ho).2.2
  have HB := Aside0.mk hb
  have HLT := Aside0.mk (Kd.R_reads' ho).2.1
  clear ho hb
  obtain ⟨nt, hnt⟩ : ∃ n, ts.length = n := ⟨_, rfl⟩
  have HNT := Aside0.mk hnt
  rw [hnt] at HS1 HSB HLT ⊢
  clear hnt
  obtain ⟨W1, hW1⟩ : ∃ q, w1.heap.size = q := ⟨_, rfl⟩
  have HW1 := Aside0.mk hW1
  clear hW1
  go_wp2_with fail
  go_loopg [8, 9, 11, 12, 13, 22] nt (fun q v8 v9 v11 v12 v13 v22 w' => ∃ (i a : Nat) (acc : List EdT), v9 = .int .i64 (a : Int) ∧ v22 = .int .i64 (i : Int) ∧ Aside0 (i + q = nt ∧ a ≤ i * 1000000012 ∧ acc.length ≤ i ∧ acc ++ (parsL parseE (ts.drop i) cut a).1 = E1 ∧ (parsL parseE (ts.drop i) cut a).2 = E2) ∧ Aside0 (KEd.R 66 w' W1 (fun _ => True) v8 acc) ∧ Aside0 (Below W1 w1 w'))
  case atStart => exact ⟨0, 0, [], rfl, rfl, ⟨by omega, by omega, Nat.le_refl _, HE1.out, HE2.out⟩, ⟨Kd.R_nil _ _ _ _ _⟩, ⟨Below.refl _ _⟩⟩
  case round =>
    clear HE1 HE2
    obtain ⟨i, a, acc, rfl, rfl, HI, HO, HW⟩ := hrel
    have hi := HI.out
    have hnt := HNT.out
    have hsb := HSB.out
    by_cases hlt : i < nt
    · obtain ⟨f, rfl⟩ : ∃ f, gk = f + 1 := ⟨gk - 1, by omega⟩
      obtain ⟨ad, A2, c2, e1, hcell0, hc2, hC2⟩ := row_at HS1.out i hlt
      have hcell := cell_up HW1.out HW.out hcell0
      clear hcell0
      subst e1
      have hmem := getD_mem (d := []) (xs := ts) (i := i) (by omega)
      have hdr : ts.drop i = ts.getD i [] :: ts.drop (i + 1) := drop_getD (by omega)
      obtain ⟨hty, htl⟩ := hsb.2 _ hmem
      obtain ⟨t, htt⟩ : ∃ t, ts.getD i [] = t := ⟨_, rfl⟩
      rw [htt] at hcell hc2 hC2 hdr hty htl
      have hslen := sealL_len t
      have HDC := Aside0.mk (decode_calls A2 c2 t hty wr (C_up HW1.out HW.out hC2) hc2 htl)
      have HSE := Aside0.mk (fun w h => seal_calls A2 c2 t hty w h (by omega))
      have HC2 := Aside0.mk (fun wx h => C_up (wx := wx) HW1.out h hC2)
      have kx : i * 1000000012 ≤ 1000000001 * 1000000012 := Nat.mul_le_mul_right _ (by omega)
      have ke : (i + 1) * 1000000012 = i * 1000000012 + 1000000012 := by rw [Nat.add_mul, Nat.one_mul]
      have kw : IntKind.i64.wrap ((i : Int) + 1) = ((i + 1 : Nat) : Int) := by rw [IntKind.wrap_i64]; omega
      obtain ⟨sl, hsl⟩ : ∃ s, sealL t = s := ⟨_, rfl⟩
      rw [hsl] at hslen HSE
      obtain ⟨tl, htle⟩ : ∃ n, t.length = n := ⟨_, rfl⟩
      rw [htle] at hslen htl hcell hc2
      have HTL := Aside0.mk htle
      rw [htle] at HDC HSE HC2
      have HIL : Aside0 (a ≤ i * 1000000012 ∧ acc.length ≤ 1000000001) := ⟨by omega⟩
      have ka : IntKind.i64.wrap ((a : Int) + (sl.length : Int)) = ((a + (12 + tl) : Nat) : Int) := by rw [IntKind.wrap_i64, hslen]; omega
      have HNX : Aside0 (a + (12 + tl) ≤ (i + 1) * 1000000012) := ⟨by omega⟩
      have HPS : Aside0 (parseE t = if (decE t).2 = true then some (decE t).1 else none) := ⟨rfl⟩
      generalize (decE t).2 = ok at *
      generalize (decE t).1 = r at *
      have HDR := Aside0.mk hdr
      clear hi hnt hsb hmem hdr hty htl hC2 hc2 hsl htle kx ke
      obtain ⟨sn, hsn⟩ : ∃ n, sl.length = n := ⟨_, rfl⟩
      rw [hsn] at ka hslen
      have HSN := Aside0.mk hsn
      have hqr : W1 ≤ wr.heap.size := by have := HW.out.size; have := HW1.out; omega
      have HQR := Aside0.mk hqr
      clear hsn hqr
      go_wp2_with fail
      refine HDC.out.mono ?_
      rintro e_ w2 ⟨va, vd, vp, vr, rfl, hm, hb⟩
      obtain ⟨B1, d1, B2, d2, B3, d3, B4, d4, rfl, rfl, rfl, rfl⟩ := ed_forms hm
      obtain ⟨na, hna⟩ : ∃ q, r.2.2.1.length = q := ⟨_, rfl⟩
      obtain ⟨nd, hnd⟩ : ∃ q, r.2.2.2.1.length = q := ⟨_, rfl⟩
      obtain ⟨np, hnp⟩ : ∃ q, r.2.2.2.2.1.length = q := ⟨_, rfl⟩
      obtain ⟨nr, hnr⟩ : ∃ q, r.2.2.2.2.2.length = q := ⟨_, rfl⟩
      rw [hna, hnd, hnp, hnr] at hm ⊢
      clear hna hnd hnp hnr
      have HO2 := Aside0.mk (Kd.R_below HO.out hb)
      have hx3 := blk_new w2 (.cells #[.int .i64 r.1, .int .i64 r.2.1, .slice B1 na d1, .slice B2 nd d2, .slice B3 np d3, .slice B4 nr d4] 66 (0, 0))
      have hbx := (Below.refl w2.heap.size w2).alloc (Nat.le_refl _) (.cells #[.int .i64 r.1, .int .i64 r.2.1, .slice B1 na d1, .slice B2 nd d2, .slice B3 np d3, .slice B4 nr d4] 66 (0, 0))
      obtain ⟨w3, hw3⟩ : ∃ z, w2.alloc (.cells #[.int .i64 r.1, .int .i64 r.2.1, .slice B1 na d1, .slice B2 nd d2, .slice B3 np d3, .slice B4 nr d4] 66 (0, 0)) = z := ⟨_, rfl⟩
      obtain ⟨x, hx⟩ : ∃ z, w2.heap.size = z := ⟨_, rfl⟩
      rw [hw3] at hbx hx3
      have HM3 := Aside0.mk (KEd.M_lower HQR.out (KEd.M_mono (ok' := fun k => wr.heap.size ≤ k) (fun k hk => hk.2.1) (KEd.M_bound (Kd.M_below hm hbx))))
      have HO3 := Aside0.mk (Kd.R_below HO2.out hbx)
      have HW3 := Aside0.mk (HW.out.trans ((below_step hb hbx).mono HQR.out))
      have HQ3 : Aside0 (W1 ≤ w3.heap.size) := ⟨by have := HQR.out; have := hb.size; have := hbx.size; omega⟩
      have HOK : Aside0 (∀ k, wr.heap.size ≤ k → True ∧ some k ≠ u8.ownBlock) := ⟨fun k hk => ⟨trivial, fun e_ => by obtain ⟨_, ho⟩ := Kd.R_own HO.out; have := own_lt ho k e_.symm; omega⟩⟩
      rw [hx] at hx3
      have hf0_ := blk_frozen hx3 0
      have hw0_ : w3.setCell ⟨x, 0, none⟩ (.int .i64 r.1) = w3 := setCell_same hx3 rfl
      have hf1_ := blk_frozen hx3 1
      have hw1_ : w3.setCell ⟨x, 1, none⟩ (.int .i64 r.2.1) = w3 := setCell_same hx3 rfl
      have hf2_ := blk_frozen hx3 2
      have hw2_ : w3.setCell ⟨x, 2, none⟩ (.slice B1 na d1) = w3 := setCell_same hx3 rfl
      have hf3_ := blk_frozen hx3 3
      have hw3_ : w3.setCell ⟨x, 3, none⟩ (.slice B2 nd d2) = w3 := setCell_same hx3 rfl
      have hf4_ := blk_frozen hx3 4
      have hw4_ : w3.setCell ⟨x, 4, none⟩ (.slice B3 np d3) = w3 := setCell_same hx3 rfl
      have hf5_ := blk_frozen hx3 5
      have hw5_ : w3.setCell ⟨x, 5, none⟩ (.slice B4 nr d4) = w3 := setCell_same hx3 rfl
      have x0 : w3.cell? ⟨x, 0, none⟩ = some (.int .i64 r.1) := blk_cell hx3 0
      have x1 : w3.cell? ⟨x, 1, none⟩ = some (.int .i64 r.2.1) := blk_cell hx3 1
      have x2 : w3.cell? ⟨x, 2, none⟩ = some (.slice B1 na d1) := blk_cell hx3 2
      have x3 : w3.cell? ⟨x, 3, none⟩ = some (.slice B2 nd d2) := blk_cell hx3 3
      have x4 : w3.cell? ⟨x, 4, none⟩ = some (.slice B3 np d3) := blk_cell hx3 4
      have x5 : w3.cell? ⟨x, 5, none⟩ = some (.slice B4 nr d4) := blk_cell hx3 5
      clear hm hb hbx hx3 HO HW HO2
      cases ok with
      | false =>
        have hP := pars_none (HPS.out.trans (if_neg (by decide))) (ts.drop (i + 1)) cut a
        rw [← HDR.out] at hP
        have hE := HI.out.2.2.2
        rw [hP, List.append_nil] at hE
        have HE := Aside0.mk hE
        clear hE hP
        go_wp2
        go_ret3
        have e1 := HE.out.1
        have e2 := HE.out.2
        exact ⟨_, by rw [HSL.out, ← e2]; rfl, by rw [HSL.out, ← e1]; exact Kd.R_lower HO3.out (by have := HB.out.size; have := HW1.out; omega), below_step HB.out (by rw [HW1.out]; exact HW3.out)⟩
      | true =>
        have hP := pars_some (HPS.out.trans (if_pos rfl)) (ts.drop (i + 1)) cut a
        rw [← HDR.out, HTL.out] at hP
        have hE := HI.out.2.2.2
        rw [hP] at hE
        have HE := Aside0.mk hE
        clear hE hP
        go_wp2_with ((with_reducible refine gate_builtin (b := .append) (xs := #[.tmp 35, .tmp 37]) rfl ?_); at_builtin; go_must (refine Kd.R_append KEd (w0 := w3) W1 rfl (.tmp 35) (.tmp 37) 71 66 (.agg #[.int .i64 0, .int .i64 0, .slice none 0 0, .slice none 0 0, .slice none 0 0, .slice none 0 0]) 112 rfl Try.underlying71 info66 rfl (by decide) (by decide) u8 acc r [.int .i64 r.1, .int .i64 r.2.1, .slice B1 na d1, .slice B2 nd d2, .slice B3 np d3, .slice B4 nr d4] (fun _ => True) (fun k => wr.heap.size ≤ k) ?hs_ ?hx_ HM3.out (fun k hk => HOK.out k hk) (fun _ _ => trivial) HO3.out (Below.refl _ _) HQ3.out (by have := HIL.out; omega) ?_; (case hs_ => rfl); (case hx_ => rfl); intro v4 w4 ho hb hg hat; obtain ⟨acc2, ha2⟩ : ∃ q, acc ++ [r] = q := ⟨_, rfl⟩; rw [ha2] at ho; have HA2 := Aside0.mk ha2; have HO4 := Aside0.mk ho; have HB4 := Aside0.mk (HW3.out.trans hb); clear ho hb hg hat ha2))
        refine (HSE.out w4 (HC2.out w4 HB4.out)).mono ?_
        rintro e_ w5 ⟨v5, rfl, ho, hb⟩
        obtain ⟨A5, c5, rfl⟩ := Kd.R_slice ho
        have HO5 := Aside0.mk (Kd.R_below HO4.out hb)
        have HB5 := Aside0.mk (HB4.out.trans (hb.mono (by have := HB4.out.size; have := HW1.out; omega)))
        clear ho hb HO4 HB4
        have hsn := HSN.out
        rw [hsn]
        go_wp2_with fail
        go_roundg f
        case measure => omega
        case rel => exact ⟨i + 1, a + (12 + tl), acc2, by rw [wrap64_id (by omega) (by have := HNX.out; have := HI.out.1; have kx : (i + 1) * 1000000012 ≤ 1000000001 * 1000000012 := Nat.mul_le_mul_right _ (by have := HSB.out.1; omega); omega)]; rfl, rfl, ⟨by have := HI.out; omega, HNX.out, by rw [← HA2.out, List.length_append]; have := HI.out; simp; omega, by rw [← HA2.out, List.append_assoc]; exact HE.out.1, HE.out.2⟩, HO5, HB5⟩
    · have k0 : ((i : Int) < (nt : Int)) = False := eq_false (by omega)
      have hE := hi.2.2.2
      rw [List.drop_eq_nil_of_le (by omega)] at hE
      have HE : Aside0 (acc = E1 ∧ (a, cut) = E2) := ⟨by have := hE.1; simpa [pars_nil] using this, hE.2⟩
      clear hi hnt hsb hlt hE
      go_wp2
      go_ret3
      have e1 := HE.out.1
      have e2 := HE.out.2
      exact ⟨_, by rw [HSL.out, ← e2]; rfl, by rw [HSL.out, ← e1]; exact Kd.R_lower HO.out (by have := HB.out.size; have := HW1.out; omega), below_step HB.out (by rw [HW1.out]; exact HW.out)⟩
end Go.Proofs.Ytfojeegepfjbiaa.EdM
