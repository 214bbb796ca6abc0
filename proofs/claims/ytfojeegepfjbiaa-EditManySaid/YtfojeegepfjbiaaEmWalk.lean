/- EditMany: sixty segments may come or go, one more not: it answers true. No condition. -/
import Derived.Test.YtfojeegepfjbiaaProg
import Derived.Below
import Derived.Deep.Draws
import Derived.Deep.AppendLies
import Derived.Maps.AppendAt
import Derived.OwnWalk
import Derived.Laws.BytesArg
import Derived.Laws.MakeOwn
import Derived.Laws.OwnMore
import Derived.Deep.OwnRows
import Derived.Tactics
import Derived.Lib.ConvBytes
import Derived.Laws.Slices
import Derived.WalkKit
import Derived.KernelRfl
import Derived.RowKit3
import Derived.Deep.LoopGhost
import Derived.Deep.QuietTactic
import Derived.BigQuiet
import Derived.WideLaws
import Derived.Deep.DeepCutAuto
import Derived.Deep.CutBlock
import Derived.Deep.RegionHeld3
import Derived.Laws.Rows
import Derived.Lib.AppendStr
import Derived.ArgAppend
import Derived.Laws.IdiomCopy
import Derived.OrdersHeld
import Derived.Laws.BitsLemmas
import Derived.RowKit
import Derived.Deep.RegionWith
import Derived.WalkSpells
import Derived.Outline
import Derived.Test.YtfojeegepfjbiaaWWords
import Derived.Test.YtfojeegepfjbiaaWLast
import Derived.Test.YtfojeegepfjbiaaWMore
import Derived.Test.YtfojeegepfjbiaaWArr
import Derived.Test.YtfojeegepfjbiaaWTab
import Derived.Test.YtfojeegepfjbiaaWZeros
import Derived.Test.YtfojeegepfjbiaaWRepsOne
import Derived.Test.YtfojeegepfjbiaaEdN
namespace Go.Proofs.Ytfojeegepfjbiaa.EmWalk
open Go.RowKit Go.Proofs.YtfojeegepfjbiaaW.PrintWords Go.Proofs.YtfojeegepfjbiaaW.PrintLast Go.Proofs.YtfojeegepfjbiaaW.PrintMore Go.Proofs.Ytfojeegepfjbiaa.Mix Go.Proofs.Ytfojeegepfjbiaa.MixB Go.Proofs.Ytfojeegepfjbiaa.MixT Go.Proofs.Ytfojeegepfjbiaa.Nm Go.Proofs.Ytfojeegepfjbiaa.NmA Go.Proofs.Ytfojeegepfjbiaa.NmB Go.Proofs.Ytfojeegepfjbiaa.NmC Go.Proofs.Ytfojeegepfjbiaa.NmH Go.Proofs.Ytfojeegepfjbiaa.CrP Go.Proofs.Ytfojeegepfjbiaa.CrA Go.Proofs.Ytfojeegepfjbiaa.CrB Go.Proofs.Ytfojeegepfjbiaa.CrC Go.Proofs.Ytfojeegepfjbiaa.CrD Go.Proofs.Ytfojeegepfjbiaa.CrE Go.Proofs.Ytfojeegepfjbiaa.CrG Go.Proofs.Ytfojeegepfjbiaa.CrH Go.Proofs.Ytfojeegepfjbiaa.CrI Go.Proofs.Ytfojeegepfjbiaa.EdZ Go.Proofs.Ytfojeegepfjbiaa.EdA Go.Proofs.Ytfojeegepfjbiaa.EdB Go.Proofs.Ytfojeegepfjbiaa.EdC Go.Proofs.Ytfojeegepfjbiaa.EdD Go.Proofs.Ytfojeegepfjbiaa.EdE Go.Proofs.Ytfojeegepfjbiaa.EdF Go.Proofs.Ytfojeegepfjbiaa.EdG Go.Proofs.Ytfojeegepfjbiaa.EdH Go.Proofs.Ytfojeegepfjbiaa.EdI Go.Proofs.Ytfojeegepfjbiaa.EdJ Go.Proofs.Ytfojeegepfjbiaa.EdK Go.Proofs.Ytfojeegepfjbiaa.EdL Go.Proofs.Ytfojeegepfjbiaa.EdM Go.Proofs.Ytfojeegepfjbiaa.EdN
set_option linter.unusedSimpArgs false
set_option linter.unusedVariables false
attribute [local go_sem] max2_int min2_int max_two min_two

def segsM (n : Nat) : List SegT := (List.range n).map (fun k : Nat => (((k : Int) + 1), false, 0, 0, 0, 0))
def delsM (n : Nat) : List Int := (List.range n).map (fun k : Nat => (k : Int) + 1)
theorem segsM_succ (n : Nat) : segsM (n + 1) = segsM n ++ [((n : Int) + 1, false, 0, 0, 0, 0)] := by simp [segsM, List.range_succ]
theorem delsM_succ (n : Nat) : delsM (n + 1) = delsM n ++ [(n : Int) + 1] := by simp [delsM, List.range_succ]
theorem segsM_len (n : Nat) : (segsM n).length = n := by simp [segsM]
theorem delsM_len (n : Nat) : (delsM n).length = n := by simp [delsM]
def edM (a d : Nat) : EdT := (0, 0, segsM a, delsM d, [], [])
theorem edM_good (a d : Nat) : edGood (edM a d) := by
  refine ⟨fun s hs => ?_, fun s hs => by simp [edM] at hs⟩
  obtain ⟨k, _, rfl⟩ := List.mem_map.1 (show s ∈ (List.range a).map _ from hs)
  exact ⟨Int.le_refl 0, show (0 : Int) < 4294967296 by decide⟩
theorem edM_ok (a d : Nat) (ha : a ≤ 80) (hd : d ≤ 80) : edOk (edM a d) = decide (a ≤ 60 ∧ d ≤ 60) := by
  by_cases h : a ≤ 60 ∧ d ≤ 60
  · rw [decide_eq_true h, ed_iff]
    refine ⟨show (0 : Int) ≤ 0 ∧ (0 : Int) ≤ 1125899906842624 ∧ (0 : Int) ≤ 0 ∧ (0 : Int) ≤ 1125899906842624 by decide, ⟨by simp [edM, segsM_len]; omega, by simp [edM, delsM_len]; omega, by simp [edM], by simp [edM]⟩, fun n hn => ?_, fun n hn => by simp [edM] at hn, fun s hs => ?_, fun s hs => by simp [edM] at hs⟩
    · obtain ⟨k, hk, rfl⟩ := List.mem_map.1 (show n ∈ (List.range d).map _ from hn)
      have := List.mem_range.1 hk
      omega
    · obtain ⟨k, hk, rfl⟩ := List.mem_map.1 (show s ∈ (List.range a).map _ from hs)
      have := List.mem_range.1 hk
      rw [seg_iff]
      dsimp only
      omega
  · rw [decide_eq_false h]
    cases hq : edOk (edM a d) with
    | false => rfl
    | true =>
      rw [ed_iff] at hq
      exfalso
      apply h
      have h1 : (segsM a).length ≤ 60 := hq.2.1.1
      have h2 : (delsM d).length ≤ 60 := hq.2.1.2.1
      rw [segsM_len] at h1
      rw [delsM_len] at h2
      exact ⟨h1, h2⟩
set_option maxRecDepth 100000 in
set_option maxHeartbeats 2000000 in
theorem walk (a0 a1 : Int) (w : World) (w0 : (Lit.int .i64 a0).wf = true) (w1 : (Lit.int .i64 a1).wf = true) :
    Calls Try.prog 18 #[.int .i64 a0, .int .i64 a1] w fun e w' => e = .returned (.bool true) ∧ Below w.heap.size w w' := by
  clear w0 w1
  go_enter Try.func18, Try.ntmps18
  go_wp2_with fail
  refine (begun_calls w).mono ?_
  rintro e_ w1 ⟨rfl, hb⟩
  have HB1 := Aside0.mk hb
  clear hb
  by_cases h1 : a0 < 0
  · go_wp2
    go_ret
    exact ⟨by simp, HB1.out⟩
  by_cases h2 : 80 < a0
  · go_wp2
    go_ret
    exact ⟨by simp, HB1.out⟩
  by_cases h3 : a1 < 0
  · go_wp2
    go_ret
    exact ⟨by simp, HB1.out⟩
  by_cases h4 : 80 < a1
  · go_wp2
    go_ret
    exact ⟨by simp, HB1.out⟩
  obtain ⟨a, rfl⟩ := Int.eq_ofNat_of_zero_le (by omega : 0 ≤ a0)
  obtain ⟨d, rfl⟩ := Int.eq_ofNat_of_zero_le (by omega : 0 ≤ a1)
  have HN : Aside0 (a ≤ 80 ∧ d ≤ 80) := ⟨by omega⟩
  have k1 : ((a : Int) < 0) = False := eq_false h1
  have k2 : ((80 : Int) < (a : Int)) = False := eq_false h2
  have k3 : ((d : Int) < 0) = False := eq_false h3
  have k4 : ((80 : Int) < (d : Int)) = False := eq_false h4
  clear h1 h2 h3 h4
  have hx3 := blk_new w1 (.cells #[.int .i64 0, .int .i64 0, .slice none 0 0, .slice none 0 0, .slice none 0 0, .slice none 0 0] 66 (0, 0))
  have hbx := (Below.refl w1.heap.size w1).alloc (Nat.le_refl _) (.cells #[.int .i64 0, .int .i64 0, .slice none 0 0, .slice none 0 0, .slice none 0 0, .slice none 0 0] 66 (0, 0))
  obtain ⟨w2, hw2⟩ : ∃ q, w1.alloc (.cells #[.int .i64 0, .int .i64 0, .slice none 0 0, .slice none 0 0, .slice none 0 0, .slice none 0 0] 66 (0, 0)) = q := ⟨_, rfl⟩
  obtain ⟨x, hx⟩ : ∃ q, w1.heap.size = q := ⟨_, rfl⟩
  rw [hw2] at hx3 hbx
  obtain ⟨B, hB⟩ : ∃ q, w.heap.size = q := ⟨_, rfl⟩
  have hb2 := below_step HB1.out hbx
  have hbx2 : B ≤ x := by have := HB1.out.size; omega
  rw [hB] at hb2
  rw [hx] at hx3
  have HBX := Aside0.mk hbx2
  have HB2 := Aside0.mk hb2
  have HX2 := Aside0.mk hx3
  have HBB := Aside0.mk hB
  clear hx3 hbx hb2 hbx2 HB1 hB
  go_wp2_with fail
  clear hw2 hx
  go_loopg [7] a (fun q v7 w' => ∃ (i : Nat) (va : Value), v7 = .int .i64 (i : Int) ∧ Aside0 (i + q = a) ∧ Aside0 (Blk w' x #[.int .i64 0, .int .i64 0, va, .slice none 0 0, .slice none 0 0, .slice none 0 0] 66) ∧ Aside0 (KSeg.R 77 w' B (fun _ => True) va (segsM i)) ∧ Aside0 (Below B w w'))
  case atStart => exact ⟨0, .slice none 0 0, rfl, ⟨by omega⟩, HX2, ⟨Kd.R_nil _ _ _ _ _⟩, HB2⟩
  case round =>
    clear HX2 HB2
    obtain ⟨i, va, rfl, HI, HX, HO, HB⟩ := hrel
    have hix := HI.out
    by_cases hlt : i < a
    · obtain ⟨f, rfl⟩ : ∃ f, gk = f + 1 := ⟨gk - 1, by omega⟩
      have k0 : ((i : Int) < (a : Int)) = True := eq_true (by omega)
      have kw : IntKind.i64.wrap ((i : Int) + 1) = (i : Int) + 1 := by have := HN.out; rw [IntKind.wrap_i64]; omega
      have c2 : wr.cell? ⟨x, 2, none⟩ = some va := blk_cell HX.out 2
      have HQ : Aside0 (B ≤ wr.heap.size) := ⟨by have := HB.out.size; have := HBB.out; omega⟩
      have hln := segsM_len i
      have hsc := segsM_succ i
      have HLN := Aside0.mk hln
      have HSC := Aside0.mk hsc
      generalize segsM i = acc at *
      clear hix hln hsc
      go_wp2_with ((with_reducible refine gate_builtin (b := .append) (xs := #[.tmp 37, .tmp 41]) rfl ?_); at_builtin; go_must (refine Kd.R_append KSeg (w0 := w) B rfl (.tmp 37) (.tmp 41) 62 77 (.agg #[.int .i64 0, .bool false, .int .i64 0, .int .i64 0, .int .i64 0, .int .u32 0]) 48 rfl Try.underlying62 info77 rfl (by decide) (by decide) va acc ((i : Int) + 1, false, 0, 0, 0, 0) [.int .i64 ((i : Int) + 1), .bool false, .int .i64 0, .int .i64 0, .int .i64 0, .int .u32 0] (fun _ => True) (fun _ => False) ?hs_ ?hx_ (seg_M _ _ _ _ _ _ _ _ _) (fun _ hk => hk.elim) (fun _ _ => trivial) HO.out HB.out HQ.out (by have := HI.out; have := HLN.out; have := HN.out; omega) ?_; (case hs_ => rfl); (case hx_ => rfl); intro v5 w5 ho hb hg hat; obtain ⟨acc2, ha2⟩ : ∃ q, acc ++ [((i : Int) + 1, false, 0, 0, 0, 0)] = q := ⟨_, rfl⟩; rw [ha2] at ho; have HA2 := Aside0.mk ha2; obtain ⟨A5, c5, e5⟩ := Kd.R_slice ho; subst e5; have HO5 := Aside0.mk ho; have HB5 := Aside0.mk hb; have hx5 := blk_grown HX.out hg (Kd.R_ne HO.out HX.out (by decide)); have HX5 := Aside0.mk hx5; have z2 : w5.cell? ⟨x, 2, none⟩ = some va := blk_cell hx5 2; have zf := blk_frozen hx5 2; clear ho hb hg hat hx5 ha2))
      go_roundg f
      case measure => omega
      case rel => exact ⟨i + 1, .slice A5 acc2.length c5, by simp, ⟨by have := HI.out; omega⟩, ⟨blk_set HX5.out 2 _⟩, ⟨by rw [HSC.out, HA2.out]; exact Kd.R_set HO5.out HX5.out (by decide) 2 _⟩, ⟨HB5.out.setCell (by have := HBX.out; exact this) _⟩⟩
    · have k0 : ((i : Int) < (a : Int)) = False := eq_false (by omega)
      obtain rfl : i = a := by omega
      have HX3 := HX
      have HO3 := HO
      have HB3 := HB
      obtain ⟨Aa, ca, e_⟩ := Kd.R_slice HO3.out
      subst e_
      rw [segsM_len] at HX3 HO3
      clear hix hlt HX HO HB HI
      go_wp2_with fail
      go_loopg [8] d (fun q v8 w' => ∃ (j : Nat) (vd : Value), v8 = .int .i64 (j : Int) ∧ Aside0 (j + q = d) ∧ Aside0 (Blk w' x #[.int .i64 0, .int .i64 0, .slice Aa i ca, vd, .slice none 0 0, .slice none 0 0] 66) ∧ Aside0 (KSeg.R 77 w' B (fun _ => True) (.slice Aa i ca) (segsM i)) ∧ Aside0 ((Kd.int .i64).R 2 w' B (fun _ => True) vd (delsM j)) ∧ Aside0 (Below B w w'))
      case atStart => exact ⟨0, .slice none 0 0, rfl, ⟨by omega⟩, HX3, HO3, ⟨Kd.R_nil _ _ _ _ _⟩, HB3⟩
      case round =>
        clear HX3 HB3 HO3 k0
        obtain ⟨j, vd, rfl, HI, HX, HOA, HO, HB⟩ := hrel
        have hix := HI.out
        by_cases hlt : j < d
        · obtain ⟨f, rfl⟩ : ∃ f, gk = f + 1 := ⟨gk - 1, by omega⟩
          have k0 : ((j : Int) < (d : Int)) = True := eq_true (by omega)
          have kw : IntKind.i64.wrap ((j : Int) + 1) = (j : Int) + 1 := by have := HN.out; rw [IntKind.wrap_i64]; omega
          have c2 : wr.cell? ⟨x, 3, none⟩ = some vd := blk_cell HX.out 3
          have HQ : Aside0 (B ≤ wr.heap.size) := ⟨by have := HB.out.size; have := HBB.out; omega⟩
          have hln := delsM_len j
          have hsc := delsM_succ j
          have HLN := Aside0.mk hln
          have HSC := Aside0.mk hsc
          generalize delsM j = acc at *
          clear hix hln hsc
          go_wp2_with ((with_reducible refine gate_builtin (b := .append) (xs := #[.tmp 50, .tmp 53]) rfl ?_); at_builtin; go_must (refine Kd.R_append (Kd.int .i64) (w0 := w) B rfl (.tmp 50) (.tmp 53) 63 2 (.int .i64 0) 8 rfl Try.underlying63 info2 rfl (by decide) (by decide) vd acc ((j : Int) + 1) [.int .i64 ((j : Int) + 1)] (fun _ => True) (fun _ => False) ?hs_ ?hx_ rfl (fun _ hk => hk.elim) (fun _ _ => trivial) HO.out HB.out HQ.out (by have := HI.out; have := HLN.out; have := HN.out; omega) ?_; (case hs_ => rfl); (case hx_ => rfl); intro v5 w5 ho hb hg hat; obtain ⟨acc2, ha2⟩ : ∃ q, acc ++ [(j : Int) + 1] = q := ⟨_, rfl⟩; rw [ha2] at ho; have HA2 := Aside0.mk ha2; obtain ⟨A5, c5, e5⟩ := Kd.R_slice ho; subst e5; have HO5 := Aside0.mk ho; have HB5 := Aside0.mk hb; have hx5 := blk_grown HX.out hg (Kd.R_ne HO.out HX.out (by decide)); have HX5 := Aside0.mk hx5; have HA5 := Aside0.mk (Kd.R_over HOA.out HO.out (by decide) hg); have z2 : w5.cell? ⟨x, 3, none⟩ = some vd := blk_cell hx5 3; have zf := blk_frozen hx5 3; clear ho hb hg hat hx5 ha2))
          go_roundg f
          case measure => omega
          case rel => exact ⟨j + 1, .slice A5 acc2.length c5, by simp, ⟨by have := HI.out; omega⟩, ⟨blk_set HX5.out 3 _⟩, ⟨Kd.R_set HA5.out HX5.out (by decide) 3 _⟩, ⟨by rw [HSC.out, HA2.out]; exact Kd.R_set HO5.out HX5.out (by decide) 3 _⟩, ⟨HB5.out.setCell (by have := HBX.out; exact this) _⟩⟩
        · have k0 : ((j : Int) < (d : Int)) = False := eq_false (by omega)
          obtain rfl : j = d := by omega
          obtain ⟨Ad, cd, e_⟩ := Kd.R_slice HO.out
          subst e_
          rw [delsM_len] at HX HO
          have hEA : EdAt wr (.agg #[.int .i64 0, .int .i64 0, .slice Aa i ca, .slice Ad j cd, .slice none 0 0, .slice none 0 0]) (edM i j) := by
            have h := ed_of_K (cs := #[.int .i64 0, .int .i64 0, .slice Aa i ca, .slice Ad j cd, .slice none 0 0, .slice none 0 0]) (KEd.K_of_M (ed_M (nx := 0) (sq := 0) HOA.out HO.out (Kd.R_nil KPar 90 wr B (fun _ => True)) (Kd.R_nil (Kd.int .i64) 2 wr B (fun _ => True))))
            exact h
          have x0 : wr.cell? ⟨x, 0, none⟩ = some (.int .i64 0) := blk_cell HX.out 0
          have x1 : wr.cell? ⟨x, 1, none⟩ = some (.int .i64 0) := blk_cell HX.out 1
          have x2 : wr.cell? ⟨x, 2, none⟩ = some (.slice Aa i ca) := blk_cell HX.out 2
          have x3 : wr.cell? ⟨x, 3, none⟩ = some (.slice Ad j cd) := blk_cell HX.out 3
          have x4 : wr.cell? ⟨x, 4, none⟩ = some (.slice none 0 0) := blk_cell HX.out 4
          have x5 : wr.cell? ⟨x, 5, none⟩ = some (.slice none 0 0) := blk_cell HX.out 5
          have HEA := Aside0.mk hEA
          have HQ : Aside0 (B ≤ wr.heap.size) := ⟨by have := HB.out.size; have := HBB.out; omega⟩
          have hok := edM_ok i j HN.out.1 HN.out.2
          clear hix hlt HI HX HO HOA hEA
          by_cases hd : i ≤ 60 ∧ j ≤ 60
          · rw [decide_eq_true hd] at hok
            have hew : EdW (edM i j) := ⟨hok, edM_good i j⟩
            have q1 : ((60 : Int) < (i : Int)) = False := eq_false (by omega)
            have q2 : ((60 : Int) < (j : Int)) = False := eq_false (by omega)
            have HEN := Aside0.mk (encode_ok (edM i j) _ wr HEA.out hok hew.2)
            have hrs := escan_one hew
            have hby : Bys (sealL (textL (edM i j))) := bys_sealL (bys_text hok hew.2).1
            have hln : (sealL (textL (edM i j))).length ≤ 1000000 := by rw [sealL_len]; have := (bys_text hok hew.2).2; omega
            generalize sealL (textL (edM i j)) = b at *
            have HSC := Aside0.mk (fun A c w h1 h2 => escan_calls A c b hby w h1 h2 (by omega))
            rw [hrs] at HSC
            clear hrs hby hln hd hok hew
            go_wp2_with fail
            refine HEN.out.mono ?_
            rintro e_ w3 ⟨v3, rfl, ho, hb⟩
            obtain ⟨A3, c3, rfl⟩ := Kd.R_slice ho
            obtain ⟨_, h1, h2⟩ := Kd.R_reads' ho
            have H12 := Aside0.mk (And.intro h2 h1)
            have HB3 := Aside0.mk (HB.out.trans (hb.mono HQ.out))
            have HQ3 : Aside0 (B ≤ w3.heap.size) := ⟨by have := hb.size; have := HQ.out; omega⟩
            clear ho hb h1 h2 HEN x0 x1 x2 x3 x4 x5
            obtain ⟨nb, hnb⟩ : ∃ q, b.length = q := ⟨_, rfl⟩
            rw [hnb] at HSC H12 ⊢
            clear hnb
            go_wp2_with fail
            refine (HSC.out A3 c3 w3 H12.out.1 H12.out.2).mono ?_
            rintro e_ w4 ⟨v4, rfl, ho, hb⟩
            obtain ⟨A4, c4, rfl⟩ := Kd.R_slice ho
            obtain ⟨ad, B1, d1, B2, d2, B3, d3, B4, d4, e1, p0, p1, p2, p3, p4, p5, hed, hsg⟩ := ed_at (Kd.R_reads' ho).2.2 0 (by simp)
            subst e1
            have HB4 := Aside0.mk (HB3.out.trans (hb.mono HQ3.out))
            have l1 : (edM i j).2.2.1.length = i := segsM_len i
            have l2 : (edM i j).2.2.2.1.length = j := delsM_len j
            have p2' : w4.cell? ⟨ad.block, ad.off + 2, none⟩ = some (.slice B1 (edM i j).2.2.1.length d1) := by simpa [Addr.add] using p2
            have p3' : w4.cell? ⟨ad.block, ad.off + 3, none⟩ = some (.slice B2 (edM i j).2.2.2.1.length d2) := by simpa [Addr.add] using p3
            rw [l1] at p2'
            rw [l2] at p3'
            clear ho hb p0 p1 p2 p3 p4 p5 hed hsg l1 l2 HSC
            go_wp2
            go_ret
            exact ⟨by first | rfl | simp, by rw [HBB.out]; exact HB4.out⟩
          · rw [decide_eq_false hd] at hok
            have HEN := Aside0.mk (encode_bad (edM i j) _ wr HEA.out hok)
            by_cases hi6 : 60 < i
            · have q1 : ((60 : Int) < (i : Int)) = True := eq_true (by omega)
              clear hd hi6 hok
              go_wp2_with fail
              refine HEN.out.mono ?_
              rintro e_ w3 ⟨rfl, hb⟩
              have HB3 := Aside0.mk (HB.out.trans (hb.mono HQ.out))
              clear hb HEN
              go_wp2
              go_ret
              exact ⟨by first | rfl | simp, by rw [HBB.out]; exact HB3.out⟩
            · have q1 : ((60 : Int) < (i : Int)) = False := eq_false (by omega)
              have q2 : ((60 : Int) < (j : Int)) = True := eq_true (by omega)
              clear hd hi6 hok
              go_wp2_with fail
              refine HEN.out.mono ?_
              rintro e_ w3 ⟨rfl, hb⟩
              have HB3 := Aside0.mk (HB.out.trans (hb.mono HQ.out))
              clear hb HEN
              go_wp2
              go_ret
              exact ⟨by first | rfl | simp, by rw [HBB.out]; exact HB3.out⟩
end Go.Proofs.Ytfojeegepfjbiaa.EmWalk
