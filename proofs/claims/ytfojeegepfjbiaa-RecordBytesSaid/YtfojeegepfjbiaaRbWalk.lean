/- RecordBytes: records go to bytes; what may not be is refused by its first fault: it answers true. No condition. -/
import Derived.Test.YtfojeegepfjbiaaProg
import Derived.Below
import Derived.Deep.Draws
import Derived.Deep.AppendLies
import Derived.Maps.AppendAt
import Derived.OwnWalk
import Derived.Laws.BytesArg
import Derived.Laws.MakeOwn
import Derived.Laws.OwnMore
import Derived.Deep.OwnRows
import Derived.Tactics
import Derived.Lib.ConvBytes
import Derived.Laws.Slices
import Derived.WalkKit
import Derived.KernelRfl
import Derived.RowKit3
import Derived.Deep.LoopGhost
import Derived.Deep.QuietTactic
import Derived.BigQuiet
import Derived.WideLaws
import Derived.Deep.DeepCutAuto
import Derived.Deep.CutBlock
import Derived.Deep.RegionHeld3
import Derived.Laws.Rows
import Derived.Lib.AppendStr
import Derived.ArgAppend
import Derived.Laws.IdiomCopy
import Derived.OrdersHeld
import Derived.Laws.BitsLemmas
import Derived.RowKit
import Derived.Deep.RegionWith
import Derived.Deep.DeepCutAuto
import Derived.Laws.Strings
import Derived.WalkSpells
import Derived.Outline
import Derived.Test.YtfojeegepfjbiaaWWords
import Derived.Test.YtfojeegepfjbiaaWLast
import Derived.Test.YtfojeegepfjbiaaWMore
import Derived.Test.YtfojeegepfjbiaaWArr
import Derived.Test.YtfojeegepfjbiaaWTab
import Derived.Test.YtfojeegepfjbiaaWZeros
import Derived.Test.YtfojeegepfjbiaaWRepsOne
import Derived.Test.YtfojeegepfjbiaaRdN
namespace Go.Proofs.Ytfojeegepfjbiaa.RbWalk
open Go.RowKit Go.Proofs.YtfojeegepfjbiaaW.PrintWords Go.Proofs.YtfojeegepfjbiaaW.PrintLast Go.Proofs.YtfojeegepfjbiaaW.PrintMore Go.Proofs.Ytfojeegepfjbiaa.Nm Go.Proofs.Ytfojeegepfjbiaa.NmA Go.Proofs.Ytfojeegepfjbiaa.NmB Go.Proofs.Ytfojeegepfjbiaa.NmC Go.Proofs.Ytfojeegepfjbiaa.NmD Go.Proofs.Ytfojeegepfjbiaa.NmE Go.Proofs.Ytfojeegepfjbiaa.NmH Go.Proofs.Ytfojeegepfjbiaa.NmI Go.Proofs.Ytfojeegepfjbiaa.CrP Go.Proofs.Ytfojeegepfjbiaa.CrA Go.Proofs.Ytfojeegepfjbiaa.CrB Go.Proofs.Ytfojeegepfjbiaa.CrC Go.Proofs.Ytfojeegepfjbiaa.CrD Go.Proofs.Ytfojeegepfjbiaa.CrE Go.Proofs.Ytfojeegepfjbiaa.CrG Go.Proofs.Ytfojeegepfjbiaa.CrH Go.Proofs.Ytfojeegepfjbiaa.CrI Go.Proofs.Ytfojeegepfjbiaa.CrJ Go.Proofs.Ytfojeegepfjbiaa.Mix Go.Proofs.Ytfojeegepfjbiaa.RdA Go.Proofs.Ytfojeegepfjbiaa.RdB Go.Proofs.Ytfojeegepfjbiaa.RdC Go.Proofs.Ytfojeegepfjbiaa.RdD Go.Proofs.Ytfojeegepfjbiaa.RdE Go.Proofs.Ytfojeegepfjbiaa.RdF Go.Proofs.Ytfojeegepfjbiaa.RdI Go.Proofs.Ytfojeegepfjbiaa.RdJ Go.Proofs.Ytfojeegepfjbiaa.RdK Go.Proofs.Ytfojeegepfjbiaa.RdL Go.Proofs.Ytfojeegepfjbiaa.RdM Go.Proofs.Ytfojeegepfjbiaa.RdN
set_option linter.unusedSimpArgs false
set_option linter.unusedVariables false
attribute [local go_sem] max2_int min2_int max_two min_two

theorem rec_cells {w : World} {r : Rec} {cs : List Value} (h : recK.K w r cs) : cs = [.int .i64 r.1, .int .i64 r.2.1, .string r.2.2.1, .string r.2.2.2] := by
  obtain ⟨c0, c1, rfl, h0, d0, d1, rfl, h1, f0, f1, rfl, h2, h3⟩ := h
  have h0' : c0 = [.int .i64 r.1] := h0
  have h1' : d0 = [.int .i64 r.2.1] := h1
  have h2' : f0 = [.string r.2.2.1] := h2
  have h3' : f1 = [.string r.2.2.2] := h3
  subst h0' h1' h2' h3'
  rfl
set_option maxRecDepth 100000 in
set_option maxHeartbeats 2000000 in
theorem walk (cs : Array Value) (r : Rec) (a1 : Int) (w : World) (hk : recK.K w r cs.toList) (hg : (Lit.int .i64 r.1).wf = true ∧ (Lit.int .i64 r.2.1).wf = true ∧ r.2.2.1.size ≤ maxLen ∧ r.2.2.2.size ≤ maxLen) (w1 : (Lit.int .i64 a1).wf = true) :
    Calls Try.prog 11 #[.agg cs, .int .i64 a1] w fun e w' => e = .returned (.bool true) ∧ Below w.heap.size w w' := by
  have hcs := rec_cells hk
  obtain ⟨cl⟩ := cs
  have hcs : cl = [.int .i64 r.1, .int .i64 r.2.1, .string r.2.2.1, .string r.2.2.2] := hcs
  subst hcs
  have ha : -9223372036854775808 ≤ a1 ∧ a1 ≤ 9223372036854775807 := by
    simp [Lit.wf, IntKind.min, IntKind.max, IntKind.bits, IntKind.signed] at w1
    omega
  have HCU := Aside0.mk (fun w => cutr_calls r (by have := hg.2.2.1; unfold maxLen at this; omega) (by have := hg.2.2.2; unfold maxLen at this; omega) w)
  clear hk hg w1
  obtain ⟨W0, hW0⟩ : ∃ q, w.alloc (.cells #[.int .i64 r.1, .int .i64 r.2.1, .string r.2.2.1, .string r.2.2.2] 45 (0, 0)) = q := ⟨_, rfl⟩
  have hb : Below w.heap.size w W0 := by rw [← hW0]; exact (Below.refl w.heap.size w).alloc (Nat.le_refl _) _
  have hblk : W0.heap[w.heap.size]? = some (.cells #[.int .i64 r.1, .int .i64 r.2.1, .string r.2.2.1, .string r.2.2.2] 45 (0, 0)) := by rw [← hW0]; exact blk_new w _
  obtain ⟨x, hx⟩ : ∃ q, w.heap.size = q := ⟨_, rfl⟩
  rw [hx] at hblk
  have HXX := Aside0.mk hx
  have HB0 := Aside0.mk hb
  have HX0 := Aside0.mk hblk
  clear hb hblk
  go_enter Try.func11, Try.ntmps11
  go_wp2_with fail
  refine (begun_calls W0).mono ?_
  rintro e_ w1 ⟨rfl, hb⟩
  have HB1 := Aside0.mk (below_step HB0.out hb)
  have HX1 := Aside0.mk (blk_below HX0.out hb)
  clear hb HB0 HX0 hW0 hx
  have x0 : w1.cell? ⟨x, 0, none⟩ = some (.int .i64 r.1) := blk_cell HX1.out 0
  have x1 : w1.cell? ⟨x, 1, none⟩ = some (.int .i64 r.2.1) := blk_cell HX1.out 1
  have x2 : w1.cell? ⟨x, 2, none⟩ = some (.string r.2.2.1) := blk_cell HX1.out 2
  have x3 : w1.cell? ⟨x, 3, none⟩ = some (.string r.2.2.2) := blk_cell HX1.out 3
  unfold recV at HCU
  go_wp2_with fail
  refine (HCU.out w1).mono ?_
  rintro e_ w2 ⟨rfl, hb⟩
  have HB2 := Aside0.mk (below_step HB1.out hb)
  have HX2 := Aside0.mk (blk_below HX1.out hb)
  clear hb HB1 HX1 x0 x1 x2 x3 HCU
  generalize cutR r = r1
  have x0 : w2.cell? ⟨x, 0, none⟩ = some (.int .i64 r.1) := blk_cell HX2.out 0
  have x1 : w2.cell? ⟨x, 1, none⟩ = some (.int .i64 r.2.1) := blk_cell HX2.out 1
  have x2 : w2.cell? ⟨x, 2, none⟩ = some (.string r.2.2.1) := blk_cell HX2.out 2
  have x3 : w2.cell? ⟨x, 3, none⟩ = some (.string r.2.2.2) := blk_cell HX2.out 3
  obtain ⟨ya, yb, yc, ye, e1, e2, e3, e4, q1, q2, q3, q4, g1, g2, g3, g4, hzb, hzg⟩ := store4 HX2.out (.int .i64 r1.1) (.int .i64 r1.2.1) (.string r1.2.2.1) (.string r1.2.2.2)
  have HX3 := Aside0.mk hzb
  have HB3 := Aside0.mk (pw_below_grown HB2.out (some x) HB2.out.size hzg (fun q hq => by injection hq with hq; have := HXX.out; omega))
  have y0 : ye.cell? ⟨x, 0, none⟩ = some (.int .i64 r1.1) := blk_cell hzb 0
  have z3 : ye.cell? ⟨x, 3, none⟩ = some (.string r1.2.2.2) := blk_cell hzb 3
  have zf3 : ye.frozen? ⟨x, 3, none⟩ = false := blk_frozen hzb 3
  clear hzb hzg HX2 HB2
  go_upto_region 5 with fail
  clear x0 x1 x2 x3 e1 e2 e3 e4 q1 q2 q3 q4 g1 g2 g3 g4
  go_cut [26] (fun s26 wx => wx = ye ∧ s26 = .bool (decide (0 < a1 ∧ a1 < 4200 ∧ r1.1 = 1)))
  case first =>
    by_cases p1 : 0 < a1
    · have k1 : (0 < a1) = True := eq_true p1
      by_cases p2 : a1 < 4200
      · have k2 : (a1 < 4200) = True := eq_true p2
        by_cases p3 : r1.1 = 1
        · have k3 : (r1.1 == 1) = true := by rw [p3]; rfl
          have KD : Aside0 (decide (0 < a1 ∧ a1 < 4200 ∧ r1.1 = 1) = true) := ⟨decide_eq_true ⟨p1, p2, p3⟩⟩
          clear p1 p2 p3
          go_wp2_with fail
          go_meet
          exact ⟨rfl, by rw [KD.out]⟩
        · have k3 : (r1.1 == 1) = false := beq_eq_false_iff_ne.2 p3
          have KD : Aside0 (decide (0 < a1 ∧ a1 < 4200 ∧ r1.1 = 1) = false) := ⟨decide_eq_false (fun h => p3 h.2.2)⟩
          clear p1 p2 p3
          go_wp2_with fail
          go_meet
          exact ⟨rfl, by rw [KD.out]⟩
      · have k2 : (a1 < 4200) = False := eq_false p2
        have KD : Aside0 (decide (0 < a1 ∧ a1 < 4200 ∧ r1.1 = 1) = false) := ⟨decide_eq_false (fun h => p2 h.2.1)⟩
        clear p1 p2
        go_wp2_with fail
        go_meet
        exact ⟨rfl, by rw [KD.out]⟩
    · have k1 : (0 < a1) = False := eq_false p1
      have KD : Aside0 (decide (0 < a1 ∧ a1 < 4200 ∧ r1.1 = 1) = false) := ⟨decide_eq_false (fun h => p1 h.1)⟩
      clear p1
      go_wp2_with fail
      go_meet
      exact ⟨rfl, by rw [KD.out]⟩
  case rest =>
    obtain ⟨rfl, rfl⟩ := hcut
    go_upto_if 26 with fail
    go_cut [] (fun wx => ∃ r2 : Rec, Aside0 (Blk wx x #[.int .i64 r2.1, .int .i64 r2.2.1, .string r2.2.2.1, .string r2.2.2.2] 45) ∧ Aside0 (Below w.heap.size w wx))
    case first =>
      by_cases q : 0 < a1 ∧ a1 < 4200 ∧ r1.1 = 1
      · rw [decide_eq_true q]
        obtain ⟨n, rfl⟩ := Int.eq_ofNat_of_zero_le (by omega : 0 ≤ a1)
        have hn : n < 4200 := by omega
        clear q y0 z3 zf3
        have HBR := Aside0.mk (Below.refl wc.heap.size wc)
        go_wp2_with ((with_reducible refine gate_dst (N := 28) rfl ?_); go_must (refine Kd.R_make (Kd.int .u8) (w0 := wc) (wc.heap.size) 5 ?hg (N := 28) ?hd 22 (.tmp 27) (.tmp 27) ?ho_ ((n : Int)) ?hx_ ?hy_ Try.underlying22 (.int .u8 0) 1 info5 rfl (by decide) (by decide) (0) (ok := fun _ => True) (okp := fun _ => True) ?hz_ (fun _ hk => hk) trivial (by omega) ?hl_ (HBR.out) (Below.size (HBR.out)) ?_; (case hd => rfl); (case hg => rfl); (case ho_ => rfl); (case hx_ => first | (go_simp; done) | (go_simp; rfl)); (case hy_ => first | (go_simp; done) | (go_simp; rfl)); (case hz_ => first | rfl | exact ⟨rfl⟩ | trivial); (case hl_ => omega); intro vd w4 ho3 hb hg_ hnew_; have HX := Aside0.mk ho3; have HBX := Aside0.mk hb; obtain ⟨zs, hzs⟩ : ∃ q, List.replicate (n : Int).toNat (0 : Int) = q := ⟨_, rfl⟩; rw [hzs] at ho3; have hzl : zs.length = n := (by rw [← hzs]; simp); have HX5 := Aside0.mk (blk_below HX3.out hb); have HB5 := Aside0.mk (below_step HB3.out hb); obtain ⟨A9, c9, ev_⟩ := Kd.R_slice ho3; subst ev_; have hcr := (Kd.R_reads' ho3).2.2; rw [hzl] at hcr; have hst := Kd.C_string (P := Try.prog) (A := A9) (c := c9) Try.underlying22 Try.underlying5 Try.underlying9 hcr; rw [hzl]; have z3 : w4.cell? ⟨x, 3, none⟩ = some (.string r1.2.2.2) := blk_cell HX5.out 3; have zf3 := blk_frozen HX5.out 3; clear HX HBX hcr hzl hzs; clear ho3 hb hg_ hnew_))
        have hbs := blk_set HX5.out 3 (.string (strOfNums zs))
        have hg3 : w4.grownBy (w4.setCell ⟨x, 3, none⟩ (.string (strOfNums zs))) (some x) := grown_set
        have HB6 := Aside0.mk (pw_below_grown HB5.out (some x) HB5.out.size hg3 (fun q hq => by injection hq with hq; have := HXX.out; omega))
        have HX6 := Aside0.mk hbs
        clear hbs hg3
        go_wp2_with fail
        go_meet
        exact ⟨(r1.1, r1.2.1, r1.2.2.1, strOfNums zs), HX6, HB6⟩
      · rw [decide_eq_false q]
        clear q
        go_wp2_with fail
        go_meet
        exact ⟨r1, HX3, HB3⟩
    case rest =>
      clear HX3 HB3 y0 z3 zf3
      obtain ⟨r2, HX3, HB3⟩ := hcut
      have HRV : Aside0 (∀ wx : World, Blk wx x #[.int .i64 r2.1, .int .i64 r2.2.1, .string r2.2.2.1, .string r2.2.2.2] 45 → wx.cell? ⟨x, 0, none⟩ = some (.int .i64 r2.1) ∧ wx.cell? ⟨x, 1, none⟩ = some (.int .i64 r2.2.1) ∧ wx.cell? ⟨x, 2, none⟩ = some (.string r2.2.2.1) ∧ wx.cell? ⟨x, 3, none⟩ = some (.string r2.2.2.2)) := ⟨fun wx h => ⟨blk_cell h 0, blk_cell h 1, blk_cell h 2, blk_cell h 3⟩⟩
      have HRC := Aside0.mk (fun w => rcheck_calls r2.1 r2.2.1 r2.2.2.1 r2.2.2.2 w)
      have HCK := Aside0.mk (fun w => check_calls r2.1 r2.2.1 r2.2.2.1 r2.2.2.2 w)
      obtain ⟨x0, x1, x2, x3⟩ := HRV.out wc HX3.out
      by_cases hc : checkL r2.1 r2.2.1 r2.2.2.1 r2.2.2.2 = 0
      · have HEN := Aside0.mk (fun w => encode_ok r2.1 r2.2.1 r2.2.2.1 r2.2.2.2 hc w)
        have HRE := Aside0.mk (fun w => rencode_ok r2.1 r2.2.1 r2.2.2.1 r2.2.2.2 hc w)
        rw [hc] at HRC HCK
        have hone := rscan_one (r := r2) hc
        have hsl : (sealL (recT r2)).length ≤ 4173 := by rw [sealL_len]; have := rec_len (r := r2) hc; omega
        have hsb : Bys (sealL (recT r2)) := bys_sealL (bys_rec hc)
        change Aside0 (∀ w, Calls _ _ _ _ fun e w' => ∃ x : Value, _ ∧ Kd.R _ _ _ _ _ x (sealL (recT r2)) ∧ _) at HEN
        change Aside0 (∀ w, Calls _ _ _ _ fun e w' => ∃ x : Value, _ ∧ Kd.R _ _ _ _ _ x (sealL (recT r2)) ∧ _) at HRE
        generalize sealL (recT r2) = s at *
        have HSC := Aside0.mk (fun A c w h1 h2 => recscan_calls A c s hsb w h1 h2 (by omega))
        rw [hone] at HSC
        simp only [List.length_singleton] at HSC
        obtain ⟨ns, hns⟩ : ∃ q, s.length = q := ⟨_, rfl⟩
        have HNS := Aside0.mk hns
        rw [hns] at hsl
        unfold recV at HEN HRE HRC HCK
        clear hone hsb hc hns
        go_wp2_with fail
        refine (HEN.out wc).mono ?_
        rintro e_ w4 ⟨v4, rfl, ho, hb⟩
        obtain ⟨A4, c4, rfl⟩ := Kd.R_slice ho
        have HV4 := Aside0.mk (Kd.R_reads' ho).2
        have HB4 := Aside0.mk (below_step HB3.out hb)
        have HX4 := Aside0.mk (blk_below HX3.out hb)
        clear ho hb HB3 HX3 x0 x1 x2 x3 HEN
        rw [HNS.out] at HV4 ⊢
        go_wp2_with fail
        refine wp_region_mix (fun w_ w1_ => Below w_.heap.size w_ w1_) [(false, 0), (false, 1), (true, 2), (false, 3), (false, 4), (false, 5), (false, 7), (true, 6), (false, 8), (false, 9), (false, 10), (false, 11), (false, 12), (false, 13), (true, 14), (false, 15), (false, 16), (false, 17)] (by kernel_rfl) (by kernel_rfl) (fun _ => Below.refl _ _) (fun h h' => below_step h h') (fun wd hhp_ hbw_ => ?_)
        have HBw := Aside0.mk (below_step HB4.out hbw_)
        have HXw := Aside0.mk (blk_below HX4.out hbw_)
        have HVw := Aside0.mk (Kd.C_below HV4.out.2 hbw_)
        have hx0 := fun (wx : World) (h : Below wd.heap.size wd wx) => (HRV.out wx (blk_below HXw.out h)).1
        have hx1 := fun (wx : World) (h : Below wd.heap.size wd wx) => (HRV.out wx (blk_below HXw.out h)).2.1
        have hx2 := fun (wx : World) (h : Below wd.heap.size wd wx) => (HRV.out wx (blk_below HXw.out h)).2.2.1
        have hx3 := fun (wx : World) (h : Below wd.heap.size wd wx) => (HRV.out wx (blk_below HXw.out h)).2.2.2
        have hst := fun (wx : World) (h : Below wd.heap.size wd wx) => Kd.C_string (P := Try.prog) (A := A4) (c := c4) Try.underlying22 Try.underlying5 Try.underlying9 (Kd.C_below HVw.out h)
        clear hhp_ hbw_
        (refine mix_read (o := { dst := some 36, op := Op.move (Operand.tmp 7), type := 47, pos := "law.go:47", after := #[], guard := none }) rfl (by first | rfl | (simp [Region.wanted, yielded]; done)) (by intro w_ hE_; (try dsimp only at hE_); first | (go_simp; done) | (go_simp; rfl)) ?_)
        (try simp only [Act.put, List.setIfInBounds_toArray, List.set_cons_zero, List.set_cons_succ])
        (refine mix_read (o := { dst := some 37, op := Op.load 45 (Operand.tmp 2), type := 45, pos := "law.go:47", after := #[], guard := none }) rfl (by first | rfl | (simp [Region.wanted, yielded]; done)) (by intro w_ hE_; (try dsimp only at hE_); first | (go_simp; done) | (go_simp; rfl)) ?_)
        (try simp only [Act.put, List.setIfInBounds_toArray, List.set_cons_zero, List.set_cons_succ])
        refine mix_call (o := { dst := some 38, op := Op.call { callee := Callee.value (Operand.func 34), args := #[Operand.tmp 37], argTypes := #[45] }, type := 47, pos := "law.go:47", after := #[{ on := 1, ground := Ground.data }], guard := none }) rfl (by first | rfl | (simp [Region.wanted, yielded]; done)) (by first | (go_simp; done) | (go_simp; exact ⟨rfl, rfl⟩) | (go_simp; rfl)) ?_
        refine (HRC.out _).mono ?_
        rintro e_ y1 ⟨rfl, hb⟩
        have HB5 := Aside0.mk (below_step HBw.out hb)
        have HXa := Aside0.mk (blk_below HXw.out hb)
        have HVa := Aside0.mk (Kd.C_below HVw.out hb)
        refine ⟨_, rfl, hb, ?_⟩
        clear hx0 hx1 hx2 hx3 hb hst
        have hx0 := fun (wx : World) (h : Below y1.heap.size y1 wx) => (HRV.out wx (blk_below HXa.out h)).1
        have hx1 := fun (wx : World) (h : Below y1.heap.size y1 wx) => (HRV.out wx (blk_below HXa.out h)).2.1
        have hx2 := fun (wx : World) (h : Below y1.heap.size y1 wx) => (HRV.out wx (blk_below HXa.out h)).2.2.1
        have hx3 := fun (wx : World) (h : Below y1.heap.size y1 wx) => (HRV.out wx (blk_below HXa.out h)).2.2.2
        have hst := fun (wx : World) (h : Below y1.heap.size y1 wx) => Kd.C_string (P := Try.prog) (A := A4) (c := c4) Try.underlying22 Try.underlying5 Try.underlying9 (Kd.C_below HVa.out h)
        (try simp only [Act.put, List.setIfInBounds_toArray, List.set_cons_zero, List.set_cons_succ])
        (refine mix_read (o := { dst := some 39, op := Op.binOp BinOp.neq 47 (Operand.tmp 36) (Operand.tmp 38) 47, type := 4, pos := "law.go:47", after := #[{ on := 0, ground := Ground.data }, { on := 2, ground := Ground.data }], guard := none }) rfl (by first | rfl | (simp [Region.wanted, yielded]; done)) (by intro w_ hE_; (try dsimp only at hE_); first | (go_simp; done) | (go_simp; rfl)) ?_)
        (try simp only [Act.put, List.setIfInBounds_toArray, List.set_cons_zero, List.set_cons_succ])
        (refine mix_read (o := { dst := some 40, op := Op.move (Operand.tmp 39), type := 4, pos := "law.go:47", after := #[{ on := 3, ground := Ground.data }, { on := 2, ground := Ground.chain }], guard := none }) rfl (by first | rfl | (simp [Region.wanted, yielded]; done)) (by intro w_ hE_; (try dsimp only at hE_); first | (go_simp; done) | (go_simp; rfl)) ?_)
        (try simp only [Act.put, List.setIfInBounds_toArray, List.set_cons_zero, List.set_cons_succ])
        first | (refine mix_read (o := { dst := some 41, op := Op.load 45 (Operand.tmp 2), type := 45, pos := "law.go:47", after := #[{ on := 4, ground := Ground.guard }], guard := some (4, false) }) rfl (by first | rfl | (simp [Region.wanted, yielded]; done)) (by intro w_ hE_; (try dsimp only at hE_); first | (go_simp; done) | (go_simp; rfl)) ?_) | (refine mix_skip (o := { dst := some 41, op := Op.load 45 (Operand.tmp 2), type := 45, pos := "law.go:47", after := #[{ on := 4, ground := Ground.guard }], guard := some (4, false) }) rfl (by first | rfl | (simp [Region.wanted, yielded]; done)) ?_)
        (try simp only [Act.put, List.setIfInBounds_toArray, List.set_cons_zero, List.set_cons_succ])
        first | (refine mix_read (o := { dst := some 43, op := Op.move (Operand.tmp 7), type := 47, pos := "law.go:47", after := #[{ on := 4, ground := Ground.guard }], guard := some (4, false) }) rfl (by first | rfl | (simp [Region.wanted, yielded]; done)) (by intro w_ hE_; (try dsimp only at hE_); first | (go_simp; done) | (go_simp; rfl)) ?_) | (refine mix_skip (o := { dst := some 43, op := Op.move (Operand.tmp 7), type := 47, pos := "law.go:47", after := #[{ on := 4, ground := Ground.guard }], guard := some (4, false) }) rfl (by first | rfl | (simp [Region.wanted, yielded]; done)) ?_)
        (try simp only [Act.put, List.setIfInBounds_toArray, List.set_cons_zero, List.set_cons_succ])
        refine mix_call (o := { dst := some 42, op := Op.call { callee := Callee.value (Operand.func 35), args := #[Operand.tmp 41], argTypes := #[45] }, type := 47, pos := "law.go:47", after := #[{ on := 5, ground := Ground.data }, { on := 4, ground := Ground.chain }, { on := 4, ground := Ground.guard }], guard := some (4, false) }) rfl (by first | rfl | (simp [Region.wanted, yielded]; done)) (by first | (go_simp; done) | (go_simp; exact ⟨rfl, rfl⟩) | (go_simp; rfl)) ?_
        refine (HCK.out _).mono ?_
        rintro e_ y2 ⟨rfl, hb⟩
        have HB6 := Aside0.mk (below_step HB5.out hb)
        have HXb := Aside0.mk (blk_below HXa.out hb)
        have HVb := Aside0.mk (Kd.C_below HVa.out hb)
        refine ⟨_, rfl, hb, ?_⟩
        clear hx0 hx1 hx2 hx3 hb hst
        have hx0 := fun (wx : World) (h : Below y2.heap.size y2 wx) => (HRV.out wx (blk_below HXb.out h)).1
        have hx1 := fun (wx : World) (h : Below y2.heap.size y2 wx) => (HRV.out wx (blk_below HXb.out h)).2.1
        have hx2 := fun (wx : World) (h : Below y2.heap.size y2 wx) => (HRV.out wx (blk_below HXb.out h)).2.2.1
        have hx3 := fun (wx : World) (h : Below y2.heap.size y2 wx) => (HRV.out wx (blk_below HXb.out h)).2.2.2
        have hst := fun (wx : World) (h : Below y2.heap.size y2 wx) => Kd.C_string (P := Try.prog) (A := A4) (c := c4) Try.underlying22 Try.underlying5 Try.underlying9 (Kd.C_below HVb.out h)
        (try simp only [Act.put, List.setIfInBounds_toArray, List.set_cons_zero, List.set_cons_succ])
        first | (refine mix_read (o := { dst := some 44, op := Op.binOp BinOp.neq 47 (Operand.tmp 42) (Operand.tmp 43) 47, type := 4, pos := "law.go:47", after := #[{ on := 6, ground := Ground.data }, { on := 7, ground := Ground.data }, { on := 4, ground := Ground.guard }], guard := some (4, false) }) rfl (by first | rfl | (simp [Region.wanted, yielded]; done)) (by intro w_ hE_; (try dsimp only at hE_); first | (go_simp; done) | (go_simp; rfl)) ?_) | (refine mix_skip (o := { dst := some 44, op := Op.binOp BinOp.neq 47 (Operand.tmp 42) (Operand.tmp 43) 47, type := 4, pos := "law.go:47", after := #[{ on := 6, ground := Ground.data }, { on := 7, ground := Ground.data }, { on := 4, ground := Ground.guard }], guard := some (4, false) }) rfl (by first | rfl | (simp [Region.wanted, yielded]; done)) ?_)
        (try simp only [Act.put, List.setIfInBounds_toArray, List.set_cons_zero, List.set_cons_succ])
        (refine mix_read (o := { dst := some 45, op := Op.pick (Operand.tmp 40) (Operand.const (Value.bool true)) (Operand.tmp 44), type := 4, pos := "law.go:47", after := #[{ on := 4, ground := Ground.data }, { on := 8, ground := Ground.data }], guard := none }) rfl (by first | rfl | (simp [Region.wanted, yielded]; done)) (by intro w_ hE_; (try dsimp only at hE_); first | (go_simp; done) | (go_simp; rfl)) ?_)
        (try simp only [Act.put, List.setIfInBounds_toArray, List.set_cons_zero, List.set_cons_succ])
        (refine mix_read (o := { dst := some 46, op := Op.move (Operand.tmp 45), type := 4, pos := "law.go:47", after := #[{ on := 9, ground := Ground.data }, { on := 6, ground := Ground.chain }], guard := none }) rfl (by first | rfl | (simp [Region.wanted, yielded]; done)) (by intro w_ hE_; (try dsimp only at hE_); first | (go_simp; done) | (go_simp; rfl)) ?_)
        (try simp only [Act.put, List.setIfInBounds_toArray, List.set_cons_zero, List.set_cons_succ])
        first | (refine mix_read (o := { dst := some 47, op := Op.move (Operand.tmp 6), type := 22, pos := "law.go:47", after := #[{ on := 10, ground := Ground.guard }], guard := some (10, false) }) rfl (by first | rfl | (simp [Region.wanted, yielded]; done)) (by intro w_ hE_; (try dsimp only at hE_); first | (go_simp; done) | (go_simp; rfl)) ?_) | (refine mix_skip (o := { dst := some 47, op := Op.move (Operand.tmp 6), type := 22, pos := "law.go:47", after := #[{ on := 10, ground := Ground.guard }], guard := some (10, false) }) rfl (by first | rfl | (simp [Region.wanted, yielded]; done)) ?_)
        (try simp only [Act.put, List.setIfInBounds_toArray, List.set_cons_zero, List.set_cons_succ])
        first | (refine mix_read (o := { dst := some 48, op := Op.convert 22 9 (Operand.tmp 47), type := 9, pos := "law.go:47", after := #[{ on := 11, ground := Ground.data }, { on := 10, ground := Ground.guard }], guard := some (10, false) }) rfl (by first | rfl | (simp [Region.wanted, yielded]; done)) (by intro w_ hE_; (try dsimp only at hE_); first | (go_simp; done) | (go_simp; rfl)) ?_) | (refine mix_skip (o := { dst := some 48, op := Op.convert 22 9 (Operand.tmp 47), type := 9, pos := "law.go:47", after := #[{ on := 11, ground := Ground.data }, { on := 10, ground := Ground.guard }], guard := some (10, false) }) rfl (by first | rfl | (simp [Region.wanted, yielded]; done)) ?_)
        (try simp only [Act.put, List.setIfInBounds_toArray, List.set_cons_zero, List.set_cons_succ])
        first | (refine mix_read (o := { dst := some 49, op := Op.load 45 (Operand.tmp 2), type := 45, pos := "law.go:47", after := #[{ on := 10, ground := Ground.guard }], guard := some (10, false) }) rfl (by first | rfl | (simp [Region.wanted, yielded]; done)) (by intro w_ hE_; (try dsimp only at hE_); first | (go_simp; done) | (go_simp; rfl)) ?_) | (refine mix_skip (o := { dst := some 49, op := Op.load 45 (Operand.tmp 2), type := 45, pos := "law.go:47", after := #[{ on := 10, ground := Ground.guard }], guard := some (10, false) }) rfl (by first | rfl | (simp [Region.wanted, yielded]; done)) ?_)
        (try simp only [Act.put, List.setIfInBounds_toArray, List.set_cons_zero, List.set_cons_succ])
        refine mix_call (o := { dst := some 50, op := Op.call { callee := Callee.value (Operand.func 36), args := #[Operand.tmp 49], argTypes := #[45] }, type := 22, pos := "law.go:47", after := #[{ on := 13, ground := Ground.data }, { on := 10, ground := Ground.chain }, { on := 10, ground := Ground.guard }], guard := some (10, false) }) rfl (by first | rfl | (simp [Region.wanted, yielded]; done)) (by first | (go_simp; done) | (go_simp; exact ⟨rfl, rfl⟩) | (go_simp; rfl)) ?_
        refine (HRE.out _).mono ?_
        rintro e_ y3 ⟨v5, rfl, ho, hb⟩
        obtain ⟨A5, c5, rfl⟩ := Kd.R_slice ho
        have HV5 := Aside0.mk (Kd.R_reads' ho).2.2
        rw [HNS.out] at HV5 ⊢
        clear ho
        have HB7 := Aside0.mk (below_step HB6.out hb)
        have HXc := Aside0.mk (blk_below HXb.out hb)
        have HVc := Aside0.mk (Kd.C_below HVb.out hb)
        refine ⟨_, rfl, hb, ?_⟩
        clear hx0 hx1 hx2 hx3 hb hst
        have hx0 := fun (wx : World) (h : Below y3.heap.size y3 wx) => (HRV.out wx (blk_below HXc.out h)).1
        have hx1 := fun (wx : World) (h : Below y3.heap.size y3 wx) => (HRV.out wx (blk_below HXc.out h)).2.1
        have hx2 := fun (wx : World) (h : Below y3.heap.size y3 wx) => (HRV.out wx (blk_below HXc.out h)).2.2.1
        have hx3 := fun (wx : World) (h : Below y3.heap.size y3 wx) => (HRV.out wx (blk_below HXc.out h)).2.2.2
        have hst := fun (wx : World) (h : Below y3.heap.size y3 wx) => Kd.C_string (P := Try.prog) (A := A4) (c := c4) Try.underlying22 Try.underlying5 Try.underlying9 (Kd.C_below HVc.out h)
        have hst5 := fun (wx : World) (h : Below y3.heap.size y3 wx) => Kd.C_string (P := Try.prog) (A := A5) (c := c5) Try.underlying22 Try.underlying5 Try.underlying9 (Kd.C_below HV5.out h)
        (try simp only [Act.put, List.setIfInBounds_toArray, List.set_cons_zero, List.set_cons_succ])
        first | (refine mix_read (o := { dst := some 51, op := Op.convert 22 9 (Operand.tmp 50), type := 9, pos := "law.go:47", after := #[{ on := 14, ground := Ground.data }, { on := 10, ground := Ground.guard }], guard := some (10, false) }) rfl (by first | rfl | (simp [Region.wanted, yielded]; done)) (by intro w_ hE_; (try dsimp only at hE_); first | (go_simp; done) | (go_simp; rfl)) ?_) | (refine mix_skip (o := { dst := some 51, op := Op.convert 22 9 (Operand.tmp 50), type := 9, pos := "law.go:47", after := #[{ on := 14, ground := Ground.data }, { on := 10, ground := Ground.guard }], guard := some (10, false) }) rfl (by first | rfl | (simp [Region.wanted, yielded]; done)) ?_)
        (try simp only [Act.put, List.setIfInBounds_toArray, List.set_cons_zero, List.set_cons_succ])
        first | (refine mix_read (o := { dst := some 52, op := Op.binOp BinOp.neq 9 (Operand.tmp 48) (Operand.tmp 51) 9, type := 4, pos := "law.go:47", after := #[{ on := 12, ground := Ground.data }, { on := 15, ground := Ground.data }, { on := 10, ground := Ground.guard }], guard := some (10, false) }) rfl (by first | rfl | (simp [Region.wanted, yielded]; done)) (by intro w_ hE_; (try dsimp only at hE_); first | (go_simp; done) | (go_simp; rfl)) ?_) | (refine mix_skip (o := { dst := some 52, op := Op.binOp BinOp.neq 9 (Operand.tmp 48) (Operand.tmp 51) 9, type := 4, pos := "law.go:47", after := #[{ on := 12, ground := Ground.data }, { on := 15, ground := Ground.data }, { on := 10, ground := Ground.guard }], guard := some (10, false) }) rfl (by first | rfl | (simp [Region.wanted, yielded]; done)) ?_)
        (try simp only [Act.put, List.setIfInBounds_toArray, List.set_cons_zero, List.set_cons_succ])
        (refine mix_read (o := { dst := some 53, op := Op.pick (Operand.tmp 46) (Operand.const (Value.bool true)) (Operand.tmp 52), type := 4, pos := "law.go:47", after := #[{ on := 10, ground := Ground.data }, { on := 16, ground := Ground.data }], guard := none }) rfl (by first | rfl | (simp [Region.wanted, yielded]; done)) (by intro w_ hE_; (try dsimp only at hE_); first | (go_simp; done) | (go_simp; rfl)) ?_)
        (try simp only [Act.put, List.setIfInBounds_toArray, List.set_cons_zero, List.set_cons_succ])
        refine mix_nil ?_
        have hn0 : (ns == ns) = true := beq_self_eq_true _
        go_wp2_with fail
        have hscan := HSC.out A4 c4 y3
        rw [HNS.out] at hscan
        refine (hscan HVc.out HV4.out.1).mono ?_
        clear hscan
        rintro e_ y4 ⟨v8, rfl, ho, hb⟩
        obtain ⟨A8, c8, rfl⟩ := Kd.R_slice ho
        have HV8 := Aside0.mk (Kd.R_reads' ho).2.2
        have HB8 := Aside0.mk (below_step HB7.out hb)
        have HX8 := Aside0.mk (blk_below HXc.out hb)
        have HEQ := Aside0.mk (fun w => eq_calls r2 r2 w)
        simp only [decide_true] at HEQ
        unfold recV at HEQ
        clear ho hb HSC HRE HRC HCK HB4 HX4 HBw HXw HVw HB5 HXa HVa HB6 HXb HVb HV5 HB7 HXc HVc hx0 hx1 hx2 hx3 hst hst5
        rw [List.length_singleton] at HV8 ⊢
        go_wp2_with fail
        refine wp_region_mix (fun w_ w1_ => Below w_.heap.size w_ w1_) [(false, 0), (false, 1), (false, 2), (false, 3), (false, 4), (false, 5), (false, 6), (false, 7), (false, 8), (false, 9), (false, 10), (false, 11), (false, 12), (false, 13), (false, 14), (false, 15), (false, 16), (true, 17), (false, 18), (false, 19)] (by kernel_rfl) (by kernel_rfl) (fun _ => Below.refl _ _) (fun h h' => below_step h h') (fun we hhp_ hbw_ => ?_)
        have HBv := Aside0.mk (below_step HB8.out hbw_)
        have HXw := Aside0.mk (blk_below HX8.out hbw_)
        obtain ⟨ad, e1, p0, p1, p2, p3⟩ := rec_at (Kd.C_below HV8.out hbw_) 0 (by omega)
        subst e1
        have hx0 := fun (wx : World) (h : Below we.heap.size we wx) => (HRV.out wx (blk_below HXw.out h)).1
        have hx1 := fun (wx : World) (h : Below we.heap.size we wx) => (HRV.out wx (blk_below HXw.out h)).2.1
        have hx2 := fun (wx : World) (h : Below we.heap.size we wx) => (HRV.out wx (blk_below HXw.out h)).2.2.1
        have hx3 := fun (wx : World) (h : Below we.heap.size we wx) => (HRV.out wx (blk_below HXw.out h)).2.2.2
        simp only [List.getD_cons_zero, Nat.zero_mul] at p0 p1 p2 p3
        rw [show ad.add 0 = ad by simp [Addr.add]] at p0 p1 p2 p3
        have hl0 := fun (wx : World) (h : Below we.heap.size we wx) => (h.cell (World.block_lt_of_cell? we _ p0)).trans p0
        have hl1 := fun (wx : World) (h : Below we.heap.size we wx) => (h.cell (World.block_lt_of_cell? we _ p1)).trans p1
        have hl2 := fun (wx : World) (h : Below we.heap.size we wx) => (h.cell (World.block_lt_of_cell? we _ p2)).trans p2
        have hl3 := fun (wx : World) (h : Below we.heap.size we wx) => (h.cell (World.block_lt_of_cell? we _ p3)).trans p3
        clear hhp_ hbw_ p0 p1 p2 p3
        (refine mix_read (o := { dst := some 65, op := Op.move (Operand.tmp 10), type := 4, pos := "law.go:54", after := #[], guard := none }) rfl (by first | rfl | (simp [Region.wanted, yielded]; done)) (by intro w_ hE_; (try dsimp only at hE_); first | (go_simp; done) | (go_simp; rfl)) ?_)
        (try simp only [Act.put, List.setIfInBounds_toArray, List.set_cons_zero, List.set_cons_succ])
        (refine mix_read (o := { dst := some 66, op := Op.move (Operand.tmp 65), type := 4, pos := "law.go:54", after := #[{ on := 0, ground := Ground.data }], guard := none }) rfl (by first | rfl | (simp [Region.wanted, yielded]; done)) (by intro w_ hE_; (try dsimp only at hE_); first | (go_simp; done) | (go_simp; rfl)) ?_)
        (try simp only [Act.put, List.setIfInBounds_toArray, List.set_cons_zero, List.set_cons_succ])
        first | (refine mix_read (o := { dst := some 67, op := Op.move (Operand.tmp 9), type := 3, pos := "law.go:54", after := #[{ on := 1, ground := Ground.guard }], guard := some (1, true) }) rfl (by first | rfl | (simp [Region.wanted, yielded]; done)) (by intro w_ hE_; (try dsimp only at hE_); first | (go_simp; done) | (go_simp; rfl)) ?_) | (refine mix_skip (o := { dst := some 67, op := Op.move (Operand.tmp 9), type := 3, pos := "law.go:54", after := #[{ on := 1, ground := Ground.guard }], guard := some (1, true) }) rfl (by first | rfl | (simp [Region.wanted, yielded]; done)) ?_)
        (try simp only [Act.put, List.setIfInBounds_toArray, List.set_cons_zero, List.set_cons_succ])
        first | (refine mix_read (o := { dst := some 68, op := Op.move (Operand.tmp 6), type := 22, pos := "law.go:54", after := #[{ on := 1, ground := Ground.guard }], guard := some (1, true) }) rfl (by first | rfl | (simp [Region.wanted, yielded]; done)) (by intro w_ hE_; (try dsimp only at hE_); first | (go_simp; done) | (go_simp; rfl)) ?_) | (refine mix_skip (o := { dst := some 68, op := Op.move (Operand.tmp 6), type := 22, pos := "law.go:54", after := #[{ on := 1, ground := Ground.guard }], guard := some (1, true) }) rfl (by first | rfl | (simp [Region.wanted, yielded]; done)) ?_)
        (try simp only [Act.put, List.setIfInBounds_toArray, List.set_cons_zero, List.set_cons_succ])
        first | (refine mix_read (o := { dst := some 69, op := Op.call { callee := Callee.builtin Builtin.len, args := #[Operand.tmp 68], argTypes := #[22] }, type := 3, pos := "law.go:54", after := #[{ on := 3, ground := Ground.data }, { on := 1, ground := Ground.guard }], guard := some (1, true) }) rfl (by first | rfl | (simp [Region.wanted, yielded]; done)) (by intro w_ hE_; (try dsimp only at hE_); first | (go_simp; done) | (go_simp; rfl)) ?_) | (refine mix_skip (o := { dst := some 69, op := Op.call { callee := Callee.builtin Builtin.len, args := #[Operand.tmp 68], argTypes := #[22] }, type := 3, pos := "law.go:54", after := #[{ on := 3, ground := Ground.data }, { on := 1, ground := Ground.guard }], guard := some (1, true) }) rfl (by first | rfl | (simp [Region.wanted, yielded]; done)) ?_)
        (try simp only [Act.put, List.setIfInBounds_toArray, List.set_cons_zero, List.set_cons_succ])
        first | (refine mix_read (o := { dst := some 70, op := Op.binOp BinOp.eql 3 (Operand.tmp 67) (Operand.tmp 69) 3, type := 4, pos := "law.go:54", after := #[{ on := 2, ground := Ground.data }, { on := 4, ground := Ground.data }, { on := 1, ground := Ground.guard }], guard := some (1, true) }) rfl (by first | rfl | (simp [Region.wanted, yielded]; done)) (by intro w_ hE_; (try dsimp only at hE_); first | (go_simp; done) | (go_simp; rfl)) ?_) | (refine mix_skip (o := { dst := some 70, op := Op.binOp BinOp.eql 3 (Operand.tmp 67) (Operand.tmp 69) 3, type := 4, pos := "law.go:54", after := #[{ on := 2, ground := Ground.data }, { on := 4, ground := Ground.data }, { on := 1, ground := Ground.guard }], guard := some (1, true) }) rfl (by first | rfl | (simp [Region.wanted, yielded]; done)) ?_)
        (try simp only [Act.put, List.setIfInBounds_toArray, List.set_cons_zero, List.set_cons_succ])
        (refine mix_read (o := { dst := some 71, op := Op.pick (Operand.tmp 66) (Operand.tmp 70) (Operand.const (Value.bool false)), type := 4, pos := "law.go:54", after := #[{ on := 1, ground := Ground.data }, { on := 5, ground := Ground.data }], guard := none }) rfl (by first | rfl | (simp [Region.wanted, yielded]; done)) (by intro w_ hE_; (try dsimp only at hE_); first | (go_simp; done) | (go_simp; rfl)) ?_)
        (try simp only [Act.put, List.setIfInBounds_toArray, List.set_cons_zero, List.set_cons_succ])
        (refine mix_read (o := { dst := some 72, op := Op.move (Operand.tmp 71), type := 4, pos := "law.go:54", after := #[{ on := 6, ground := Ground.data }, { on := 1, ground := Ground.chain }], guard := none }) rfl (by first | rfl | (simp [Region.wanted, yielded]; done)) (by intro w_ hE_; (try dsimp only at hE_); first | (go_simp; done) | (go_simp; rfl)) ?_)
        (try simp only [Act.put, List.setIfInBounds_toArray, List.set_cons_zero, List.set_cons_succ])
        first | (refine mix_read (o := { dst := some 73, op := Op.move (Operand.tmp 8), type := 52, pos := "law.go:54", after := #[{ on := 7, ground := Ground.guard }], guard := some (7, true) }) rfl (by first | rfl | (simp [Region.wanted, yielded]; done)) (by intro w_ hE_; (try dsimp only at hE_); first | (go_simp; done) | (go_simp; rfl)) ?_) | (refine mix_skip (o := { dst := some 73, op := Op.move (Operand.tmp 8), type := 52, pos := "law.go:54", after := #[{ on := 7, ground := Ground.guard }], guard := some (7, true) }) rfl (by first | rfl | (simp [Region.wanted, yielded]; done)) ?_)
        (try simp only [Act.put, List.setIfInBounds_toArray, List.set_cons_zero, List.set_cons_succ])
        first | (refine mix_read (o := { dst := some 74, op := Op.call { callee := Callee.builtin Builtin.len, args := #[Operand.tmp 73], argTypes := #[52] }, type := 3, pos := "law.go:54", after := #[{ on := 8, ground := Ground.data }, { on := 7, ground := Ground.guard }], guard := some (7, true) }) rfl (by first | rfl | (simp [Region.wanted, yielded]; done)) (by intro w_ hE_; (try dsimp only at hE_); first | (go_simp; done) | (go_simp; rfl)) ?_) | (refine mix_skip (o := { dst := some 74, op := Op.call { callee := Callee.builtin Builtin.len, args := #[Operand.tmp 73], argTypes := #[52] }, type := 3, pos := "law.go:54", after := #[{ on := 8, ground := Ground.data }, { on := 7, ground := Ground.guard }], guard := some (7, true) }) rfl (by first | rfl | (simp [Region.wanted, yielded]; done)) ?_)
        (try simp only [Act.put, List.setIfInBounds_toArray, List.set_cons_zero, List.set_cons_succ])
        first | (refine mix_read (o := { dst := some 75, op := Op.binOp BinOp.eql 3 (Operand.tmp 74) (Operand.const (Value.int IntKind.i64 1)) 3, type := 4, pos := "law.go:54", after := #[{ on := 9, ground := Ground.data }, { on := 7, ground := Ground.guard }], guard := some (7, true) }) rfl (by first | rfl | (simp [Region.wanted, yielded]; done)) (by intro w_ hE_; (try dsimp only at hE_); first | (go_simp; done) | (go_simp; rfl)) ?_) | (refine mix_skip (o := { dst := some 75, op := Op.binOp BinOp.eql 3 (Operand.tmp 74) (Operand.const (Value.int IntKind.i64 1)) 3, type := 4, pos := "law.go:54", after := #[{ on := 9, ground := Ground.data }, { on := 7, ground := Ground.guard }], guard := some (7, true) }) rfl (by first | rfl | (simp [Region.wanted, yielded]; done)) ?_)
        (try simp only [Act.put, List.setIfInBounds_toArray, List.set_cons_zero, List.set_cons_succ])
        (refine mix_read (o := { dst := some 76, op := Op.pick (Operand.tmp 72) (Operand.tmp 75) (Operand.const (Value.bool false)), type := 4, pos := "law.go:54", after := #[{ on := 7, ground := Ground.data }, { on := 10, ground := Ground.data }], guard := none }) rfl (by first | rfl | (simp [Region.wanted, yielded]; done)) (by intro w_ hE_; (try dsimp only at hE_); first | (go_simp; done) | (go_simp; rfl)) ?_)
        (try simp only [Act.put, List.setIfInBounds_toArray, List.set_cons_zero, List.set_cons_succ])
        (refine mix_read (o := { dst := some 77, op := Op.move (Operand.tmp 76), type := 4, pos := "law.go:54", after := #[{ on := 11, ground := Ground.data }, { on := 7, ground := Ground.chain }], guard := none }) rfl (by first | rfl | (simp [Region.wanted, yielded]; done)) (by intro w_ hE_; (try dsimp only at hE_); first | (go_simp; done) | (go_simp; rfl)) ?_)
        (try simp only [Act.put, List.setIfInBounds_toArray, List.set_cons_zero, List.set_cons_succ])
        first | (refine mix_read (o := { dst := some 78, op := Op.move (Operand.tmp 8), type := 52, pos := "law.go:54", after := #[{ on := 12, ground := Ground.guard }], guard := some (12, true) }) rfl (by first | rfl | (simp [Region.wanted, yielded]; done)) (by intro w_ hE_; (try dsimp only at hE_); first | (go_simp; done) | (go_simp; rfl)) ?_) | (refine mix_skip (o := { dst := some 78, op := Op.move (Operand.tmp 8), type := 52, pos := "law.go:54", after := #[{ on := 12, ground := Ground.guard }], guard := some (12, true) }) rfl (by first | rfl | (simp [Region.wanted, yielded]; done)) ?_)
        (try simp only [Act.put, List.setIfInBounds_toArray, List.set_cons_zero, List.set_cons_succ])
        first | (refine mix_read (o := { dst := some 79, op := Op.indexAddr 52 (Operand.tmp 78) (Operand.const (Value.int IntKind.i64 0)), type := 0, pos := "law.go:54", after := #[{ on := 13, ground := Ground.data }, { on := 12, ground := Ground.guard }], guard := some (12, true) }) rfl (by first | rfl | (simp [Region.wanted, yielded]; done)) (by intro w_ hE_; (try dsimp only at hE_); first | (go_simp; done) | (go_simp; rfl)) ?_) | (refine mix_skip (o := { dst := some 79, op := Op.indexAddr 52 (Operand.tmp 78) (Operand.const (Value.int IntKind.i64 0)), type := 0, pos := "law.go:54", after := #[{ on := 13, ground := Ground.data }, { on := 12, ground := Ground.guard }], guard := some (12, true) }) rfl (by first | rfl | (simp [Region.wanted, yielded]; done)) ?_)
        (try simp only [Act.put, List.setIfInBounds_toArray, List.set_cons_zero, List.set_cons_succ])
        first | (refine mix_read (o := { dst := some 80, op := Op.load 45 (Operand.tmp 79), type := 45, pos := "law.go:54", after := #[{ on := 14, ground := Ground.data }, { on := 12, ground := Ground.guard }], guard := some (12, true) }) rfl (by first | rfl | (simp [Region.wanted, yielded]; done)) (by intro w_ hE_; (try dsimp only at hE_); first | (go_simp; done) | (go_simp; rfl)) ?_) | (refine mix_skip (o := { dst := some 80, op := Op.load 45 (Operand.tmp 79), type := 45, pos := "law.go:54", after := #[{ on := 14, ground := Ground.data }, { on := 12, ground := Ground.guard }], guard := some (12, true) }) rfl (by first | rfl | (simp [Region.wanted, yielded]; done)) ?_)
        (try simp only [Act.put, List.setIfInBounds_toArray, List.set_cons_zero, List.set_cons_succ])
        first | (refine mix_read (o := { dst := some 81, op := Op.load 45 (Operand.tmp 2), type := 45, pos := "law.go:54", after := #[{ on := 12, ground := Ground.guard }], guard := some (12, true) }) rfl (by first | rfl | (simp [Region.wanted, yielded]; done)) (by intro w_ hE_; (try dsimp only at hE_); first | (go_simp; done) | (go_simp; rfl)) ?_) | (refine mix_skip (o := { dst := some 81, op := Op.load 45 (Operand.tmp 2), type := 45, pos := "law.go:54", after := #[{ on := 12, ground := Ground.guard }], guard := some (12, true) }) rfl (by first | rfl | (simp [Region.wanted, yielded]; done)) ?_)
        (try simp only [Act.put, List.setIfInBounds_toArray, List.set_cons_zero, List.set_cons_succ])
        refine mix_call (o := { dst := some 82, op := Op.call { callee := Callee.value (Operand.func 38), args := #[Operand.tmp 80, Operand.tmp 81], argTypes := #[45, 45] }, type := 4, pos := "law.go:54", after := #[{ on := 15, ground := Ground.data }, { on := 16, ground := Ground.data }, { on := 12, ground := Ground.chain }, { on := 12, ground := Ground.guard }], guard := some (12, true) }) rfl (by first | rfl | (simp [Region.wanted, yielded]; done)) (by first | (go_simp; done) | (go_simp; exact ⟨rfl, rfl⟩) | (go_simp; rfl)) ?_
        refine (HEQ.out _).mono ?_
        rintro e_ y6 ⟨rfl, hb⟩
        have HB9 := Aside0.mk (below_step HBv.out hb)
        refine ⟨_, rfl, hb, ?_⟩
        clear hb hx0 hx1 hx2 hx3 hl0 hl1 hl2 hl3
        (try simp only [Act.put, List.setIfInBounds_toArray, List.set_cons_zero, List.set_cons_succ])
        (refine mix_read (o := { dst := some 83, op := Op.pick (Operand.tmp 77) (Operand.tmp 82) (Operand.const (Value.bool false)), type := 4, pos := "law.go:54", after := #[{ on := 12, ground := Ground.data }, { on := 17, ground := Ground.data }], guard := none }) rfl (by first | rfl | (simp [Region.wanted, yielded]; done)) (by intro w_ hE_; (try dsimp only at hE_); first | (go_simp; done) | (go_simp; rfl)) ?_)
        (try simp only [Act.put, List.setIfInBounds_toArray, List.set_cons_zero, List.set_cons_succ])
        (refine mix_read (o := { dst := some 4, op := Op.assign (Operand.tmp 83), type := 4, pos := "law.go:54", after := #[{ on := 18, ground := Ground.data }, { on := 17, ground := Ground.chain }, { on := 0, ground := Ground.phase }, { on := 1, ground := Ground.phase }, { on := 2, ground := Ground.phase }, { on := 3, ground := Ground.phase }, { on := 4, ground := Ground.phase }, { on := 5, ground := Ground.phase }, { on := 6, ground := Ground.phase }, { on := 7, ground := Ground.phase }, { on := 8, ground := Ground.phase }, { on := 9, ground := Ground.phase }, { on := 10, ground := Ground.phase }, { on := 11, ground := Ground.phase }, { on := 12, ground := Ground.phase }, { on := 13, ground := Ground.phase }, { on := 14, ground := Ground.phase }, { on := 15, ground := Ground.phase }, { on := 16, ground := Ground.phase }, { on := 17, ground := Ground.phase }, { on := 18, ground := Ground.phase }], guard := none }) rfl (by first | rfl | (simp [Region.wanted, yielded]; done)) (by intro w_ hE_; (try dsimp only at hE_); first | (go_simp; done) | (go_simp; rfl)) ?_)
        (try simp only [Act.put, List.setIfInBounds_toArray, List.set_cons_zero, List.set_cons_succ])
        refine mix_nil ?_
        go_wp2
        go_ret
        exact ⟨by simp, HB9.out⟩
      · have HEN := Aside0.mk (fun w => encode_bad r2.1 r2.2.1 r2.2.2.1 r2.2.2.2 hc w)
        have HRE := Aside0.mk (fun w => rencode_bad r2.1 r2.2.1 r2.2.2.1 r2.2.2.2 hc w)
        unfold recV at HEN HRE HRC HCK
        generalize checkL r2.1 r2.2.1 r2.2.2.1 r2.2.2.2 = ck at *
        have b0 : (ck != 0) = true := bne_iff_ne.2 hc
        have b1 : (ck != ck) = false := by simp
        clear hc
        go_wp2_with fail
        refine (HEN.out wc).mono ?_
        rintro e_ w4 ⟨rfl, hb⟩
        have HB4 := Aside0.mk (below_step HB3.out hb)
        have HX4 := Aside0.mk (blk_below HX3.out hb)
        clear hb HB3 HX3 x0 x1 x2 x3 HEN
        go_wp2_with fail
        refine wp_region_mix (fun w_ w1_ => Below w_.heap.size w_ w1_) [(false, 0), (false, 1), (true, 2), (false, 3), (false, 4), (false, 5), (false, 7), (true, 6), (false, 8), (false, 9), (false, 10), (false, 11), (false, 12), (false, 13), (true, 14), (false, 15), (false, 16), (false, 17)] (by kernel_rfl) (by kernel_rfl) (fun _ => Below.refl _ _) (fun h h' => below_step h h') (fun wd hhp_ hbw_ => ?_)
        have HBw := Aside0.mk (below_step HB4.out hbw_)
        have HXw := Aside0.mk (blk_below HX4.out hbw_)
        have hx0 := fun (wx : World) (h : Below wd.heap.size wd wx) => (HRV.out wx (blk_below HXw.out h)).1
        have hx1 := fun (wx : World) (h : Below wd.heap.size wd wx) => (HRV.out wx (blk_below HXw.out h)).2.1
        have hx2 := fun (wx : World) (h : Below wd.heap.size wd wx) => (HRV.out wx (blk_below HXw.out h)).2.2.1
        have hx3 := fun (wx : World) (h : Below wd.heap.size wd wx) => (HRV.out wx (blk_below HXw.out h)).2.2.2
        have hst : ∀ wx : World, True → (convert 22 9 (.slice none 0 0)).run Try.prog wx = .ok (.string (strOfNums [])) wx := (fun wx _ => Kd.C_string (P := Try.prog) (A := none) (c := 0) (w := wx) Try.underlying22 Try.underlying5 Try.underlying9 (n := 0) (xs := []) ⟨rfl, by simp, fun h => absurd h (Nat.lt_irrefl 0)⟩)
        have hst := fun wx => hst wx trivial
        clear hhp_ hbw_
        (refine mix_read (o := { dst := some 36, op := Op.move (Operand.tmp 7), type := 47, pos := "law.go:47", after := #[], guard := none }) rfl (by first | rfl | (simp [Region.wanted, yielded]; done)) (by intro w_ hE_; (try dsimp only at hE_); first | (go_simp; done) | (go_simp; rfl)) ?_)
        (try simp only [Act.put, List.setIfInBounds_toArray, List.set_cons_zero, List.set_cons_succ])
        (refine mix_read (o := { dst := some 37, op := Op.load 45 (Operand.tmp 2), type := 45, pos := "law.go:47", after := #[], guard := none }) rfl (by first | rfl | (simp [Region.wanted, yielded]; done)) (by intro w_ hE_; (try dsimp only at hE_); first | (go_simp; done) | (go_simp; rfl)) ?_)
        (try simp only [Act.put, List.setIfInBounds_toArray, List.set_cons_zero, List.set_cons_succ])
        refine mix_call (o := { dst := some 38, op := Op.call { callee := Callee.value (Operand.func 34), args := #[Operand.tmp 37], argTypes := #[45] }, type := 47, pos := "law.go:47", after := #[{ on := 1, ground := Ground.data }], guard := none }) rfl (by first | rfl | (simp [Region.wanted, yielded]; done)) (by first | (go_simp; done) | (go_simp; exact ⟨rfl, rfl⟩) | (go_simp; rfl)) ?_
        refine (HRC.out _).mono ?_
        rintro e_ y1 ⟨rfl, hb⟩
        have HB5 := Aside0.mk (below_step HBw.out hb)
        have HXa := Aside0.mk (blk_below HXw.out hb)
        refine ⟨_, rfl, hb, ?_⟩
        clear hx0 hx1 hx2 hx3 hb
        have hx0 := fun (wx : World) (h : Below y1.heap.size y1 wx) => (HRV.out wx (blk_below HXa.out h)).1
        have hx1 := fun (wx : World) (h : Below y1.heap.size y1 wx) => (HRV.out wx (blk_below HXa.out h)).2.1
        have hx2 := fun (wx : World) (h : Below y1.heap.size y1 wx) => (HRV.out wx (blk_below HXa.out h)).2.2.1
        have hx3 := fun (wx : World) (h : Below y1.heap.size y1 wx) => (HRV.out wx (blk_below HXa.out h)).2.2.2
        (try simp only [Act.put, List.setIfInBounds_toArray, List.set_cons_zero, List.set_cons_succ])
        (refine mix_read (o := { dst := some 39, op := Op.binOp BinOp.neq 47 (Operand.tmp 36) (Operand.tmp 38) 47, type := 4, pos := "law.go:47", after := #[{ on := 0, ground := Ground.data }, { on := 2, ground := Ground.data }], guard := none }) rfl (by first | rfl | (simp [Region.wanted, yielded]; done)) (by intro w_ hE_; (try dsimp only at hE_); first | (go_simp; done) | (go_simp; rfl)) ?_)
        (try simp only [Act.put, List.setIfInBounds_toArray, List.set_cons_zero, List.set_cons_succ])
        (refine mix_read (o := { dst := some 40, op := Op.move (Operand.tmp 39), type := 4, pos := "law.go:47", after := #[{ on := 3, ground := Ground.data }, { on := 2, ground := Ground.chain }], guard := none }) rfl (by first | rfl | (simp [Region.wanted, yielded]; done)) (by intro w_ hE_; (try dsimp only at hE_); first | (go_simp; done) | (go_simp; rfl)) ?_)
        (try simp only [Act.put, List.setIfInBounds_toArray, List.set_cons_zero, List.set_cons_succ])
        first | (refine mix_read (o := { dst := some 41, op := Op.load 45 (Operand.tmp 2), type := 45, pos := "law.go:47", after := #[{ on := 4, ground := Ground.guard }], guard := some (4, false) }) rfl (by first | rfl | (simp [Region.wanted, yielded]; done)) (by intro w_ hE_; (try dsimp only at hE_); first | (go_simp; done) | (go_simp; rfl)) ?_) | (refine mix_skip (o := { dst := some 41, op := Op.load 45 (Operand.tmp 2), type := 45, pos := "law.go:47", after := #[{ on := 4, ground := Ground.guard }], guard := some (4, false) }) rfl (by first | rfl | (simp [Region.wanted, yielded]; done)) ?_)
        (try simp only [Act.put, List.setIfInBounds_toArray, List.set_cons_zero, List.set_cons_succ])
        first | (refine mix_read (o := { dst := some 43, op := Op.move (Operand.tmp 7), type := 47, pos := "law.go:47", after := #[{ on := 4, ground := Ground.guard }], guard := some (4, false) }) rfl (by first | rfl | (simp [Region.wanted, yielded]; done)) (by intro w_ hE_; (try dsimp only at hE_); first | (go_simp; done) | (go_simp; rfl)) ?_) | (refine mix_skip (o := { dst := some 43, op := Op.move (Operand.tmp 7), type := 47, pos := "law.go:47", after := #[{ on := 4, ground := Ground.guard }], guard := some (4, false) }) rfl (by first | rfl | (simp [Region.wanted, yielded]; done)) ?_)
        (try simp only [Act.put, List.setIfInBounds_toArray, List.set_cons_zero, List.set_cons_succ])
        refine mix_call (o := { dst := some 42, op := Op.call { callee := Callee.value (Operand.func 35), args := #[Operand.tmp 41], argTypes := #[45] }, type := 47, pos := "law.go:47", after := #[{ on := 5, ground := Ground.data }, { on := 4, ground := Ground.chain }, { on := 4, ground := Ground.guard }], guard := some (4, false) }) rfl (by first | rfl | (simp [Region.wanted, yielded]; done)) (by first | (go_simp; done) | (go_simp; exact ⟨rfl, rfl⟩) | (go_simp; rfl)) ?_
        refine (HCK.out _).mono ?_
        rintro e_ y2 ⟨rfl, hb⟩
        have HB6 := Aside0.mk (below_step HB5.out hb)
        have HXb := Aside0.mk (blk_below HXa.out hb)
        refine ⟨_, rfl, hb, ?_⟩
        clear hx0 hx1 hx2 hx3 hb
        have hx0 := fun (wx : World) (h : Below y2.heap.size y2 wx) => (HRV.out wx (blk_below HXb.out h)).1
        have hx1 := fun (wx : World) (h : Below y2.heap.size y2 wx) => (HRV.out wx (blk_below HXb.out h)).2.1
        have hx2 := fun (wx : World) (h : Below y2.heap.size y2 wx) => (HRV.out wx (blk_below HXb.out h)).2.2.1
        have hx3 := fun (wx : World) (h : Below y2.heap.size y2 wx) => (HRV.out wx (blk_below HXb.out h)).2.2.2
        (try simp only [Act.put, List.setIfInBounds_toArray, List.set_cons_zero, List.set_cons_succ])
        first | (refine mix_read (o := { dst := some 44, op := Op.binOp BinOp.neq 47 (Operand.tmp 42) (Operand.tmp 43) 47, type := 4, pos := "law.go:47", after := #[{ on := 6, ground := Ground.data }, { on := 7, ground := Ground.data }, { on := 4, ground := Ground.guard }], guard := some (4, false) }) rfl (by first | rfl | (simp [Region.wanted, yielded]; done)) (by intro w_ hE_; (try dsimp only at hE_); first | (go_simp; done) | (go_simp; rfl)) ?_) | (refine mix_skip (o := { dst := some 44, op := Op.binOp BinOp.neq 47 (Operand.tmp 42) (Operand.tmp 43) 47, type := 4, pos := "law.go:47", after := #[{ on := 6, ground := Ground.data }, { on := 7, ground := Ground.data }, { on := 4, ground := Ground.guard }], guard := some (4, false) }) rfl (by first | rfl | (simp [Region.wanted, yielded]; done)) ?_)
        (try simp only [Act.put, List.setIfInBounds_toArray, List.set_cons_zero, List.set_cons_succ])
        (refine mix_read (o := { dst := some 45, op := Op.pick (Operand.tmp 40) (Operand.const (Value.bool true)) (Operand.tmp 44), type := 4, pos := "law.go:47", after := #[{ on := 4, ground := Ground.data }, { on := 8, ground := Ground.data }], guard := none }) rfl (by first | rfl | (simp [Region.wanted, yielded]; done)) (by intro w_ hE_; (try dsimp only at hE_); first | (go_simp; done) | (go_simp; rfl)) ?_)
        (try simp only [Act.put, List.setIfInBounds_toArray, List.set_cons_zero, List.set_cons_succ])
        (refine mix_read (o := { dst := some 46, op := Op.move (Operand.tmp 45), type := 4, pos := "law.go:47", after := #[{ on := 9, ground := Ground.data }, { on := 6, ground := Ground.chain }], guard := none }) rfl (by first | rfl | (simp [Region.wanted, yielded]; done)) (by intro w_ hE_; (try dsimp only at hE_); first | (go_simp; done) | (go_simp; rfl)) ?_)
        (try simp only [Act.put, List.setIfInBounds_toArray, List.set_cons_zero, List.set_cons_succ])
        first | (refine mix_read (o := { dst := some 47, op := Op.move (Operand.tmp 6), type := 22, pos := "law.go:47", after := #[{ on := 10, ground := Ground.guard }], guard := some (10, false) }) rfl (by first | rfl | (simp [Region.wanted, yielded]; done)) (by intro w_ hE_; (try dsimp only at hE_); first | (go_simp; done) | (go_simp; rfl)) ?_) | (refine mix_skip (o := { dst := some 47, op := Op.move (Operand.tmp 6), type := 22, pos := "law.go:47", after := #[{ on := 10, ground := Ground.guard }], guard := some (10, false) }) rfl (by first | rfl | (simp [Region.wanted, yielded]; done)) ?_)
        (try simp only [Act.put, List.setIfInBounds_toArray, List.set_cons_zero, List.set_cons_succ])
        first | (refine mix_read (o := { dst := some 48, op := Op.convert 22 9 (Operand.tmp 47), type := 9, pos := "law.go:47", after := #[{ on := 11, ground := Ground.data }, { on := 10, ground := Ground.guard }], guard := some (10, false) }) rfl (by first | rfl | (simp [Region.wanted, yielded]; done)) (by intro w_ hE_; (try dsimp only at hE_); first | (go_simp; done) | (go_simp; rfl)) ?_) | (refine mix_skip (o := { dst := some 48, op := Op.convert 22 9 (Operand.tmp 47), type := 9, pos := "law.go:47", after := #[{ on := 11, ground := Ground.data }, { on := 10, ground := Ground.guard }], guard := some (10, false) }) rfl (by first | rfl | (simp [Region.wanted, yielded]; done)) ?_)
        (try simp only [Act.put, List.setIfInBounds_toArray, List.set_cons_zero, List.set_cons_succ])
        first | (refine mix_read (o := { dst := some 49, op := Op.load 45 (Operand.tmp 2), type := 45, pos := "law.go:47", after := #[{ on := 10, ground := Ground.guard }], guard := some (10, false) }) rfl (by first | rfl | (simp [Region.wanted, yielded]; done)) (by intro w_ hE_; (try dsimp only at hE_); first | (go_simp; done) | (go_simp; rfl)) ?_) | (refine mix_skip (o := { dst := some 49, op := Op.load 45 (Operand.tmp 2), type := 45, pos := "law.go:47", after := #[{ on := 10, ground := Ground.guard }], guard := some (10, false) }) rfl (by first | rfl | (simp [Region.wanted, yielded]; done)) ?_)
        (try simp only [Act.put, List.setIfInBounds_toArray, List.set_cons_zero, List.set_cons_succ])
        refine mix_call (o := { dst := some 50, op := Op.call { callee := Callee.value (Operand.func 36), args := #[Operand.tmp 49], argTypes := #[45] }, type := 22, pos := "law.go:47", after := #[{ on := 13, ground := Ground.data }, { on := 10, ground := Ground.chain }, { on := 10, ground := Ground.guard }], guard := some (10, false) }) rfl (by first | rfl | (simp [Region.wanted, yielded]; done)) (by first | (go_simp; done) | (go_simp; exact ⟨rfl, rfl⟩) | (go_simp; rfl)) ?_
        refine (HRE.out _).mono ?_
        rintro e_ y3 ⟨rfl, hb⟩
        have HB7 := Aside0.mk (below_step HB6.out hb)
        have HXc := Aside0.mk (blk_below HXb.out hb)
        refine ⟨_, rfl, hb, ?_⟩
        clear hx0 hx1 hx2 hx3 hb
        have hx0 := fun (wx : World) (h : Below y3.heap.size y3 wx) => (HRV.out wx (blk_below HXc.out h)).1
        have hx1 := fun (wx : World) (h : Below y3.heap.size y3 wx) => (HRV.out wx (blk_below HXc.out h)).2.1
        have hx2 := fun (wx : World) (h : Below y3.heap.size y3 wx) => (HRV.out wx (blk_below HXc.out h)).2.2.1
        have hx3 := fun (wx : World) (h : Below y3.heap.size y3 wx) => (HRV.out wx (blk_below HXc.out h)).2.2.2
        (try simp only [Act.put, List.setIfInBounds_toArray, List.set_cons_zero, List.set_cons_succ])
        first | (refine mix_read (o := { dst := some 51, op := Op.convert 22 9 (Operand.tmp 50), type := 9, pos := "law.go:47", after := #[{ on := 14, ground := Ground.data }, { on := 10, ground := Ground.guard }], guard := some (10, false) }) rfl (by first | rfl | (simp [Region.wanted, yielded]; done)) (by intro w_ hE_; (try dsimp only at hE_); first | (go_simp; done) | (go_simp; rfl)) ?_) | (refine mix_skip (o := { dst := some 51, op := Op.convert 22 9 (Operand.tmp 50), type := 9, pos := "law.go:47", after := #[{ on := 14, ground := Ground.data }, { on := 10, ground := Ground.guard }], guard := some (10, false) }) rfl (by first | rfl | (simp [Region.wanted, yielded]; done)) ?_)
        (try simp only [Act.put, List.setIfInBounds_toArray, List.set_cons_zero, List.set_cons_succ])
        first | (refine mix_read (o := { dst := some 52, op := Op.binOp BinOp.neq 9 (Operand.tmp 48) (Operand.tmp 51) 9, type := 4, pos := "law.go:47", after := #[{ on := 12, ground := Ground.data }, { on := 15, ground := Ground.data }, { on := 10, ground := Ground.guard }], guard := some (10, false) }) rfl (by first | rfl | (simp [Region.wanted, yielded]; done)) (by intro w_ hE_; (try dsimp only at hE_); first | (go_simp; done) | (go_simp; rfl)) ?_) | (refine mix_skip (o := { dst := some 52, op := Op.binOp BinOp.neq 9 (Operand.tmp 48) (Operand.tmp 51) 9, type := 4, pos := "law.go:47", after := #[{ on := 12, ground := Ground.data }, { on := 15, ground := Ground.data }, { on := 10, ground := Ground.guard }], guard := some (10, false) }) rfl (by first | rfl | (simp [Region.wanted, yielded]; done)) ?_)
        (try simp only [Act.put, List.setIfInBounds_toArray, List.set_cons_zero, List.set_cons_succ])
        (refine mix_read (o := { dst := some 53, op := Op.pick (Operand.tmp 46) (Operand.const (Value.bool true)) (Operand.tmp 52), type := 4, pos := "law.go:47", after := #[{ on := 10, ground := Ground.data }, { on := 16, ground := Ground.data }], guard := none }) rfl (by first | rfl | (simp [Region.wanted, yielded]; done)) (by intro w_ hE_; (try dsimp only at hE_); first | (go_simp; done) | (go_simp; rfl)) ?_)
        (try simp only [Act.put, List.setIfInBounds_toArray, List.set_cons_zero, List.set_cons_succ])
        refine mix_nil ?_
        go_wp2
        go_ret
        exact ⟨by simp, HB7.out⟩
end Go.Proofs.Ytfojeegepfjbiaa.RbWalk
