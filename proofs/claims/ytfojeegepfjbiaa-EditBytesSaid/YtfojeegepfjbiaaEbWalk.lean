/- EditBytes: edits go to bytes and back; what may not be is refused: it answers true. No condition. -/
import Derived.Test.YtfojeegepfjbiaaProg
import Derived.Below
import Derived.Deep.Draws
import Derived.Deep.AppendLies
import Derived.Maps.AppendAt
import Derived.OwnWalk
import Derived.Laws.BytesArg
import Derived.Laws.MakeOwn
import Derived.Laws.OwnMore
import Derived.Deep.OwnRows
import Derived.Tactics
import Derived.Lib.ConvBytes
import Derived.Laws.Slices
import Derived.WalkKit
import Derived.KernelRfl
import Derived.RowKit3
import Derived.Deep.LoopGhost
import Derived.Deep.QuietTactic
import Derived.BigQuiet
import Derived.WideLaws
import Derived.Deep.DeepCutAuto
import Derived.Deep.CutBlock
import Derived.Deep.RegionHeld3
import Derived.Laws.Rows
import Derived.Lib.AppendStr
import Derived.ArgAppend
import Derived.Laws.IdiomCopy
import Derived.OrdersHeld
import Derived.Laws.BitsLemmas
import Derived.RowKit
import Derived.Deep.RegionWith
import Derived.Deep.DeepCutAuto
import Derived.WalkSpells
import Derived.Outline
import Derived.Test.YtfojeegepfjbiaaWWords
import Derived.Test.YtfojeegepfjbiaaWLast
import Derived.Test.YtfojeegepfjbiaaWMore
import Derived.Test.YtfojeegepfjbiaaWArr
import Derived.Test.YtfojeegepfjbiaaWTab
import Derived.Test.YtfojeegepfjbiaaWZeros
import Derived.Test.YtfojeegepfjbiaaWRepsOne
import Derived.Test.YtfojeegepfjbiaaEdQ
import Derived.Test.YtfojeegepfjbiaaEdR
namespace Go.Proofs.Ytfojeegepfjbiaa.EbWalk
open Go.RowKit Go.Proofs.YtfojeegepfjbiaaW.PrintWords Go.Proofs.YtfojeegepfjbiaaW.PrintLast Go.Proofs.YtfojeegepfjbiaaW.PrintMore Go.Proofs.Ytfojeegepfjbiaa.Mix Go.Proofs.Ytfojeegepfjbiaa.MixB Go.Proofs.Ytfojeegepfjbiaa.MixT Go.Proofs.Ytfojeegepfjbiaa.Nm Go.Proofs.Ytfojeegepfjbiaa.NmA Go.Proofs.Ytfojeegepfjbiaa.NmB Go.Proofs.Ytfojeegepfjbiaa.NmC Go.Proofs.Ytfojeegepfjbiaa.NmH Go.Proofs.Ytfojeegepfjbiaa.CrP Go.Proofs.Ytfojeegepfjbiaa.CrA Go.Proofs.Ytfojeegepfjbiaa.CrB Go.Proofs.Ytfojeegepfjbiaa.CrC Go.Proofs.Ytfojeegepfjbiaa.CrD Go.Proofs.Ytfojeegepfjbiaa.CrE Go.Proofs.Ytfojeegepfjbiaa.CrG Go.Proofs.Ytfojeegepfjbiaa.CrH Go.Proofs.Ytfojeegepfjbiaa.CrI Go.Proofs.Ytfojeegepfjbiaa.EdZ Go.Proofs.Ytfojeegepfjbiaa.EdA Go.Proofs.Ytfojeegepfjbiaa.EdB Go.Proofs.Ytfojeegepfjbiaa.EdC Go.Proofs.Ytfojeegepfjbiaa.EdD Go.Proofs.Ytfojeegepfjbiaa.EdE Go.Proofs.Ytfojeegepfjbiaa.EdF Go.Proofs.Ytfojeegepfjbiaa.EdG Go.Proofs.Ytfojeegepfjbiaa.EdH Go.Proofs.Ytfojeegepfjbiaa.EdI Go.Proofs.Ytfojeegepfjbiaa.EdJ Go.Proofs.Ytfojeegepfjbiaa.EdK Go.Proofs.Ytfojeegepfjbiaa.EdL Go.Proofs.Ytfojeegepfjbiaa.EdM Go.Proofs.Ytfojeegepfjbiaa.EdN Go.Proofs.Ytfojeegepfjbiaa.EdO Go.Proofs.Ytfojeegepfjbiaa.EdP Go.Proofs.Ytfojeegepfjbiaa.EdQ Go.Proofs.Ytfojeegepfjbiaa.EdR
set_option linter.unusedSimpArgs false
set_option linter.unusedVariables false
attribute [local go_sem] max2_int min2_int max_two min_two

set_option maxRecDepth 100000 in
set_option maxHeartbeats 4000000 in
theorem walk (cs : Array Value) (a : EdT) (cs2 : Array Value) (b : EdT) (w : World) (hk : KEd.K w a cs.toList) (hg : EdGd a) (hk2 : KEd.K w b cs2.toList) (hg2 : EdGd b) :
    Calls Try.prog 14 #[.agg cs, .agg cs2] w fun e w' => e = .returned (.bool true) ∧ Below w.heap.size w w' := by
  have hA := ed_of_K hk
  have hB := ed_of_K hk2
  obtain ⟨a0, a1, aA2, al2, ac2, aA3, al3, ac3, aA4, al4, ac4, aA5, al5, ac5, e1⟩ := ed_six hA
  obtain ⟨b0, b1, bA2, bl2, bc2, bA3, bl3, bc3, bA4, bl4, bc4, bA5, bl5, bc5, e2⟩ := ed_six hB
  injection e1 with e1
  injection e2 with e2
  subst e1 e2
  have HGA := Aside0.mk (good_cut hg)
  have HGB := Aside0.mk (good_cut hg2)
  have HCA := Aside0.mk (fun wx hx => cut_calls0 a (.agg #[.int .i64 a0, .int .i64 a1, .slice aA2 al2 ac2, .slice aA3 al3 ac3, .slice aA4 al4 ac4, .slice aA5 al5 ac5]) w wx hA hx)
  have HCB := Aside0.mk (fun wx hx => cut_calls0 b (.agg #[.int .i64 b0, .int .i64 b1, .slice bA2 bl2 bc2, .slice bA3 bl3 bc3, .slice bA4 bl4 bc4, .slice bA5 bl5 bc5]) w wx hB hx)
  generalize cutE a = ea at *
  generalize cutE b = eb at *
  obtain ⟨hba, hbb, hbe⟩ := alloc2 w (.cells #[.int .i64 a0, .int .i64 a1, .slice aA2 al2 ac2, .slice aA3 al3 ac3, .slice aA4 al4 ac4, .slice aA5 al5 ac5] 66 (0, 0)) (.cells #[.int .i64 b0, .int .i64 b1, .slice bA2 bl2 bc2, .slice bA3 bl3 bc3, .slice bA4 bl4 bc4, .slice bA5 bl5 bc5] 66 (0, 0))
  obtain ⟨W0, hW0⟩ : ∃ q, (w.alloc (.cells #[.int .i64 a0, .int .i64 a1, .slice aA2 al2 ac2, .slice aA3 al3 ac3, .slice aA4 al4 ac4, .slice aA5 al5 ac5] 66 (0, 0))).alloc (.cells #[.int .i64 b0, .int .i64 b1, .slice bA2 bl2 bc2, .slice bA3 bl3 bc3, .slice bA4 bl4 bc4, .slice bA5 bl5 bc5] 66 (0, 0)) = q := ⟨_, rfl⟩
  rw [hW0] at hba hbb hbe
  obtain ⟨x, hx⟩ : ∃ q, w.heap.size = q := ⟨_, rfl⟩
  obtain ⟨y, hy⟩ : ∃ q, x + 1 = q := ⟨_, rfl⟩
  obtain ⟨B, hBB⟩ : ∃ q, w.heap.size = q := ⟨_, rfl⟩
  rw [hBB] at hbe HCA HCB
  rw [hx] at hba hbb
  rw [hy] at hbb
  have HBB := Aside0.mk hBB
  have HXY : Aside0 (x < y ∧ B ≤ x) := ⟨by omega⟩
  have HX := Aside0.mk hba
  have HY := Aside0.mk hbb
  have HBW := Aside0.mk hbe
  clear hk hg hk2 hg2 hA hB hba hbb hbe hBB
  go_enter Try.func14, Try.ntmps14
  go_wp2_with fail
  refine (begun_calls W0).mono ?_
  rintro e_ w1 ⟨rfl, hb⟩
  have HB0 := Aside0.mk (HBW.out.trans (hb.mono (by have := HBB.out; have := HBW.out.size; omega)))
  have HX0 := Aside0.mk (blk_below HX.out hb)
  have HY0 := Aside0.mk (blk_below HY.out hb)
  clear hb HBW HX HY hW0 hx hy
  go_upto_region 4 with fail
  go_cut [] (fun wx => ∃ (p0 p1 : Int) (pA2 : Option Addr) (pl2 pc2 : Nat) (pA3 : Option Addr) (pl3 pc3 : Nat) (pA4 : Option Addr) (pl4 pc4 : Nat) (pA5 : Option Addr) (pl5 pc5 : Nat) (q0 q1 : Int) (qA2 : Option Addr) (ql2 qc2 : Nat) (qA3 : Option Addr) (ql3 qc3 : Nat) (qA4 : Option Addr) (ql4 qc4 : Nat) (qA5 : Option Addr) (ql5 qc5 : Nat), Aside0 (EdAt wx (.agg #[.int .i64 p0, .int .i64 p1, .slice pA2 pl2 pc2, .slice pA3 pl3 pc3, .slice pA4 pl4 pc4, .slice pA5 pl5 pc5]) ea) ∧ Aside0 (EdAt wx (.agg #[.int .i64 q0, .int .i64 q1, .slice qA2 ql2 qc2, .slice qA3 ql3 qc3, .slice qA4 ql4 qc4, .slice qA5 ql5 qc5]) eb) ∧ Aside0 (Blk wx x #[.int .i64 p0, .int .i64 p1, .slice pA2 pl2 pc2, .slice pA3 pl3 pc3, .slice pA4 pl4 pc4, .slice pA5 pl5 pc5] 66) ∧ Aside0 (Blk wx y #[.int .i64 q0, .int .i64 q1, .slice qA2 ql2 qc2, .slice qA3 ql3 qc3, .slice qA4 ql4 qc4, .slice qA5 ql5 qc5] 66) ∧ Aside0 (Below B w wx))
  case first =>
    go_wp2_with fail
    refine wp_region_tree (fun _ _ => True) (.two 0 2 (.two 1 2 (.ef 2 (.ef 3 (.ef 4 (.ef 5 .nil)))) (.ef 1 (.ef 3 (.ef 4 (.ef 5 .nil))))) (.ef 0 (.ef 1 (.ef 3 (.ef 4 (.ef 5 .nil)))))) (by kernel_rfl) (by kernel_rfl) (fun _ => trivial) (fun _ _ => trivial) (fun wd hhp_ hbw_ => ?_)
    have HBd := Aside0.mk (HB0.out.trans (hbw_.mono (by have := HBB.out; have := HB0.out.size; omega)))
    have HXd := Aside0.mk (blk_below HX0.out hbw_)
    have HYd := Aside0.mk (blk_below HY0.out hbw_)
    clear hhp_ hbw_
    have g0 : World.cell? wd ⟨x, 0, none⟩ = some (.int .i64 a0) := blk_cell HXd.out 0
    have g1 : World.cell? wd ⟨x, 1, none⟩ = some (.int .i64 a1) := blk_cell HXd.out 1
    have g2 : World.cell? wd ⟨x, 2, none⟩ = some (.slice aA2 al2 ac2) := blk_cell HXd.out 2
    have g3 : World.cell? wd ⟨x, 3, none⟩ = some (.slice aA3 al3 ac3) := blk_cell HXd.out 3
    have g4 : World.cell? wd ⟨x, 4, none⟩ = some (.slice aA4 al4 ac4) := blk_cell HXd.out 4
    have g5 : World.cell? wd ⟨x, 5, none⟩ = some (.slice aA5 al5 ac5) := blk_cell HXd.out 5
    have h0 : World.cell? wd ⟨y, 0, none⟩ = some (.int .i64 b0) := blk_cell HYd.out 0
    have h1 : World.cell? wd ⟨y, 1, none⟩ = some (.int .i64 b1) := blk_cell HYd.out 1
    have h2 : World.cell? wd ⟨y, 2, none⟩ = some (.slice bA2 bl2 bc2) := blk_cell HYd.out 2
    have h3 : World.cell? wd ⟨y, 3, none⟩ = some (.slice bA3 bl3 bc3) := blk_cell HYd.out 3
    have h4 : World.cell? wd ⟨y, 4, none⟩ = some (.slice bA4 bl4 bc4) := blk_cell HYd.out 4
    have h5 : World.cell? wd ⟨y, 5, none⟩ = some (.slice bA5 bl5 bc5) := blk_cell HYd.out 5
    refine t_two ?_ ?_
    · refine s_val (o := { dst := some 16, op := Op.load 66 (Operand.tmp 2), type := 66, pos := "law.go:53", after := #[], guard := none }) (w1 := wd) rfl (by first | rfl | (simp [Region.wanted, yielded]; done)) (by first | (go_simp; done) | (go_simp; rfl)) (trivial) ?_
      (try simp only [Act.put, List.setIfInBounds_toArray, List.set_cons_zero, List.set_cons_succ])
      refine t_two ?_ ?_
      · refine s_call (o := { dst := some 17, op := Op.call { callee := Callee.value (Operand.func 43), args := #[Operand.tmp 16], argTypes := #[66] }, type := 66, pos := "law.go:53", after := #[{ on := 0, ground := Ground.data }], guard := none }) rfl (by first | rfl | (simp [Region.wanted, yielded]; done)) (by first | (go_simp; done) | (go_simp; exact ⟨rfl, rfl⟩) | (go_simp; rfl)) ?_
        refine (HCA.out wd HBd.out).mono ?_
        rintro e_ x1 ⟨vp, rfl, hed, hb⟩
        have hbb := HBd.out.trans (hb.mono (by have := HBB.out; have := HBd.out.size; omega))
        obtain ⟨p0, p1, pA2, pl2, pc2, pA3, pl3, pc3, pA4, pl4, pc4, pA5, pl5, pc5, rfl⟩ := ed_six (hed x1 hbb (fun _ _ _ => rfl))
        have HP1 := Aside0.mk hed
        have HS1 := Aside0.mk hb
        have HXe := Aside0.mk (blk_below HXd.out hb)
        have HYe := Aside0.mk (blk_below HYd.out hb)
        have HBe := Aside0.mk (HBd.out.trans (hb.mono (by have := HBB.out; have := HBd.out.size; omega)))
        refine ⟨_, rfl, trivial, ?_⟩
        clear hb hbb hed g0 g1 g2 g3 g4 g5 h0 h1 h2 h3 h4 h5
        have h0 : World.cell? x1 ⟨y, 0, none⟩ = some (.int .i64 b0) := blk_cell HYe.out 0
        have h1 : World.cell? x1 ⟨y, 1, none⟩ = some (.int .i64 b1) := blk_cell HYe.out 1
        have h2 : World.cell? x1 ⟨y, 2, none⟩ = some (.slice bA2 bl2 bc2) := blk_cell HYe.out 2
        have h3 : World.cell? x1 ⟨y, 3, none⟩ = some (.slice bA3 bl3 bc3) := blk_cell HYe.out 3
        have h4 : World.cell? x1 ⟨y, 4, none⟩ = some (.slice bA4 bl4 bc4) := blk_cell HYe.out 4
        have h5 : World.cell? x1 ⟨y, 5, none⟩ = some (.slice bA5 bl5 bc5) := blk_cell HYe.out 5
        (try simp only [Act.put, List.setIfInBounds_toArray, List.set_cons_zero, List.set_cons_succ])
        refine t_ef ?_
        refine s_val (o := { dst := some 18, op := Op.load 66 (Operand.tmp 3), type := 66, pos := "law.go:53", after := #[], guard := none }) (w1 := x1) rfl (by first | rfl | (simp [Region.wanted, yielded]; done)) (by first | (go_simp; done) | (go_simp; rfl)) (trivial) ?_
        (try simp only [Act.put, List.setIfInBounds_toArray, List.set_cons_zero, List.set_cons_succ])
        refine t_ef ?_
        refine s_call (o := { dst := some 19, op := Op.call { callee := Callee.value (Operand.func 43), args := #[Operand.tmp 18], argTypes := #[66] }, type := 66, pos := "law.go:53", after := #[{ on := 2, ground := Ground.data }, { on := 1, ground := Ground.chain }], guard := none }) rfl (by first | rfl | (simp [Region.wanted, yielded]; done)) (by first | (go_simp; done) | (go_simp; exact ⟨rfl, rfl⟩) | (go_simp; rfl)) ?_
        refine (HCB.out x1 HBe.out).mono ?_
        rintro e_ x2 ⟨vq, rfl, hed, hb⟩
        have hx2 := blk_below HXe.out hb
        have hy2 := blk_below HYe.out hb
        have hbb := HBe.out.trans (hb.mono (by have := HBB.out; have := HBe.out.size; omega))
        obtain ⟨q0, q1, qA2, ql2, qc2, qA3, ql3, qc3, qA4, ql4, qc4, qA5, ql5, qc5, rfl⟩ := ed_six (hed x2 hbb (fun _ _ _ => rfl))
        obtain ⟨xa, xb, xc, xd, xe, xf, ex0, ex1, ex2, ex3, ex4, ex5, ⟨z0, z1, z2, z3, z4, z5⟩, ⟨f0, f1, f2, f3, f4, f5⟩, hxz, hxg⟩ := store6 hx2 (.int .i64 p0) (.int .i64 p1) (.slice pA2 pl2 pc2) (.slice pA3 pl3 pc3) (.slice pA4 pl4 pc4) (.slice pA5 pl5 pc5)
        have hyz := num_blk hy2 hxg (by have := HXY.out; omega)
        obtain ⟨ya, yb, yc, yd, ye, yf, ey0, ey1, ey2, ey3, ey4, ey5, ⟨u0, u1, u2, u3, u4, u5⟩, ⟨t0, t1, t2, t3, t4, t5⟩, hyy, hyg⟩ := store6 hyz (.int .i64 q0) (.int .i64 q1) (.slice qA2 ql2 qc2) (.slice qA3 ql3 qc3) (.slice qA4 ql4 qc4) (.slice qA5 ql5 qc5)
        have hxx := num_blk hxz hyg (by have := HXY.out; omega)
        have hbf := pw_below_grown hbb (some x) (by have := HBB.out; have := hbb.size; omega) hxg (fun k hk => by injection hk with hk; have := HXY.out; omega)
        have hbg := pw_below_grown hbf (some y) (by have := HBB.out; have := hbf.size; omega) hyg (fun k hk => by injection hk with hk; have := HXY.out; omega)
        have hyl := blk_lt HYd.out
        have hst : ∀ k, wd.heap.size ≤ k → k < x2.heap.size → (World.heap yf)[k]? = x2.heap[k]? := fun k h1 h2 => (hyg.block k (by have := hxg.size; omega) (by intro e_; injection e_ with e_; omega)).trans (hxg.block k h2 (by intro e_; injection e_ with e_; have := HXY.out; omega))
        have HPz := Aside0.mk (HP1.out yf hbg (fun k h1 h2 => (hst k h1 (by have := hb.size; omega)).trans (hb.block k h2)))
        have HQz := Aside0.mk (hed yf hbg (fun k h1 h2 => hst k (by have := HS1.out.size; omega) h2))
        have HXz := Aside0.mk hxx
        have HYz := Aside0.mk hyy
        have HBz := Aside0.mk hbg
        refine ⟨_, rfl, trivial, ?_⟩
        clear hb hed hx2 hy2 hbb hxz hxg hyz hyy hyg hxx hbf hbg hyl hst HP1 HS1
        (try simp only [Act.put, List.setIfInBounds_toArray, List.set_cons_zero, List.set_cons_succ])
        refine t_ef ?_
        refine s_store (o := { dst := none, op := Op.store 66 (Operand.tmp 2) (Operand.tmp 17), type := 0, pos := "law.go:53", after := #[{ on := 1, ground := Ground.data }, { on := 3, ground := Ground.chain }, { on := 0, ground := Ground.phase }, { on := 1, ground := Ground.phase }, { on := 2, ground := Ground.textOnly Departure.lateStores }, { on := 3, ground := Ground.textOnly Departure.lateStoresUnsure }], guard := none }) (w1 := xf) rfl (by first | rfl | (simp [Region.wanted, yielded]; done)) (by first | (go_simp; done) | (go_simp; rfl)) (trivial) ?_
        (try simp only [Act.put, List.setIfInBounds_toArray, List.set_cons_zero, List.set_cons_succ])
        refine t_ef ?_
        refine s_store (o := { dst := none, op := Op.store 66 (Operand.tmp 3) (Operand.tmp 19), type := 0, pos := "law.go:53", after := #[{ on := 3, ground := Ground.data }, { on := 4, ground := Ground.chain }, { on := 0, ground := Ground.phase }, { on := 1, ground := Ground.phase }, { on := 2, ground := Ground.phase }, { on := 3, ground := Ground.phase }, { on := 4, ground := Ground.phase }], guard := none }) (w1 := yf) rfl (by first | rfl | (simp [Region.wanted, yielded]; done)) (by first | (go_simp; done) | (go_simp; rfl)) (trivial) ?_
        (try simp only [Act.put, List.setIfInBounds_toArray, List.set_cons_zero, List.set_cons_succ])
        refine t_nil ?_
        (try simp only [Exit.then])
        go_wp2_with fail
        go_meet
        exact ⟨p0, p1, pA2, pl2, pc2, pA3, pl3, pc3, pA4, pl4, pc4, pA5, pl5, pc5, q0, q1, qA2, ql2, qc2, qA3, ql3, qc3, qA4, ql4, qc4, qA5, ql5, qc5, HPz, HQz, HXz, HYz, HBz⟩
      · refine s_val (o := { dst := some 18, op := Op.load 66 (Operand.tmp 3), type := 66, pos := "law.go:53", after := #[], guard := none }) (w1 := wd) rfl (by first | rfl | (simp [Region.wanted, yielded]; done)) (by first | (go_simp; done) | (go_simp; rfl)) (trivial) ?_
        (try simp only [Act.put, List.setIfInBounds_toArray, List.set_cons_zero, List.set_cons_succ])
        refine t_ef ?_
        refine s_call (o := { dst := some 17, op := Op.call { callee := Callee.value (Operand.func 43), args := #[Operand.tmp 16], argTypes := #[66] }, type := 66, pos := "law.go:53", after := #[{ on := 0, ground := Ground.data }], guard := none }) rfl (by first | rfl | (simp [Region.wanted, yielded]; done)) (by first | (go_simp; done) | (go_simp; exact ⟨rfl, rfl⟩) | (go_simp; rfl)) ?_
        refine (HCA.out wd HBd.out).mono ?_
        rintro e_ x1 ⟨vp, rfl, hed, hb⟩
        have hbb := HBd.out.trans (hb.mono (by have := HBB.out; have := HBd.out.size; omega))
        obtain ⟨p0, p1, pA2, pl2, pc2, pA3, pl3, pc3, pA4, pl4, pc4, pA5, pl5, pc5, rfl⟩ := ed_six (hed x1 hbb (fun _ _ _ => rfl))
        have HP1 := Aside0.mk hed
        have HS1 := Aside0.mk hb
        have HXe := Aside0.mk (blk_below HXd.out hb)
        have HYe := Aside0.mk (blk_below HYd.out hb)
        have HBe := Aside0.mk (HBd.out.trans (hb.mono (by have := HBB.out; have := HBd.out.size; omega)))
        refine ⟨_, rfl, trivial, ?_⟩
        clear hb hbb hed g0 g1 g2 g3 g4 g5 h0 h1 h2 h3 h4 h5
        have h0 : World.cell? x1 ⟨y, 0, none⟩ = some (.int .i64 b0) := blk_cell HYe.out 0
        have h1 : World.cell? x1 ⟨y, 1, none⟩ = some (.int .i64 b1) := blk_cell HYe.out 1
        have h2 : World.cell? x1 ⟨y, 2, none⟩ = some (.slice bA2 bl2 bc2) := blk_cell HYe.out 2
        have h3 : World.cell? x1 ⟨y, 3, none⟩ = some (.slice bA3 bl3 bc3) := blk_cell HYe.out 3
        have h4 : World.cell? x1 ⟨y, 4, none⟩ = some (.slice bA4 bl4 bc4) := blk_cell HYe.out 4
        have h5 : World.cell? x1 ⟨y, 5, none⟩ = some (.slice bA5 bl5 bc5) := blk_cell HYe.out 5
        (try simp only [Act.put, List.setIfInBounds_toArray, List.set_cons_zero, List.set_cons_succ])
        refine t_ef ?_
        refine s_call (o := { dst := some 19, op := Op.call { callee := Callee.value (Operand.func 43), args := #[Operand.tmp 18], argTypes := #[66] }, type := 66, pos := "law.go:53", after := #[{ on := 2, ground := Ground.data }, { on := 1, ground := Ground.chain }], guard := none }) rfl (by first | rfl | (simp [Region.wanted, yielded]; done)) (by first | (go_simp; done) | (go_simp; exact ⟨rfl, rfl⟩) | (go_simp; rfl)) ?_
        refine (HCB.out x1 HBe.out).mono ?_
        rintro e_ x2 ⟨vq, rfl, hed, hb⟩
        have hx2 := blk_below HXe.out hb
        have hy2 := blk_below HYe.out hb
        have hbb := HBe.out.trans (hb.mono (by have := HBB.out; have := HBe.out.size; omega))
        obtain ⟨q0, q1, qA2, ql2, qc2, qA3, ql3, qc3, qA4, ql4, qc4, qA5, ql5, qc5, rfl⟩ := ed_six (hed x2 hbb (fun _ _ _ => rfl))
        obtain ⟨xa, xb, xc, xd, xe, xf, ex0, ex1, ex2, ex3, ex4, ex5, ⟨z0, z1, z2, z3, z4, z5⟩, ⟨f0, f1, f2, f3, f4, f5⟩, hxz, hxg⟩ := store6 hx2 (.int .i64 p0) (.int .i64 p1) (.slice pA2 pl2 pc2) (.slice pA3 pl3 pc3) (.slice pA4 pl4 pc4) (.slice pA5 pl5 pc5)
        have hyz := num_blk hy2 hxg (by have := HXY.out; omega)
        obtain ⟨ya, yb, yc, yd, ye, yf, ey0, ey1, ey2, ey3, ey4, ey5, ⟨u0, u1, u2, u3, u4, u5⟩, ⟨t0, t1, t2, t3, t4, t5⟩, hyy, hyg⟩ := store6 hyz (.int .i64 q0) (.int .i64 q1) (.slice qA2 ql2 qc2) (.slice qA3 ql3 qc3) (.slice qA4 ql4 qc4) (.slice qA5 ql5 qc5)
        have hxx := num_blk hxz hyg (by have := HXY.out; omega)
        have hbf := pw_below_grown hbb (some x) (by have := HBB.out; have := hbb.size; omega) hxg (fun k hk => by injection hk with hk; have := HXY.out; omega)
        have hbg := pw_below_grown hbf (some y) (by have := HBB.out; have := hbf.size; omega) hyg (fun k hk => by injection hk with hk; have := HXY.out; omega)
        have hyl := blk_lt HYd.out
        have hst : ∀ k, wd.heap.size ≤ k → k < x2.heap.size → (World.heap yf)[k]? = x2.heap[k]? := fun k h1 h2 => (hyg.block k (by have := hxg.size; omega) (by intro e_; injection e_ with e_; omega)).trans (hxg.block k h2 (by intro e_; injection e_ with e_; have := HXY.out; omega))
        have HPz := Aside0.mk (HP1.out yf hbg (fun k h1 h2 => (hst k h1 (by have := hb.size; omega)).trans (hb.block k h2)))
        have HQz := Aside0.mk (hed yf hbg (fun k h1 h2 => hst k (by have := HS1.out.size; omega) h2))
        have HXz := Aside0.mk hxx
        have HYz := Aside0.mk hyy
        have HBz := Aside0.mk hbg
        refine ⟨_, rfl, trivial, ?_⟩
        clear hb hed hx2 hy2 hbb hxz hxg hyz hyy hyg hxx hbf hbg hyl hst HP1 HS1
        (try simp only [Act.put, List.setIfInBounds_toArray, List.set_cons_zero, List.set_cons_succ])
        refine t_ef ?_
        refine s_store (o := { dst := none, op := Op.store 66 (Operand.tmp 2) (Operand.tmp 17), type := 0, pos := "law.go:53", after := #[{ on := 1, ground := Ground.data }, { on := 3, ground := Ground.chain }, { on := 0, ground := Ground.phase }, { on := 1, ground := Ground.phase }, { on := 2, ground := Ground.textOnly Departure.lateStores }, { on := 3, ground := Ground.textOnly Departure.lateStoresUnsure }], guard := none }) (w1 := xf) rfl (by first | rfl | (simp [Region.wanted, yielded]; done)) (by first | (go_simp; done) | (go_simp; rfl)) (trivial) ?_
        (try simp only [Act.put, List.setIfInBounds_toArray, List.set_cons_zero, List.set_cons_succ])
        refine t_ef ?_
        refine s_store (o := { dst := none, op := Op.store 66 (Operand.tmp 3) (Operand.tmp 19), type := 0, pos := "law.go:53", after := #[{ on := 3, ground := Ground.data }, { on := 4, ground := Ground.chain }, { on := 0, ground := Ground.phase }, { on := 1, ground := Ground.phase }, { on := 2, ground := Ground.phase }, { on := 3, ground := Ground.phase }, { on := 4, ground := Ground.phase }], guard := none }) (w1 := yf) rfl (by first | rfl | (simp [Region.wanted, yielded]; done)) (by first | (go_simp; done) | (go_simp; rfl)) (trivial) ?_
        (try simp only [Act.put, List.setIfInBounds_toArray, List.set_cons_zero, List.set_cons_succ])
        refine t_nil ?_
        (try simp only [Exit.then])
        go_wp2_with fail
        go_meet
        exact ⟨p0, p1, pA2, pl2, pc2, pA3, pl3, pc3, pA4, pl4, pc4, pA5, pl5, pc5, q0, q1, qA2, ql2, qc2, qA3, ql3, qc3, qA4, ql4, qc4, qA5, ql5, qc5, HPz, HQz, HXz, HYz, HBz⟩
    · refine s_val (o := { dst := some 18, op := Op.load 66 (Operand.tmp 3), type := 66, pos := "law.go:53", after := #[], guard := none }) (w1 := wd) rfl (by first | rfl | (simp [Region.wanted, yielded]; done)) (by first | (go_simp; done) | (go_simp; rfl)) (trivial) ?_
      (try simp only [Act.put, List.setIfInBounds_toArray, List.set_cons_zero, List.set_cons_succ])
      refine t_ef ?_
      refine s_val (o := { dst := some 16, op := Op.load 66 (Operand.tmp 2), type := 66, pos := "law.go:53", after := #[], guard := none }) (w1 := wd) rfl (by first | rfl | (simp [Region.wanted, yielded]; done)) (by first | (go_simp; done) | (go_simp; rfl)) (trivial) ?_
      (try simp only [Act.put, List.setIfInBounds_toArray, List.set_cons_zero, List.set_cons_succ])
      refine t_ef ?_
      refine s_call (o := { dst := some 17, op := Op.call { callee := Callee.value (Operand.func 43), args := #[Operand.tmp 16], argTypes := #[66] }, type := 66, pos := "law.go:53", after := #[{ on := 0, ground := Ground.data }], guard := none }) rfl (by first | rfl | (simp [Region.wanted, yielded]; done)) (by first | (go_simp; done) | (go_simp; exact ⟨rfl, rfl⟩) | (go_simp; rfl)) ?_
      refine (HCA.out wd HBd.out).mono ?_
      rintro e_ x1 ⟨vp, rfl, hed, hb⟩
      have hbb := HBd.out.trans (hb.mono (by have := HBB.out; have := HBd.out.size; omega))
      obtain ⟨p0, p1, pA2, pl2, pc2, pA3, pl3, pc3, pA4, pl4, pc4, pA5, pl5, pc5, rfl⟩ := ed_six (hed x1 hbb (fun _ _ _ => rfl))
      have HP1 := Aside0.mk hed
      have HS1 := Aside0.mk hb
      have HXe := Aside0.mk (blk_below HXd.out hb)
      have HYe := Aside0.mk (blk_below HYd.out hb)
      have HBe := Aside0.mk (HBd.out.trans (hb.mono (by have := HBB.out; have := HBd.out.size; omega)))
      refine ⟨_, rfl, trivial, ?_⟩
      clear hb hbb hed g0 g1 g2 g3 g4 g5 h0 h1 h2 h3 h4 h5
      have h0 : World.cell? x1 ⟨y, 0, none⟩ = some (.int .i64 b0) := blk_cell HYe.out 0
      have h1 : World.cell? x1 ⟨y, 1, none⟩ = some (.int .i64 b1) := blk_cell HYe.out 1
      have h2 : World.cell? x1 ⟨y, 2, none⟩ = some (.slice bA2 bl2 bc2) := blk_cell HYe.out 2
      have h3 : World.cell? x1 ⟨y, 3, none⟩ = some (.slice bA3 bl3 bc3) := blk_cell HYe.out 3
      have h4 : World.cell? x1 ⟨y, 4, none⟩ = some (.slice bA4 bl4 bc4) := blk_cell HYe.out 4
      have h5 : World.cell? x1 ⟨y, 5, none⟩ = some (.slice bA5 bl5 bc5) := blk_cell HYe.out 5
      (try simp only [Act.put, List.setIfInBounds_toArray, List.set_cons_zero, List.set_cons_succ])
      refine t_ef ?_
      refine s_call (o := { dst := some 19, op := Op.call { callee := Callee.value (Operand.func 43), args := #[Operand.tmp 18], argTypes := #[66] }, type := 66, pos := "law.go:53", after := #[{ on := 2, ground := Ground.data }, { on := 1, ground := Ground.chain }], guard := none }) rfl (by first | rfl | (simp [Region.wanted, yielded]; done)) (by first | (go_simp; done) | (go_simp; exact ⟨rfl, rfl⟩) | (go_simp; rfl)) ?_
      refine (HCB.out x1 HBe.out).mono ?_
      rintro e_ x2 ⟨vq, rfl, hed, hb⟩
      have hx2 := blk_below HXe.out hb
      have hy2 := blk_below HYe.out hb
      have hbb := HBe.out.trans (hb.mono (by have := HBB.out; have := HBe.out.size; omega))
      obtain ⟨q0, q1, qA2, ql2, qc2, qA3, ql3, qc3, qA4, ql4, qc4, qA5, ql5, qc5, rfl⟩ := ed_six (hed x2 hbb (fun _ _ _ => rfl))
      obtain ⟨xa, xb, xc, xd, xe, xf, ex0, ex1, ex2, ex3, ex4, ex5, ⟨z0, z1, z2, z3, z4, z5⟩, ⟨f0, f1, f2, f3, f4, f5⟩, hxz, hxg⟩ := store6 hx2 (.int .i64 p0) (.int .i64 p1) (.slice pA2 pl2 pc2) (.slice pA3 pl3 pc3) (.slice pA4 pl4 pc4) (.slice pA5 pl5 pc5)
      have hyz := num_blk hy2 hxg (by have := HXY.out; omega)
      obtain ⟨ya, yb, yc, yd, ye, yf, ey0, ey1, ey2, ey3, ey4, ey5, ⟨u0, u1, u2, u3, u4, u5⟩, ⟨t0, t1, t2, t3, t4, t5⟩, hyy, hyg⟩ := store6 hyz (.int .i64 q0) (.int .i64 q1) (.slice qA2 ql2 qc2) (.slice qA3 ql3 qc3) (.slice qA4 ql4 qc4) (.slice qA5 ql5 qc5)
      have hxx := num_blk hxz hyg (by have := HXY.out; omega)
      have hbf := pw_below_grown hbb (some x) (by have := HBB.out; have := hbb.size; omega) hxg (fun k hk => by injection hk with hk; have := HXY.out; omega)
      have hbg := pw_below_grown hbf (some y) (by have := HBB.out; have := hbf.size; omega) hyg (fun k hk => by injection hk with hk; have := HXY.out; omega)
      have hyl := blk_lt HYd.out
      have hst : ∀ k, wd.heap.size ≤ k → k < x2.heap.size → (World.heap yf)[k]? = x2.heap[k]? := fun k h1 h2 => (hyg.block k (by have := hxg.size; omega) (by intro e_; injection e_ with e_; omega)).trans (hxg.block k h2 (by intro e_; injection e_ with e_; have := HXY.out; omega))
      have HPz := Aside0.mk (HP1.out yf hbg (fun k h1 h2 => (hst k h1 (by have := hb.size; omega)).trans (hb.block k h2)))
      have HQz := Aside0.mk (hed yf hbg (fun k h1 h2 => hst k (by have := HS1.out.size; omega) h2))
      have HXz := Aside0.mk hxx
      have HYz := Aside0.mk hyy
      have HBz := Aside0.mk hbg
      refine ⟨_, rfl, trivial, ?_⟩
      clear hb hed hx2 hy2 hbb hxz hxg hyz hyy hyg hxx hbf hbg hyl hst HP1 HS1
      (try simp only [Act.put, List.setIfInBounds_toArray, List.set_cons_zero, List.set_cons_succ])
      refine t_ef ?_
      refine s_store (o := { dst := none, op := Op.store 66 (Operand.tmp 2) (Operand.tmp 17), type := 0, pos := "law.go:53", after := #[{ on := 1, ground := Ground.data }, { on := 3, ground := Ground.chain }, { on := 0, ground := Ground.phase }, { on := 1, ground := Ground.phase }, { on := 2, ground := Ground.textOnly Departure.lateStores }, { on := 3, ground := Ground.textOnly Departure.lateStoresUnsure }], guard := none }) (w1 := xf) rfl (by first | rfl | (simp [Region.wanted, yielded]; done)) (by first | (go_simp; done) | (go_simp; rfl)) (trivial) ?_
      (try simp only [Act.put, List.setIfInBounds_toArray, List.set_cons_zero, List.set_cons_succ])
      refine t_ef ?_
      refine s_store (o := { dst := none, op := Op.store 66 (Operand.tmp 3) (Operand.tmp 19), type := 0, pos := "law.go:53", after := #[{ on := 3, ground := Ground.data }, { on := 4, ground := Ground.chain }, { on := 0, ground := Ground.phase }, { on := 1, ground := Ground.phase }, { on := 2, ground := Ground.phase }, { on := 3, ground := Ground.phase }, { on := 4, ground := Ground.phase }], guard := none }) (w1 := yf) rfl (by first | rfl | (simp [Region.wanted, yielded]; done)) (by first | (go_simp; done) | (go_simp; rfl)) (trivial) ?_
      (try simp only [Act.put, List.setIfInBounds_toArray, List.set_cons_zero, List.set_cons_succ])
      refine t_nil ?_
      (try simp only [Exit.then])
      go_wp2_with fail
      go_meet
      exact ⟨p0, p1, pA2, pl2, pc2, pA3, pl3, pc3, pA4, pl4, pc4, pA5, pl5, pc5, q0, q1, qA2, ql2, qc2, qA3, ql3, qc3, qA4, ql4, qc4, qA5, ql5, qc5, HPz, HQz, HXz, HYz, HBz⟩
  case rest =>
    clear HX0 HY0 HB0 HCA HCB
    obtain ⟨p0, p1, pA2, pl2, pc2, pA3, pl3, pc3, pA4, pl4, pc4, pA5, pl5, pc5, q0, q1, qA2, ql2, qc2, qA3, ql3, qc3, qA4, ql4, qc4, qA5, ql5, qc5, HP1, HQ1, HX1, HY1, HB1⟩ := hcut
    have x0 : World.cell? wc ⟨x, 0, none⟩ = some (.int .i64 p0) := blk_cell HX1.out 0
    have x1 : World.cell? wc ⟨x, 1, none⟩ = some (.int .i64 p1) := blk_cell HX1.out 1
    have x2 : World.cell? wc ⟨x, 2, none⟩ = some (.slice pA2 pl2 pc2) := blk_cell HX1.out 2
    have x3 : World.cell? wc ⟨x, 3, none⟩ = some (.slice pA3 pl3 pc3) := blk_cell HX1.out 3
    have x4 : World.cell? wc ⟨x, 4, none⟩ = some (.slice pA4 pl4 pc4) := blk_cell HX1.out 4
    have x5 : World.cell? wc ⟨x, 5, none⟩ = some (.slice pA5 pl5 pc5) := blk_cell HX1.out 5
    by_cases hok : edOk ea = true
    · have hby := bys_text hok HGA.out
      have HEN := Aside0.mk (encode_ok ea _ wc HP1.out hok HGA.out)
      have HMA := Aside0.mk (fun wx h => may_calls ea (.agg #[.int .i64 p0, .int .i64 p1, .slice pA2 pl2 pc2, .slice pA3 pl3 pc3, .slice pA4 pl4 pc4, .slice pA5 pl5 pc5]) wx h)
      have HCK := Aside0.mk (fun wx h => check_calls ea (.agg #[.int .i64 p0, .int .i64 p1, .slice pA2 pl2 pc2, .slice pA3 pl3 pc3, .slice pA4 pl4 pc4, .slice pA5 pl5 pc5]) wx h)
      rw [edC_ok hok] at HCK
      rw [hok] at HMA
      have HEW : Aside0 (EdW ea) := ⟨hok, HGA.out⟩
      obtain ⟨s, hs⟩ : ∃ q, sealL (textL ea) = q := ⟨_, rfl⟩
      have hsb : Bys s ∧ s.length ≤ 1000000 := by rw [← hs]; exact ⟨bys_sealL hby.1, by rw [sealL_len]; have := hby.2; omega⟩
      rw [hs] at HEN
      have HSS := Aside0.mk hs
      have HSB := Aside0.mk hsb
      clear hok hby hs hsb
      go_wp2_with fail
      refine HEN.out.mono ?_
      rintro e_ w2 ⟨v2, rfl, ho, hb⟩
      obtain ⟨A2, c2, rfl⟩ := Kd.R_slice ho
      have HS2 := Aside0.mk (Kd.R_reads' ho).2
      have HP2 := Aside0.mk (ed_below HP1.out hb)
      have HQ2 := Aside0.mk (ed_below HQ1.out hb)
      have HX2 := Aside0.mk (blk_below HX1.out hb)
      have HY2 := Aside0.mk (blk_below HY1.out hb)
      have HB2 := Aside0.mk (HB1.out.trans (hb.mono (by have := HBB.out; have := HB1.out.size; omega)))
      clear ho hb HEN HP1 HQ1 HX1 HY1 HB1 x0 x1 x2 x3 x4 x5
      have x0 : World.cell? w2 ⟨x, 0, none⟩ = some (.int .i64 p0) := blk_cell HX2.out 0
      have x1 : World.cell? w2 ⟨x, 1, none⟩ = some (.int .i64 p1) := blk_cell HX2.out 1
      have x2 : World.cell? w2 ⟨x, 2, none⟩ = some (.slice pA2 pl2 pc2) := blk_cell HX2.out 2
      have x3 : World.cell? w2 ⟨x, 3, none⟩ = some (.slice pA3 pl3 pc3) := blk_cell HX2.out 3
      have x4 : World.cell? w2 ⟨x, 4, none⟩ = some (.slice pA4 pl4 pc4) := blk_cell HX2.out 4
      have x5 : World.cell? w2 ⟨x, 5, none⟩ = some (.slice pA5 pl5 pc5) := blk_cell HX2.out 5
      go_wp2_with fail
      refine (HMA.out w2 HP2.out).mono ?_
      rintro e_ w3 ⟨rfl, hb⟩
      have HP3 := Aside0.mk (ed_below HP2.out hb)
      have HQ3 := Aside0.mk (ed_below HQ2.out hb)
      have HX3 := Aside0.mk (blk_below HX2.out hb)
      have HY3 := Aside0.mk (blk_below HY2.out hb)
      have HS3 := Aside0.mk (And.intro HS2.out.1 (Kd.C_below HS2.out.2 hb))
      have HB3 := Aside0.mk (HB2.out.trans (hb.mono (by have := HBB.out; have := HB2.out.size; omega)))
      clear hb HMA HP2 HQ2 HX2 HY2 HB2 HS2 x0 x1 x2 x3 x4 x5
      have x0 : World.cell? w3 ⟨x, 0, none⟩ = some (.int .i64 p0) := blk_cell HX3.out 0
      have x1 : World.cell? w3 ⟨x, 1, none⟩ = some (.int .i64 p1) := blk_cell HX3.out 1
      have x2 : World.cell? w3 ⟨x, 2, none⟩ = some (.slice pA2 pl2 pc2) := blk_cell HX3.out 2
      have x3 : World.cell? w3 ⟨x, 3, none⟩ = some (.slice pA3 pl3 pc3) := blk_cell HX3.out 3
      have x4 : World.cell? w3 ⟨x, 4, none⟩ = some (.slice pA4 pl4 pc4) := blk_cell HX3.out 4
      have x5 : World.cell? w3 ⟨x, 5, none⟩ = some (.slice pA5 pl5 pc5) := blk_cell HX3.out 5
      go_wp2_with fail
      refine (HCK.out w3 HP3.out).mono ?_
      rintro e_ w4 ⟨rfl, hb⟩
      have HP4 := Aside0.mk (ed_below HP3.out hb)
      have HQ4 := Aside0.mk (ed_below HQ3.out hb)
      have HX4 := Aside0.mk (blk_below HX3.out hb)
      have HY4 := Aside0.mk (blk_below HY3.out hb)
      have HS4 := Aside0.mk (And.intro HS3.out.1 (Kd.C_below HS3.out.2 hb))
      have HB4 := Aside0.mk (HB3.out.trans (hb.mono (by have := HBB.out; have := HB3.out.size; omega)))
      clear hb HCK HP3 HQ3 HX3 HY3 HB3 HS3 x0 x1 x2 x3 x4 x5
      have x0 : World.cell? w4 ⟨y, 0, none⟩ = some (.int .i64 q0) := blk_cell HY4.out 0
      have x1 : World.cell? w4 ⟨y, 1, none⟩ = some (.int .i64 q1) := blk_cell HY4.out 1
      have x2 : World.cell? w4 ⟨y, 2, none⟩ = some (.slice qA2 ql2 qc2) := blk_cell HY4.out 2
      have x3 : World.cell? w4 ⟨y, 3, none⟩ = some (.slice qA3 ql3 qc3) := blk_cell HY4.out 3
      have x4 : World.cell? w4 ⟨y, 4, none⟩ = some (.slice qA4 ql4 qc4) := blk_cell HY4.out 4
      have x5 : World.cell? w4 ⟨y, 5, none⟩ = some (.slice qA5 ql5 qc5) := blk_cell HY4.out 5
      obtain ⟨n1, hn1⟩ : ∃ z, s.length = z := ⟨_, rfl⟩
      rw [hn1] at HS4 HSB ⊢
      have HN1 := Aside0.mk hn1
      clear hn1
      by_cases hok : edOk eb = true
      · have hby := bys_text hok HGB.out
        have HEN := Aside0.mk (encode_ok eb _ w4 HQ4.out hok HGB.out)
        have hew : EdW eb := ⟨hok, HGB.out⟩
        have hsc := escan_all (es := [ea, eb]) (fun z hz => by
          rcases List.mem_cons.1 hz with rfl | hz
          · exact HEW.out
          · rw [List.mem_singleton.1 hz]; exact hew)
        rw [show sealsL ([ea, eb].map textL) = sealL (textL ea) ++ sealL (textL eb) by simp [sealsL]] at hsc
        obtain ⟨q, hs⟩ : ∃ z, sealL (textL eb) = z := ⟨_, rfl⟩
        have hsb : Bys q ∧ q.length ≤ 1000000 := by rw [← hs]; exact ⟨bys_sealL hby.1, by rw [sealL_len]; have := hby.2; omega⟩
        rw [hs] at HEN hsc
        rw [HSS.out] at hsc
        have HSC := Aside0.mk (fun A c w h1 h2 => escan_calls A c (s ++ q) (bys_append HSB.out.1 hsb.1) w h1 h2 (by rw [List.length_append]; have := HSB.out; have := HN1.out; omega))
        rw [hsc] at HSC
        have hlen : (s ++ q).length = n1 + q.length := by rw [List.length_append, HN1.out]
        obtain ⟨n2, hn2⟩ : ∃ z, q.length = z := ⟨_, rfl⟩
        rw [hn2] at hsb hlen
        have HTB := Aside0.mk hsb
        have HN2 := Aside0.mk hn2
        have HLN := Aside0.mk hlen
        clear hok hby hs hsb hew hsc hn2 hlen
        go_wp2_with fail
        refine HEN.out.mono ?_
        rintro e_ w5 ⟨v5, rfl, ho, hb⟩
        obtain ⟨A3, c3, rfl⟩ := Kd.R_slice ho
        have HT5 := Aside0.mk (Kd.R_reads' ho).2
        rw [HN2.out] at HT5 ⊢
        have HP5 := Aside0.mk (ed_below HP4.out hb)
        have HQ5 := Aside0.mk (ed_below HQ4.out hb)
        have HX5 := Aside0.mk (blk_below HX4.out hb)
        have HY5 := Aside0.mk (blk_below HY4.out hb)
        have HS5 := Aside0.mk (And.intro HS4.out.1 (Kd.C_below HS4.out.2 hb))
        have HB5 := Aside0.mk (HB4.out.trans (hb.mono (by have := HBB.out; have := HB4.out.size; omega)))
        clear ho hb HEN HP4 HQ4 HX4 HY4 HB4 HS4 x0 x1 x2 x3 x4 x5
        have HBW := Aside0.mk (Below.refl w5.heap.size w5)
        have HN0 := Aside0.mk (Kd.R_nil (Kd.int .u8) 5 w5 w5.heap.size (fun _ => True))
        obtain ⟨t, ht⟩ : ∃ z, ([] ++ s) ++ q = z := ⟨_, rfl⟩
        have HBE := Aside0.mk ht
        have htt : t = s ++ q := by rw [← ht, List.nil_append]
        rw [← htt] at HSC HLN
        clear ht htt
        go_wp2_with (first | ((with_reducible refine gate_builtin (b := .append) (xs := #[.const (.slice none 0 0), .tmp 53]) rfl ?_); at_builtin; go_must (refine Kd.R_append_row (Value.int .u8) (0) (h1 := fun _ => rfl) (w0 := w5) (w5.heap.size) rfl (.const (.slice none 0 0)) (.tmp 53) 22 5 (.int .u8 0) 1 rfl Try.underlying22 info5 rfl (by decide) (.slice none 0 0) ([] : List Int) s A2 (n1) c2 (fun _ => True) rfl rfl (fun _ _ => trivial) (HN0.out) (HS5.out.2) (HBW.out) (Below.size (HBW.out)) ?aL_ ?_; (case aL_ => have := HSB.out; have := HN1.out; simp only [List.length_nil]; omega); intro v6 w6 ho hb hg hat; have HO6 := Aside0.mk ho; have HB6 := Aside0.mk hb; have HT6 := Aside0.mk (Kd.C_below HT5.out.2 hb); clear ho hb hg hat)) | ((with_reducible refine gate_builtin (b := .append) (xs := #[.tmp 54, .tmp 55]) rfl ?_); at_builtin; go_must (refine Kd.R_append_row (Value.int .u8) (0) (h1 := fun _ => rfl) (w0 := w5) (w5.heap.size) rfl (.tmp 54) (.tmp 55) 22 5 (.int .u8 0) 1 rfl Try.underlying22 info5 rfl (by decide) v6 ([] ++ s) q A3 (n2) c3 (fun _ => True) rfl rfl (fun _ _ => trivial) (HO6.out) (HT6.out) (HB6.out) (Below.size (HB6.out)) ?aL_ ?_; (case aL_ => have := HSB.out; have := HTB.out; have := HN1.out; have := HN2.out; simp only [List.nil_append]; omega); intro v7 w7 ho hb hg hat; have HO7 := Aside0.mk ho; have HB7 := Aside0.mk hb; have ho7 := HO7.out; rw [HBE.out] at ho7; obtain ⟨A7, c7, e7⟩ := Kd.R_slice ho7; subst e7; have HO8 := Aside0.mk ho7; clear ho7 HO7 HO6; clear ho hb hg hat)))
        have HC7 := Aside0.mk (Kd.R_reads' HO8.out).2
        have HP7 := Aside0.mk (ed_below HP5.out HB7.out)
        have HQ7 := Aside0.mk (ed_below HQ5.out HB7.out)
        have HX7 := Aside0.mk (blk_below HX5.out HB7.out)
        have HY7 := Aside0.mk (blk_below HY5.out HB7.out)
        have HB8 := Aside0.mk (HB5.out.trans (HB7.out.mono (by have := HBB.out; have := HB5.out.size; omega)))
        clear HO8 HB7 HBW HN0 HP5 HQ5 HX5 HY5 HB5
        refine (HSC.out A7 c7 w7 HC7.out.2 HC7.out.1).mono ?_
        rintro e_ w9 ⟨v9, rfl, ho, hb⟩
        obtain ⟨A9, c9, rfl⟩ := Kd.R_slice ho
        have hke := (Kd.R_reads' ho).2.2
        obtain ⟨ad, m0, m1, mA2, ml2, mc2, mA3, ml3, mc3, mA4, ml4, mc4, mA5, ml5, mc5, e1, s00, s01, s02, s03, s04, s05, hed0⟩ := ed_at6 hke 0 (by simp)
        subst e1
        obtain ⟨ad', f0, f1, fA2, fl2, fc2, fA3, fl3, fc3, fA4, fl4, fc4, fA5, fl5, fc5, e1, s10, s11, s12, s13, s14, s15, hed1⟩ := ed_at6 hke 1 (by simp)
        obtain rfl : ad = ad' := by injection e1
        have r00 : w9.cell? ad = some (.int .i64 m0) := by simpa [Addr.add] using s00
        have r01 : w9.cell? ⟨ad.block, ad.off + 1, none⟩ = some (.int .i64 m1) := by simpa [Addr.add] using s01
        have r02 : w9.cell? ⟨ad.block, ad.off + 2, none⟩ = some (.slice mA2 ml2 mc2) := by simpa [Addr.add] using s02
        have r03 : w9.cell? ⟨ad.block, ad.off + 3, none⟩ = some (.slice mA3 ml3 mc3) := by simpa [Addr.add] using s03
        have r04 : w9.cell? ⟨ad.block, ad.off + 4, none⟩ = some (.slice mA4 ml4 mc4) := by simpa [Addr.add] using s04
        have r05 : w9.cell? ⟨ad.block, ad.off + 5, none⟩ = some (.slice mA5 ml5 mc5) := by simpa [Addr.add] using s05
        have HE0 : Aside0 (EdAt w9 (.agg #[.int .i64 m0, .int .i64 m1, .slice mA2 ml2 mc2, .slice mA3 ml3 mc3, .slice mA4 ml4 mc4, .slice mA5 ml5 mc5]) ea) := ⟨hed0⟩
        have r10 : w9.cell? ⟨ad.block, ad.off + 6, none⟩ = some (.int .i64 f0) := by simpa [Addr.add] using s10
        have r11 : w9.cell? ⟨ad.block, ad.off + 7, none⟩ = some (.int .i64 f1) := by simpa [Addr.add] using s11
        have r12 : w9.cell? ⟨ad.block, ad.off + 8, none⟩ = some (.slice fA2 fl2 fc2) := by simpa [Addr.add] using s12
        have r13 : w9.cell? ⟨ad.block, ad.off + 9, none⟩ = some (.slice fA3 fl3 fc3) := by simpa [Addr.add] using s13
        have r14 : w9.cell? ⟨ad.block, ad.off + 10, none⟩ = some (.slice fA4 fl4 fc4) := by simpa [Addr.add] using s14
        have r15 : w9.cell? ⟨ad.block, ad.off + 11, none⟩ = some (.slice fA5 fl5 fc5) := by simpa [Addr.add] using s15
        have HE1 : Aside0 (EdAt w9 (.agg #[.int .i64 f0, .int .i64 f1, .slice fA2 fl2 fc2, .slice fA3 fl3 fc3, .slice fA4 fl4 fc4, .slice fA5 fl5 fc5]) eb) := ⟨hed1⟩
        have HP9 := Aside0.mk (ed_below HP7.out hb)
        have HQ9 := Aside0.mk (ed_below HQ7.out hb)
        have HX9 := Aside0.mk (blk_below HX7.out hb)
        have HY9 := Aside0.mk (blk_below HY7.out hb)
        have HB9 := Aside0.mk (HB8.out.trans (hb.mono (by have := HBB.out; have := HB8.out.size; omega)))
        clear ho hb hke HSC HC7 HP7 HQ7 HX7 HY7 HB8 s00 s01 s02 s03 s04 s05 s10 s11 s12 s13 s14 s15 hed0 hed1
        have hl_ : (t.length : Int) = (n1 : Int) + (n2 : Int) := by have := HLN.out; omega
        have kl : IntKind.i64.wrap ((n1 : Int) + (n2 : Int)) = (n1 : Int) + (n2 : Int) := by have := HSB.out.2; have := HTB.out.2; rw [IntKind.wrap_i64]; omega
        go_wp2_with fail
        refine wp_region_mix (fun w_ w1_ => Below w_.heap.size w_ w1_) [(false, 0), (false, 1), (false, 2), (false, 3), (false, 4), (false, 5), (false, 6), (false, 7), (false, 8), (false, 9), (false, 10), (false, 11), (false, 12), (false, 13), (false, 14), (false, 15), (false, 16), (false, 17), (false, 18), (false, 19), (true, 20), (false, 21), (false, 22), (false, 23), (false, 24), (false, 25), (false, 26), (true, 27), (false, 28), (false, 29)] (by kernel_rfl) (by kernel_rfl) (fun _ => Below.refl _ _) (fun h h' => below_step h h') (fun wd hhp_ hbw_ => ?_)
        have HBd := Aside0.mk (HB9.out.trans (hbw_.mono (by have := HBB.out; have := HB9.out.size; omega)))
        have HPd := Aside0.mk (ed_below HP9.out hbw_)
        have HQd := Aside0.mk (ed_below HQ9.out hbw_)
        have HXd := Aside0.mk (blk_below HX9.out hbw_)
        have HYd := Aside0.mk (blk_below HY9.out hbw_)
        have HE0d := Aside0.mk (ed_below HE0.out hbw_)
        have g00 := pw_cell_below hbw_ r00
        have g01 := pw_cell_below hbw_ r01
        have g02 := pw_cell_below hbw_ r02
        have g03 := pw_cell_below hbw_ r03
        have g04 := pw_cell_below hbw_ r04
        have g05 := pw_cell_below hbw_ r05
        have HE1d := Aside0.mk (ed_below HE1.out hbw_)
        have g10 := pw_cell_below hbw_ r10
        have g11 := pw_cell_below hbw_ r11
        have g12 := pw_cell_below hbw_ r12
        have g13 := pw_cell_below hbw_ r13
        have g14 := pw_cell_below hbw_ r14
        have g15 := pw_cell_below hbw_ r15
        clear hhp_ hbw_ r00 r01 r02 r03 r04 r05 r10 r11 r12 r13 r14 r15
        (refine mix_read (o := { dst := some 82, op := Op.move (Operand.tmp 12), type := 4, pos := "law.go:66", after := #[], guard := none }) rfl (by first | rfl | (simp [Region.wanted, yielded]; done)) (by intro w_ hE_; (try dsimp only at hE_); first | (go_simp; done) | (go_simp; rfl)) ?_)
        (try simp only [Act.put, List.setIfInBounds_toArray, List.set_cons_zero, List.set_cons_succ])
        (refine mix_read (o := { dst := some 83, op := Op.move (Operand.tmp 82), type := 4, pos := "law.go:66", after := #[{ on := 0, ground := Ground.data }], guard := none }) rfl (by first | rfl | (simp [Region.wanted, yielded]; done)) (by intro w_ hE_; (try dsimp only at hE_); first | (go_simp; done) | (go_simp; rfl)) ?_)
        (try simp only [Act.put, List.setIfInBounds_toArray, List.set_cons_zero, List.set_cons_succ])
        first | (refine mix_read (o := { dst := some 84, op := Op.move (Operand.tmp 11), type := 3, pos := "law.go:66", after := #[{ on := 1, ground := Ground.guard }], guard := some (1, true) }) rfl (by first | rfl | (simp [Region.wanted, yielded]; done)) (by intro w_ hE_; (try dsimp only at hE_); first | (go_simp; done) | (go_simp; rfl)) ?_) | (refine mix_skip (o := { dst := some 84, op := Op.move (Operand.tmp 11), type := 3, pos := "law.go:66", after := #[{ on := 1, ground := Ground.guard }], guard := some (1, true) }) rfl (by first | rfl | (simp [Region.wanted, yielded]; done)) ?_)
        (try simp only [Act.put, List.setIfInBounds_toArray, List.set_cons_zero, List.set_cons_succ])
        first | (refine mix_read (o := { dst := some 85, op := Op.move (Operand.tmp 6), type := 22, pos := "law.go:66", after := #[{ on := 1, ground := Ground.guard }], guard := some (1, true) }) rfl (by first | rfl | (simp [Region.wanted, yielded]; done)) (by intro w_ hE_; (try dsimp only at hE_); first | (go_simp; done) | (go_simp; rfl)) ?_) | (refine mix_skip (o := { dst := some 85, op := Op.move (Operand.tmp 6), type := 22, pos := "law.go:66", after := #[{ on := 1, ground := Ground.guard }], guard := some (1, true) }) rfl (by first | rfl | (simp [Region.wanted, yielded]; done)) ?_)
        (try simp only [Act.put, List.setIfInBounds_toArray, List.set_cons_zero, List.set_cons_succ])
        first | (refine mix_read (o := { dst := some 86, op := Op.call { callee := Callee.builtin Builtin.len, args := #[Operand.tmp 85], argTypes := #[22] }, type := 3, pos := "law.go:66", after := #[{ on := 3, ground := Ground.data }, { on := 1, ground := Ground.guard }], guard := some (1, true) }) rfl (by first | rfl | (simp [Region.wanted, yielded]; done)) (by intro w_ hE_; (try dsimp only at hE_); first | (go_simp; done) | (go_simp; rfl)) ?_) | (refine mix_skip (o := { dst := some 86, op := Op.call { callee := Callee.builtin Builtin.len, args := #[Operand.tmp 85], argTypes := #[22] }, type := 3, pos := "law.go:66", after := #[{ on := 3, ground := Ground.data }, { on := 1, ground := Ground.guard }], guard := some (1, true) }) rfl (by first | rfl | (simp [Region.wanted, yielded]; done)) ?_)
        (try simp only [Act.put, List.setIfInBounds_toArray, List.set_cons_zero, List.set_cons_succ])
        first | (refine mix_read (o := { dst := some 87, op := Op.move (Operand.tmp 8), type := 22, pos := "law.go:66", after := #[{ on := 1, ground := Ground.guard }], guard := some (1, true) }) rfl (by first | rfl | (simp [Region.wanted, yielded]; done)) (by intro w_ hE_; (try dsimp only at hE_); first | (go_simp; done) | (go_simp; rfl)) ?_) | (refine mix_skip (o := { dst := some 87, op := Op.move (Operand.tmp 8), type := 22, pos := "law.go:66", after := #[{ on := 1, ground := Ground.guard }], guard := some (1, true) }) rfl (by first | rfl | (simp [Region.wanted, yielded]; done)) ?_)
        (try simp only [Act.put, List.setIfInBounds_toArray, List.set_cons_zero, List.set_cons_succ])
        first | (refine mix_read (o := { dst := some 88, op := Op.call { callee := Callee.builtin Builtin.len, args := #[Operand.tmp 87], argTypes := #[22] }, type := 3, pos := "law.go:66", after := #[{ on := 5, ground := Ground.data }, { on := 1, ground := Ground.guard }], guard := some (1, true) }) rfl (by first | rfl | (simp [Region.wanted, yielded]; done)) (by intro w_ hE_; (try dsimp only at hE_); first | (go_simp; done) | (go_simp; rfl)) ?_) | (refine mix_skip (o := { dst := some 88, op := Op.call { callee := Callee.builtin Builtin.len, args := #[Operand.tmp 87], argTypes := #[22] }, type := 3, pos := "law.go:66", after := #[{ on := 5, ground := Ground.data }, { on := 1, ground := Ground.guard }], guard := some (1, true) }) rfl (by first | rfl | (simp [Region.wanted, yielded]; done)) ?_)
        (try simp only [Act.put, List.setIfInBounds_toArray, List.set_cons_zero, List.set_cons_succ])
        first | (refine mix_read (o := { dst := some 89, op := Op.binOp BinOp.add 3 (Operand.tmp 86) (Operand.tmp 88) 3, type := 3, pos := "law.go:66", after := #[{ on := 4, ground := Ground.data }, { on := 6, ground := Ground.data }, { on := 1, ground := Ground.guard }], guard := some (1, true) }) rfl (by first | rfl | (simp [Region.wanted, yielded]; done)) (by intro w_ hE_; (try dsimp only at hE_); first | (go_simp; done) | (go_simp; rfl)) ?_) | (refine mix_skip (o := { dst := some 89, op := Op.binOp BinOp.add 3 (Operand.tmp 86) (Operand.tmp 88) 3, type := 3, pos := "law.go:66", after := #[{ on := 4, ground := Ground.data }, { on := 6, ground := Ground.data }, { on := 1, ground := Ground.guard }], guard := some (1, true) }) rfl (by first | rfl | (simp [Region.wanted, yielded]; done)) ?_)
        (try simp only [Act.put, List.setIfInBounds_toArray, List.set_cons_zero, List.set_cons_succ])
        first | (refine mix_read (o := { dst := some 90, op := Op.binOp BinOp.eql 3 (Operand.tmp 84) (Operand.tmp 89) 3, type := 4, pos := "law.go:66", after := #[{ on := 2, ground := Ground.data }, { on := 7, ground := Ground.data }, { on := 1, ground := Ground.guard }], guard := some (1, true) }) rfl (by first | rfl | (simp [Region.wanted, yielded]; done)) (by intro w_ hE_; (try dsimp only at hE_); first | (go_simp; done) | (go_simp; rfl)) ?_) | (refine mix_skip (o := { dst := some 90, op := Op.binOp BinOp.eql 3 (Operand.tmp 84) (Operand.tmp 89) 3, type := 4, pos := "law.go:66", after := #[{ on := 2, ground := Ground.data }, { on := 7, ground := Ground.data }, { on := 1, ground := Ground.guard }], guard := some (1, true) }) rfl (by first | rfl | (simp [Region.wanted, yielded]; done)) ?_)
        (try simp only [Act.put, List.setIfInBounds_toArray, List.set_cons_zero, List.set_cons_succ])
        (refine mix_read (o := { dst := some 91, op := Op.pick (Operand.tmp 83) (Operand.tmp 90) (Operand.const (Value.bool false)), type := 4, pos := "law.go:66", after := #[{ on := 1, ground := Ground.data }, { on := 8, ground := Ground.data }], guard := none }) rfl (by first | rfl | (simp [Region.wanted, yielded]; done)) (by intro w_ hE_; (try dsimp only at hE_); first | (go_simp; done) | (go_simp; rfl)) ?_)
        (try simp only [Act.put, List.setIfInBounds_toArray, List.set_cons_zero, List.set_cons_succ])
        (refine mix_read (o := { dst := some 92, op := Op.move (Operand.tmp 91), type := 4, pos := "law.go:66", after := #[{ on := 9, ground := Ground.data }, { on := 1, ground := Ground.chain }], guard := none }) rfl (by first | rfl | (simp [Region.wanted, yielded]; done)) (by intro w_ hE_; (try dsimp only at hE_); first | (go_simp; done) | (go_simp; rfl)) ?_)
        (try simp only [Act.put, List.setIfInBounds_toArray, List.set_cons_zero, List.set_cons_succ])
        first | (refine mix_read (o := { dst := some 93, op := Op.move (Operand.tmp 10), type := 71, pos := "law.go:66", after := #[{ on := 10, ground := Ground.guard }], guard := some (10, true) }) rfl (by first | rfl | (simp [Region.wanted, yielded]; done)) (by intro w_ hE_; (try dsimp only at hE_); first | (go_simp; done) | (go_simp; rfl)) ?_) | (refine mix_skip (o := { dst := some 93, op := Op.move (Operand.tmp 10), type := 71, pos := "law.go:66", after := #[{ on := 10, ground := Ground.guard }], guard := some (10, true) }) rfl (by first | rfl | (simp [Region.wanted, yielded]; done)) ?_)
        (try simp only [Act.put, List.setIfInBounds_toArray, List.set_cons_zero, List.set_cons_succ])
        first | (refine mix_read (o := { dst := some 94, op := Op.call { callee := Callee.builtin Builtin.len, args := #[Operand.tmp 93], argTypes := #[71] }, type := 3, pos := "law.go:66", after := #[{ on := 11, ground := Ground.data }, { on := 10, ground := Ground.guard }], guard := some (10, true) }) rfl (by first | rfl | (simp [Region.wanted, yielded]; done)) (by intro w_ hE_; (try dsimp only at hE_); first | (go_simp; done) | (go_simp; rfl)) ?_) | (refine mix_skip (o := { dst := some 94, op := Op.call { callee := Callee.builtin Builtin.len, args := #[Operand.tmp 93], argTypes := #[71] }, type := 3, pos := "law.go:66", after := #[{ on := 11, ground := Ground.data }, { on := 10, ground := Ground.guard }], guard := some (10, true) }) rfl (by first | rfl | (simp [Region.wanted, yielded]; done)) ?_)
        (try simp only [Act.put, List.setIfInBounds_toArray, List.set_cons_zero, List.set_cons_succ])
        first | (refine mix_read (o := { dst := some 95, op := Op.binOp BinOp.eql 3 (Operand.tmp 94) (Operand.const (Value.int IntKind.i64 2)) 3, type := 4, pos := "law.go:66", after := #[{ on := 12, ground := Ground.data }, { on := 10, ground := Ground.guard }], guard := some (10, true) }) rfl (by first | rfl | (simp [Region.wanted, yielded]; done)) (by intro w_ hE_; (try dsimp only at hE_); first | (go_simp; done) | (go_simp; rfl)) ?_) | (refine mix_skip (o := { dst := some 95, op := Op.binOp BinOp.eql 3 (Operand.tmp 94) (Operand.const (Value.int IntKind.i64 2)) 3, type := 4, pos := "law.go:66", after := #[{ on := 12, ground := Ground.data }, { on := 10, ground := Ground.guard }], guard := some (10, true) }) rfl (by first | rfl | (simp [Region.wanted, yielded]; done)) ?_)
        (try simp only [Act.put, List.setIfInBounds_toArray, List.set_cons_zero, List.set_cons_succ])
        (refine mix_read (o := { dst := some 96, op := Op.pick (Operand.tmp 92) (Operand.tmp 95) (Operand.const (Value.bool false)), type := 4, pos := "law.go:66", after := #[{ on := 10, ground := Ground.data }, { on := 13, ground := Ground.data }], guard := none }) rfl (by first | rfl | (simp [Region.wanted, yielded]; done)) (by intro w_ hE_; (try dsimp only at hE_); first | (go_simp; done) | (go_simp; rfl)) ?_)
        (try simp only [Act.put, List.setIfInBounds_toArray, List.set_cons_zero, List.set_cons_succ])
        (refine mix_read (o := { dst := some 97, op := Op.move (Operand.tmp 96), type := 4, pos := "law.go:66", after := #[{ on := 14, ground := Ground.data }, { on := 10, ground := Ground.chain }], guard := none }) rfl (by first | rfl | (simp [Region.wanted, yielded]; done)) (by intro w_ hE_; (try dsimp only at hE_); first | (go_simp; done) | (go_simp; rfl)) ?_)
        (try simp only [Act.put, List.setIfInBounds_toArray, List.set_cons_zero, List.set_cons_succ])
        first | (refine mix_read (o := { dst := some 98, op := Op.move (Operand.tmp 10), type := 71, pos := "law.go:66", after := #[{ on := 15, ground := Ground.guard }], guard := some (15, true) }) rfl (by first | rfl | (simp [Region.wanted, yielded]; done)) (by intro w_ hE_; (try dsimp only at hE_); first | (go_simp; done) | (go_simp; rfl)) ?_) | (refine mix_skip (o := { dst := some 98, op := Op.move (Operand.tmp 10), type := 71, pos := "law.go:66", after := #[{ on := 15, ground := Ground.guard }], guard := some (15, true) }) rfl (by first | rfl | (simp [Region.wanted, yielded]; done)) ?_)
        (try simp only [Act.put, List.setIfInBounds_toArray, List.set_cons_zero, List.set_cons_succ])
        first | (refine mix_read (o := { dst := some 99, op := Op.indexAddr 71 (Operand.tmp 98) (Operand.const (Value.int IntKind.i64 0)), type := 0, pos := "law.go:66", after := #[{ on := 16, ground := Ground.data }, { on := 15, ground := Ground.guard }], guard := some (15, true) }) rfl (by first | rfl | (simp [Region.wanted, yielded]; done)) (by intro w_ hE_; (try dsimp only at hE_); first | (go_simp; done) | (go_simp; rfl)) ?_) | (refine mix_skip (o := { dst := some 99, op := Op.indexAddr 71 (Operand.tmp 98) (Operand.const (Value.int IntKind.i64 0)), type := 0, pos := "law.go:66", after := #[{ on := 16, ground := Ground.data }, { on := 15, ground := Ground.guard }], guard := some (15, true) }) rfl (by first | rfl | (simp [Region.wanted, yielded]; done)) ?_)
        (try simp only [Act.put, List.setIfInBounds_toArray, List.set_cons_zero, List.set_cons_succ])
        first | (refine mix_read (o := { dst := some 100, op := Op.load 66 (Operand.tmp 99), type := 66, pos := "law.go:66", after := #[{ on := 17, ground := Ground.data }, { on := 15, ground := Ground.guard }], guard := some (15, true) }) rfl (by first | rfl | (simp [Region.wanted, yielded]; done)) (by intro w_ hE_; (try dsimp only at hE_); have z0_ := pw_cell_below hE_ g00; have z1_ := pw_cell_below hE_ g01; have z2_ := pw_cell_below hE_ g02; have z3_ := pw_cell_below hE_ g03; have z4_ := pw_cell_below hE_ g04; have z5_ := pw_cell_below hE_ g05; first | (go_simp; done) | (go_simp; rfl)) ?_) | (refine mix_skip (o := { dst := some 100, op := Op.load 66 (Operand.tmp 99), type := 66, pos := "law.go:66", after := #[{ on := 17, ground := Ground.data }, { on := 15, ground := Ground.guard }], guard := some (15, true) }) rfl (by first | rfl | (simp [Region.wanted, yielded]; done)) ?_)
        (try simp only [Act.put, List.setIfInBounds_toArray, List.set_cons_zero, List.set_cons_succ])
        first | (refine mix_read (o := { dst := some 101, op := Op.load 66 (Operand.tmp 2), type := 66, pos := "law.go:66", after := #[{ on := 15, ground := Ground.guard }], guard := some (15, true) }) rfl (by first | rfl | (simp [Region.wanted, yielded]; done)) (by intro w_ hE_; (try dsimp only at hE_); have hx_ := blk_below HXd.out hE_; have z0_ : w_.cell? ⟨x, 0, none⟩ = some (.int .i64 p0) := blk_cell hx_ 0; have z1_ : w_.cell? ⟨x, 1, none⟩ = some (.int .i64 p1) := blk_cell hx_ 1; have z2_ : w_.cell? ⟨x, 2, none⟩ = some (.slice pA2 pl2 pc2) := blk_cell hx_ 2; have z3_ : w_.cell? ⟨x, 3, none⟩ = some (.slice pA3 pl3 pc3) := blk_cell hx_ 3; have z4_ : w_.cell? ⟨x, 4, none⟩ = some (.slice pA4 pl4 pc4) := blk_cell hx_ 4; have z5_ : w_.cell? ⟨x, 5, none⟩ = some (.slice pA5 pl5 pc5) := blk_cell hx_ 5; first | (go_simp; done) | (go_simp; rfl)) ?_) | (refine mix_skip (o := { dst := some 101, op := Op.load 66 (Operand.tmp 2), type := 66, pos := "law.go:66", after := #[{ on := 15, ground := Ground.guard }], guard := some (15, true) }) rfl (by first | rfl | (simp [Region.wanted, yielded]; done)) ?_)
        (try simp only [Act.put, List.setIfInBounds_toArray, List.set_cons_zero, List.set_cons_succ])
        refine mix_call (o := { dst := some 102, op := Op.call { callee := Callee.value (Operand.func 48), args := #[Operand.tmp 100, Operand.tmp 101], argTypes := #[66, 66] }, type := 4, pos := "law.go:66", after := #[{ on := 18, ground := Ground.data }, { on := 19, ground := Ground.data }, { on := 15, ground := Ground.chain }, { on := 15, ground := Ground.guard }], guard := some (15, true) }) rfl (by first | rfl | (simp [Region.wanted, yielded]; done)) (by first | (go_simp; done) | (go_simp; exact ⟨rfl, rfl⟩) | (go_simp; rfl)) ?_
        refine (eqe_same _ _ _ wd HE0d.out HPd.out).mono ?_
        rintro e_ y1 ⟨rfl, hb⟩
        refine ⟨_, rfl, hb, ?_⟩
        have HBy := Aside0.mk (HBd.out.trans (hb.mono (by have := HBB.out; have := HBd.out.size; omega)))
        have HE1y := Aside0.mk (ed_below HE1d.out hb)
        have HQy := Aside0.mk (ed_below HQd.out hb)
        have HYy := Aside0.mk (blk_below HYd.out hb)
        have k10 := pw_cell_below hb g10
        have k11 := pw_cell_below hb g11
        have k12 := pw_cell_below hb g12
        have k13 := pw_cell_below hb g13
        have k14 := pw_cell_below hb g14
        have k15 := pw_cell_below hb g15
        clear hb HBd HE1d HQd HYd HXd HPd HE0d g00 g01 g02 g03 g04 g05 g10 g11 g12 g13 g14 g15
        have HBd := HBy
        have HE1d := HE1y
        have HQd := HQy
        have HYd := HYy
        have g10 := k10
        have g11 := k11
        have g12 := k12
        have g13 := k13
        have g14 := k14
        have g15 := k15
        clear HBy HE1y HQy HYy k10 k11 k12 k13 k14 k15
        (try simp only [Act.put, List.setIfInBounds_toArray, List.set_cons_zero, List.set_cons_succ])
        (refine mix_read (o := { dst := some 103, op := Op.pick (Operand.tmp 97) (Operand.tmp 102) (Operand.const (Value.bool false)), type := 4, pos := "law.go:66", after := #[{ on := 15, ground := Ground.data }, { on := 20, ground := Ground.data }], guard := none }) rfl (by first | rfl | (simp [Region.wanted, yielded]; done)) (by intro w_ hE_; (try dsimp only at hE_); first | (go_simp; done) | (go_simp; rfl)) ?_)
        (try simp only [Act.put, List.setIfInBounds_toArray, List.set_cons_zero, List.set_cons_succ])
        (refine mix_read (o := { dst := some 104, op := Op.move (Operand.tmp 103), type := 4, pos := "law.go:66", after := #[{ on := 21, ground := Ground.data }, { on := 20, ground := Ground.chain }], guard := none }) rfl (by first | rfl | (simp [Region.wanted, yielded]; done)) (by intro w_ hE_; (try dsimp only at hE_); first | (go_simp; done) | (go_simp; rfl)) ?_)
        (try simp only [Act.put, List.setIfInBounds_toArray, List.set_cons_zero, List.set_cons_succ])
        first | (refine mix_read (o := { dst := some 105, op := Op.move (Operand.tmp 10), type := 71, pos := "law.go:66", after := #[{ on := 22, ground := Ground.guard }], guard := some (22, true) }) rfl (by first | rfl | (simp [Region.wanted, yielded]; done)) (by intro w_ hE_; (try dsimp only at hE_); first | (go_simp; done) | (go_simp; rfl)) ?_) | (refine mix_skip (o := { dst := some 105, op := Op.move (Operand.tmp 10), type := 71, pos := "law.go:66", after := #[{ on := 22, ground := Ground.guard }], guard := some (22, true) }) rfl (by first | rfl | (simp [Region.wanted, yielded]; done)) ?_)
        (try simp only [Act.put, List.setIfInBounds_toArray, List.set_cons_zero, List.set_cons_succ])
        first | (refine mix_read (o := { dst := some 106, op := Op.indexAddr 71 (Operand.tmp 105) (Operand.const (Value.int IntKind.i64 1)), type := 0, pos := "law.go:66", after := #[{ on := 23, ground := Ground.data }, { on := 22, ground := Ground.guard }], guard := some (22, true) }) rfl (by first | rfl | (simp [Region.wanted, yielded]; done)) (by intro w_ hE_; (try dsimp only at hE_); first | (go_simp; done) | (go_simp; rfl)) ?_) | (refine mix_skip (o := { dst := some 106, op := Op.indexAddr 71 (Operand.tmp 105) (Operand.const (Value.int IntKind.i64 1)), type := 0, pos := "law.go:66", after := #[{ on := 23, ground := Ground.data }, { on := 22, ground := Ground.guard }], guard := some (22, true) }) rfl (by first | rfl | (simp [Region.wanted, yielded]; done)) ?_)
        (try simp only [Act.put, List.setIfInBounds_toArray, List.set_cons_zero, List.set_cons_succ])
        first | (refine mix_read (o := { dst := some 107, op := Op.load 66 (Operand.tmp 106), type := 66, pos := "law.go:66", after := #[{ on := 24, ground := Ground.data }, { on := 22, ground := Ground.guard }], guard := some (22, true) }) rfl (by first | rfl | (simp [Region.wanted, yielded]; done)) (by intro w_ hE_; (try dsimp only at hE_); have z0_ := pw_cell_below hE_ g10; have z1_ := pw_cell_below hE_ g11; have z2_ := pw_cell_below hE_ g12; have z3_ := pw_cell_below hE_ g13; have z4_ := pw_cell_below hE_ g14; have z5_ := pw_cell_below hE_ g15; have zz1_ : w_.cell? ⟨ad.block, ad.off + 6 + 1, none⟩ = _ := z1_; have zz2_ : w_.cell? ⟨ad.block, ad.off + 6 + 2, none⟩ = _ := z2_; have zz3_ : w_.cell? ⟨ad.block, ad.off + 6 + 3, none⟩ = _ := z3_; have zz4_ : w_.cell? ⟨ad.block, ad.off + 6 + 4, none⟩ = _ := z4_; have zz5_ : w_.cell? ⟨ad.block, ad.off + 6 + 5, none⟩ = _ := z5_; first | (go_simp; done) | (go_simp; rfl)) ?_) | (refine mix_skip (o := { dst := some 107, op := Op.load 66 (Operand.tmp 106), type := 66, pos := "law.go:66", after := #[{ on := 24, ground := Ground.data }, { on := 22, ground := Ground.guard }], guard := some (22, true) }) rfl (by first | rfl | (simp [Region.wanted, yielded]; done)) ?_)
        (try simp only [Act.put, List.setIfInBounds_toArray, List.set_cons_zero, List.set_cons_succ])
        first | (refine mix_read (o := { dst := some 108, op := Op.load 66 (Operand.tmp 3), type := 66, pos := "law.go:66", after := #[{ on := 22, ground := Ground.guard }], guard := some (22, true) }) rfl (by first | rfl | (simp [Region.wanted, yielded]; done)) (by intro w_ hE_; (try dsimp only at hE_); have hx_ := blk_below HYd.out hE_; have z0_ : w_.cell? ⟨y, 0, none⟩ = some (.int .i64 q0) := blk_cell hx_ 0; have z1_ : w_.cell? ⟨y, 1, none⟩ = some (.int .i64 q1) := blk_cell hx_ 1; have z2_ : w_.cell? ⟨y, 2, none⟩ = some (.slice qA2 ql2 qc2) := blk_cell hx_ 2; have z3_ : w_.cell? ⟨y, 3, none⟩ = some (.slice qA3 ql3 qc3) := blk_cell hx_ 3; have z4_ : w_.cell? ⟨y, 4, none⟩ = some (.slice qA4 ql4 qc4) := blk_cell hx_ 4; have z5_ : w_.cell? ⟨y, 5, none⟩ = some (.slice qA5 ql5 qc5) := blk_cell hx_ 5; first | (go_simp; done) | (go_simp; rfl)) ?_) | (refine mix_skip (o := { dst := some 108, op := Op.load 66 (Operand.tmp 3), type := 66, pos := "law.go:66", after := #[{ on := 22, ground := Ground.guard }], guard := some (22, true) }) rfl (by first | rfl | (simp [Region.wanted, yielded]; done)) ?_)
        (try simp only [Act.put, List.setIfInBounds_toArray, List.set_cons_zero, List.set_cons_succ])
        refine mix_call (o := { dst := some 109, op := Op.call { callee := Callee.value (Operand.func 48), args := #[Operand.tmp 107, Operand.tmp 108], argTypes := #[66, 66] }, type := 4, pos := "law.go:66", after := #[{ on := 25, ground := Ground.data }, { on := 26, ground := Ground.data }, { on := 22, ground := Ground.chain }, { on := 22, ground := Ground.guard }], guard := some (22, true) }) rfl (by first | rfl | (simp [Region.wanted, yielded]; done)) (by first | (go_simp; done) | (go_simp; exact ⟨rfl, rfl⟩) | (go_simp; rfl)) ?_
        refine (eqe_same _ _ _ y1 HE1d.out HQd.out).mono ?_
        rintro e_ y2 ⟨rfl, hb⟩
        refine ⟨_, rfl, hb, ?_⟩
        have HBf := Aside0.mk (HBd.out.trans (hb.mono (by have := HBB.out; have := HBd.out.size; omega)))
        clear hb
        (try simp only [Act.put, List.setIfInBounds_toArray, List.set_cons_zero, List.set_cons_succ])
        (refine mix_read (o := { dst := some 110, op := Op.pick (Operand.tmp 104) (Operand.tmp 109) (Operand.const (Value.bool false)), type := 4, pos := "law.go:66", after := #[{ on := 22, ground := Ground.data }, { on := 27, ground := Ground.data }], guard := none }) rfl (by first | rfl | (simp [Region.wanted, yielded]; done)) (by intro w_ hE_; (try dsimp only at hE_); first | (go_simp; done) | (go_simp; rfl)) ?_)
        (try simp only [Act.put, List.setIfInBounds_toArray, List.set_cons_zero, List.set_cons_succ])
        (refine mix_read (o := { dst := some 4, op := Op.assign (Operand.tmp 110), type := 4, pos := "law.go:66", after := #[{ on := 28, ground := Ground.data }, { on := 27, ground := Ground.chain }, { on := 0, ground := Ground.phase }, { on := 1, ground := Ground.phase }, { on := 2, ground := Ground.phase }, { on := 3, ground := Ground.phase }, { on := 4, ground := Ground.phase }, { on := 5, ground := Ground.phase }, { on := 6, ground := Ground.phase }, { on := 7, ground := Ground.phase }, { on := 8, ground := Ground.phase }, { on := 9, ground := Ground.phase }, { on := 10, ground := Ground.phase }, { on := 11, ground := Ground.phase }, { on := 12, ground := Ground.phase }, { on := 13, ground := Ground.phase }, { on := 14, ground := Ground.phase }, { on := 15, ground := Ground.phase }, { on := 16, ground := Ground.phase }, { on := 17, ground := Ground.phase }, { on := 18, ground := Ground.phase }, { on := 19, ground := Ground.phase }, { on := 20, ground := Ground.phase }, { on := 21, ground := Ground.phase }, { on := 22, ground := Ground.phase }, { on := 23, ground := Ground.phase }, { on := 24, ground := Ground.phase }, { on := 25, ground := Ground.phase }, { on := 26, ground := Ground.phase }, { on := 27, ground := Ground.phase }, { on := 28, ground := Ground.phase }], guard := none }) rfl (by first | rfl | (simp [Region.wanted, yielded]; done)) (by intro w_ hE_; (try dsimp only at hE_); first | (go_simp; done) | (go_simp; rfl)) ?_)
        (try simp only [Act.put, List.setIfInBounds_toArray, List.set_cons_zero, List.set_cons_succ])
        refine mix_nil ?_
        (try simp only [Exit.then])
        go_wp2
        go_ret
        exact ⟨by first | rfl | simp, by rw [HBB.out]; exact HBf.out⟩
      · have hok : edOk eb = false := by simpa using hok
        have HEN := Aside0.mk (encode_bad eb _ w4 HQ4.out hok)
        have hsc := escan_one HEW.out
        rw [HSS.out] at hsc
        have HSC := Aside0.mk (fun A c w h1 h2 => escan_calls A c (s ++ ([] : List Int)) (by rw [List.append_nil]; exact HSB.out.1) w h1 h2 (by rw [List.append_nil]; have := HSB.out; have := HN1.out; omega))
        have he : escanL (s ++ ([] : List Int)) = ([ea], n1, true) := by rw [List.append_nil, hsc, HN1.out]
        rw [he] at HSC
        have HTB : Aside0 (Bys ([] : List Int) ∧ 0 ≤ 1000000) := ⟨fun c hc => absurd hc List.not_mem_nil, by omega⟩
        have hlen : (s ++ ([] : List Int)).length = n1 := by rw [List.append_nil, HN1.out]
        have HLN := Aside0.mk hlen
        clear hok hsc he hlen
        go_wp2_with fail
        refine HEN.out.mono ?_
        rintro e_ w5 ⟨rfl, hb⟩
        have HT5 := Aside0.mk (And.intro (Nat.le_refl 0) (nil_C (Kd.int .u8) w5))
        have HP5 := Aside0.mk (ed_below HP4.out hb)
        have HQ5 := Aside0.mk (ed_below HQ4.out hb)
        have HX5 := Aside0.mk (blk_below HX4.out hb)
        have HY5 := Aside0.mk (blk_below HY4.out hb)
        have HS5 := Aside0.mk (And.intro HS4.out.1 (Kd.C_below HS4.out.2 hb))
        have HB5 := Aside0.mk (HB4.out.trans (hb.mono (by have := HBB.out; have := HB4.out.size; omega)))
        clear hb HEN HP4 HQ4 HX4 HY4 HB4 HS4 x0 x1 x2 x3 x4 x5
        have HBW := Aside0.mk (Below.refl w5.heap.size w5)
        have HN0 := Aside0.mk (Kd.R_nil (Kd.int .u8) 5 w5 w5.heap.size (fun _ => True))
        obtain ⟨t, ht⟩ : ∃ z, ([] ++ s) ++ ([] : List Int) = z := ⟨_, rfl⟩
        have HBE := Aside0.mk ht
        have htt : t = s ++ ([] : List Int) := by rw [← ht, List.nil_append]
        rw [← htt] at HSC HLN
        clear ht htt
        go_wp2_with (first | ((with_reducible refine gate_builtin (b := .append) (xs := #[.const (.slice none 0 0), .tmp 53]) rfl ?_); at_builtin; go_must (refine Kd.R_append_row (Value.int .u8) (0) (h1 := fun _ => rfl) (w0 := w5) (w5.heap.size) rfl (.const (.slice none 0 0)) (.tmp 53) 22 5 (.int .u8 0) 1 rfl Try.underlying22 info5 rfl (by decide) (.slice none 0 0) ([] : List Int) s A2 (n1) c2 (fun _ => True) rfl rfl (fun _ _ => trivial) (HN0.out) (HS5.out.2) (HBW.out) (Below.size (HBW.out)) ?aL_ ?_; (case aL_ => have := HSB.out; have := HN1.out; simp only [List.length_nil]; omega); intro v6 w6 ho hb hg hat; have HO6 := Aside0.mk ho; have HB6 := Aside0.mk hb; have HT6 := Aside0.mk (Kd.C_below HT5.out.2 hb); clear ho hb hg hat)) | ((with_reducible refine gate_builtin (b := .append) (xs := #[.tmp 54, .tmp 55]) rfl ?_); at_builtin; go_must (refine Kd.R_append_row (Value.int .u8) (0) (h1 := fun _ => rfl) (w0 := w5) (w5.heap.size) rfl (.tmp 54) (.tmp 55) 22 5 (.int .u8 0) 1 rfl Try.underlying22 info5 rfl (by decide) v6 ([] ++ s) ([] : List Int) none (0) 0 (fun _ => True) rfl rfl (fun _ _ => trivial) (HO6.out) (HT6.out) (HB6.out) (Below.size (HB6.out)) ?aL_ ?_; (case aL_ => have := HSB.out; have := HTB.out; have := HN1.out; skip; simp only [List.nil_append]; omega); intro v7 w7 ho hb hg hat; have HO7 := Aside0.mk ho; have HB7 := Aside0.mk hb; have ho7 := HO7.out; rw [HBE.out] at ho7; obtain ⟨A7, c7, e7⟩ := Kd.R_slice ho7; subst e7; have HO8 := Aside0.mk ho7; clear ho7 HO7 HO6; clear ho hb hg hat)))
        have HC7 := Aside0.mk (Kd.R_reads' HO8.out).2
        have HP7 := Aside0.mk (ed_below HP5.out HB7.out)
        have HQ7 := Aside0.mk (ed_below HQ5.out HB7.out)
        have HX7 := Aside0.mk (blk_below HX5.out HB7.out)
        have HY7 := Aside0.mk (blk_below HY5.out HB7.out)
        have HB8 := Aside0.mk (HB5.out.trans (HB7.out.mono (by have := HBB.out; have := HB5.out.size; omega)))
        clear HO8 HB7 HBW HN0 HP5 HQ5 HX5 HY5 HB5
        refine (HSC.out A7 c7 w7 HC7.out.2 HC7.out.1).mono ?_
        rintro e_ w9 ⟨v9, rfl, ho, hb⟩
        obtain ⟨A9, c9, rfl⟩ := Kd.R_slice ho
        have hke := (Kd.R_reads' ho).2.2
        obtain ⟨ad, m0, m1, mA2, ml2, mc2, mA3, ml3, mc3, mA4, ml4, mc4, mA5, ml5, mc5, e1, s00, s01, s02, s03, s04, s05, hed0⟩ := ed_at6 hke 0 (by simp)
        subst e1
        have r00 : w9.cell? ad = some (.int .i64 m0) := by simpa [Addr.add] using s00
        have r01 : w9.cell? ⟨ad.block, ad.off + 1, none⟩ = some (.int .i64 m1) := by simpa [Addr.add] using s01
        have r02 : w9.cell? ⟨ad.block, ad.off + 2, none⟩ = some (.slice mA2 ml2 mc2) := by simpa [Addr.add] using s02
        have r03 : w9.cell? ⟨ad.block, ad.off + 3, none⟩ = some (.slice mA3 ml3 mc3) := by simpa [Addr.add] using s03
        have r04 : w9.cell? ⟨ad.block, ad.off + 4, none⟩ = some (.slice mA4 ml4 mc4) := by simpa [Addr.add] using s04
        have r05 : w9.cell? ⟨ad.block, ad.off + 5, none⟩ = some (.slice mA5 ml5 mc5) := by simpa [Addr.add] using s05
        have HE0 : Aside0 (EdAt w9 (.agg #[.int .i64 m0, .int .i64 m1, .slice mA2 ml2 mc2, .slice mA3 ml3 mc3, .slice mA4 ml4 mc4, .slice mA5 ml5 mc5]) ea) := ⟨hed0⟩
        have HP9 := Aside0.mk (ed_below HP7.out hb)
        have HQ9 := Aside0.mk (ed_below HQ7.out hb)
        have HX9 := Aside0.mk (blk_below HX7.out hb)
        have HY9 := Aside0.mk (blk_below HY7.out hb)
        have HB9 := Aside0.mk (HB8.out.trans (hb.mono (by have := HBB.out; have := HB8.out.size; omega)))
        clear ho hb hke HSC HC7 HP7 HQ7 HX7 HY7 HB8 s00 s01 s02 s03 s04 s05 hed0
        have hl_ : (t.length : Int) = (n1 : Int) := by have := HLN.out; omega
        go_wp2_with fail
        refine wp_region_mix (fun w_ w1_ => Below w_.heap.size w_ w1_) [(false, 0), (false, 1), (false, 2), (false, 3), (false, 4), (false, 5), (false, 6), (false, 7), (false, 8), (false, 9), (false, 10), (false, 11), (false, 12), (false, 13), (false, 14), (false, 15), (false, 16), (true, 17), (false, 18), (false, 19)] (by kernel_rfl) (by kernel_rfl) (fun _ => Below.refl _ _) (fun h h' => below_step h h') (fun wd hhp_ hbw_ => ?_)
        have HBd := Aside0.mk (HB9.out.trans (hbw_.mono (by have := HBB.out; have := HB9.out.size; omega)))
        have HPd := Aside0.mk (ed_below HP9.out hbw_)
        have HQd := Aside0.mk (ed_below HQ9.out hbw_)
        have HXd := Aside0.mk (blk_below HX9.out hbw_)
        have HYd := Aside0.mk (blk_below HY9.out hbw_)
        have HE0d := Aside0.mk (ed_below HE0.out hbw_)
        have g00 := pw_cell_below hbw_ r00
        have g01 := pw_cell_below hbw_ r01
        have g02 := pw_cell_below hbw_ r02
        have g03 := pw_cell_below hbw_ r03
        have g04 := pw_cell_below hbw_ r04
        have g05 := pw_cell_below hbw_ r05
        clear hhp_ hbw_ r00 r01 r02 r03 r04 r05
        (refine mix_read (o := { dst := some 63, op := Op.move (Operand.tmp 12), type := 4, pos := "law.go:64", after := #[], guard := none }) rfl (by first | rfl | (simp [Region.wanted, yielded]; done)) (by intro w_ hE_; (try dsimp only at hE_); first | (go_simp; done) | (go_simp; rfl)) ?_)
        (try simp only [Act.put, List.setIfInBounds_toArray, List.set_cons_zero, List.set_cons_succ])
        (refine mix_read (o := { dst := some 64, op := Op.move (Operand.tmp 63), type := 4, pos := "law.go:64", after := #[{ on := 0, ground := Ground.data }], guard := none }) rfl (by first | rfl | (simp [Region.wanted, yielded]; done)) (by intro w_ hE_; (try dsimp only at hE_); first | (go_simp; done) | (go_simp; rfl)) ?_)
        (try simp only [Act.put, List.setIfInBounds_toArray, List.set_cons_zero, List.set_cons_succ])
        first | (refine mix_read (o := { dst := some 65, op := Op.move (Operand.tmp 11), type := 3, pos := "law.go:64", after := #[{ on := 1, ground := Ground.guard }], guard := some (1, true) }) rfl (by first | rfl | (simp [Region.wanted, yielded]; done)) (by intro w_ hE_; (try dsimp only at hE_); first | (go_simp; done) | (go_simp; rfl)) ?_) | (refine mix_skip (o := { dst := some 65, op := Op.move (Operand.tmp 11), type := 3, pos := "law.go:64", after := #[{ on := 1, ground := Ground.guard }], guard := some (1, true) }) rfl (by first | rfl | (simp [Region.wanted, yielded]; done)) ?_)
        (try simp only [Act.put, List.setIfInBounds_toArray, List.set_cons_zero, List.set_cons_succ])
        first | (refine mix_read (o := { dst := some 66, op := Op.move (Operand.tmp 6), type := 22, pos := "law.go:64", after := #[{ on := 1, ground := Ground.guard }], guard := some (1, true) }) rfl (by first | rfl | (simp [Region.wanted, yielded]; done)) (by intro w_ hE_; (try dsimp only at hE_); first | (go_simp; done) | (go_simp; rfl)) ?_) | (refine mix_skip (o := { dst := some 66, op := Op.move (Operand.tmp 6), type := 22, pos := "law.go:64", after := #[{ on := 1, ground := Ground.guard }], guard := some (1, true) }) rfl (by first | rfl | (simp [Region.wanted, yielded]; done)) ?_)
        (try simp only [Act.put, List.setIfInBounds_toArray, List.set_cons_zero, List.set_cons_succ])
        first | (refine mix_read (o := { dst := some 67, op := Op.call { callee := Callee.builtin Builtin.len, args := #[Operand.tmp 66], argTypes := #[22] }, type := 3, pos := "law.go:64", after := #[{ on := 3, ground := Ground.data }, { on := 1, ground := Ground.guard }], guard := some (1, true) }) rfl (by first | rfl | (simp [Region.wanted, yielded]; done)) (by intro w_ hE_; (try dsimp only at hE_); first | (go_simp; done) | (go_simp; rfl)) ?_) | (refine mix_skip (o := { dst := some 67, op := Op.call { callee := Callee.builtin Builtin.len, args := #[Operand.tmp 66], argTypes := #[22] }, type := 3, pos := "law.go:64", after := #[{ on := 3, ground := Ground.data }, { on := 1, ground := Ground.guard }], guard := some (1, true) }) rfl (by first | rfl | (simp [Region.wanted, yielded]; done)) ?_)
        (try simp only [Act.put, List.setIfInBounds_toArray, List.set_cons_zero, List.set_cons_succ])
        first | (refine mix_read (o := { dst := some 68, op := Op.binOp BinOp.eql 3 (Operand.tmp 65) (Operand.tmp 67) 3, type := 4, pos := "law.go:64", after := #[{ on := 2, ground := Ground.data }, { on := 4, ground := Ground.data }, { on := 1, ground := Ground.guard }], guard := some (1, true) }) rfl (by first | rfl | (simp [Region.wanted, yielded]; done)) (by intro w_ hE_; (try dsimp only at hE_); first | (go_simp; done) | (go_simp; rfl)) ?_) | (refine mix_skip (o := { dst := some 68, op := Op.binOp BinOp.eql 3 (Operand.tmp 65) (Operand.tmp 67) 3, type := 4, pos := "law.go:64", after := #[{ on := 2, ground := Ground.data }, { on := 4, ground := Ground.data }, { on := 1, ground := Ground.guard }], guard := some (1, true) }) rfl (by first | rfl | (simp [Region.wanted, yielded]; done)) ?_)
        (try simp only [Act.put, List.setIfInBounds_toArray, List.set_cons_zero, List.set_cons_succ])
        (refine mix_read (o := { dst := some 69, op := Op.pick (Operand.tmp 64) (Operand.tmp 68) (Operand.const (Value.bool false)), type := 4, pos := "law.go:64", after := #[{ on := 1, ground := Ground.data }, { on := 5, ground := Ground.data }], guard := none }) rfl (by first | rfl | (simp [Region.wanted, yielded]; done)) (by intro w_ hE_; (try dsimp only at hE_); first | (go_simp; done) | (go_simp; rfl)) ?_)
        (try simp only [Act.put, List.setIfInBounds_toArray, List.set_cons_zero, List.set_cons_succ])
        (refine mix_read (o := { dst := some 70, op := Op.move (Operand.tmp 69), type := 4, pos := "law.go:64", after := #[{ on := 6, ground := Ground.data }, { on := 1, ground := Ground.chain }], guard := none }) rfl (by first | rfl | (simp [Region.wanted, yielded]; done)) (by intro w_ hE_; (try dsimp only at hE_); first | (go_simp; done) | (go_simp; rfl)) ?_)
        (try simp only [Act.put, List.setIfInBounds_toArray, List.set_cons_zero, List.set_cons_succ])
        first | (refine mix_read (o := { dst := some 71, op := Op.move (Operand.tmp 10), type := 71, pos := "law.go:64", after := #[{ on := 7, ground := Ground.guard }], guard := some (7, true) }) rfl (by first | rfl | (simp [Region.wanted, yielded]; done)) (by intro w_ hE_; (try dsimp only at hE_); first | (go_simp; done) | (go_simp; rfl)) ?_) | (refine mix_skip (o := { dst := some 71, op := Op.move (Operand.tmp 10), type := 71, pos := "law.go:64", after := #[{ on := 7, ground := Ground.guard }], guard := some (7, true) }) rfl (by first | rfl | (simp [Region.wanted, yielded]; done)) ?_)
        (try simp only [Act.put, List.setIfInBounds_toArray, List.set_cons_zero, List.set_cons_succ])
        first | (refine mix_read (o := { dst := some 72, op := Op.call { callee := Callee.builtin Builtin.len, args := #[Operand.tmp 71], argTypes := #[71] }, type := 3, pos := "law.go:64", after := #[{ on := 8, ground := Ground.data }, { on := 7, ground := Ground.guard }], guard := some (7, true) }) rfl (by first | rfl | (simp [Region.wanted, yielded]; done)) (by intro w_ hE_; (try dsimp only at hE_); first | (go_simp; done) | (go_simp; rfl)) ?_) | (refine mix_skip (o := { dst := some 72, op := Op.call { callee := Callee.builtin Builtin.len, args := #[Operand.tmp 71], argTypes := #[71] }, type := 3, pos := "law.go:64", after := #[{ on := 8, ground := Ground.data }, { on := 7, ground := Ground.guard }], guard := some (7, true) }) rfl (by first | rfl | (simp [Region.wanted, yielded]; done)) ?_)
        (try simp only [Act.put, List.setIfInBounds_toArray, List.set_cons_zero, List.set_cons_succ])
        first | (refine mix_read (o := { dst := some 73, op := Op.binOp BinOp.eql 3 (Operand.tmp 72) (Operand.const (Value.int IntKind.i64 1)) 3, type := 4, pos := "law.go:64", after := #[{ on := 9, ground := Ground.data }, { on := 7, ground := Ground.guard }], guard := some (7, true) }) rfl (by first | rfl | (simp [Region.wanted, yielded]; done)) (by intro w_ hE_; (try dsimp only at hE_); first | (go_simp; done) | (go_simp; rfl)) ?_) | (refine mix_skip (o := { dst := some 73, op := Op.binOp BinOp.eql 3 (Operand.tmp 72) (Operand.const (Value.int IntKind.i64 1)) 3, type := 4, pos := "law.go:64", after := #[{ on := 9, ground := Ground.data }, { on := 7, ground := Ground.guard }], guard := some (7, true) }) rfl (by first | rfl | (simp [Region.wanted, yielded]; done)) ?_)
        (try simp only [Act.put, List.setIfInBounds_toArray, List.set_cons_zero, List.set_cons_succ])
        (refine mix_read (o := { dst := some 74, op := Op.pick (Operand.tmp 70) (Operand.tmp 73) (Operand.const (Value.bool false)), type := 4, pos := "law.go:64", after := #[{ on := 7, ground := Ground.data }, { on := 10, ground := Ground.data }], guard := none }) rfl (by first | rfl | (simp [Region.wanted, yielded]; done)) (by intro w_ hE_; (try dsimp only at hE_); first | (go_simp; done) | (go_simp; rfl)) ?_)
        (try simp only [Act.put, List.setIfInBounds_toArray, List.set_cons_zero, List.set_cons_succ])
        (refine mix_read (o := { dst := some 75, op := Op.move (Operand.tmp 74), type := 4, pos := "law.go:64", after := #[{ on := 11, ground := Ground.data }, { on := 7, ground := Ground.chain }], guard := none }) rfl (by first | rfl | (simp [Region.wanted, yielded]; done)) (by intro w_ hE_; (try dsimp only at hE_); first | (go_simp; done) | (go_simp; rfl)) ?_)
        (try simp only [Act.put, List.setIfInBounds_toArray, List.set_cons_zero, List.set_cons_succ])
        first | (refine mix_read (o := { dst := some 76, op := Op.move (Operand.tmp 10), type := 71, pos := "law.go:64", after := #[{ on := 12, ground := Ground.guard }], guard := some (12, true) }) rfl (by first | rfl | (simp [Region.wanted, yielded]; done)) (by intro w_ hE_; (try dsimp only at hE_); first | (go_simp; done) | (go_simp; rfl)) ?_) | (refine mix_skip (o := { dst := some 76, op := Op.move (Operand.tmp 10), type := 71, pos := "law.go:64", after := #[{ on := 12, ground := Ground.guard }], guard := some (12, true) }) rfl (by first | rfl | (simp [Region.wanted, yielded]; done)) ?_)
        (try simp only [Act.put, List.setIfInBounds_toArray, List.set_cons_zero, List.set_cons_succ])
        first | (refine mix_read (o := { dst := some 77, op := Op.indexAddr 71 (Operand.tmp 76) (Operand.const (Value.int IntKind.i64 0)), type := 0, pos := "law.go:64", after := #[{ on := 13, ground := Ground.data }, { on := 12, ground := Ground.guard }], guard := some (12, true) }) rfl (by first | rfl | (simp [Region.wanted, yielded]; done)) (by intro w_ hE_; (try dsimp only at hE_); first | (go_simp; done) | (go_simp; rfl)) ?_) | (refine mix_skip (o := { dst := some 77, op := Op.indexAddr 71 (Operand.tmp 76) (Operand.const (Value.int IntKind.i64 0)), type := 0, pos := "law.go:64", after := #[{ on := 13, ground := Ground.data }, { on := 12, ground := Ground.guard }], guard := some (12, true) }) rfl (by first | rfl | (simp [Region.wanted, yielded]; done)) ?_)
        (try simp only [Act.put, List.setIfInBounds_toArray, List.set_cons_zero, List.set_cons_succ])
        first | (refine mix_read (o := { dst := some 78, op := Op.load 66 (Operand.tmp 77), type := 66, pos := "law.go:64", after := #[{ on := 14, ground := Ground.data }, { on := 12, ground := Ground.guard }], guard := some (12, true) }) rfl (by first | rfl | (simp [Region.wanted, yielded]; done)) (by intro w_ hE_; (try dsimp only at hE_); have z0_ := pw_cell_below hE_ g00; have z1_ := pw_cell_below hE_ g01; have z2_ := pw_cell_below hE_ g02; have z3_ := pw_cell_below hE_ g03; have z4_ := pw_cell_below hE_ g04; have z5_ := pw_cell_below hE_ g05; first | (go_simp; done) | (go_simp; rfl)) ?_) | (refine mix_skip (o := { dst := some 78, op := Op.load 66 (Operand.tmp 77), type := 66, pos := "law.go:64", after := #[{ on := 14, ground := Ground.data }, { on := 12, ground := Ground.guard }], guard := some (12, true) }) rfl (by first | rfl | (simp [Region.wanted, yielded]; done)) ?_)
        (try simp only [Act.put, List.setIfInBounds_toArray, List.set_cons_zero, List.set_cons_succ])
        first | (refine mix_read (o := { dst := some 79, op := Op.load 66 (Operand.tmp 2), type := 66, pos := "law.go:64", after := #[{ on := 12, ground := Ground.guard }], guard := some (12, true) }) rfl (by first | rfl | (simp [Region.wanted, yielded]; done)) (by intro w_ hE_; (try dsimp only at hE_); have hx_ := blk_below HXd.out hE_; have z0_ : w_.cell? ⟨x, 0, none⟩ = some (.int .i64 p0) := blk_cell hx_ 0; have z1_ : w_.cell? ⟨x, 1, none⟩ = some (.int .i64 p1) := blk_cell hx_ 1; have z2_ : w_.cell? ⟨x, 2, none⟩ = some (.slice pA2 pl2 pc2) := blk_cell hx_ 2; have z3_ : w_.cell? ⟨x, 3, none⟩ = some (.slice pA3 pl3 pc3) := blk_cell hx_ 3; have z4_ : w_.cell? ⟨x, 4, none⟩ = some (.slice pA4 pl4 pc4) := blk_cell hx_ 4; have z5_ : w_.cell? ⟨x, 5, none⟩ = some (.slice pA5 pl5 pc5) := blk_cell hx_ 5; first | (go_simp; done) | (go_simp; rfl)) ?_) | (refine mix_skip (o := { dst := some 79, op := Op.load 66 (Operand.tmp 2), type := 66, pos := "law.go:64", after := #[{ on := 12, ground := Ground.guard }], guard := some (12, true) }) rfl (by first | rfl | (simp [Region.wanted, yielded]; done)) ?_)
        (try simp only [Act.put, List.setIfInBounds_toArray, List.set_cons_zero, List.set_cons_succ])
        refine mix_call (o := { dst := some 80, op := Op.call { callee := Callee.value (Operand.func 48), args := #[Operand.tmp 78, Operand.tmp 79], argTypes := #[66, 66] }, type := 4, pos := "law.go:64", after := #[{ on := 15, ground := Ground.data }, { on := 16, ground := Ground.data }, { on := 12, ground := Ground.chain }, { on := 12, ground := Ground.guard }], guard := some (12, true) }) rfl (by first | rfl | (simp [Region.wanted, yielded]; done)) (by first | (go_simp; done) | (go_simp; exact ⟨rfl, rfl⟩) | (go_simp; rfl)) ?_
        refine (eqe_same _ _ _ wd HE0d.out HPd.out).mono ?_
        rintro e_ y1 ⟨rfl, hb⟩
        refine ⟨_, rfl, hb, ?_⟩
        have HBf := Aside0.mk (HBd.out.trans (hb.mono (by have := HBB.out; have := HBd.out.size; omega)))
        clear hb
        (try simp only [Act.put, List.setIfInBounds_toArray, List.set_cons_zero, List.set_cons_succ])
        (refine mix_read (o := { dst := some 81, op := Op.pick (Operand.tmp 75) (Operand.tmp 80) (Operand.const (Value.bool false)), type := 4, pos := "law.go:64", after := #[{ on := 12, ground := Ground.data }, { on := 17, ground := Ground.data }], guard := none }) rfl (by first | rfl | (simp [Region.wanted, yielded]; done)) (by intro w_ hE_; (try dsimp only at hE_); first | (go_simp; done) | (go_simp; rfl)) ?_)
        (try simp only [Act.put, List.setIfInBounds_toArray, List.set_cons_zero, List.set_cons_succ])
        (refine mix_read (o := { dst := some 4, op := Op.assign (Operand.tmp 81), type := 4, pos := "law.go:64", after := #[{ on := 18, ground := Ground.data }, { on := 17, ground := Ground.chain }, { on := 0, ground := Ground.phase }, { on := 1, ground := Ground.phase }, { on := 2, ground := Ground.phase }, { on := 3, ground := Ground.phase }, { on := 4, ground := Ground.phase }, { on := 5, ground := Ground.phase }, { on := 6, ground := Ground.phase }, { on := 7, ground := Ground.phase }, { on := 8, ground := Ground.phase }, { on := 9, ground := Ground.phase }, { on := 10, ground := Ground.phase }, { on := 11, ground := Ground.phase }, { on := 12, ground := Ground.phase }, { on := 13, ground := Ground.phase }, { on := 14, ground := Ground.phase }, { on := 15, ground := Ground.phase }, { on := 16, ground := Ground.phase }, { on := 17, ground := Ground.phase }, { on := 18, ground := Ground.phase }], guard := none }) rfl (by first | rfl | (simp [Region.wanted, yielded]; done)) (by intro w_ hE_; (try dsimp only at hE_); first | (go_simp; done) | (go_simp; rfl)) ?_)
        (try simp only [Act.put, List.setIfInBounds_toArray, List.set_cons_zero, List.set_cons_succ])
        refine mix_nil ?_
        (try simp only [Exit.then])
        go_wp2
        go_ret
        exact ⟨by first | rfl | simp, by rw [HBB.out]; exact HBf.out⟩
    · have hok : edOk ea = false := by simpa using hok
      have HEN := Aside0.mk (encode_bad ea _ wc HP1.out hok)
      have HMA := Aside0.mk (fun wx h => may_calls ea (.agg #[.int .i64 p0, .int .i64 p1, .slice pA2 pl2 pc2, .slice pA3 pl3 pc3, .slice pA4 pl4 pc4, .slice pA5 pl5 pc5]) wx h)
      have HCK := Aside0.mk (fun wx h => check_calls ea (.agg #[.int .i64 p0, .int .i64 p1, .slice pA2 pl2 pc2, .slice pA3 pl3 pc3, .slice pA4 pl4 pc4, .slice pA5 pl5 pc5]) wx h)
      rw [edC_bad hok] at HCK
      rw [hok] at HMA
      clear hok
      go_wp2_with fail
      refine HEN.out.mono ?_
      rintro e_ w2 ⟨rfl, hb⟩
      have HP2 := Aside0.mk (ed_below HP1.out hb)
      have HX2 := Aside0.mk (blk_below HX1.out hb)
      have HB2 := Aside0.mk (HB1.out.trans (hb.mono (by have := HBB.out; have := HB1.out.size; omega)))
      clear hb HEN HP1 HQ1 HX1 HY1 HB1 x0 x1 x2 x3 x4 x5
      have x0 : World.cell? w2 ⟨x, 0, none⟩ = some (.int .i64 p0) := blk_cell HX2.out 0
      have x1 : World.cell? w2 ⟨x, 1, none⟩ = some (.int .i64 p1) := blk_cell HX2.out 1
      have x2 : World.cell? w2 ⟨x, 2, none⟩ = some (.slice pA2 pl2 pc2) := blk_cell HX2.out 2
      have x3 : World.cell? w2 ⟨x, 3, none⟩ = some (.slice pA3 pl3 pc3) := blk_cell HX2.out 3
      have x4 : World.cell? w2 ⟨x, 4, none⟩ = some (.slice pA4 pl4 pc4) := blk_cell HX2.out 4
      have x5 : World.cell? w2 ⟨x, 5, none⟩ = some (.slice pA5 pl5 pc5) := blk_cell HX2.out 5
      go_wp2_with fail
      refine (HMA.out w2 HP2.out).mono ?_
      rintro e_ w3 ⟨rfl, hb⟩
      have HP3 := Aside0.mk (ed_below HP2.out hb)
      have HX3 := Aside0.mk (blk_below HX2.out hb)
      have HB3 := Aside0.mk (HB2.out.trans (hb.mono (by have := HBB.out; have := HB2.out.size; omega)))
      clear hb HMA HP2 HX2 HB2 x0 x1 x2 x3 x4 x5
      have x0 : World.cell? w3 ⟨x, 0, none⟩ = some (.int .i64 p0) := blk_cell HX3.out 0
      have x1 : World.cell? w3 ⟨x, 1, none⟩ = some (.int .i64 p1) := blk_cell HX3.out 1
      have x2 : World.cell? w3 ⟨x, 2, none⟩ = some (.slice pA2 pl2 pc2) := blk_cell HX3.out 2
      have x3 : World.cell? w3 ⟨x, 3, none⟩ = some (.slice pA3 pl3 pc3) := blk_cell HX3.out 3
      have x4 : World.cell? w3 ⟨x, 4, none⟩ = some (.slice pA4 pl4 pc4) := blk_cell HX3.out 4
      have x5 : World.cell? w3 ⟨x, 5, none⟩ = some (.slice pA5 pl5 pc5) := blk_cell HX3.out 5
      go_wp2_with fail
      refine (HCK.out w3 HP3.out).mono ?_
      rintro e_ w4 ⟨rfl, hb⟩
      have HB4 := Aside0.mk (HB3.out.trans (hb.mono (by have := HBB.out; have := HB3.out.size; omega)))
      clear hb
      go_wp2
      go_ret
      exact ⟨by first | rfl | simp, by rw [HBB.out]; exact HB4.out⟩
end Go.Proofs.Ytfojeegepfjbiaa.EbWalk
