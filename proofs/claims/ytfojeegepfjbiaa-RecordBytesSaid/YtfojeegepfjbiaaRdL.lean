/- Contracts of Cut and Good. -/
import Derived.Test.YtfojeegepfjbiaaProg
import Derived.Below
import Derived.Deep.Draws
import Derived.Deep.AppendLies
import Derived.Maps.AppendAt
import Derived.OwnWalk
import Derived.Laws.BytesArg
import Derived.Laws.MakeOwn
import Derived.Laws.OwnMore
import Derived.Deep.OwnRows
import Derived.Tactics
import Derived.Lib.ConvBytes
import Derived.Laws.Slices
import Derived.WalkKit
import Derived.KernelRfl
import Derived.RowKit3
import Derived.Deep.LoopGhost
import Derived.Deep.QuietTactic
import Derived.BigQuiet
import Derived.WideLaws
import Derived.Deep.DeepCutAuto
import Derived.Deep.CutBlock
import Derived.Deep.RegionHeld3
import Derived.Laws.Rows
import Derived.Lib.AppendStr
import Derived.ArgAppend
import Derived.Laws.IdiomCopy
import Derived.OrdersHeld
import Derived.Laws.BitsLemmas
import Derived.RowKit
import Derived.Deep.RegionWith
import Derived.WalkSpells
import Derived.Outline
import Derived.Test.YtfojeegepfjbiaaWWords
import Derived.Test.YtfojeegepfjbiaaWLast
import Derived.Test.YtfojeegepfjbiaaWMore
import Derived.Test.YtfojeegepfjbiaaWArr
import Derived.Test.YtfojeegepfjbiaaWTab
import Derived.Test.YtfojeegepfjbiaaWZeros
import Derived.Test.YtfojeegepfjbiaaWRepsOne
import Derived.Test.YtfojeegepfjbiaaRdK
namespace Go.Proofs.Ytfojeegepfjbiaa.RdL
open Go.RowKit Go.Proofs.YtfojeegepfjbiaaW.PrintWords Go.Proofs.YtfojeegepfjbiaaW.PrintLast Go.Proofs.YtfojeegepfjbiaaW.PrintMore Go.Proofs.Ytfojeegepfjbiaa.Nm Go.Proofs.Ytfojeegepfjbiaa.NmA Go.Proofs.Ytfojeegepfjbiaa.NmB Go.Proofs.Ytfojeegepfjbiaa.NmC Go.Proofs.Ytfojeegepfjbiaa.NmD Go.Proofs.Ytfojeegepfjbiaa.NmE Go.Proofs.Ytfojeegepfjbiaa.NmI Go.Proofs.Ytfojeegepfjbiaa.CrP Go.Proofs.Ytfojeegepfjbiaa.CrA Go.Proofs.Ytfojeegepfjbiaa.CrB Go.Proofs.Ytfojeegepfjbiaa.CrC Go.Proofs.Ytfojeegepfjbiaa.CrD Go.Proofs.Ytfojeegepfjbiaa.CrE Go.Proofs.Ytfojeegepfjbiaa.CrG Go.Proofs.Ytfojeegepfjbiaa.CrH Go.Proofs.Ytfojeegepfjbiaa.Mix Go.Proofs.Ytfojeegepfjbiaa.MixT Go.Proofs.Ytfojeegepfjbiaa.RdA Go.Proofs.Ytfojeegepfjbiaa.RdB Go.Proofs.Ytfojeegepfjbiaa.RdC Go.Proofs.Ytfojeegepfjbiaa.RdD Go.Proofs.Ytfojeegepfjbiaa.RdE Go.Proofs.Ytfojeegepfjbiaa.RdF Go.Proofs.Ytfojeegepfjbiaa.RdJ Go.Proofs.Ytfojeegepfjbiaa.RdK
set_option linter.unusedSimpArgs false
set_option linter.unusedVariables false
attribute [local go_sem] max2_int min2_int max_two min_two

theorem blk_keep2 {w w' : World} {g : Nat} {o : Obj} (hb : w.heap[g]? = some o) (h : w'.heap = w.heap) : w'.heap[g]? = some o := by rw [h]; exact hb
/-- A record that was cut. -/
def cutR (r : Rec) : Rec := (r.1, r.2.1, cutB r.2.2.1 110, cutB r.2.2.2 300)
set_option maxRecDepth 100000 in
theorem cutr_calls (r : Rec) (h1 : r.2.2.1.size ≤ 9223372036854775807) (h2 : r.2.2.2.size ≤ 9223372036854775807) (w : World) :
    Calls Try.prog 32 #[recV r.1 r.2.1 r.2.2.1 r.2.2.2] w fun e w' => e = .returned (recV (cutR r).1 (cutR r).2.1 (cutR r).2.2.1 (cutR r).2.2.2) ∧ Below w.heap.size w w' := by
  obtain ⟨k, n, key, v⟩ := r
  have HC1 := Aside0.mk (fun w => cut_calls key 110 (by simp only [] at h1; omega) w)
  have HC2 := Aside0.mk (fun w => cut_calls v 300 (by simp only [] at h2; omega) w)
  unfold cutR recV
  simp only []
  generalize cutB key 110 = key2 at *
  generalize cutB v 300 = v2 at *
  clear h1 h2
  obtain ⟨hb0, hb1, hbel⟩ := alloc2 w (.cells #[.int .i64 k, .int .i64 n, .string key, .string v] 45 (0, 0)) (.cells #[.int .i64 0, .int .i64 0, .string ⟨#[]⟩, .string ⟨#[]⟩] 45 (0, 0))
  obtain ⟨W0, hW0⟩ : ∃ x, (w.alloc (.cells #[.int .i64 k, .int .i64 n, .string key, .string v] 45 (0, 0))).alloc (.cells #[.int .i64 0, .int .i64 0, .string ⟨#[]⟩, .string ⟨#[]⟩] 45 (0, 0)) = x := ⟨_, rfl⟩
  rw [hW0] at hb0 hb1 hbel
  obtain ⟨x, hx⟩ : ∃ x, w.heap.size = x := ⟨_, rfl⟩
  have HXX := Aside0.mk hx
  rw [hx] at hb0 hb1
  have HX0 := Aside0.mk hb0
  have HY0 := Aside0.mk hb1
  have HB0 := Aside0.mk hbel
  clear hb0 hb1 hbel
  go_enter Try.func32, Try.ntmps32
  go_wp2_with fail
  refine wp_region_tree (fun w_ w1_ => w_.grownBy w1_ (some x)) (.rd 0 (.rd 3 (.two 1 4 (.two 2 4 (.ef 4 (.rd 6 (.ef 5 (.ef 7 (.rd 8 (.ef 9 .nil)))))) (.ef 2 (.rd 6 (.ef 5 (.ef 7 (.rd 8 (.ef 9 .nil))))))) (.ef 1 (.ef 2 (.rd 6 (.ef 5 (.ef 7 (.rd 8 (.ef 9 .nil)))))))))) (by kernel_rfl) (by kernel_rfl) (fun _ => grown_of_below (Below.refl _ _) _) (fun h h' => World.grownBy.trans h h') (fun wd hhp_ hbw_ => ?_)
  have bx := blk_keep2 HX0.out hhp_
  have by2 := blk_keep2 HY0.out hhp_
  have p2 : wd.cell? ⟨x, 2, none⟩ = some (.string key) := blk_cell bx 2
  have p3 : wd.cell? ⟨x, 3, none⟩ = some (.string v) := blk_cell bx 3
  have f2 := blk_frozen bx 2
  (refine t_read (o := { dst := some 3, op := Op.fieldAddr 45 (Operand.tmp 1) 2, type := 0, pos := "law.go:13", after := #[], guard := none }) rfl (by first | rfl | (simp [Region.wanted, yielded]; done)) (by intro w_ hE_; (try dsimp only at hE_); first | (go_simp; done) | (go_simp; rfl)) ?_)
  (try simp only [Act.put, List.setIfInBounds_toArray, List.set_cons_zero, List.set_cons_succ])
  (refine t_read (o := { dst := some 6, op := Op.fieldAddr 45 (Operand.tmp 1) 3, type := 0, pos := "law.go:13", after := #[], guard := none }) rfl (by first | rfl | (simp [Region.wanted, yielded]; done)) (by intro w_ hE_; (try dsimp only at hE_); first | (go_simp; done) | (go_simp; rfl)) ?_)
  (try simp only [Act.put, List.setIfInBounds_toArray, List.set_cons_zero, List.set_cons_succ])
  refine t_two ?_ ?_
  · refine s_val (o := { dst := some 4, op := Op.load 9 (Operand.tmp 3), type := 9, pos := "law.go:13", after := #[{ on := 0, ground := Ground.data }], guard := none }) (w1 := wd) rfl (by first | rfl | (simp [Region.wanted, yielded]; done)) (by first | (go_simp; done) | (go_simp; rfl)) (grown_of_below (Below.refl _ _) _) ?_
    (try simp only [Act.put, List.setIfInBounds_toArray, List.set_cons_zero, List.set_cons_succ])
    refine t_two ?_ ?_
    · refine s_call (o := { dst := some 5, op := Op.call { callee := Callee.value (Operand.func 53), args := #[Operand.tmp 4, Operand.const (Value.int IntKind.i64 110)], argTypes := #[9, 3] }, type := 9, pos := "law.go:13", after := #[{ on := 1, ground := Ground.data }], guard := none }) rfl (by first | rfl | (simp [Region.wanted, yielded]; done)) (by first | (go_simp; done) | (go_simp; exact ⟨rfl, rfl⟩) | (go_simp; rfl)) ?_
      refine (HC1.out wd).mono ?_
      rintro e_ x1 ⟨rfl, rfl⟩
      refine ⟨_, rfl, grown_of_below (Below.refl _ _) _, ?_⟩
      (try simp only [Act.put, List.setIfInBounds_toArray, List.set_cons_zero, List.set_cons_succ])
      refine t_ef ?_
      refine s_val (o := { dst := some 7, op := Op.load 9 (Operand.tmp 6), type := 9, pos := "law.go:13", after := #[{ on := 3, ground := Ground.data }], guard := none }) (w1 := wd) rfl (by first | rfl | (simp [Region.wanted, yielded]; done)) (by first | (go_simp; done) | (go_simp; rfl)) (grown_of_below (Below.refl _ _) _) ?_
      (try simp only [Act.put, List.setIfInBounds_toArray, List.set_cons_zero, List.set_cons_succ])
      (refine t_read (o := { dst := some 9, op := Op.fieldAddr 45 (Operand.tmp 1) 2, type := 0, pos := "law.go:13", after := #[{ on := 0, ground := Ground.phase }, { on := 1, ground := Ground.phase }, { on := 2, ground := Ground.phase }, { on := 3, ground := Ground.phase }, { on := 4, ground := Ground.phase }, { on := 5, ground := Ground.textOnly Departure.lateStoresUnsure }], guard := none }) rfl (by first | rfl | (simp [Region.wanted, yielded]; done)) (by intro w_ hE_; (try dsimp only at hE_); first | (go_simp; done) | (go_simp; rfl)) ?_)
      (try simp only [Act.put, List.setIfInBounds_toArray, List.set_cons_zero, List.set_cons_succ])
      refine t_ef ?_
      refine s_call (o := { dst := some 8, op := Op.call { callee := Callee.value (Operand.func 53), args := #[Operand.tmp 7, Operand.const (Value.int IntKind.i64 300)], argTypes := #[9, 3] }, type := 9, pos := "law.go:13", after := #[{ on := 4, ground := Ground.data }, { on := 2, ground := Ground.chain }], guard := none }) rfl (by first | rfl | (simp [Region.wanted, yielded]; done)) (by first | (go_simp; done) | (go_simp; exact ⟨rfl, rfl⟩) | (go_simp; rfl)) ?_
      refine (HC2.out wd).mono ?_
      rintro e_ x1 ⟨rfl, rfl⟩
      refine ⟨_, rfl, grown_of_below (Below.refl _ _) _, ?_⟩
      (try simp only [Act.put, List.setIfInBounds_toArray, List.set_cons_zero, List.set_cons_succ])
      refine t_ef ?_
      refine s_store (o := { dst := none, op := Op.store 9 (Operand.tmp 9) (Operand.tmp 5), type := 0, pos := "law.go:13", after := #[{ on := 6, ground := Ground.data }, { on := 2, ground := Ground.data }, { on := 5, ground := Ground.chain }, { on := 0, ground := Ground.phase }, { on := 1, ground := Ground.phase }, { on := 2, ground := Ground.phase }, { on := 3, ground := Ground.phase }, { on := 4, ground := Ground.phase }, { on := 5, ground := Ground.textOnly Departure.lateStoresUnsure }], guard := none }) (w1 := wd.setCell ⟨x, 2, none⟩ (.string key2)) rfl (by first | rfl | (simp [Region.wanted, yielded]; done)) (by first | (go_simp; done) | (go_simp; rfl)) (grown_set) ?_
      (try simp only [Act.put, List.setIfInBounds_toArray, List.set_cons_zero, List.set_cons_succ])
      have d2 := blk_set bx 2 (.string key2)
      have c3 := blk_cell d2 3
      have f3 := blk_frozen d2 3
      (refine t_read (o := { dst := some 10, op := Op.fieldAddr 45 (Operand.tmp 1) 3, type := 0, pos := "law.go:13", after := #[{ on := 0, ground := Ground.phase }, { on := 1, ground := Ground.phase }, { on := 2, ground := Ground.phase }, { on := 3, ground := Ground.phase }, { on := 4, ground := Ground.phase }, { on := 5, ground := Ground.phase }, { on := 6, ground := Ground.phase }, { on := 7, ground := Ground.phase }], guard := none }) rfl (by first | rfl | (simp [Region.wanted, yielded]; done)) (by intro w_ hE_; (try dsimp only at hE_); first | (go_simp; done) | (go_simp; rfl)) ?_)
      (try simp only [Act.put, List.setIfInBounds_toArray, List.set_cons_zero, List.set_cons_succ])
      refine t_ef ?_
      refine s_store (o := { dst := none, op := Op.store 9 (Operand.tmp 10) (Operand.tmp 8), type := 0, pos := "law.go:13", after := #[{ on := 8, ground := Ground.data }, { on := 5, ground := Ground.data }, { on := 7, ground := Ground.chain }, { on := 0, ground := Ground.phase }, { on := 1, ground := Ground.phase }, { on := 2, ground := Ground.phase }, { on := 3, ground := Ground.phase }, { on := 4, ground := Ground.phase }, { on := 5, ground := Ground.phase }, { on := 6, ground := Ground.phase }, { on := 7, ground := Ground.phase }], guard := none }) (w1 := (wd.setCell ⟨x, 2, none⟩ (.string key2)).setCell ⟨x, 3, none⟩ (.string v2)) rfl (by first | rfl | (simp [Region.wanted, yielded]; done)) (by first | (go_simp; done) | (go_simp; rfl)) (grown_set) ?_
      (try simp only [Act.put, List.setIfInBounds_toArray, List.set_cons_zero, List.set_cons_succ])
      refine t_nil ?_
      have HX3 := blk_set d2 3 (.string v2)
      have hg3 : wd.grownBy ((wd.setCell ⟨x, 2, none⟩ (.string key2)).setCell ⟨x, 3, none⟩ (.string v2)) (some x) := World.grownBy.trans grown_set grown_set
      obtain ⟨w3, hw3⟩ : ∃ z, (wd.setCell ⟨x, 2, none⟩ (.string key2)).setCell ⟨x, 3, none⟩ (.string v2) = z := ⟨_, rfl⟩
      rw [hw3] at HX3 hg3
      rw [hw3]
      have y0 : w3.cell? ⟨x, 0, none⟩ = some (.int .i64 k) := blk_cell HX3 0
      have y1 : w3.cell? ⟨x, 1, none⟩ = some (.int .i64 n) := blk_cell HX3 1
      have y2 : w3.cell? ⟨x, 2, none⟩ = some (.string key2) := blk_cell HX3 2
      have y3 : w3.cell? ⟨x, 3, none⟩ = some (.string v2) := blk_cell HX3 3
      have hy3 := blk_grown by2 hg3 (by intro e; injection e with e; omega)
      obtain ⟨ya, yb, yc, ye, e1, e2, e3, e4, q1, q2, q3, q4, g1, g2, g3, g4, hzb, hzg⟩ := store4 hy3 (.int .i64 k) (.int .i64 n) (.string key2) (.string v2)
      have HB3 := Aside0.mk (pw_below_grown (below_step HB0.out hbw_) (some x) (below_step HB0.out hbw_).size hg3 (fun q hq => by injection hq with hq; have := HXX.out; omega))
      have HB4 := Aside0.mk (pw_below_grown HB3.out (some (x + 1)) HB3.out.size hzg (fun q hq => by injection hq with hq; have := HXX.out; omega))
      clear bx by2 p2 p3 f2 d2 c3 f3 HX3 hg3 hw3 hy3 hhp_ hbw_ hzg
      (try simp only [Exit.then])
      go_wp2
      (try simp only [Exit.inBlock, Exit.then])
      refine bodyPost_ret (results_single rfl (.cell (x + 1) 45 #[.int .i64 k, .int .i64 n, .string key2, .string v2] (0, 0) _ rfl hzb Try.underlying45 rfl (by kernel_rfl) .nil)) rfl ?_
      exact ⟨rfl, HB4.out⟩
    · refine s_val (o := { dst := some 7, op := Op.load 9 (Operand.tmp 6), type := 9, pos := "law.go:13", after := #[{ on := 3, ground := Ground.data }], guard := none }) (w1 := wd) rfl (by first | rfl | (simp [Region.wanted, yielded]; done)) (by first | (go_simp; done) | (go_simp; rfl)) (grown_of_below (Below.refl _ _) _) ?_
      (try simp only [Act.put, List.setIfInBounds_toArray, List.set_cons_zero, List.set_cons_succ])
      refine t_ef ?_
      refine s_call (o := { dst := some 5, op := Op.call { callee := Callee.value (Operand.func 53), args := #[Operand.tmp 4, Operand.const (Value.int IntKind.i64 110)], argTypes := #[9, 3] }, type := 9, pos := "law.go:13", after := #[{ on := 1, ground := Ground.data }], guard := none }) rfl (by first | rfl | (simp [Region.wanted, yielded]; done)) (by first | (go_simp; done) | (go_simp; exact ⟨rfl, rfl⟩) | (go_simp; rfl)) ?_
      refine (HC1.out wd).mono ?_
      rintro e_ x1 ⟨rfl, rfl⟩
      refine ⟨_, rfl, grown_of_below (Below.refl _ _) _, ?_⟩
      (try simp only [Act.put, List.setIfInBounds_toArray, List.set_cons_zero, List.set_cons_succ])
      (refine t_read (o := { dst := some 9, op := Op.fieldAddr 45 (Operand.tmp 1) 2, type := 0, pos := "law.go:13", after := #[{ on := 0, ground := Ground.phase }, { on := 1, ground := Ground.phase }, { on := 2, ground := Ground.phase }, { on := 3, ground := Ground.phase }, { on := 4, ground := Ground.phase }, { on := 5, ground := Ground.textOnly Departure.lateStoresUnsure }], guard := none }) rfl (by first | rfl | (simp [Region.wanted, yielded]; done)) (by intro w_ hE_; (try dsimp only at hE_); first | (go_simp; done) | (go_simp; rfl)) ?_)
      (try simp only [Act.put, List.setIfInBounds_toArray, List.set_cons_zero, List.set_cons_succ])
      refine t_ef ?_
      refine s_call (o := { dst := some 8, op := Op.call { callee := Callee.value (Operand.func 53), args := #[Operand.tmp 7, Operand.const (Value.int IntKind.i64 300)], argTypes := #[9, 3] }, type := 9, pos := "law.go:13", after := #[{ on := 4, ground := Ground.data }, { on := 2, ground := Ground.chain }], guard := none }) rfl (by first | rfl | (simp [Region.wanted, yielded]; done)) (by first | (go_simp; done) | (go_simp; exact ⟨rfl, rfl⟩) | (go_simp; rfl)) ?_
      refine (HC2.out wd).mono ?_
      rintro e_ x1 ⟨rfl, rfl⟩
      refine ⟨_, rfl, grown_of_below (Below.refl _ _) _, ?_⟩
      (try simp only [Act.put, List.setIfInBounds_toArray, List.set_cons_zero, List.set_cons_succ])
      refine t_ef ?_
      refine s_store (o := { dst := none, op := Op.store 9 (Operand.tmp 9) (Operand.tmp 5), type := 0, pos := "law.go:13", after := #[{ on := 6, ground := Ground.data }, { on := 2, ground := Ground.data }, { on := 5, ground := Ground.chain }, { on := 0, ground := Ground.phase }, { on := 1, ground := Ground.phase }, { on := 2, ground := Ground.phase }, { on := 3, ground := Ground.phase }, { on := 4, ground := Ground.phase }, { on := 5, ground := Ground.textOnly Departure.lateStoresUnsure }], guard := none }) (w1 := wd.setCell ⟨x, 2, none⟩ (.string key2)) rfl (by first | rfl | (simp [Region.wanted, yielded]; done)) (by first | (go_simp; done) | (go_simp; rfl)) (grown_set) ?_
      (try simp only [Act.put, List.setIfInBounds_toArray, List.set_cons_zero, List.set_cons_succ])
      have d2 := blk_set bx 2 (.string key2)
      have c3 := blk_cell d2 3
      have f3 := blk_frozen d2 3
      (refine t_read (o := { dst := some 10, op := Op.fieldAddr 45 (Operand.tmp 1) 3, type := 0, pos := "law.go:13", after := #[{ on := 0, ground := Ground.phase }, { on := 1, ground := Ground.phase }, { on := 2, ground := Ground.phase }, { on := 3, ground := Ground.phase }, { on := 4, ground := Ground.phase }, { on := 5, ground := Ground.phase }, { on := 6, ground := Ground.phase }, { on := 7, ground := Ground.phase }], guard := none }) rfl (by first | rfl | (simp [Region.wanted, yielded]; done)) (by intro w_ hE_; (try dsimp only at hE_); first | (go_simp; done) | (go_simp; rfl)) ?_)
      (try simp only [Act.put, List.setIfInBounds_toArray, List.set_cons_zero, List.set_cons_succ])
      refine t_ef ?_
      refine s_store (o := { dst := none, op := Op.store 9 (Operand.tmp 10) (Operand.tmp 8), type := 0, pos := "law.go:13", after := #[{ on := 8, ground := Ground.data }, { on := 5, ground := Ground.data }, { on := 7, ground := Ground.chain }, { on := 0, ground := Ground.phase }, { on := 1, ground := Ground.phase }, { on := 2, ground := Ground.phase }, { on := 3, ground := Ground.phase }, { on := 4, ground := Ground.phase }, { on := 5, ground := Ground.phase }, { on := 6, ground := Ground.phase }, { on := 7, ground := Ground.phase }], guard := none }) (w1 := (wd.setCell ⟨x, 2, none⟩ (.string key2)).setCell ⟨x, 3, none⟩ (.string v2)) rfl (by first | rfl | (simp [Region.wanted, yielded]; done)) (by first | (go_simp; done) | (go_simp; rfl)) (grown_set) ?_
      (try simp only [Act.put, List.setIfInBounds_toArray, List.set_cons_zero, List.set_cons_succ])
      refine t_nil ?_
      have HX3 := blk_set d2 3 (.string v2)
      have hg3 : wd.grownBy ((wd.setCell ⟨x, 2, none⟩ (.string key2)).setCell ⟨x, 3, none⟩ (.string v2)) (some x) := World.grownBy.trans grown_set grown_set
      obtain ⟨w3, hw3⟩ : ∃ z, (wd.setCell ⟨x, 2, none⟩ (.string key2)).setCell ⟨x, 3, none⟩ (.string v2) = z := ⟨_, rfl⟩
      rw [hw3] at HX3 hg3
      rw [hw3]
      have y0 : w3.cell? ⟨x, 0, none⟩ = some (.int .i64 k) := blk_cell HX3 0
      have y1 : w3.cell? ⟨x, 1, none⟩ = some (.int .i64 n) := blk_cell HX3 1
      have y2 : w3.cell? ⟨x, 2, none⟩ = some (.string key2) := blk_cell HX3 2
      have y3 : w3.cell? ⟨x, 3, none⟩ = some (.string v2) := blk_cell HX3 3
      have hy3 := blk_grown by2 hg3 (by intro e; injection e with e; omega)
      obtain ⟨ya, yb, yc, ye, e1, e2, e3, e4, q1, q2, q3, q4, g1, g2, g3, g4, hzb, hzg⟩ := store4 hy3 (.int .i64 k) (.int .i64 n) (.string key2) (.string v2)
      have HB3 := Aside0.mk (pw_below_grown (below_step HB0.out hbw_) (some x) (below_step HB0.out hbw_).size hg3 (fun q hq => by injection hq with hq; have := HXX.out; omega))
      have HB4 := Aside0.mk (pw_below_grown HB3.out (some (x + 1)) HB3.out.size hzg (fun q hq => by injection hq with hq; have := HXX.out; omega))
      clear bx by2 p2 p3 f2 d2 c3 f3 HX3 hg3 hw3 hy3 hhp_ hbw_ hzg
      (try simp only [Exit.then])
      go_wp2
      (try simp only [Exit.inBlock, Exit.then])
      refine bodyPost_ret (results_single rfl (.cell (x + 1) 45 #[.int .i64 k, .int .i64 n, .string key2, .string v2] (0, 0) _ rfl hzb Try.underlying45 rfl (by kernel_rfl) .nil)) rfl ?_
      exact ⟨rfl, HB4.out⟩
  · refine s_val (o := { dst := some 7, op := Op.load 9 (Operand.tmp 6), type := 9, pos := "law.go:13", after := #[{ on := 3, ground := Ground.data }], guard := none }) (w1 := wd) rfl (by first | rfl | (simp [Region.wanted, yielded]; done)) (by first | (go_simp; done) | (go_simp; rfl)) (grown_of_below (Below.refl _ _) _) ?_
    (try simp only [Act.put, List.setIfInBounds_toArray, List.set_cons_zero, List.set_cons_succ])
    refine t_ef ?_
    refine s_val (o := { dst := some 4, op := Op.load 9 (Operand.tmp 3), type := 9, pos := "law.go:13", after := #[{ on := 0, ground := Ground.data }], guard := none }) (w1 := wd) rfl (by first | rfl | (simp [Region.wanted, yielded]; done)) (by first | (go_simp; done) | (go_simp; rfl)) (grown_of_below (Below.refl _ _) _) ?_
    (try simp only [Act.put, List.setIfInBounds_toArray, List.set_cons_zero, List.set_cons_succ])
    refine t_ef ?_
    refine s_call (o := { dst := some 5, op := Op.call { callee := Callee.value (Operand.func 53), args := #[Operand.tmp 4, Operand.const (Value.int IntKind.i64 110)], argTypes := #[9, 3] }, type := 9, pos := "law.go:13", after := #[{ on := 1, ground := Ground.data }], guard := none }) rfl (by first | rfl | (simp [Region.wanted, yielded]; done)) (by first | (go_simp; done) | (go_simp; exact ⟨rfl, rfl⟩) | (go_simp; rfl)) ?_
    refine (HC1.out wd).mono ?_
    rintro e_ x1 ⟨rfl, rfl⟩
    refine ⟨_, rfl, grown_of_below (Below.refl _ _) _, ?_⟩
    (try simp only [Act.put, List.setIfInBounds_toArray, List.set_cons_zero, List.set_cons_succ])
    (refine t_read (o := { dst := some 9, op := Op.fieldAddr 45 (Operand.tmp 1) 2, type := 0, pos := "law.go:13", after := #[{ on := 0, ground := Ground.phase }, { on := 1, ground := Ground.phase }, { on := 2, ground := Ground.phase }, { on := 3, ground := Ground.phase }, { on := 4, ground := Ground.phase }, { on := 5, ground := Ground.textOnly Departure.lateStoresUnsure }], guard := none }) rfl (by first | rfl | (simp [Region.wanted, yielded]; done)) (by intro w_ hE_; (try dsimp only at hE_); first | (go_simp; done) | (go_simp; rfl)) ?_)
    (try simp only [Act.put, List.setIfInBounds_toArray, List.set_cons_zero, List.set_cons_succ])
    refine t_ef ?_
    refine s_call (o := { dst := some 8, op := Op.call { callee := Callee.value (Operand.func 53), args := #[Operand.tmp 7, Operand.const (Value.int IntKind.i64 300)], argTypes := #[9, 3] }, type := 9, pos := "law.go:13", after := #[{ on := 4, ground := Ground.data }, { on := 2, ground := Ground.chain }], guard := none }) rfl (by first | rfl | (simp [Region.wanted, yielded]; done)) (by first | (go_simp; done) | (go_simp; exact ⟨rfl, rfl⟩) | (go_simp; rfl)) ?_
    refine (HC2.out wd).mono ?_
    rintro e_ x1 ⟨rfl, rfl⟩
    refine ⟨_, rfl, grown_of_below (Below.refl _ _) _, ?_⟩
    (try simp only [Act.put, List.setIfInBounds_toArray, List.set_cons_zero, List.set_cons_succ])
    refine t_ef ?_
    refine s_store (o := { dst := none, op := Op.store 9 (Operand.tmp 9) (Operand.tmp 5), type := 0, pos := "law.go:13", after := #[{ on := 6, ground := Ground.data }, { on := 2, ground := Ground.data }, { on := 5, ground := Ground.chain }, { on := 0, ground := Ground.phase }, { on := 1, ground := Ground.phase }, { on := 2, ground := Ground.phase }, { on := 3, ground := Ground.phase }, { on := 4, ground := Ground.phase }, { on := 5, ground := Ground.textOnly Departure.lateStoresUnsure }], guard := none }) (w1 := wd.setCell ⟨x, 2, none⟩ (.string key2)) rfl (by first | rfl | (simp [Region.wanted, yielded]; done)) (by first | (go_simp; done) | (go_simp; rfl)) (grown_set) ?_
    (try simp only [Act.put, List.setIfInBounds_toArray, List.set_cons_zero, List.set_cons_succ])
    have d2 := blk_set bx 2 (.string key2)
    have c3 := blk_cell d2 3
    have f3 := blk_frozen d2 3
    (refine t_read (o := { dst := some 10, op := Op.fieldAddr 45 (Operand.tmp 1) 3, type := 0, pos := "law.go:13", after := #[{ on := 0, ground := Ground.phase }, { on := 1, ground := Ground.phase }, { on := 2, ground := Ground.phase }, { on := 3, ground := Ground.phase }, { on := 4, ground := Ground.phase }, { on := 5, ground := Ground.phase }, { on := 6, ground := Ground.phase }, { on := 7, ground := Ground.phase }], guard := none }) rfl (by first | rfl | (simp [Region.wanted, yielded]; done)) (by intro w_ hE_; (try dsimp only at hE_); first | (go_simp; done) | (go_simp; rfl)) ?_)
    (try simp only [Act.put, List.setIfInBounds_toArray, List.set_cons_zero, List.set_cons_succ])
    refine t_ef ?_
    refine s_store (o := { dst := none, op := Op.store 9 (Operand.tmp 10) (Operand.tmp 8), type := 0, pos := "law.go:13", after := #[{ on := 8, ground := Ground.data }, { on := 5, ground := Ground.data }, { on := 7, ground := Ground.chain }, { on := 0, ground := Ground.phase }, { on := 1, ground := Ground.phase }, { on := 2, ground := Ground.phase }, { on := 3, ground := Ground.phase }, { on := 4, ground := Ground.phase }, { on := 5, ground := Ground.phase }, { on := 6, ground := Ground.phase }, { on := 7, ground := Ground.phase }], guard := none }) (w1 := (wd.setCell ⟨x, 2, none⟩ (.string key2)).setCell ⟨x, 3, none⟩ (.string v2)) rfl (by first | rfl | (simp [Region.wanted, yielded]; done)) (by first | (go_simp; done) | (go_simp; rfl)) (grown_set) ?_
    (try simp only [Act.put, List.setIfInBounds_toArray, List.set_cons_zero, List.set_cons_succ])
    refine t_nil ?_
    have HX3 := blk_set d2 3 (.string v2)
    have hg3 : wd.grownBy ((wd.setCell ⟨x, 2, none⟩ (.string key2)).setCell ⟨x, 3, none⟩ (.string v2)) (some x) := World.grownBy.trans grown_set grown_set
    obtain ⟨w3, hw3⟩ : ∃ z, (wd.setCell ⟨x, 2, none⟩ (.string key2)).setCell ⟨x, 3, none⟩ (.string v2) = z := ⟨_, rfl⟩
    rw [hw3] at HX3 hg3
    rw [hw3]
    have y0 : w3.cell? ⟨x, 0, none⟩ = some (.int .i64 k) := blk_cell HX3 0
    have y1 : w3.cell? ⟨x, 1, none⟩ = some (.int .i64 n) := blk_cell HX3 1
    have y2 : w3.cell? ⟨x, 2, none⟩ = some (.string key2) := blk_cell HX3 2
    have y3 : w3.cell? ⟨x, 3, none⟩ = some (.string v2) := blk_cell HX3 3
    have hy3 := blk_grown by2 hg3 (by intro e; injection e with e; omega)
    obtain ⟨ya, yb, yc, ye, e1, e2, e3, e4, q1, q2, q3, q4, g1, g2, g3, g4, hzb, hzg⟩ := store4 hy3 (.int .i64 k) (.int .i64 n) (.string key2) (.string v2)
    have HB3 := Aside0.mk (pw_below_grown (below_step HB0.out hbw_) (some x) (below_step HB0.out hbw_).size hg3 (fun q hq => by injection hq with hq; have := HXX.out; omega))
    have HB4 := Aside0.mk (pw_below_grown HB3.out (some (x + 1)) HB3.out.size hzg (fun q hq => by injection hq with hq; have := HXX.out; omega))
    clear bx by2 p2 p3 f2 d2 c3 f3 HX3 hg3 hw3 hy3 hhp_ hbw_ hzg
    (try simp only [Exit.then])
    go_wp2
    (try simp only [Exit.inBlock, Exit.then])
    refine bodyPost_ret (results_single rfl (.cell (x + 1) 45 #[.int .i64 k, .int .i64 n, .string key2, .string v2] (0, 0) _ rfl hzb Try.underlying45 rfl (by kernel_rfl) .nil)) rfl ?_
    exact ⟨rfl, HB4.out⟩
end Go.Proofs.Ytfojeegepfjbiaa.RdL
