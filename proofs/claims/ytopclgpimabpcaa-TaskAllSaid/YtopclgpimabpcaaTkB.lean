/- Contracts of a work's Step, of the pool's Step and Wake. -/
import Derived.Test.YtopclgpimabpcaaProg
import Derived.Below
import Derived.Deep.Draws
import Derived.Deep.AppendLies
import Derived.Maps.AppendAt
import Derived.OwnWalk
import Derived.Laws.BytesArg
import Derived.Laws.MakeOwn
import Derived.Laws.OwnMore
import Derived.Deep.OwnRows
import Derived.Tactics
import Derived.Lib.ConvBytes
import Derived.Laws.Slices
import Derived.WalkKit
import Derived.KernelRfl
import Derived.RowKit3
import Derived.Deep.LoopGhost
import Derived.Deep.QuietTactic
import Derived.BigQuiet
import Derived.WideLaws
import Derived.Deep.DeepCutAuto
import Derived.Deep.CutBlock
import Derived.Deep.RegionHeld3
import Derived.Laws.Rows
import Derived.Lib.AppendStr
import Derived.ArgAppend
import Derived.Laws.IdiomCopy
import Derived.OrdersHeld
import Derived.Laws.BitsLemmas
import Derived.RowKit
import Derived.WalkSpells
import Derived.Outline
import Derived.Test.YtopclgpimabpcaaWWords
import Derived.Test.YtopclgpimabpcaaWLast
import Derived.Test.YtopclgpimabpcaaWMore
import Derived.Test.YtopclgpimabpcaaWArr
import Derived.Test.YtopclgpimabpcaaWTab
import Derived.Test.YtopclgpimabpcaaWZeros
import Derived.Test.YtopclgpimabpcaaWRepsOne
import Derived.Test.YtopclgpimabpcaaTkA
import Derived.Test.YtopclgpimabpcaaMix
namespace Go.Proofs.Ytopclgpimabpcaa.TkB
open Go.RowKit Go.Proofs.YtopclgpimabpcaaW.PrintWords Go.Proofs.YtopclgpimabpcaaW.PrintLast Go.Proofs.YtopclgpimabpcaaW.PrintMore Go.Proofs.Ytopclgpimabpcaa.Tk Go.Proofs.Ytopclgpimabpcaa.TkA Go.Proofs.Ytopclgpimabpcaa.Mix
set_option linter.unusedSimpArgs false
set_option linter.unusedVariables false
attribute [local go_sem] max2_int min2_int max_two min_two

/-- What the step number n of a work tells. -/
def stepV (L : List Int) (n : Nat) : Int := if n < L.length then rd L (n : Int) else 2
theorem below_set {B : Nat} {w : World} {g i : Nat} (h : B ≤ g) (u : Value) : Below B w (w.setCell ⟨g, i, none⟩ u) := by
  refine ⟨rfl, rfl, rfl, ?_, fun j hj => ?_⟩
  · show w.heap.size ≤ (w.setCell ⟨g, i, none⟩ u).heap.size
    simp [World.setCell]
  · exact Below.heap_setCell w ⟨g, i, none⟩ u j (by show j ≠ g; omega)
theorem own_at {w : World} {B : Nat} {v : Value} {L : List Int} (h : w.ownsRow B 3 1 v L.length (nums .i64 L)) {n : Nat} (hn : n < L.length) : ∃ q c, v = .slice (some ⟨q, 0, none⟩) L.length c ∧ w.cell? ⟨q, n, none⟩ = some (.int .i64 (rd L (n : Int))) := by
  obtain ⟨q, c, rfl, hb, hl⟩ := h.form (by omega)
  refine ⟨q, c, rfl, ?_⟩
  have := h.cells (g := q) rfl n (.int .i64 (rd L (n : Int))) (by unfold nums rd; rw [List.getElem?_map, List.getElem?_eq_getElem hn, Int.toNat_natCast, List.getD_eq_getElem?_getD, List.getElem?_eq_getElem hn]; rfl)
  rwa [add_plain] at this
theorem below_of_size {w w1 w2 : World} (hs : w1.heap.size = w.heap.size) (hb : Below w1.heap.size w1 w2) : Below w.heap.size w1 w2 := by rw [← hs]; exact hb
set_option maxRecDepth 100000 in
theorem wstep_calls {w : World} {B h : Nat} {v : Value} {L : List Int} {n : Nat} (hb : Blk w h #[v, .int .i64 (n : Int)] 32) (ho : w.ownsRow B 3 1 v L.length (nums .i64 L)) (hn : n ≤ 1000000) :
    Calls Try.prog 57 #[.pointer (some ⟨h, 0, none⟩)] w fun e w' => e = .returned (.int .i64 (stepV L n)) ∧ Below w.heap.size (w.setCell ⟨h, 1, none⟩ (.int .i64 ((n + 1 : Nat) : Int))) w' := by
  have hc1 : w.cell? ⟨h, 1, none⟩ = some (.int .i64 (n : Int)) := blk_cell hb 1
  have hf1 := blk_frozen hb 1
  have hs : Blk (w.setCell ⟨h, 1, none⟩ (.int .i64 ((n + 1 : Nat) : Int))) h #[v, .int .i64 ((n + 1 : Nat) : Int)] 32 := blk_set hb 1 _
  have ho1 := own_setCell ho (p := ⟨h, 1, none⟩) (own_ne ho hb (by decide)) (.int .i64 ((n + 1 : Nat) : Int))
  have hsz : (w.setCell ⟨h, 1, none⟩ (.int .i64 ((n + 1 : Nat) : Int))).heap.size = w.heap.size := by simp [World.setCell]
  have kw : IntKind.i64.wrap ((n : Int) + 1) = ((n + 1 : Nat) : Int) := by rw [IntKind.wrap_i64]; omega
  obtain ⟨A, c, rfl⟩ := own_slice ho
  have hL : L.length ≤ 9223372036854775807 := by
    rcases ho.2 with ⟨_, h1⟩ | ⟨g', cap', cur, he, _, _, h1, h2, _⟩
    · omega
    · simp only [maxLen] at h2
      omega
  have kx : IntKind.i64.wrap (((n + 1 : Nat) : Int) - 1) = (n : Int) := by rw [IntKind.wrap_i64]; omega
  have HS : Aside0 (stepV L n = if n < L.length then rd L (n : Int) else 2) := ⟨rfl⟩
  have HBS := Aside0.mk hs
  have HO1 := Aside0.mk ho1
  have HSZ := Aside0.mk hsz
  clear hb ho hs ho1 hsz
  obtain ⟨m, hm⟩ : ∃ m, n + 1 = m := ⟨_, rfl⟩
  rw [hm] at kw kx HBS HO1 HSZ ⊢
  go_enter Try.func57, Try.ntmps57
  go_wp2_with fail
  generalize hw1 : w.setCell ⟨h, 1, none⟩ (.int .i64 (m : Int)) = w1 at *
  have HW1 := Aside0.mk hw1
  clear hw1
  have hc0 : w1.cell? ⟨h, 0, none⟩ = some (.slice A L.length c) := blk_cell HBS.out 0
  have hc2 : w1.cell? ⟨h, 1, none⟩ = some (.int .i64 (m : Int)) := blk_cell HBS.out 1
  by_cases hlt : n < L.length
  · obtain ⟨q, c2, e1, hq⟩ := own_at HO1.out hlt
    injection e1 with e1 e2 e3
    subst e1
    have k1 : ((L.length : Int) < (m : Int)) = False := eq_false (by omega)
    have k2 : ((n : Int) < (L.length : Int)) = True := eq_true (by omega)
    have HE := Aside0.mk (HS.out.trans (if_pos hlt))
    generalize rd L (n : Int) = y at *
    clear hc1 hf1 hm hlt e2 e3
    refine wp_region_mix (fun w_ w1_ => w_ = w1_) [(false, 0), (false, 1), (false, 2), (false, 3), (false, 4), (false, 5), (false, 6), (false, 7), (false, 8), (false, 9)] (by kernel_rfl) (by kernel_rfl) (fun _ => rfl) (fun h h' => h.trans h') (fun wd hhp_ hbw_ => ?_)
    have d0 : wd.cell? ⟨h, 0, none⟩ = _ := (hbw_.cell (World.block_lt_of_cell? w1 _ hc0)).trans hc0
    have d2 : wd.cell? ⟨h, 1, none⟩ = _ := (hbw_.cell (World.block_lt_of_cell? w1 _ hc2)).trans hc2
    have d3 : wd.cell? ⟨q, n, none⟩ = _ := (hbw_.cell (World.block_lt_of_cell? w1 _ hq)).trans hq
    have HBw := Aside0.mk (below_of_size HSZ.out hbw_)
    clear hhp_ hbw_ hc0 hc2
    (refine mix_read (o := { dst := some 10, op := Op.move (Operand.tmp 0), type := 30, pos := "law.go:18", after := #[], guard := none }) rfl (by first | rfl | (simp [Region.wanted, yielded]; done)) (by intro w_ hE_; (try dsimp only at hE_); subst hE_; first | (go_simp; done) | (go_simp; rfl)) ?_)
    (try simp only [Act.put, List.setIfInBounds_toArray, List.set_cons_zero, List.set_cons_succ])
    (refine mix_read (o := { dst := some 11, op := Op.nilCheck (Operand.tmp 10), type := 0, pos := "law.go:18", after := #[{ on := 0, ground := Ground.data }], guard := none }) rfl (by first | rfl | (simp [Region.wanted, yielded]; done)) (by intro w_ hE_; (try dsimp only at hE_); subst hE_; first | (go_simp; done) | (go_simp; rfl)) ?_)
    (try simp only [Act.put, List.setIfInBounds_toArray, List.set_cons_zero, List.set_cons_succ])
    (refine mix_read (o := { dst := some 12, op := Op.fieldAddr 32 (Operand.tmp 11) 1, type := 0, pos := "law.go:18", after := #[{ on := 1, ground := Ground.data }], guard := none }) rfl (by first | rfl | (simp [Region.wanted, yielded]; done)) (by intro w_ hE_; (try dsimp only at hE_); subst hE_; first | (go_simp; done) | (go_simp; rfl)) ?_)
    (try simp only [Act.put, List.setIfInBounds_toArray, List.set_cons_zero, List.set_cons_succ])
    (refine mix_read (o := { dst := some 13, op := Op.load 3 (Operand.tmp 12), type := 3, pos := "law.go:18", after := #[{ on := 2, ground := Ground.data }], guard := none }) rfl (by first | rfl | (simp [Region.wanted, yielded]; done)) (by intro w_ hE_; (try dsimp only at hE_); subst hE_; first | (go_simp; done) | (go_simp; rfl)) ?_)
    (try simp only [Act.put, List.setIfInBounds_toArray, List.set_cons_zero, List.set_cons_succ])
    (refine mix_read (o := { dst := some 14, op := Op.move (Operand.tmp 0), type := 30, pos := "law.go:18", after := #[], guard := none }) rfl (by first | rfl | (simp [Region.wanted, yielded]; done)) (by intro w_ hE_; (try dsimp only at hE_); subst hE_; first | (go_simp; done) | (go_simp; rfl)) ?_)
    (try simp only [Act.put, List.setIfInBounds_toArray, List.set_cons_zero, List.set_cons_succ])
    (refine mix_read (o := { dst := some 15, op := Op.nilCheck (Operand.tmp 14), type := 0, pos := "law.go:18", after := #[{ on := 4, ground := Ground.data }], guard := none }) rfl (by first | rfl | (simp [Region.wanted, yielded]; done)) (by intro w_ hE_; (try dsimp only at hE_); subst hE_; first | (go_simp; done) | (go_simp; rfl)) ?_)
    (try simp only [Act.put, List.setIfInBounds_toArray, List.set_cons_zero, List.set_cons_succ])
    (refine mix_read (o := { dst := some 16, op := Op.fieldAddr 32 (Operand.tmp 15) 0, type := 0, pos := "law.go:18", after := #[{ on := 5, ground := Ground.data }], guard := none }) rfl (by first | rfl | (simp [Region.wanted, yielded]; done)) (by intro w_ hE_; (try dsimp only at hE_); subst hE_; first | (go_simp; done) | (go_simp; rfl)) ?_)
    (try simp only [Act.put, List.setIfInBounds_toArray, List.set_cons_zero, List.set_cons_succ])
    (refine mix_read (o := { dst := some 17, op := Op.load 27 (Operand.tmp 16), type := 27, pos := "law.go:18", after := #[{ on := 6, ground := Ground.data }], guard := none }) rfl (by first | rfl | (simp [Region.wanted, yielded]; done)) (by intro w_ hE_; (try dsimp only at hE_); subst hE_; first | (go_simp; done) | (go_simp; rfl)) ?_)
    (try simp only [Act.put, List.setIfInBounds_toArray, List.set_cons_zero, List.set_cons_succ])
    (refine mix_read (o := { dst := some 18, op := Op.call { callee := Callee.builtin Builtin.len, args := #[Operand.tmp 17], argTypes := #[27] }, type := 3, pos := "law.go:18", after := #[{ on := 7, ground := Ground.data }], guard := none }) rfl (by first | rfl | (simp [Region.wanted, yielded]; done)) (by intro w_ hE_; (try dsimp only at hE_); subst hE_; first | (go_simp; done) | (go_simp; rfl)) ?_)
    (try simp only [Act.put, List.setIfInBounds_toArray, List.set_cons_zero, List.set_cons_succ])
    (refine mix_read (o := { dst := some 19, op := Op.binOp BinOp.gtr 3 (Operand.tmp 13) (Operand.tmp 18) 3, type := 4, pos := "law.go:18", after := #[{ on := 3, ground := Ground.data }, { on := 8, ground := Ground.data }], guard := none }) rfl (by first | rfl | (simp [Region.wanted, yielded]; done)) (by intro w_ hE_; (try dsimp only at hE_); subst hE_; first | (go_simp; done) | (go_simp; rfl)) ?_)
    (try simp only [Act.put, List.setIfInBounds_toArray, List.set_cons_zero, List.set_cons_succ])
    refine mix_nil ?_
    clear hq
    go_wp2_with fail
    refine wp_region_mix (fun w_ w1_ => w_ = w1_) [(false, 0), (false, 1), (false, 2), (false, 3), (false, 4), (false, 5), (false, 6), (false, 7), (false, 8), (false, 9), (false, 10), (false, 11)] (by kernel_rfl) (by kernel_rfl) (fun _ => rfl) (fun h h' => h.trans h') (fun we hhp_ hbw_ => ?_)
    have f0 : we.cell? ⟨h, 0, none⟩ = _ := (hbw_.cell (World.block_lt_of_cell? wd _ d0)).trans d0
    have f2 : we.cell? ⟨h, 1, none⟩ = _ := (hbw_.cell (World.block_lt_of_cell? wd _ d2)).trans d2
    have f3 : we.cell? ⟨q, n, none⟩ = _ := (hbw_.cell (World.block_lt_of_cell? wd _ d3)).trans d3
    have HBe := Aside0.mk (below_then HBw.out (by have := HBw.out.size; have := HSZ.out; omega) hbw_)
    clear hhp_ hbw_ d0 d2 d3
    (refine mix_read (o := { dst := some 20, op := Op.move (Operand.tmp 0), type := 30, pos := "law.go:21", after := #[], guard := none }) rfl (by first | rfl | (simp [Region.wanted, yielded]; done)) (by intro w_ hE_; (try dsimp only at hE_); subst hE_; first | (go_simp; done) | (go_simp; rfl)) ?_)
    (try simp only [Act.put, List.setIfInBounds_toArray, List.set_cons_zero, List.set_cons_succ])
    (refine mix_read (o := { dst := some 21, op := Op.nilCheck (Operand.tmp 20), type := 0, pos := "law.go:21", after := #[{ on := 0, ground := Ground.data }], guard := none }) rfl (by first | rfl | (simp [Region.wanted, yielded]; done)) (by intro w_ hE_; (try dsimp only at hE_); subst hE_; first | (go_simp; done) | (go_simp; rfl)) ?_)
    (try simp only [Act.put, List.setIfInBounds_toArray, List.set_cons_zero, List.set_cons_succ])
    (refine mix_read (o := { dst := some 22, op := Op.fieldAddr 32 (Operand.tmp 21) 0, type := 0, pos := "law.go:21", after := #[{ on := 1, ground := Ground.data }], guard := none }) rfl (by first | rfl | (simp [Region.wanted, yielded]; done)) (by intro w_ hE_; (try dsimp only at hE_); subst hE_; first | (go_simp; done) | (go_simp; rfl)) ?_)
    (try simp only [Act.put, List.setIfInBounds_toArray, List.set_cons_zero, List.set_cons_succ])
    (refine mix_read (o := { dst := some 23, op := Op.load 27 (Operand.tmp 22), type := 27, pos := "law.go:21", after := #[{ on := 2, ground := Ground.data }], guard := none }) rfl (by first | rfl | (simp [Region.wanted, yielded]; done)) (by intro w_ hE_; (try dsimp only at hE_); subst hE_; first | (go_simp; done) | (go_simp; rfl)) ?_)
    (try simp only [Act.put, List.setIfInBounds_toArray, List.set_cons_zero, List.set_cons_succ])
    (refine mix_read (o := { dst := some 24, op := Op.move (Operand.tmp 0), type := 30, pos := "law.go:21", after := #[], guard := none }) rfl (by first | rfl | (simp [Region.wanted, yielded]; done)) (by intro w_ hE_; (try dsimp only at hE_); subst hE_; first | (go_simp; done) | (go_simp; rfl)) ?_)
    (try simp only [Act.put, List.setIfInBounds_toArray, List.set_cons_zero, List.set_cons_succ])
    (refine mix_read (o := { dst := some 25, op := Op.nilCheck (Operand.tmp 24), type := 0, pos := "law.go:21", after := #[{ on := 4, ground := Ground.data }], guard := none }) rfl (by first | rfl | (simp [Region.wanted, yielded]; done)) (by intro w_ hE_; (try dsimp only at hE_); subst hE_; first | (go_simp; done) | (go_simp; rfl)) ?_)
    (try simp only [Act.put, List.setIfInBounds_toArray, List.set_cons_zero, List.set_cons_succ])
    (refine mix_read (o := { dst := some 26, op := Op.fieldAddr 32 (Operand.tmp 25) 1, type := 0, pos := "law.go:21", after := #[{ on := 5, ground := Ground.data }], guard := none }) rfl (by first | rfl | (simp [Region.wanted, yielded]; done)) (by intro w_ hE_; (try dsimp only at hE_); subst hE_; first | (go_simp; done) | (go_simp; rfl)) ?_)
    (try simp only [Act.put, List.setIfInBounds_toArray, List.set_cons_zero, List.set_cons_succ])
    (refine mix_read (o := { dst := some 27, op := Op.load 3 (Operand.tmp 26), type := 3, pos := "law.go:21", after := #[{ on := 6, ground := Ground.data }], guard := none }) rfl (by first | rfl | (simp [Region.wanted, yielded]; done)) (by intro w_ hE_; (try dsimp only at hE_); subst hE_; first | (go_simp; done) | (go_simp; rfl)) ?_)
    (try simp only [Act.put, List.setIfInBounds_toArray, List.set_cons_zero, List.set_cons_succ])
    (refine mix_read (o := { dst := some 28, op := Op.binOp BinOp.sub 3 (Operand.tmp 27) (Operand.const (Value.int IntKind.i64 1)) 3, type := 3, pos := "law.go:21", after := #[{ on := 7, ground := Ground.data }], guard := none }) rfl (by first | rfl | (simp [Region.wanted, yielded]; done)) (by intro w_ hE_; (try dsimp only at hE_); subst hE_; first | (go_simp; done) | (go_simp; rfl)) ?_)
    (try simp only [Act.put, List.setIfInBounds_toArray, List.set_cons_zero, List.set_cons_succ])
    (refine mix_read (o := { dst := some 29, op := Op.indexAddr 27 (Operand.tmp 23) (Operand.tmp 28), type := 0, pos := "law.go:21", after := #[{ on := 3, ground := Ground.data }, { on := 8, ground := Ground.data }], guard := none }) rfl (by first | rfl | (simp [Region.wanted, yielded]; done)) (by intro w_ hE_; (try dsimp only at hE_); subst hE_; first | (go_simp; done) | (go_simp; rfl)) ?_)
    (try simp only [Act.put, List.setIfInBounds_toArray, List.set_cons_zero, List.set_cons_succ])
    (refine mix_read (o := { dst := some 30, op := Op.load 3 (Operand.tmp 29), type := 3, pos := "law.go:21", after := #[{ on := 9, ground := Ground.data }], guard := none }) rfl (by first | rfl | (simp [Region.wanted, yielded]; done)) (by intro w_ hE_; (try dsimp only at hE_); subst hE_; first | (go_simp; done) | (go_simp; rfl)) ?_)
    (try simp only [Act.put, List.setIfInBounds_toArray, List.set_cons_zero, List.set_cons_succ])
    (refine mix_read (o := { dst := some 2, op := Op.assign (Operand.tmp 30), type := 3, pos := "law.go:21", after := #[{ on := 10, ground := Ground.data }, { on := 0, ground := Ground.phase }, { on := 1, ground := Ground.phase }, { on := 2, ground := Ground.phase }, { on := 3, ground := Ground.phase }, { on := 4, ground := Ground.phase }, { on := 5, ground := Ground.phase }, { on := 6, ground := Ground.phase }, { on := 7, ground := Ground.phase }, { on := 8, ground := Ground.phase }, { on := 9, ground := Ground.phase }, { on := 10, ground := Ground.phase }], guard := none }) rfl (by first | rfl | (simp [Region.wanted, yielded]; done)) (by intro w_ hE_; (try dsimp only at hE_); subst hE_; first | (go_simp; done) | (go_simp; rfl)) ?_)
    (try simp only [Act.put, List.setIfInBounds_toArray, List.set_cons_zero, List.set_cons_succ])
    refine mix_nil ?_
    go_wp2_with fail
    go_ret
    exact ⟨by rw [HE.out]; rfl, by rw [HW1.out]; exact HBe.out⟩
  · have k1 : ((L.length : Int) < (m : Int)) = True := eq_true (by omega)
    have HE := Aside0.mk (HS.out.trans (if_neg hlt))
    clear hc1 hf1 hm hlt
    refine wp_region_mix (fun w_ w1_ => w_ = w1_) [(false, 0), (false, 1), (false, 2), (false, 3), (false, 4), (false, 5), (false, 6), (false, 7), (false, 8), (false, 9)] (by kernel_rfl) (by kernel_rfl) (fun _ => rfl) (fun h h' => h.trans h') (fun wd hhp_ hbw_ => ?_)
    have d0 : wd.cell? ⟨h, 0, none⟩ = _ := (hbw_.cell (World.block_lt_of_cell? w1 _ hc0)).trans hc0
    have d2 : wd.cell? ⟨h, 1, none⟩ = _ := (hbw_.cell (World.block_lt_of_cell? w1 _ hc2)).trans hc2
    have HBw := Aside0.mk (below_of_size HSZ.out hbw_)
    clear hhp_ hbw_ hc0 hc2
    (refine mix_read (o := { dst := some 10, op := Op.move (Operand.tmp 0), type := 30, pos := "law.go:18", after := #[], guard := none }) rfl (by first | rfl | (simp [Region.wanted, yielded]; done)) (by intro w_ hE_; (try dsimp only at hE_); subst hE_; first | (go_simp; done) | (go_simp; rfl)) ?_)
    (try simp only [Act.put, List.setIfInBounds_toArray, List.set_cons_zero, List.set_cons_succ])
    (refine mix_read (o := { dst := some 11, op := Op.nilCheck (Operand.tmp 10), type := 0, pos := "law.go:18", after := #[{ on := 0, ground := Ground.data }], guard := none }) rfl (by first | rfl | (simp [Region.wanted, yielded]; done)) (by intro w_ hE_; (try dsimp only at hE_); subst hE_; first | (go_simp; done) | (go_simp; rfl)) ?_)
    (try simp only [Act.put, List.setIfInBounds_toArray, List.set_cons_zero, List.set_cons_succ])
    (refine mix_read (o := { dst := some 12, op := Op.fieldAddr 32 (Operand.tmp 11) 1, type := 0, pos := "law.go:18", after := #[{ on := 1, ground := Ground.data }], guard := none }) rfl (by first | rfl | (simp [Region.wanted, yielded]; done)) (by intro w_ hE_; (try dsimp only at hE_); subst hE_; first | (go_simp; done) | (go_simp; rfl)) ?_)
    (try simp only [Act.put, List.setIfInBounds_toArray, List.set_cons_zero, List.set_cons_succ])
    (refine mix_read (o := { dst := some 13, op := Op.load 3 (Operand.tmp 12), type := 3, pos := "law.go:18", after := #[{ on := 2, ground := Ground.data }], guard := none }) rfl (by first | rfl | (simp [Region.wanted, yielded]; done)) (by intro w_ hE_; (try dsimp only at hE_); subst hE_; first | (go_simp; done) | (go_simp; rfl)) ?_)
    (try simp only [Act.put, List.setIfInBounds_toArray, List.set_cons_zero, List.set_cons_succ])
    (refine mix_read (o := { dst := some 14, op := Op.move (Operand.tmp 0), type := 30, pos := "law.go:18", after := #[], guard := none }) rfl (by first | rfl | (simp [Region.wanted, yielded]; done)) (by intro w_ hE_; (try dsimp only at hE_); subst hE_; first | (go_simp; done) | (go_simp; rfl)) ?_)
    (try simp only [Act.put, List.setIfInBounds_toArray, List.set_cons_zero, List.set_cons_succ])
    (refine mix_read (o := { dst := some 15, op := Op.nilCheck (Operand.tmp 14), type := 0, pos := "law.go:18", after := #[{ on := 4, ground := Ground.data }], guard := none }) rfl (by first | rfl | (simp [Region.wanted, yielded]; done)) (by intro w_ hE_; (try dsimp only at hE_); subst hE_; first | (go_simp; done) | (go_simp; rfl)) ?_)
    (try simp only [Act.put, List.setIfInBounds_toArray, List.set_cons_zero, List.set_cons_succ])
    (refine mix_read (o := { dst := some 16, op := Op.fieldAddr 32 (Operand.tmp 15) 0, type := 0, pos := "law.go:18", after := #[{ on := 5, ground := Ground.data }], guard := none }) rfl (by first | rfl | (simp [Region.wanted, yielded]; done)) (by intro w_ hE_; (try dsimp only at hE_); subst hE_; first | (go_simp; done) | (go_simp; rfl)) ?_)
    (try simp only [Act.put, List.setIfInBounds_toArray, List.set_cons_zero, List.set_cons_succ])
    (refine mix_read (o := { dst := some 17, op := Op.load 27 (Operand.tmp 16), type := 27, pos := "law.go:18", after := #[{ on := 6, ground := Ground.data }], guard := none }) rfl (by first | rfl | (simp [Region.wanted, yielded]; done)) (by intro w_ hE_; (try dsimp only at hE_); subst hE_; first | (go_simp; done) | (go_simp; rfl)) ?_)
    (try simp only [Act.put, List.setIfInBounds_toArray, List.set_cons_zero, List.set_cons_succ])
    (refine mix_read (o := { dst := some 18, op := Op.call { callee := Callee.builtin Builtin.len, args := #[Operand.tmp 17], argTypes := #[27] }, type := 3, pos := "law.go:18", after := #[{ on := 7, ground := Ground.data }], guard := none }) rfl (by first | rfl | (simp [Region.wanted, yielded]; done)) (by intro w_ hE_; (try dsimp only at hE_); subst hE_; first | (go_simp; done) | (go_simp; rfl)) ?_)
    (try simp only [Act.put, List.setIfInBounds_toArray, List.set_cons_zero, List.set_cons_succ])
    (refine mix_read (o := { dst := some 19, op := Op.binOp BinOp.gtr 3 (Operand.tmp 13) (Operand.tmp 18) 3, type := 4, pos := "law.go:18", after := #[{ on := 3, ground := Ground.data }, { on := 8, ground := Ground.data }], guard := none }) rfl (by first | rfl | (simp [Region.wanted, yielded]; done)) (by intro w_ hE_; (try dsimp only at hE_); subst hE_; first | (go_simp; done) | (go_simp; rfl)) ?_)
    (try simp only [Act.put, List.setIfInBounds_toArray, List.set_cons_zero, List.set_cons_succ])
    refine mix_nil ?_
    go_wp2_with fail
    go_ret
    exact ⟨by rw [HE.out]; rfl, by rw [HW1.out]; exact HBw.out⟩
end Go.Proofs.Ytopclgpimabpcaa.TkB
