/- Contracts of the reference EqEdit at an edit and the same. -/
import Derived.Test.YtfojeegepfjbiaaProg
import Derived.Below
import Derived.Deep.Draws
import Derived.Deep.AppendLies
import Derived.Maps.AppendAt
import Derived.OwnWalk
import Derived.Laws.BytesArg
import Derived.Laws.MakeOwn
import Derived.Laws.OwnMore
import Derived.Deep.OwnRows
import Derived.Tactics
import Derived.Lib.ConvBytes
import Derived.Laws.Slices
import Derived.WalkKit
import Derived.KernelRfl
import Derived.RowKit3
import Derived.Deep.LoopGhost
import Derived.Deep.QuietTactic
import Derived.BigQuiet
import Derived.WideLaws
import Derived.Deep.DeepCutAuto
import Derived.Deep.CutBlock
import Derived.Deep.RegionHeld3
import Derived.Laws.Rows
import Derived.Lib.AppendStr
import Derived.ArgAppend
import Derived.Laws.IdiomCopy
import Derived.OrdersHeld
import Derived.Laws.BitsLemmas
import Derived.RowKit
import Derived.Deep.RegionWith
import Derived.WalkSpells
import Derived.Outline
import Derived.Test.YtfojeegepfjbiaaWWords
import Derived.Test.YtfojeegepfjbiaaWLast
import Derived.Test.YtfojeegepfjbiaaWMore
import Derived.Test.YtfojeegepfjbiaaWArr
import Derived.Test.YtfojeegepfjbiaaWTab
import Derived.Test.YtfojeegepfjbiaaWZeros
import Derived.Test.YtfojeegepfjbiaaWRepsOne
import Derived.Test.YtfojeegepfjbiaaEdN
namespace Go.Proofs.Ytfojeegepfjbiaa.EdO
open Go.RowKit Go.Proofs.YtfojeegepfjbiaaW.PrintWords Go.Proofs.YtfojeegepfjbiaaW.PrintLast Go.Proofs.YtfojeegepfjbiaaW.PrintMore Go.Proofs.Ytfojeegepfjbiaa.Mix Go.Proofs.Ytfojeegepfjbiaa.MixB Go.Proofs.Ytfojeegepfjbiaa.MixT Go.Proofs.Ytfojeegepfjbiaa.Nm Go.Proofs.Ytfojeegepfjbiaa.NmA Go.Proofs.Ytfojeegepfjbiaa.NmB Go.Proofs.Ytfojeegepfjbiaa.NmC Go.Proofs.Ytfojeegepfjbiaa.NmH Go.Proofs.Ytfojeegepfjbiaa.CrP Go.Proofs.Ytfojeegepfjbiaa.CrA Go.Proofs.Ytfojeegepfjbiaa.CrB Go.Proofs.Ytfojeegepfjbiaa.CrC Go.Proofs.Ytfojeegepfjbiaa.CrD Go.Proofs.Ytfojeegepfjbiaa.CrE Go.Proofs.Ytfojeegepfjbiaa.CrG Go.Proofs.Ytfojeegepfjbiaa.CrH Go.Proofs.Ytfojeegepfjbiaa.CrI Go.Proofs.Ytfojeegepfjbiaa.EdZ Go.Proofs.Ytfojeegepfjbiaa.EdA Go.Proofs.Ytfojeegepfjbiaa.EdB Go.Proofs.Ytfojeegepfjbiaa.EdC Go.Proofs.Ytfojeegepfjbiaa.EdD Go.Proofs.Ytfojeegepfjbiaa.EdE Go.Proofs.Ytfojeegepfjbiaa.EdF Go.Proofs.Ytfojeegepfjbiaa.EdG Go.Proofs.Ytfojeegepfjbiaa.EdH Go.Proofs.Ytfojeegepfjbiaa.EdI Go.Proofs.Ytfojeegepfjbiaa.EdJ Go.Proofs.Ytfojeegepfjbiaa.EdK Go.Proofs.Ytfojeegepfjbiaa.EdL Go.Proofs.Ytfojeegepfjbiaa.EdM Go.Proofs.Ytfojeegepfjbiaa.EdN
set_option linter.unusedSimpArgs false
set_option linter.unusedVariables false
attribute [local go_sem] max2_int min2_int max_two min_two

theorem below_lo {N : Nat} {w1 w2 : World} (hs : N ≤ w1.heap.size) (h : Below w1.heap.size w1 w2) : Below N w1 w2 := h.mono hs
theorem cell_lo {D : Nat} {w w' : World} {a : Addr} {v : Value} (hc : w.cell? a = some v) (hD : w.heap.size = D) (h : Below D w w') : w'.cell? a = some v := by subst hD; exact pw_cell_below h hc
theorem store5 {w : World} {r : Nat} {c0 c1 c2 c3 c4 : Value} {t : TypeId} (h : Blk w r #[c0, c1, c2, c3, c4] t) (a b c d e : Value) : ∃ wa wb wc wd we : World,
    w.setCell ⟨r, 0, none⟩ a = wa ∧ wa.setCell ⟨r, 1, none⟩ b = wb ∧ wb.setCell ⟨r, 2, none⟩ c = wc ∧ wc.setCell ⟨r, 3, none⟩ d = wd ∧ wd.setCell ⟨r, 4, none⟩ e = we ∧
    (w.cell? ⟨r, 0, none⟩ = some c0 ∧ wa.cell? ⟨r, 1, none⟩ = some c1 ∧ wb.cell? ⟨r, 2, none⟩ = some c2 ∧ wc.cell? ⟨r, 3, none⟩ = some c3 ∧ wd.cell? ⟨r, 4, none⟩ = some c4) ∧
    (w.frozen? ⟨r, 0, none⟩ = false ∧ wa.frozen? ⟨r, 1, none⟩ = false ∧ wb.frozen? ⟨r, 2, none⟩ = false ∧ wc.frozen? ⟨r, 3, none⟩ = false ∧ wd.frozen? ⟨r, 4, none⟩ = false) ∧
    Blk we r #[a, b, c, d, e] t ∧ w.grownBy we (some r) := by
  have ha := blk_set h 0 a
  have hb := blk_set ha 1 b
  have hc := blk_set hb 2 c
  have hd := blk_set hc 3 d
  have he := blk_set hd 4 e
  exact ⟨_, _, _, _, _, rfl, rfl, rfl, rfl, rfl, ⟨blk_cell h 0, blk_cell ha 1, blk_cell hb 2, blk_cell hc 3, blk_cell hd 4⟩, ⟨blk_frozen h 0, blk_frozen ha 1, blk_frozen hb 2, blk_frozen hc 3, blk_frozen hd 4⟩, he,
    World.grownBy.trans (World.grownBy.trans (World.grownBy.trans (World.grownBy.trans grown_set grown_set) grown_set) grown_set) grown_set⟩
set_option maxRecDepth 100000 in
theorem eqn_same (A : Option Addr) (c : Nat) (A2 : Option Addr) (c2 : Nat) (xs : List Int) (w : World) (hr : (Kd.int .i64).C w A xs.length xs) (hr2 : (Kd.int .i64).C w A2 xs.length xs) :
    Calls Try.prog 73 #[.slice A xs.length c, .slice A2 xs.length c2] w fun e w' => e = .returned (.bool true) ∧ Below w.heap.size w w' := by
  have hln := hr.2.1
  have HR := Aside0.mk hr
  have HR2 := Aside0.mk hr2
  have HB := Aside0.mk (Below.refl w.heap.size w)
  clear hr hr2
  obtain ⟨m, hm⟩ : ∃ q, xs.length = q := ⟨_, rfl⟩
  rw [hm] at HR HR2 hln ⊢
  clear hm
  go_enter Try.func73, Try.ntmps73
  go_wp2_with fail
  go_loopg [5] m (fun q v5 w' => ∃ i : Nat, v5 = .int .i64 (i : Int) ∧ Aside0 (i + q = m) ∧ Aside0 (Below w.heap.size w w'))
  case atStart => exact ⟨0, rfl, ⟨by omega⟩, HB⟩
  case round =>
    clear HB
    obtain ⟨i, rfl, HI, HB⟩ := hrel
    have hix := HI.out
    by_cases hlt : i < m
    · obtain ⟨f, rfl⟩ : ∃ f, gk = f + 1 := ⟨gk - 1, by omega⟩
      obtain ⟨ad, e_, h0⟩ := i64_at (Kd.C_below HR.out HB.out) i hlt
      subst e_
      obtain ⟨ad2, e_, h02⟩ := i64_at (Kd.C_below HR2.out HB.out) i hlt
      subst e_
      generalize xs.getD i 0 = p at *
      have k0 : ((i : Int) < (m : Int)) = True := eq_true (by omega)
      have kw : IntKind.i64.wrap ((i : Int) + 1) = ((i + 1 : Nat) : Int) := by rw [IntKind.wrap_i64]; omega
      clear hix
      go_wp2_with fail
      refine wp_region_mix (fun w_ w1_ => w_ = w1_) [(false, 0), (false, 1), (false, 2), (false, 3), (false, 4), (false, 5), (false, 6), (false, 7), (false, 8)] (by kernel_rfl) (by kernel_rfl) (fun _ => rfl) (fun h h' => h.trans h') (fun wd hhp_ hbw_ => ?_)
      have y1_ := pw_cell_below hbw_ h0
      have y0_ := pw_cell_below hbw_ h02
      clear h0 h02
      have HBw := Aside0.mk (below_step HB.out hbw_)
      clear hhp_ hbw_ HB
      (refine mix_read (o := { dst := some 17, op := Op.move (Operand.tmp 0), type := 63, pos := "ref.go:362", after := #[], guard := none }) rfl (by first | rfl | (simp [Region.wanted, yielded]; done)) (by intro w_ hE_; (try dsimp only at hE_); subst hE_; first | (go_simp; done) | (go_simp; rfl)) ?_)
      (try simp only [Act.put, List.setIfInBounds_toArray, List.set_cons_zero, List.set_cons_succ])
      (refine mix_read (o := { dst := some 18, op := Op.move (Operand.tmp 5), type := 3, pos := "ref.go:362", after := #[], guard := none }) rfl (by first | rfl | (simp [Region.wanted, yielded]; done)) (by intro w_ hE_; (try dsimp only at hE_); subst hE_; first | (go_simp; done) | (go_simp; rfl)) ?_)
      (try simp only [Act.put, List.setIfInBounds_toArray, List.set_cons_zero, List.set_cons_succ])
      (refine mix_read (o := { dst := some 19, op := Op.indexAddr 63 (Operand.tmp 17) (Operand.tmp 18), type := 0, pos := "ref.go:362", after := #[{ on := 0, ground := Ground.data }, { on := 1, ground := Ground.data }], guard := none }) rfl (by first | rfl | (simp [Region.wanted, yielded]; done)) (by intro w_ hE_; (try dsimp only at hE_); subst hE_; first | (go_simp; done) | (go_simp; rfl)) ?_)
      (try simp only [Act.put, List.setIfInBounds_toArray, List.set_cons_zero, List.set_cons_succ])
      (refine mix_read (o := { dst := some 20, op := Op.load 2 (Operand.tmp 19), type := 2, pos := "ref.go:362", after := #[{ on := 2, ground := Ground.data }], guard := none }) rfl (by first | rfl | (simp [Region.wanted, yielded]; done)) (by intro w_ hE_; (try dsimp only at hE_); subst hE_; first | (go_simp; done) | (go_simp; rfl)) ?_)
      (try simp only [Act.put, List.setIfInBounds_toArray, List.set_cons_zero, List.set_cons_succ])
      (refine mix_read (o := { dst := some 21, op := Op.move (Operand.tmp 1), type := 63, pos := "ref.go:362", after := #[], guard := none }) rfl (by first | rfl | (simp [Region.wanted, yielded]; done)) (by intro w_ hE_; (try dsimp only at hE_); subst hE_; first | (go_simp; done) | (go_simp; rfl)) ?_)
      (try simp only [Act.put, List.setIfInBounds_toArray, List.set_cons_zero, List.set_cons_succ])
      (refine mix_read (o := { dst := some 22, op := Op.move (Operand.tmp 5), type := 3, pos := "ref.go:362", after := #[], guard := none }) rfl (by first | rfl | (simp [Region.wanted, yielded]; done)) (by intro w_ hE_; (try dsimp only at hE_); subst hE_; first | (go_simp; done) | (go_simp; rfl)) ?_)
      (try simp only [Act.put, List.setIfInBounds_toArray, List.set_cons_zero, List.set_cons_succ])
      (refine mix_read (o := { dst := some 23, op := Op.indexAddr 63 (Operand.tmp 21) (Operand.tmp 22), type := 0, pos := "ref.go:362", after := #[{ on := 4, ground := Ground.data }, { on := 5, ground := Ground.data }], guard := none }) rfl (by first | rfl | (simp [Region.wanted, yielded]; done)) (by intro w_ hE_; (try dsimp only at hE_); subst hE_; first | (go_simp; done) | (go_simp; rfl)) ?_)
      (try simp only [Act.put, List.setIfInBounds_toArray, List.set_cons_zero, List.set_cons_succ])
      (refine mix_read (o := { dst := some 24, op := Op.load 2 (Operand.tmp 23), type := 2, pos := "ref.go:362", after := #[{ on := 6, ground := Ground.data }], guard := none }) rfl (by first | rfl | (simp [Region.wanted, yielded]; done)) (by intro w_ hE_; (try dsimp only at hE_); subst hE_; first | (go_simp; done) | (go_simp; rfl)) ?_)
      (try simp only [Act.put, List.setIfInBounds_toArray, List.set_cons_zero, List.set_cons_succ])
      (refine mix_read (o := { dst := some 25, op := Op.binOp BinOp.neq 2 (Operand.tmp 20) (Operand.tmp 24) 2, type := 4, pos := "ref.go:362", after := #[{ on := 3, ground := Ground.data }, { on := 7, ground := Ground.data }], guard := none }) rfl (by first | rfl | (simp [Region.wanted, yielded]; done)) (by intro w_ hE_; (try dsimp only at hE_); subst hE_; first | (go_simp; done) | (go_simp; rfl)) ?_)
      (try simp only [Act.put, List.setIfInBounds_toArray, List.set_cons_zero, List.set_cons_succ])
      refine mix_nil ?_
      go_wp2_with fail
      go_roundg f
      case measure => omega
      case rel => exact ⟨i + 1, rfl, ⟨by have := HI.out; omega⟩, HBw⟩
    · have k0 : ((i : Int) < (m : Int)) = False := eq_false (by omega)
      clear hix hlt
      go_wp2
      go_ret
      exact ⟨rfl, HB.out⟩
set_option maxRecDepth 100000 in
set_option maxHeartbeats 2000000 in
theorem eqs_same (A : Option Addr) (c : Nat) (A2 : Option Addr) (c2 : Nat) (xs : List SegT) (w : World) (hr : KSeg.C w A xs.length xs) (hr2 : KSeg.C w A2 xs.length xs) :
    Calls Try.prog 71 #[.slice A xs.length c, .slice A2 xs.length c2] w fun e w' => e = .returned (.bool true) ∧ Below w.heap.size w w' := by
  have hln := hr.2.1
  have HR := Aside0.mk hr
  have HR2 := Aside0.mk hr2
  have HB := Aside0.mk (Below.refl w.heap.size w)
  clear hr hr2
  obtain ⟨mm, hm⟩ : ∃ q, xs.length = q := ⟨_, rfl⟩
  rw [hm] at HR HR2 hln ⊢
  clear hm
  go_enter Try.func71, Try.ntmps71
  go_wp2_with fail
  go_loopg [5] mm (fun q v5 w' => ∃ i : Nat, v5 = .int .i64 (i : Int) ∧ Aside0 (i + q = mm) ∧ Aside0 (Below w.heap.size w w'))
  case atStart => exact ⟨0, rfl, ⟨by omega⟩, HB⟩
  case round =>
    clear HB
    obtain ⟨i, rfl, HI, HB⟩ := hrel
    have hix := HI.out
    by_cases hlt : i < mm
    · obtain ⟨f, rfl⟩ : ∃ f, gk = f + 1 := ⟨gk - 1, by omega⟩
      obtain ⟨ad, e_, y0, y1, y2, y3, y4, y5⟩ := seg_at (Kd.C_below HR.out HB.out) i hlt
      subst e_
      obtain ⟨ad2, e_, r0, r1, r2, r3, r4, r5⟩ := seg_at (Kd.C_below HR2.out HB.out) i hlt
      subst e_
      generalize xs.getD i seg0 = s at *
      obtain ⟨n, sl, g, m, z, u⟩ := s
      dsimp only at y0 y1 y2 y3 y4 y5 r0 r1 r2 r3 r4 r5
      obtain ⟨D, hD⟩ : ∃ q, wr.heap.size = q := ⟨_, rfl⟩
      have HD := Aside0.mk hD
      have HSB : Aside0 (w.heap.size ≤ D) := ⟨by have := HB.out.size; omega⟩
      have HA := Aside0.mk (fun w_ h => And.intro (cell_lo (w' := w_) y0 hD h) (And.intro (cell_lo y1 hD h) (And.intro (cell_lo y2 hD h) (And.intro (cell_lo y3 hD h) (And.intro (cell_lo y4 hD h) (cell_lo y5 hD h))))))
      have HA2 := Aside0.mk (fun w_ h => And.intro (cell_lo (w' := w_) r0 hD h) (And.intro (cell_lo r1 hD h) (And.intro (cell_lo r2 hD h) (And.intro (cell_lo r3 hD h) (And.intro (cell_lo r4 hD h) (cell_lo r5 hD h))))))
      have k0 : ((i : Int) < (mm : Int)) = True := eq_true (by omega)
      have kw : IntKind.i64.wrap ((i : Int) + 1) = ((i + 1 : Nat) : Int) := by rw [IntKind.wrap_i64]; omega
      clear hix y0 y1 y2 y3 y4 y5 r0 r1 r2 r3 r4 r5 hD
      go_wp2_with fail
      refine wp_region_tree (fun w_ w1_ => Below D w_ w1_) (.rd 0 (.rd 1 (.rd 2 (.rd 3 (.rd 4 (.rd 5 (.rd 6 (.rd 7 (.two 8 9 (.ef 9 (.ef 10 (.ef 11 .nil))) (.ef 8 (.ef 10 (.ef 11 .nil)))))))))))) (by kernel_rfl) (by kernel_rfl) (fun _ => Below.refl _ _) (fun h h' => h.trans h') (fun wd hhp_ hbw_ => ?_)
      have HDw : Aside0 (D ≤ wd.heap.size) := ⟨by have := hbw_.size; have := HD.out; omega⟩
      have HBd := Aside0.mk (HB.out.trans (hbw_.mono (by have := HD.out; have := HSB.out; omega)))
      have HBDd := Aside0.mk (show Below D wr wd from hbw_.mono (Nat.le_of_eq HD.out.symm))
      have hA := fun w_ h => HA.out w_ (HBDd.out.trans h)
      have hA2 := fun w_ h => HA2.out w_ (HBDd.out.trans h)
      clear hhp_ hbw_
      (refine t_read (o := { dst := some 19, op := Op.move (Operand.tmp 0), type := 62, pos := "ref.go:333", after := #[], guard := none }) rfl (by first | rfl | (simp [Region.wanted, yielded]; done)) (by intro w_ hE_; (try dsimp only at hE_); first | (go_simp; done) | (go_simp; rfl)) ?_)
      (try simp only [Act.put, List.setIfInBounds_toArray, List.set_cons_zero, List.set_cons_succ])
      (refine t_read (o := { dst := some 20, op := Op.move (Operand.tmp 5), type := 3, pos := "ref.go:333", after := #[], guard := none }) rfl (by first | rfl | (simp [Region.wanted, yielded]; done)) (by intro w_ hE_; (try dsimp only at hE_); first | (go_simp; done) | (go_simp; rfl)) ?_)
      (try simp only [Act.put, List.setIfInBounds_toArray, List.set_cons_zero, List.set_cons_succ])
      (refine t_read (o := { dst := some 21, op := Op.indexAddr 62 (Operand.tmp 19) (Operand.tmp 20), type := 0, pos := "ref.go:333", after := #[{ on := 0, ground := Ground.data }, { on := 1, ground := Ground.data }], guard := none }) rfl (by first | rfl | (simp [Region.wanted, yielded]; done)) (by intro w_ hE_; (try dsimp only at hE_); first | (go_simp; done) | (go_simp; rfl)) ?_)
      (try simp only [Act.put, List.setIfInBounds_toArray, List.set_cons_zero, List.set_cons_succ])
      (refine t_read (o := { dst := some 22, op := Op.load 77 (Operand.tmp 21), type := 77, pos := "ref.go:333", after := #[{ on := 2, ground := Ground.data }], guard := none }) rfl (by first | rfl | (simp [Region.wanted, yielded]; done)) (by intro w_ hE_; (try dsimp only at hE_); obtain ⟨z0_, z1_, z2_, z3_, z4_, z5_⟩ := hA w_ hE_; first | (go_simp; done) | (go_simp; rfl)) ?_)
      (try simp only [Act.put, List.setIfInBounds_toArray, List.set_cons_zero, List.set_cons_succ])
      (refine t_read (o := { dst := some 23, op := Op.move (Operand.tmp 1), type := 62, pos := "ref.go:333", after := #[{ on := 10, ground := Ground.gcOnly Departure.lateStores }], guard := none }) rfl (by first | rfl | (simp [Region.wanted, yielded]; done)) (by intro w_ hE_; (try dsimp only at hE_); first | (go_simp; done) | (go_simp; rfl)) ?_)
      (try simp only [Act.put, List.setIfInBounds_toArray, List.set_cons_zero, List.set_cons_succ])
      (refine t_read (o := { dst := some 24, op := Op.move (Operand.tmp 5), type := 3, pos := "ref.go:333", after := #[{ on := 10, ground := Ground.gcOnly Departure.lateStores }], guard := none }) rfl (by first | rfl | (simp [Region.wanted, yielded]; done)) (by intro w_ hE_; (try dsimp only at hE_); first | (go_simp; done) | (go_simp; rfl)) ?_)
      (try simp only [Act.put, List.setIfInBounds_toArray, List.set_cons_zero, List.set_cons_succ])
      (refine t_read (o := { dst := some 25, op := Op.indexAddr 62 (Operand.tmp 23) (Operand.tmp 24), type := 0, pos := "ref.go:333", after := #[{ on := 4, ground := Ground.data }, { on := 5, ground := Ground.data }, { on := 10, ground := Ground.gcOnly Departure.lateStores }], guard := none }) rfl (by first | rfl | (simp [Region.wanted, yielded]; done)) (by intro w_ hE_; (try dsimp only at hE_); first | (go_simp; done) | (go_simp; rfl)) ?_)
      (try simp only [Act.put, List.setIfInBounds_toArray, List.set_cons_zero, List.set_cons_succ])
      (refine t_read (o := { dst := some 26, op := Op.load 77 (Operand.tmp 25), type := 77, pos := "ref.go:333", after := #[{ on := 6, ground := Ground.data }, { on := 10, ground := Ground.gcOnly Departure.lateStores }], guard := none }) rfl (by first | rfl | (simp [Region.wanted, yielded]; done)) (by intro w_ hE_; (try dsimp only at hE_); obtain ⟨z0_, z1_, z2_, z3_, z4_, z5_⟩ := hA2 w_ hE_; first | (go_simp; done) | (go_simp; rfl)) ?_)
      (try simp only [Act.put, List.setIfInBounds_toArray, List.set_cons_zero, List.set_cons_succ])
      refine t_two ?_ ?_
      · refine s_val (o := { dst := some 6, op := Op.alloc 77, type := 0, pos := "ref.go:333", after := #[], guard := none }) (w1 := (wd.alloc (.cells #[.int .i64 0, .bool false, .int .i64 0, .int .i64 0, .int .i64 0, .int .u32 0] 77 (0, 0)))) rfl (by first | rfl | (simp [Region.wanted, yielded]; done)) (by first | (go_simp; done) | (go_simp; rfl)) (below_lo HDw.out ((Below.refl wd.heap.size wd).alloc (Nat.le_refl _) (.cells #[.int .i64 0, .bool false, .int .i64 0, .int .i64 0, .int .i64 0, .int .u32 0] 77 (0, 0)))) ?_
        (try simp only [Act.put, List.setIfInBounds_toArray, List.set_cons_zero, List.set_cons_succ])
        refine t_ef ?_
        refine s_val (o := { dst := some 7, op := Op.alloc 77, type := 0, pos := "ref.go:333", after := #[], guard := none }) (w1 := ((wd.alloc (.cells #[.int .i64 0, .bool false, .int .i64 0, .int .i64 0, .int .i64 0, .int .u32 0] 77 (0, 0))).alloc (.cells #[.int .i64 0, .bool false, .int .i64 0, .int .i64 0, .int .i64 0, .int .u32 0] 77 (0, 0)))) rfl (by first | rfl | (simp [Region.wanted, yielded]; done)) (by first | (go_simp; done) | (go_simp; rfl)) (below_lo (by have := HDw.out; simp; omega) ((Below.refl _ _).alloc (Nat.le_refl _) (.cells #[.int .i64 0, .bool false, .int .i64 0, .int .i64 0, .int .i64 0, .int .u32 0] 77 (0, 0)))) ?_
        (try simp only [Act.put, List.setIfInBounds_toArray, List.set_cons_zero, List.set_cons_succ])
        obtain ⟨hba, hbb, hbe⟩ := alloc2 wd (.cells #[.int .i64 0, .bool false, .int .i64 0, .int .i64 0, .int .i64 0, .int .u32 0] 77 (0, 0)) (.cells #[.int .i64 0, .bool false, .int .i64 0, .int .i64 0, .int .i64 0, .int .u32 0] 77 (0, 0))
        obtain ⟨w2, hw2⟩ : ∃ q, (wd.alloc (.cells #[.int .i64 0, .bool false, .int .i64 0, .int .i64 0, .int .i64 0, .int .u32 0] 77 (0, 0))).alloc (.cells #[.int .i64 0, .bool false, .int .i64 0, .int .i64 0, .int .i64 0, .int .u32 0] 77 (0, 0)) = q := ⟨_, rfl⟩
        rw [hw2] at hba hbb hbe
        obtain ⟨x, hg0⟩ : ∃ q, wd.heap.size = q := ⟨_, rfl⟩
        rw [hg0] at hba hbb
        obtain ⟨y, hg1⟩ : ∃ q, x + 1 = q := ⟨_, rfl⟩
        rw [hg1] at hbb
        have hx_ : w2.heap[x]? = some (.cells #[.int .i64 0, .bool false, .int .i64 0, .int .i64 0, .int .i64 0, .int .u32 0] 77 (0, 0)) := hba
        have hy_ : w2.heap[y]? = some (.cells #[.int .i64 0, .bool false, .int .i64 0, .int .i64 0, .int .i64 0, .int .u32 0] 77 (0, 0)) := hbb
        have hxy : x ≠ y := by omega
        have hdx : D ≤ x ∧ D ≤ y := by have := HDw.out; omega
        obtain ⟨xwa, xwb, xwc, xwd, xwe, xwf, xea, xeb, xec, xed, xee, xef, ⟨xza, xzb, xzc, xzd, xze, xzf⟩, ⟨xfa, xfb, xfc, xfd, xfe, xff⟩, hxf, hxg⟩ := store6 hx_ (.int .i64 n) (.bool sl) (.int .i64 g) (.int .i64 m) (.int .i64 z) (.int .u32 u)
        have hyf := num_blk hy_ hxg (fun e_ => hxy e_.symm)
        obtain ⟨ywa, ywb, ywc, ywd, ywe, ywf, yea, yeb, yec, yed, yee, yef, ⟨yza, yzb, yzc, yzd, yze, yzf⟩, ⟨yfa, yfb, yfc, yfd, yfe, yff⟩, hyz, hyg⟩ := store6 hyf (.int .i64 n) (.bool sl) (.int .i64 g) (.int .i64 m) (.int .i64 z) (.int .u32 u)
        have hxz := num_blk hxf hyg hxy
        have hbz := (below_lo HDw.out hbe).trans ((pw_below_grown (Below.refl D w2) (some x) (by have := hbe.size; have := HDw.out; omega) hxg (fun q hq => by injection hq with hq; omega)).trans (pw_below_grown (Below.refl D _) (some y) (by have := hbe.size; have := hxg.size; have := HDw.out; omega) hyg (fun q hq => by injection hq with hq; omega)))
        rw [hw2]
        refine t_ef ?_
        refine s_store (o := { dst := none, op := Op.store 77 (Operand.tmp 6) (Operand.tmp 22), type := 0, pos := "ref.go:333", after := #[{ on := 8, ground := Ground.data }, { on := 3, ground := Ground.data }, { on := 0, ground := Ground.phase }, { on := 1, ground := Ground.phase }, { on := 2, ground := Ground.phase }, { on := 3, ground := Ground.phase }, { on := 4, ground := Ground.textOnly Departure.lateStores }, { on := 5, ground := Ground.textOnly Departure.lateStores }, { on := 6, ground := Ground.textOnly Departure.lateStores }, { on := 7, ground := Ground.textOnly Departure.lateStores }, { on := 8, ground := Ground.phase }, { on := 9, ground := Ground.phase }], guard := none }) (w1 := xwf) rfl (by first | rfl | (simp [Region.wanted, yielded]; done)) (by first | (go_simp; done) | (go_simp; rfl)) (pw_below_grown (Below.refl D w2) (some x) (by have := hbe.size; have := HDw.out; omega) hxg (fun q hq => by injection hq with hq; omega)) ?_
        (try simp only [Act.put, List.setIfInBounds_toArray, List.set_cons_zero, List.set_cons_succ])
        refine t_ef ?_
        refine s_store (o := { dst := none, op := Op.store 77 (Operand.tmp 7) (Operand.tmp 26), type := 0, pos := "ref.go:333", after := #[{ on := 9, ground := Ground.data }, { on := 7, ground := Ground.data }, { on := 10, ground := Ground.chain }, { on := 0, ground := Ground.phase }, { on := 1, ground := Ground.phase }, { on := 2, ground := Ground.phase }, { on := 3, ground := Ground.phase }, { on := 4, ground := Ground.phase }, { on := 5, ground := Ground.phase }, { on := 6, ground := Ground.phase }, { on := 7, ground := Ground.phase }, { on := 8, ground := Ground.phase }, { on := 9, ground := Ground.phase }, { on := 10, ground := Ground.phase }], guard := none }) (w1 := ywf) rfl (by first | rfl | (simp [Region.wanted, yielded]; done)) (by first | (go_simp; done) | (go_simp; rfl)) (pw_below_grown (Below.refl D _) (some y) (by have := hbe.size; have := hxg.size; have := HDw.out; omega) hyg (fun q hq => by injection hq with hq; omega)) ?_
        (try simp only [Act.put, List.setIfInBounds_toArray, List.set_cons_zero, List.set_cons_succ])
        refine t_nil ?_
        have HXZ := Aside0.mk hxz
        have HYZ := Aside0.mk hyz
        have HBZ := Aside0.mk (HBd.out.trans (hbz.mono HSB.out))
        have HBD := Aside0.mk (HBDd.out.trans hbz)
        clear hba hbb hbe hx_ hy_ hxy hdx hxf hxg hyf hyg hxz hyz hbz hw2 xza xfa yza yfa xea yea xzb xfb yzb yfb xeb yeb xzc xfc yzc yfc xec yec xzd xfd yzd yfd xed yed xze xfe yze yfe xee yee xzf xff yzf yff xef yef

        generalize ywf = w9 at *
        have x0 : w9.cell? ⟨x, 0, none⟩ = some (.int .i64 n) := blk_cell HXZ.out 0
        have x1 : w9.cell? ⟨x, 1, none⟩ = some (.bool sl) := blk_cell HXZ.out 1
        have x2 : w9.cell? ⟨x, 2, none⟩ = some (.int .i64 g) := blk_cell HXZ.out 2
        have x3 : w9.cell? ⟨x, 3, none⟩ = some (.int .i64 m) := blk_cell HXZ.out 3
        have x4 : w9.cell? ⟨x, 4, none⟩ = some (.int .i64 z) := blk_cell HXZ.out 4
        have x5 : w9.cell? ⟨x, 5, none⟩ = some (.int .u32 u) := blk_cell HXZ.out 5
        have v0 : w9.cell? ⟨y, 0, none⟩ = some (.int .i64 n) := blk_cell HYZ.out 0
        have v1 : w9.cell? ⟨y, 1, none⟩ = some (.bool sl) := blk_cell HYZ.out 1
        have v2 : w9.cell? ⟨y, 2, none⟩ = some (.int .i64 g) := blk_cell HYZ.out 2
        have v3 : w9.cell? ⟨y, 3, none⟩ = some (.int .i64 m) := blk_cell HYZ.out 3
        have v4 : w9.cell? ⟨y, 4, none⟩ = some (.int .i64 z) := blk_cell HYZ.out 4
        have v5 : w9.cell? ⟨y, 5, none⟩ = some (.int .u32 u) := blk_cell HYZ.out 5
        go_wp2_with fail
        go_roundg f
        case measure => omega
        case rel => exact ⟨i + 1, rfl, ⟨by have := HI.out; omega⟩, HBZ⟩
      · refine s_val (o := { dst := some 7, op := Op.alloc 77, type := 0, pos := "ref.go:333", after := #[], guard := none }) (w1 := (wd.alloc (.cells #[.int .i64 0, .bool false, .int .i64 0, .int .i64 0, .int .i64 0, .int .u32 0] 77 (0, 0)))) rfl (by first | rfl | (simp [Region.wanted, yielded]; done)) (by first | (go_simp; done) | (go_simp; rfl)) (below_lo HDw.out ((Below.refl wd.heap.size wd).alloc (Nat.le_refl _) (.cells #[.int .i64 0, .bool false, .int .i64 0, .int .i64 0, .int .i64 0, .int .u32 0] 77 (0, 0)))) ?_
        (try simp only [Act.put, List.setIfInBounds_toArray, List.set_cons_zero, List.set_cons_succ])
        refine t_ef ?_
        refine s_val (o := { dst := some 6, op := Op.alloc 77, type := 0, pos := "ref.go:333", after := #[], guard := none }) (w1 := ((wd.alloc (.cells #[.int .i64 0, .bool false, .int .i64 0, .int .i64 0, .int .i64 0, .int .u32 0] 77 (0, 0))).alloc (.cells #[.int .i64 0, .bool false, .int .i64 0, .int .i64 0, .int .i64 0, .int .u32 0] 77 (0, 0)))) rfl (by first | rfl | (simp [Region.wanted, yielded]; done)) (by first | (go_simp; done) | (go_simp; rfl)) (below_lo (by have := HDw.out; simp; omega) ((Below.refl _ _).alloc (Nat.le_refl _) (.cells #[.int .i64 0, .bool false, .int .i64 0, .int .i64 0, .int .i64 0, .int .u32 0] 77 (0, 0)))) ?_
        (try simp only [Act.put, List.setIfInBounds_toArray, List.set_cons_zero, List.set_cons_succ])
        obtain ⟨hba, hbb, hbe⟩ := alloc2 wd (.cells #[.int .i64 0, .bool false, .int .i64 0, .int .i64 0, .int .i64 0, .int .u32 0] 77 (0, 0)) (.cells #[.int .i64 0, .bool false, .int .i64 0, .int .i64 0, .int .i64 0, .int .u32 0] 77 (0, 0))
        obtain ⟨w2, hw2⟩ : ∃ q, (wd.alloc (.cells #[.int .i64 0, .bool false, .int .i64 0, .int .i64 0, .int .i64 0, .int .u32 0] 77 (0, 0))).alloc (.cells #[.int .i64 0, .bool false, .int .i64 0, .int .i64 0, .int .i64 0, .int .u32 0] 77 (0, 0)) = q := ⟨_, rfl⟩
        rw [hw2] at hba hbb hbe
        obtain ⟨y, hg0⟩ : ∃ q, wd.heap.size = q := ⟨_, rfl⟩
        rw [hg0] at hba hbb
        obtain ⟨x, hg1⟩ : ∃ q, y + 1 = q := ⟨_, rfl⟩
        rw [hg1] at hbb
        have hx_ : w2.heap[x]? = some (.cells #[.int .i64 0, .bool false, .int .i64 0, .int .i64 0, .int .i64 0, .int .u32 0] 77 (0, 0)) := hbb
        have hy_ : w2.heap[y]? = some (.cells #[.int .i64 0, .bool false, .int .i64 0, .int .i64 0, .int .i64 0, .int .u32 0] 77 (0, 0)) := hba
        have hxy : x ≠ y := by omega
        have hdx : D ≤ x ∧ D ≤ y := by have := HDw.out; omega
        obtain ⟨xwa, xwb, xwc, xwd, xwe, xwf, xea, xeb, xec, xed, xee, xef, ⟨xza, xzb, xzc, xzd, xze, xzf⟩, ⟨xfa, xfb, xfc, xfd, xfe, xff⟩, hxf, hxg⟩ := store6 hx_ (.int .i64 n) (.bool sl) (.int .i64 g) (.int .i64 m) (.int .i64 z) (.int .u32 u)
        have hyf := num_blk hy_ hxg (fun e_ => hxy e_.symm)
        obtain ⟨ywa, ywb, ywc, ywd, ywe, ywf, yea, yeb, yec, yed, yee, yef, ⟨yza, yzb, yzc, yzd, yze, yzf⟩, ⟨yfa, yfb, yfc, yfd, yfe, yff⟩, hyz, hyg⟩ := store6 hyf (.int .i64 n) (.bool sl) (.int .i64 g) (.int .i64 m) (.int .i64 z) (.int .u32 u)
        have hxz := num_blk hxf hyg hxy
        have hbz := (below_lo HDw.out hbe).trans ((pw_below_grown (Below.refl D w2) (some x) (by have := hbe.size; have := HDw.out; omega) hxg (fun q hq => by injection hq with hq; omega)).trans (pw_below_grown (Below.refl D _) (some y) (by have := hbe.size; have := hxg.size; have := HDw.out; omega) hyg (fun q hq => by injection hq with hq; omega)))
        rw [hw2]
        refine t_ef ?_
        refine s_store (o := { dst := none, op := Op.store 77 (Operand.tmp 6) (Operand.tmp 22), type := 0, pos := "ref.go:333", after := #[{ on := 8, ground := Ground.data }, { on := 3, ground := Ground.data }, { on := 0, ground := Ground.phase }, { on := 1, ground := Ground.phase }, { on := 2, ground := Ground.phase }, { on := 3, ground := Ground.phase }, { on := 4, ground := Ground.textOnly Departure.lateStores }, { on := 5, ground := Ground.textOnly Departure.lateStores }, { on := 6, ground := Ground.textOnly Departure.lateStores }, { on := 7, ground := Ground.textOnly Departure.lateStores }, { on := 8, ground := Ground.phase }, { on := 9, ground := Ground.phase }], guard := none }) (w1 := xwf) rfl (by first | rfl | (simp [Region.wanted, yielded]; done)) (by first | (go_simp; done) | (go_simp; rfl)) (pw_below_grown (Below.refl D w2) (some x) (by have := hbe.size; have := HDw.out; omega) hxg (fun q hq => by injection hq with hq; omega)) ?_
        (try simp only [Act.put, List.setIfInBounds_toArray, List.set_cons_zero, List.set_cons_succ])
        refine t_ef ?_
        refine s_store (o := { dst := none, op := Op.store 77 (Operand.tmp 7) (Operand.tmp 26), type := 0, pos := "ref.go:333", after := #[{ on := 9, ground := Ground.data }, { on := 7, ground := Ground.data }, { on := 10, ground := Ground.chain }, { on := 0, ground := Ground.phase }, { on := 1, ground := Ground.phase }, { on := 2, ground := Ground.phase }, { on := 3, ground := Ground.phase }, { on := 4, ground := Ground.phase }, { on := 5, ground := Ground.phase }, { on := 6, ground := Ground.phase }, { on := 7, ground := Ground.phase }, { on := 8, ground := Ground.phase }, { on := 9, ground := Ground.phase }, { on := 10, ground := Ground.phase }], guard := none }) (w1 := ywf) rfl (by first | rfl | (simp [Region.wanted, yielded]; done)) (by first | (go_simp; done) | (go_simp; rfl)) (pw_below_grown (Below.refl D _) (some y) (by have := hbe.size; have := hxg.size; have := HDw.out; omega) hyg (fun q hq => by injection hq with hq; omega)) ?_
        (try simp only [Act.put, List.setIfInBounds_toArray, List.set_cons_zero, List.set_cons_succ])
        refine t_nil ?_
        have HXZ := Aside0.mk hxz
        have HYZ := Aside0.mk hyz
        have HBZ := Aside0.mk (HBd.out.trans (hbz.mono HSB.out))
        have HBD := Aside0.mk (HBDd.out.trans hbz)
        clear hba hbb hbe hx_ hy_ hxy hdx hxf hxg hyf hyg hxz hyz hbz hw2 xza xfa yza yfa xea yea xzb xfb yzb yfb xeb yeb xzc xfc yzc yfc xec yec xzd xfd yzd yfd xed yed xze xfe yze yfe xee yee xzf xff yzf yff xef yef

        generalize ywf = w9 at *
        have x0 : w9.cell? ⟨x, 0, none⟩ = some (.int .i64 n) := blk_cell HXZ.out 0
        have x1 : w9.cell? ⟨x, 1, none⟩ = some (.bool sl) := blk_cell HXZ.out 1
        have x2 : w9.cell? ⟨x, 2, none⟩ = some (.int .i64 g) := blk_cell HXZ.out 2
        have x3 : w9.cell? ⟨x, 3, none⟩ = some (.int .i64 m) := blk_cell HXZ.out 3
        have x4 : w9.cell? ⟨x, 4, none⟩ = some (.int .i64 z) := blk_cell HXZ.out 4
        have x5 : w9.cell? ⟨x, 5, none⟩ = some (.int .u32 u) := blk_cell HXZ.out 5
        have v0 : w9.cell? ⟨y, 0, none⟩ = some (.int .i64 n) := blk_cell HYZ.out 0
        have v1 : w9.cell? ⟨y, 1, none⟩ = some (.bool sl) := blk_cell HYZ.out 1
        have v2 : w9.cell? ⟨y, 2, none⟩ = some (.int .i64 g) := blk_cell HYZ.out 2
        have v3 : w9.cell? ⟨y, 3, none⟩ = some (.int .i64 m) := blk_cell HYZ.out 3
        have v4 : w9.cell? ⟨y, 4, none⟩ = some (.int .i64 z) := blk_cell HYZ.out 4
        have v5 : w9.cell? ⟨y, 5, none⟩ = some (.int .u32 u) := blk_cell HYZ.out 5
        go_wp2_with fail
        go_roundg f
        case measure => omega
        case rel => exact ⟨i + 1, rfl, ⟨by have := HI.out; omega⟩, HBZ⟩
    · have k0 : ((i : Int) < (mm : Int)) = False := eq_false (by omega)
      clear hix hlt
      go_wp2
      go_ret
      exact ⟨rfl, HB.out⟩
set_option maxRecDepth 100000 in
set_option maxHeartbeats 4000000 in
theorem eqp_same (A : Option Addr) (c : Nat) (A2 : Option Addr) (c2 : Nat) (xs : List ParT) (w : World) (hr : KPar.C w A xs.length xs) (hr2 : KPar.C w A2 xs.length xs) :
    Calls Try.prog 72 #[.slice A xs.length c, .slice A2 xs.length c2] w fun e w' => e = .returned (.bool true) ∧ Below w.heap.size w w' := by
  have hln := hr.2.1
  have HR := Aside0.mk hr
  have HR2 := Aside0.mk hr2
  have HB := Aside0.mk (Below.refl w.heap.size w)
  clear hr hr2
  obtain ⟨mm, hm⟩ : ∃ q, xs.length = q := ⟨_, rfl⟩
  rw [hm] at HR HR2 hln ⊢
  clear hm
  go_enter Try.func72, Try.ntmps72
  go_wp2_with fail
  go_loopg [5] mm (fun q v5 w' => ∃ i : Nat, v5 = .int .i64 (i : Int) ∧ Aside0 (i + q = mm) ∧ Aside0 (Below w.heap.size w w'))
  case atStart => exact ⟨0, rfl, ⟨by omega⟩, HB⟩
  case round =>
    clear HB
    obtain ⟨i, rfl, HI, HB⟩ := hrel
    have hix := HI.out
    by_cases hlt : i < mm
    · obtain ⟨f, rfl⟩ : ∃ f, gk = f + 1 := ⟨gk - 1, by omega⟩
      obtain ⟨ad, P1, d1, P2, d2, e_, y0, y1, y2, y3, y4, l1, l2, s1, s2⟩ := par_at (Kd.C_below HR.out HB.out) i hlt
      subst e_
      obtain ⟨ad2, Q1, f1, Q2, f2, e_, r0, r1, r2, r3, r4, l3, l4, s3, s4⟩ := par_at (Kd.C_below HR2.out HB.out) i hlt
      subst e_
      generalize xs.getD i par0 = s at *
      obtain ⟨g, ns, zs, z, u⟩ := s
      dsimp only at y0 y1 y2 y3 y4 r0 r1 r2 r3 r4 s1 s2 s3 s4
      obtain ⟨D, hD⟩ : ∃ q, wr.heap.size = q := ⟨_, rfl⟩
      have HD := Aside0.mk hD
      have HSB : Aside0 (w.heap.size ≤ D) := ⟨by have := HB.out.size; omega⟩
      have HS := Aside0.mk (fun wx h => And.intro (C_up (wx := wx) hD h s1) (And.intro (C_up hD h s3) (And.intro (C_up hD h s2) (C_up hD h s4))))
      have HZL : Aside0 (zs.length ≤ 9223372036854775807) := ⟨s2.2.1⟩
      have HEQ := Aside0.mk (fun w h1 h2 => eqn_same P1 d1 Q1 f1 ns w h1 h2)
      obtain ⟨n1, hn1⟩ : ∃ q, ns.length = q := ⟨_, rfl⟩
      obtain ⟨n2, hn2⟩ : ∃ q, zs.length = q := ⟨_, rfl⟩
      rw [hn1] at y1 r1
      rw [hn2] at y2 r2
      rw [hn1, hn2] at HS
      rw [hn1] at HEQ
      rw [hn2] at HZL
      have HA := Aside0.mk (fun w_ h => And.intro (cell_lo (w' := w_) y0 hD h) (And.intro (cell_lo y1 hD h) (And.intro (cell_lo y2 hD h) (And.intro (cell_lo y3 hD h) (cell_lo y4 hD h)))))
      have HA2 := Aside0.mk (fun w_ h => And.intro (cell_lo (w' := w_) r0 hD h) (And.intro (cell_lo r1 hD h) (And.intro (cell_lo r2 hD h) (And.intro (cell_lo r3 hD h) (cell_lo r4 hD h)))))
      have k0 : ((i : Int) < (mm : Int)) = True := eq_true (by omega)
      have kw : IntKind.i64.wrap ((i : Int) + 1) = ((i + 1 : Nat) : Int) := by rw [IntKind.wrap_i64]; omega
      clear hix y0 y1 y2 y3 y4 r0 r1 r2 r3 r4 hD l1 l2 l3 l4 s1 s2 s3 s4 hn1 hn2
      go_wp2_with fail
      refine wp_region_tree (fun w_ w1_ => Below D w_ w1_) (.rd 0 (.rd 1 (.rd 2 (.rd 3 (.rd 4 (.rd 5 (.rd 6 (.rd 7 (.two 8 9 (.ef 9 (.ef 10 (.ef 11 .nil))) (.ef 8 (.ef 10 (.ef 11 .nil)))))))))))) (by kernel_rfl) (by kernel_rfl) (fun _ => Below.refl _ _) (fun h h' => h.trans h') (fun wd hhp_ hbw_ => ?_)
      have HDw : Aside0 (D ≤ wd.heap.size) := ⟨by have := hbw_.size; have := HD.out; omega⟩
      have HBd := Aside0.mk (HB.out.trans (hbw_.mono (by have := HD.out; have := HSB.out; omega)))
      have HBDd := Aside0.mk (show Below D wr wd from hbw_.mono (Nat.le_of_eq HD.out.symm))
      have hA := fun w_ h => HA.out w_ (HBDd.out.trans h)
      have hA2 := fun w_ h => HA2.out w_ (HBDd.out.trans h)
      clear hhp_ hbw_
      (refine t_read (o := { dst := some 20, op := Op.move (Operand.tmp 0), type := 64, pos := "ref.go:345", after := #[], guard := none }) rfl (by first | rfl | (simp [Region.wanted, yielded]; done)) (by intro w_ hE_; (try dsimp only at hE_); first | (go_simp; done) | (go_simp; rfl)) ?_)
      (try simp only [Act.put, List.setIfInBounds_toArray, List.set_cons_zero, List.set_cons_succ])
      (refine t_read (o := { dst := some 21, op := Op.move (Operand.tmp 5), type := 3, pos := "ref.go:345", after := #[], guard := none }) rfl (by first | rfl | (simp [Region.wanted, yielded]; done)) (by intro w_ hE_; (try dsimp only at hE_); first | (go_simp; done) | (go_simp; rfl)) ?_)
      (try simp only [Act.put, List.setIfInBounds_toArray, List.set_cons_zero, List.set_cons_succ])
      (refine t_read (o := { dst := some 22, op := Op.indexAddr 64 (Operand.tmp 20) (Operand.tmp 21), type := 0, pos := "ref.go:345", after := #[{ on := 0, ground := Ground.data }, { on := 1, ground := Ground.data }], guard := none }) rfl (by first | rfl | (simp [Region.wanted, yielded]; done)) (by intro w_ hE_; (try dsimp only at hE_); first | (go_simp; done) | (go_simp; rfl)) ?_)
      (try simp only [Act.put, List.setIfInBounds_toArray, List.set_cons_zero, List.set_cons_succ])
      (refine t_read (o := { dst := some 23, op := Op.load 90 (Operand.tmp 22), type := 90, pos := "ref.go:345", after := #[{ on := 2, ground := Ground.data }], guard := none }) rfl (by first | rfl | (simp [Region.wanted, yielded]; done)) (by intro w_ hE_; (try dsimp only at hE_); obtain ⟨z0_, z1_, z2_, z3_, z4_⟩ := hA w_ hE_; first | (go_simp; done) | (go_simp; rfl)) ?_)
      (try simp only [Act.put, List.setIfInBounds_toArray, List.set_cons_zero, List.set_cons_succ])
      (refine t_read (o := { dst := some 24, op := Op.move (Operand.tmp 1), type := 64, pos := "ref.go:345", after := #[{ on := 10, ground := Ground.gcOnly Departure.lateStores }], guard := none }) rfl (by first | rfl | (simp [Region.wanted, yielded]; done)) (by intro w_ hE_; (try dsimp only at hE_); first | (go_simp; done) | (go_simp; rfl)) ?_)
      (try simp only [Act.put, List.setIfInBounds_toArray, List.set_cons_zero, List.set_cons_succ])
      (refine t_read (o := { dst := some 25, op := Op.move (Operand.tmp 5), type := 3, pos := "ref.go:345", after := #[{ on := 10, ground := Ground.gcOnly Departure.lateStores }], guard := none }) rfl (by first | rfl | (simp [Region.wanted, yielded]; done)) (by intro w_ hE_; (try dsimp only at hE_); first | (go_simp; done) | (go_simp; rfl)) ?_)
      (try simp only [Act.put, List.setIfInBounds_toArray, List.set_cons_zero, List.set_cons_succ])
      (refine t_read (o := { dst := some 26, op := Op.indexAddr 64 (Operand.tmp 24) (Operand.tmp 25), type := 0, pos := "ref.go:345", after := #[{ on := 4, ground := Ground.data }, { on := 5, ground := Ground.data }, { on := 10, ground := Ground.gcOnly Departure.lateStores }], guard := none }) rfl (by first | rfl | (simp [Region.wanted, yielded]; done)) (by intro w_ hE_; (try dsimp only at hE_); first | (go_simp; done) | (go_simp; rfl)) ?_)
      (try simp only [Act.put, List.setIfInBounds_toArray, List.set_cons_zero, List.set_cons_succ])
      (refine t_read (o := { dst := some 27, op := Op.load 90 (Operand.tmp 26), type := 90, pos := "ref.go:345", after := #[{ on := 6, ground := Ground.data }, { on := 10, ground := Ground.gcOnly Departure.lateStores }], guard := none }) rfl (by first | rfl | (simp [Region.wanted, yielded]; done)) (by intro w_ hE_; (try dsimp only at hE_); obtain ⟨z0_, z1_, z2_, z3_, z4_⟩ := hA2 w_ hE_; first | (go_simp; done) | (go_simp; rfl)) ?_)
      (try simp only [Act.put, List.setIfInBounds_toArray, List.set_cons_zero, List.set_cons_succ])
      refine t_two ?_ ?_
      · refine s_val (o := { dst := some 6, op := Op.alloc 90, type := 0, pos := "ref.go:345", after := #[], guard := none }) (w1 := (wd.alloc (.cells #[.int .i64 0, .slice none 0 0, .slice none 0 0, .int .i64 0, .int .u32 0] 90 (0, 0)))) rfl (by first | rfl | (simp [Region.wanted, yielded]; done)) (by first | (go_simp; done) | (go_simp; rfl)) (below_lo HDw.out ((Below.refl wd.heap.size wd).alloc (Nat.le_refl _) (.cells #[.int .i64 0, .slice none 0 0, .slice none 0 0, .int .i64 0, .int .u32 0] 90 (0, 0)))) ?_
        (try simp only [Act.put, List.setIfInBounds_toArray, List.set_cons_zero, List.set_cons_succ])
        refine t_ef ?_
        refine s_val (o := { dst := some 7, op := Op.alloc 90, type := 0, pos := "ref.go:345", after := #[], guard := none }) (w1 := ((wd.alloc (.cells #[.int .i64 0, .slice none 0 0, .slice none 0 0, .int .i64 0, .int .u32 0] 90 (0, 0))).alloc (.cells #[.int .i64 0, .slice none 0 0, .slice none 0 0, .int .i64 0, .int .u32 0] 90 (0, 0)))) rfl (by first | rfl | (simp [Region.wanted, yielded]; done)) (by first | (go_simp; done) | (go_simp; rfl)) (below_lo (by have := HDw.out; simp; omega) ((Below.refl _ _).alloc (Nat.le_refl _) (.cells #[.int .i64 0, .slice none 0 0, .slice none 0 0, .int .i64 0, .int .u32 0] 90 (0, 0)))) ?_
        (try simp only [Act.put, List.setIfInBounds_toArray, List.set_cons_zero, List.set_cons_succ])
        obtain ⟨hba, hbb, hbe⟩ := alloc2 wd (.cells #[.int .i64 0, .slice none 0 0, .slice none 0 0, .int .i64 0, .int .u32 0] 90 (0, 0)) (.cells #[.int .i64 0, .slice none 0 0, .slice none 0 0, .int .i64 0, .int .u32 0] 90 (0, 0))
        obtain ⟨w2, hw2⟩ : ∃ q, (wd.alloc (.cells #[.int .i64 0, .slice none 0 0, .slice none 0 0, .int .i64 0, .int .u32 0] 90 (0, 0))).alloc (.cells #[.int .i64 0, .slice none 0 0, .slice none 0 0, .int .i64 0, .int .u32 0] 90 (0, 0)) = q := ⟨_, rfl⟩
        rw [hw2] at hba hbb hbe
        obtain ⟨x, hg0⟩ : ∃ q, wd.heap.size = q := ⟨_, rfl⟩
        rw [hg0] at hba hbb
        obtain ⟨y, hg1⟩ : ∃ q, x + 1 = q := ⟨_, rfl⟩
        rw [hg1] at hbb
        have hx_ : w2.heap[x]? = some (.cells #[.int .i64 0, .slice none 0 0, .slice none 0 0, .int .i64 0, .int .u32 0] 90 (0, 0)) := hba
        have hy_ : w2.heap[y]? = some (.cells #[.int .i64 0, .slice none 0 0, .slice none 0 0, .int .i64 0, .int .u32 0] 90 (0, 0)) := hbb
        have hxy : x ≠ y := by omega
        have hdx : D ≤ x ∧ D ≤ y := by have := HDw.out; omega
        obtain ⟨xwa, xwb, xwc, xwd, xwe, xea, xeb, xec, xed, xee, ⟨xza, xzb, xzc, xzd, xze⟩, ⟨xfa, xfb, xfc, xfd, xfe⟩, hxf, hxg⟩ := store5 hx_ (.int .i64 g) (.slice P1 n1 d1) (.slice P2 n2 d2) (.int .i64 z) (.int .u32 u)
        have hyf := num_blk hy_ hxg (fun e_ => hxy e_.symm)
        obtain ⟨ywa, ywb, ywc, ywd, ywe, yea, yeb, yec, yed, yee, ⟨yza, yzb, yzc, yzd, yze⟩, ⟨yfa, yfb, yfc, yfd, yfe⟩, hyz, hyg⟩ := store5 hyf (.int .i64 g) (.slice Q1 n1 f1) (.slice Q2 n2 f2) (.int .i64 z) (.int .u32 u)
        have hxz := num_blk hxf hyg hxy
        have hbz := (below_lo HDw.out hbe).trans ((pw_below_grown (Below.refl D w2) (some x) (by have := hbe.size; have := HDw.out; omega) hxg (fun q hq => by injection hq with hq; omega)).trans (pw_below_grown (Below.refl D _) (some y) (by have := hbe.size; have := hxg.size; have := HDw.out; omega) hyg (fun q hq => by injection hq with hq; omega)))
        rw [hw2]
        refine t_ef ?_
        refine s_store (o := { dst := none, op := Op.store 90 (Operand.tmp 6) (Operand.tmp 23), type := 0, pos := "ref.go:345", after := #[{ on := 8, ground := Ground.data }, { on := 3, ground := Ground.data }, { on := 0, ground := Ground.phase }, { on := 1, ground := Ground.phase }, { on := 2, ground := Ground.phase }, { on := 3, ground := Ground.phase }, { on := 4, ground := Ground.textOnly Departure.lateStores }, { on := 5, ground := Ground.textOnly Departure.lateStores }, { on := 6, ground := Ground.textOnly Departure.lateStores }, { on := 7, ground := Ground.textOnly Departure.lateStores }, { on := 8, ground := Ground.phase }, { on := 9, ground := Ground.phase }], guard := none }) (w1 := xwe) rfl (by first | rfl | (simp [Region.wanted, yielded]; done)) (by first | (go_simp; done) | (go_simp; rfl)) (pw_below_grown (Below.refl D w2) (some x) (by have := hbe.size; have := HDw.out; omega) hxg (fun q hq => by injection hq with hq; omega)) ?_
        (try simp only [Act.put, List.setIfInBounds_toArray, List.set_cons_zero, List.set_cons_succ])
        refine t_ef ?_
        refine s_store (o := { dst := none, op := Op.store 90 (Operand.tmp 7) (Operand.tmp 27), type := 0, pos := "ref.go:345", after := #[{ on := 9, ground := Ground.data }, { on := 7, ground := Ground.data }, { on := 10, ground := Ground.chain }, { on := 0, ground := Ground.phase }, { on := 1, ground := Ground.phase }, { on := 2, ground := Ground.phase }, { on := 3, ground := Ground.phase }, { on := 4, ground := Ground.phase }, { on := 5, ground := Ground.phase }, { on := 6, ground := Ground.phase }, { on := 7, ground := Ground.phase }, { on := 8, ground := Ground.phase }, { on := 9, ground := Ground.phase }, { on := 10, ground := Ground.phase }], guard := none }) (w1 := ywe) rfl (by first | rfl | (simp [Region.wanted, yielded]; done)) (by first | (go_simp; done) | (go_simp; rfl)) (pw_below_grown (Below.refl D _) (some y) (by have := hbe.size; have := hxg.size; have := HDw.out; omega) hyg (fun q hq => by injection hq with hq; omega)) ?_
        (try simp only [Act.put, List.setIfInBounds_toArray, List.set_cons_zero, List.set_cons_succ])
        refine t_nil ?_
        have HXZ := Aside0.mk hxz
        have HYZ := Aside0.mk hyz
        have HBZ := Aside0.mk (HBd.out.trans (hbz.mono HSB.out))
        have HBD := Aside0.mk (HBDd.out.trans hbz)
        clear hba hbb hbe hx_ hy_ hxy hdx hxf hxg hyf hyg hxz hyz hbz hw2 xza xfa yza yfa xea yea xzb xfb yzb yfb xeb yeb xzc xfc yzc yfc xec yec xzd xfd yzd yfd xed yed xze xfe yze yfe xee yee

        generalize ywe = w9 at *
        have x0 : w9.cell? ⟨x, 0, none⟩ = some (.int .i64 g) := blk_cell HXZ.out 0
        have x1 : w9.cell? ⟨x, 1, none⟩ = some (.slice P1 n1 d1) := blk_cell HXZ.out 1
        have x3 : w9.cell? ⟨x, 3, none⟩ = some (.int .i64 z) := blk_cell HXZ.out 3
        have x4 : w9.cell? ⟨x, 4, none⟩ = some (.int .u32 u) := blk_cell HXZ.out 4
        have v0 : w9.cell? ⟨y, 0, none⟩ = some (.int .i64 g) := blk_cell HYZ.out 0
        have v1 : w9.cell? ⟨y, 1, none⟩ = some (.slice Q1 n1 f1) := blk_cell HYZ.out 1
        have v3 : w9.cell? ⟨y, 3, none⟩ = some (.int .i64 z) := blk_cell HYZ.out 3
        have v4 : w9.cell? ⟨y, 4, none⟩ = some (.int .u32 u) := blk_cell HYZ.out 4
        have hc := HEQ.out w9 (HS.out w9 HBD.out).1 (HS.out w9 HBD.out).2.1
        go_wp2_with fail
        refine hc.mono ?_
        rintro e_ w10 ⟨rfl, hb⟩
        have HX10 := Aside0.mk (blk_below HXZ.out hb)
        have HY10 := Aside0.mk (blk_below HYZ.out hb)
        have HB10 := Aside0.mk (below_step HBZ.out hb)
        have HD10 := Aside0.mk (HBD.out.trans (hb.mono (by have := HBD.out.size; have := HD.out; omega)))
        clear hb hc x0 x1 x3 x4 v0 v1 v3 v4 HXZ HYZ HBZ HBD HEQ
        have x2 : w10.cell? ⟨x, 2, none⟩ = some (.slice P2 n2 d2) := blk_cell HX10.out 2
        have v2 : w10.cell? ⟨y, 2, none⟩ = some (.slice Q2 n2 f2) := blk_cell HY10.out 2
        go_wp2_with fail
        clear x2 v2
        go_loopg [8] n2 (fun q v8 w' => ∃ j : Nat, v8 = .int .i64 (j : Int) ∧ Aside0 (j + q = n2) ∧ Aside0 (Blk w' x #[.int .i64 g, .slice P1 n1 d1, .slice P2 n2 d2, .int .i64 z, .int .u32 u] 90) ∧ Aside0 (Blk w' y #[.int .i64 g, .slice Q1 n1 f1, .slice Q2 n2 f2, .int .i64 z, .int .u32 u] 90) ∧ Aside0 (Below w.heap.size w w') ∧ Aside0 (Below D wr w'))
        case atStart => exact ⟨0, rfl, ⟨by omega⟩, HX10, HY10, HB10, HD10⟩
        case round =>
          clear HX10 HY10 HB10 HD10
          obtain ⟨j, rfl, HJ, HXr, HYr, HBr, HDr⟩ := hrel
          have hjx := HJ.out
          by_cases hjt : j < n2
          · obtain ⟨fj, rfl⟩ : ∃ f, gk = f + 1 := ⟨gk - 1, by omega⟩
            obtain ⟨ad3, e_, h0⟩ := i64_at (HS.out _ HDr.out).2.2.1 j hjt
            subst e_
            obtain ⟨ad4, e_, h02⟩ := i64_at (HS.out _ HDr.out).2.2.2 j hjt
            subst e_
            generalize zs.getD j 0 = pz at *
            have k1 : ((j : Int) < (n2 : Int)) = True := eq_true (by omega)
            have kj : IntKind.i64.wrap ((j : Int) + 1) = ((j + 1 : Nat) : Int) := by have := HZL.out; rw [IntKind.wrap_i64]; omega
            have c2_ : World.cell? _ ⟨x, 2, none⟩ = some (.slice (some ad3) n2 d2) := blk_cell HXr.out 2
            clear hjx
            go_wp2_with fail
            refine wp_region_mix (fun w_ w1_ => w_ = w1_) [(false, 0), (false, 1), (false, 2), (false, 3), (false, 4), (false, 5), (false, 6), (false, 7), (false, 8), (false, 9), (false, 10)] (by kernel_rfl) (by kernel_rfl) (fun _ => rfl) (fun h h' => h.trans h') (fun wd hhp_ hbw_ => ?_)
            have hxw := blk_below HXr.out hbw_
            have hyw := blk_below HYr.out hbw_
            have y1_ := pw_cell_below hbw_ h0
            have y0_ := pw_cell_below hbw_ h02
            have y2_ : wd.cell? ⟨x, 2, none⟩ = some (.slice (some ad3) n2 d2) := blk_cell hxw 2
            have y3_ : wd.cell? ⟨y, 2, none⟩ = some (.slice (some ad4) n2 f2) := blk_cell hyw 2
            clear h0 h02 c2_
            have HXw := Aside0.mk hxw
            have HYw := Aside0.mk hyw
            have HBw := Aside0.mk (below_step HBr.out hbw_)
            have HDw := Aside0.mk (HDr.out.trans (hbw_.mono (by have := HDr.out.size; have := HD.out; omega)))
            clear hhp_ hbw_ hxw hyw HBr HXr HYr HDr
            (refine mix_read (o := { dst := some 71, op := Op.fieldAddr 90 (Operand.tmp 6) 2, type := 0, pos := "ref.go:350", after := #[], guard := none }) rfl (by first | rfl | (simp [Region.wanted, yielded]; done)) (by intro w_ hE_; (try dsimp only at hE_); subst hE_; first | (go_simp; done) | (go_simp; rfl)) ?_)
            (try simp only [Act.put, List.setIfInBounds_toArray, List.set_cons_zero, List.set_cons_succ])
            (refine mix_read (o := { dst := some 72, op := Op.load 60 (Operand.tmp 71), type := 60, pos := "ref.go:350", after := #[{ on := 0, ground := Ground.data }], guard := none }) rfl (by first | rfl | (simp [Region.wanted, yielded]; done)) (by intro w_ hE_; (try dsimp only at hE_); subst hE_; first | (go_simp; done) | (go_simp; rfl)) ?_)
            (try simp only [Act.put, List.setIfInBounds_toArray, List.set_cons_zero, List.set_cons_succ])
            (refine mix_read (o := { dst := some 73, op := Op.move (Operand.tmp 8), type := 3, pos := "ref.go:350", after := #[], guard := none }) rfl (by first | rfl | (simp [Region.wanted, yielded]; done)) (by intro w_ hE_; (try dsimp only at hE_); subst hE_; first | (go_simp; done) | (go_simp; rfl)) ?_)
            (try simp only [Act.put, List.setIfInBounds_toArray, List.set_cons_zero, List.set_cons_succ])
            (refine mix_read (o := { dst := some 74, op := Op.indexAddr 60 (Operand.tmp 72) (Operand.tmp 73), type := 0, pos := "ref.go:350", after := #[{ on := 1, ground := Ground.data }, { on := 2, ground := Ground.data }], guard := none }) rfl (by first | rfl | (simp [Region.wanted, yielded]; done)) (by intro w_ hE_; (try dsimp only at hE_); subst hE_; first | (go_simp; done) | (go_simp; rfl)) ?_)
            (try simp only [Act.put, List.setIfInBounds_toArray, List.set_cons_zero, List.set_cons_succ])
            (refine mix_read (o := { dst := some 75, op := Op.load 3 (Operand.tmp 74), type := 3, pos := "ref.go:350", after := #[{ on := 3, ground := Ground.data }], guard := none }) rfl (by first | rfl | (simp [Region.wanted, yielded]; done)) (by intro w_ hE_; (try dsimp only at hE_); subst hE_; first | (go_simp; done) | (go_simp; rfl)) ?_)
            (try simp only [Act.put, List.setIfInBounds_toArray, List.set_cons_zero, List.set_cons_succ])
            (refine mix_read (o := { dst := some 76, op := Op.fieldAddr 90 (Operand.tmp 7) 2, type := 0, pos := "ref.go:350", after := #[], guard := none }) rfl (by first | rfl | (simp [Region.wanted, yielded]; done)) (by intro w_ hE_; (try dsimp only at hE_); subst hE_; first | (go_simp; done) | (go_simp; rfl)) ?_)
            (try simp only [Act.put, List.setIfInBounds_toArray, List.set_cons_zero, List.set_cons_succ])
            (refine mix_read (o := { dst := some 77, op := Op.load 60 (Operand.tmp 76), type := 60, pos := "ref.go:350", after := #[{ on := 5, ground := Ground.data }], guard := none }) rfl (by first | rfl | (simp [Region.wanted, yielded]; done)) (by intro w_ hE_; (try dsimp only at hE_); subst hE_; first | (go_simp; done) | (go_simp; rfl)) ?_)
            (try simp only [Act.put, List.setIfInBounds_toArray, List.set_cons_zero, List.set_cons_succ])
            (refine mix_read (o := { dst := some 78, op := Op.move (Operand.tmp 8), type := 3, pos := "ref.go:350", after := #[], guard := none }) rfl (by first | rfl | (simp [Region.wanted, yielded]; done)) (by intro w_ hE_; (try dsimp only at hE_); subst hE_; first | (go_simp; done) | (go_simp; rfl)) ?_)
            (try simp only [Act.put, List.setIfInBounds_toArray, List.set_cons_zero, List.set_cons_succ])
            (refine mix_read (o := { dst := some 79, op := Op.indexAddr 60 (Operand.tmp 77) (Operand.tmp 78), type := 0, pos := "ref.go:350", after := #[{ on := 6, ground := Ground.data }, { on := 7, ground := Ground.data }], guard := none }) rfl (by first | rfl | (simp [Region.wanted, yielded]; done)) (by intro w_ hE_; (try dsimp only at hE_); subst hE_; first | (go_simp; done) | (go_simp; rfl)) ?_)
            (try simp only [Act.put, List.setIfInBounds_toArray, List.set_cons_zero, List.set_cons_succ])
            (refine mix_read (o := { dst := some 80, op := Op.load 3 (Operand.tmp 79), type := 3, pos := "ref.go:350", after := #[{ on := 8, ground := Ground.data }], guard := none }) rfl (by first | rfl | (simp [Region.wanted, yielded]; done)) (by intro w_ hE_; (try dsimp only at hE_); subst hE_; first | (go_simp; done) | (go_simp; rfl)) ?_)
            (try simp only [Act.put, List.setIfInBounds_toArray, List.set_cons_zero, List.set_cons_succ])
            (refine mix_read (o := { dst := some 81, op := Op.binOp BinOp.neq 3 (Operand.tmp 75) (Operand.tmp 80) 3, type := 4, pos := "ref.go:350", after := #[{ on := 4, ground := Ground.data }, { on := 9, ground := Ground.data }], guard := none }) rfl (by first | rfl | (simp [Region.wanted, yielded]; done)) (by intro w_ hE_; (try dsimp only at hE_); subst hE_; first | (go_simp; done) | (go_simp; rfl)) ?_)
            (try simp only [Act.put, List.setIfInBounds_toArray, List.set_cons_zero, List.set_cons_succ])
            refine mix_nil ?_
            go_wp2_with fail
            go_roundg fj
            case measure => omega
            case rel => exact ⟨j + 1, rfl, ⟨by have := HJ.out; omega⟩, HXw, HYw, HBw, HDw⟩
          · have k1 : ((j : Int) < (n2 : Int)) = False := eq_false (by omega)
            have c2_ : World.cell? _ ⟨x, 2, none⟩ = some (.slice P2 n2 d2) := blk_cell HXr.out 2
            clear hjx hjt
            go_wp2_with fail
            go_roundg f
            case measure => omega
            case rel => exact ⟨i + 1, rfl, ⟨by have := HI.out; omega⟩, HBr⟩
      · refine s_val (o := { dst := some 7, op := Op.alloc 90, type := 0, pos := "ref.go:345", after := #[], guard := none }) (w1 := (wd.alloc (.cells #[.int .i64 0, .slice none 0 0, .slice none 0 0, .int .i64 0, .int .u32 0] 90 (0, 0)))) rfl (by first | rfl | (simp [Region.wanted, yielded]; done)) (by first | (go_simp; done) | (go_simp; rfl)) (below_lo HDw.out ((Below.refl wd.heap.size wd).alloc (Nat.le_refl _) (.cells #[.int .i64 0, .slice none 0 0, .slice none 0 0, .int .i64 0, .int .u32 0] 90 (0, 0)))) ?_
        (try simp only [Act.put, List.setIfInBounds_toArray, List.set_cons_zero, List.set_cons_succ])
        refine t_ef ?_
        refine s_val (o := { dst := some 6, op := Op.alloc 90, type := 0, pos := "ref.go:345", after := #[], guard := none }) (w1 := ((wd.alloc (.cells #[.int .i64 0, .slice none 0 0, .slice none 0 0, .int .i64 0, .int .u32 0] 90 (0, 0))).alloc (.cells #[.int .i64 0, .slice none 0 0, .slice none 0 0, .int .i64 0, .int .u32 0] 90 (0, 0)))) rfl (by first | rfl | (simp [Region.wanted, yielded]; done)) (by first | (go_simp; done) | (go_simp; rfl)) (below_lo (by have := HDw.out; simp; omega) ((Below.refl _ _).alloc (Nat.le_refl _) (.cells #[.int .i64 0, .slice none 0 0, .slice none 0 0, .int .i64 0, .int .u32 0] 90 (0, 0)))) ?_
        (try simp only [Act.put, List.setIfInBounds_toArray, List.set_cons_zero, List.set_cons_succ])
        obtain ⟨hba, hbb, hbe⟩ := alloc2 wd (.cells #[.int .i64 0, .slice none 0 0, .slice none 0 0, .int .i64 0, .int .u32 0] 90 (0, 0)) (.cells #[.int .i64 0, .slice none 0 0, .slice none 0 0, .int .i64 0, .int .u32 0] 90 (0, 0))
        obtain ⟨w2, hw2⟩ : ∃ q, (wd.alloc (.cells #[.int .i64 0, .slice none 0 0, .slice none 0 0, .int .i64 0, .int .u32 0] 90 (0, 0))).alloc (.cells #[.int .i64 0, .slice none 0 0, .slice none 0 0, .int .i64 0, .int .u32 0] 90 (0, 0)) = q := ⟨_, rfl⟩
        rw [hw2] at hba hbb hbe
        obtain ⟨y, hg0⟩ : ∃ q, wd.heap.size = q := ⟨_, rfl⟩
        rw [hg0] at hba hbb
        obtain ⟨x, hg1⟩ : ∃ q, y + 1 = q := ⟨_, rfl⟩
        rw [hg1] at hbb
        have hx_ : w2.heap[x]? = some (.cells #[.int .i64 0, .slice none 0 0, .slice none 0 0, .int .i64 0, .int .u32 0] 90 (0, 0)) := hbb
        have hy_ : w2.heap[y]? = some (.cells #[.int .i64 0, .slice none 0 0, .slice none 0 0, .int .i64 0, .int .u32 0] 90 (0, 0)) := hba
        have hxy : x ≠ y := by omega
        have hdx : D ≤ x ∧ D ≤ y := by have := HDw.out; omega
        obtain ⟨xwa, xwb, xwc, xwd, xwe, xea, xeb, xec, xed, xee, ⟨xza, xzb, xzc, xzd, xze⟩, ⟨xfa, xfb, xfc, xfd, xfe⟩, hxf, hxg⟩ := store5 hx_ (.int .i64 g) (.slice P1 n1 d1) (.slice P2 n2 d2) (.int .i64 z) (.int .u32 u)
        have hyf := num_blk hy_ hxg (fun e_ => hxy e_.symm)
        obtain ⟨ywa, ywb, ywc, ywd, ywe, yea, yeb, yec, yed, yee, ⟨yza, yzb, yzc, yzd, yze⟩, ⟨yfa, yfb, yfc, yfd, yfe⟩, hyz, hyg⟩ := store5 hyf (.int .i64 g) (.slice Q1 n1 f1) (.slice Q2 n2 f2) (.int .i64 z) (.int .u32 u)
        have hxz := num_blk hxf hyg hxy
        have hbz := (below_lo HDw.out hbe).trans ((pw_below_grown (Below.refl D w2) (some x) (by have := hbe.size; have := HDw.out; omega) hxg (fun q hq => by injection hq with hq; omega)).trans (pw_below_grown (Below.refl D _) (some y) (by have := hbe.size; have := hxg.size; have := HDw.out; omega) hyg (fun q hq => by injection hq with hq; omega)))
        rw [hw2]
        refine t_ef ?_
        refine s_store (o := { dst := none, op := Op.store 90 (Operand.tmp 6) (Operand.tmp 23), type := 0, pos := "ref.go:345", after := #[{ on := 8, ground := Ground.data }, { on := 3, ground := Ground.data }, { on := 0, ground := Ground.phase }, { on := 1, ground := Ground.phase }, { on := 2, ground := Ground.phase }, { on := 3, ground := Ground.phase }, { on := 4, ground := Ground.textOnly Departure.lateStores }, { on := 5, ground := Ground.textOnly Departure.lateStores }, { on := 6, ground := Ground.textOnly Departure.lateStores }, { on := 7, ground := Ground.textOnly Departure.lateStores }, { on := 8, ground := Ground.phase }, { on := 9, ground := Ground.phase }], guard := none }) (w1 := xwe) rfl (by first | rfl | (simp [Region.wanted, yielded]; done)) (by first | (go_simp; done) | (go_simp; rfl)) (pw_below_grown (Below.refl D w2) (some x) (by have := hbe.size; have := HDw.out; omega) hxg (fun q hq => by injection hq with hq; omega)) ?_
        (try simp only [Act.put, List.setIfInBounds_toArray, List.set_cons_zero, List.set_cons_succ])
        refine t_ef ?_
        refine s_store (o := { dst := none, op := Op.store 90 (Operand.tmp 7) (Operand.tmp 27), type := 0, pos := "ref.go:345", after := #[{ on := 9, ground := Ground.data }, { on := 7, ground := Ground.data }, { on := 10, ground := Ground.chain }, { on := 0, ground := Ground.phase }, { on := 1, ground := Ground.phase }, { on := 2, ground := Ground.phase }, { on := 3, ground := Ground.phase }, { on := 4, ground := Ground.phase }, { on := 5, ground := Ground.phase }, { on := 6, ground := Ground.phase }, { on := 7, ground := Ground.phase }, { on := 8, ground := Ground.phase }, { on := 9, ground := Ground.phase }, { on := 10, ground := Ground.phase }], guard := none }) (w1 := ywe) rfl (by first | rfl | (simp [Region.wanted, yielded]; done)) (by first | (go_simp; done) | (go_simp; rfl)) (pw_below_grown (Below.refl D _) (some y) (by have := hbe.size; have := hxg.size; have := HDw.out; omega) hyg (fun q hq => by injection hq with hq; omega)) ?_
        (try simp only [Act.put, List.setIfInBounds_toArray, List.set_cons_zero, List.set_cons_succ])
        refine t_nil ?_
        have HXZ := Aside0.mk hxz
        have HYZ := Aside0.mk hyz
        have HBZ := Aside0.mk (HBd.out.trans (hbz.mono HSB.out))
        have HBD := Aside0.mk (HBDd.out.trans hbz)
        clear hba hbb hbe hx_ hy_ hxy hdx hxf hxg hyf hyg hxz hyz hbz hw2 xza xfa yza yfa xea yea xzb xfb yzb yfb xeb yeb xzc xfc yzc yfc xec yec xzd xfd yzd yfd xed yed xze xfe yze yfe xee yee

        generalize ywe = w9 at *
        have x0 : w9.cell? ⟨x, 0, none⟩ = some (.int .i64 g) := blk_cell HXZ.out 0
        have x1 : w9.cell? ⟨x, 1, none⟩ = some (.slice P1 n1 d1) := blk_cell HXZ.out 1
        have x3 : w9.cell? ⟨x, 3, none⟩ = some (.int .i64 z) := blk_cell HXZ.out 3
        have x4 : w9.cell? ⟨x, 4, none⟩ = some (.int .u32 u) := blk_cell HXZ.out 4
        have v0 : w9.cell? ⟨y, 0, none⟩ = some (.int .i64 g) := blk_cell HYZ.out 0
        have v1 : w9.cell? ⟨y, 1, none⟩ = some (.slice Q1 n1 f1) := blk_cell HYZ.out 1
        have v3 : w9.cell? ⟨y, 3, none⟩ = some (.int .i64 z) := blk_cell HYZ.out 3
        have v4 : w9.cell? ⟨y, 4, none⟩ = some (.int .u32 u) := blk_cell HYZ.out 4
        have hc := HEQ.out w9 (HS.out w9 HBD.out).1 (HS.out w9 HBD.out).2.1
        go_wp2_with fail
        refine hc.mono ?_
        rintro e_ w10 ⟨rfl, hb⟩
        have HX10 := Aside0.mk (blk_below HXZ.out hb)
        have HY10 := Aside0.mk (blk_below HYZ.out hb)
        have HB10 := Aside0.mk (below_step HBZ.out hb)
        have HD10 := Aside0.mk (HBD.out.trans (hb.mono (by have := HBD.out.size; have := HD.out; omega)))
        clear hb hc x0 x1 x3 x4 v0 v1 v3 v4 HXZ HYZ HBZ HBD HEQ
        have x2 : w10.cell? ⟨x, 2, none⟩ = some (.slice P2 n2 d2) := blk_cell HX10.out 2
        have v2 : w10.cell? ⟨y, 2, none⟩ = some (.slice Q2 n2 f2) := blk_cell HY10.out 2
        go_wp2_with fail
        clear x2 v2
        go_loopg [8] n2 (fun q v8 w' => ∃ j : Nat, v8 = .int .i64 (j : Int) ∧ Aside0 (j + q = n2) ∧ Aside0 (Blk w' x #[.int .i64 g, .slice P1 n1 d1, .slice P2 n2 d2, .int .i64 z, .int .u32 u] 90) ∧ Aside0 (Blk w' y #[.int .i64 g, .slice Q1 n1 f1, .slice Q2 n2 f2, .int .i64 z, .int .u32 u] 90) ∧ Aside0 (Below w.heap.size w w') ∧ Aside0 (Below D wr w'))
        case atStart => exact ⟨0, rfl, ⟨by omega⟩, HX10, HY10, HB10, HD10⟩
        case round =>
          clear HX10 HY10 HB10 HD10
          obtain ⟨j, rfl, HJ, HXr, HYr, HBr, HDr⟩ := hrel
          have hjx := HJ.out
          by_cases hjt : j < n2
          · obtain ⟨fj, rfl⟩ : ∃ f, gk = f + 1 := ⟨gk - 1, by omega⟩
            obtain ⟨ad3, e_, h0⟩ := i64_at (HS.out _ HDr.out).2.2.1 j hjt
            subst e_
            obtain ⟨ad4, e_, h02⟩ := i64_at (HS.out _ HDr.out).2.2.2 j hjt
            subst e_
            generalize zs.getD j 0 = pz at *
            have k1 : ((j : Int) < (n2 : Int)) = True := eq_true (by omega)
            have kj : IntKind.i64.wrap ((j : Int) + 1) = ((j + 1 : Nat) : Int) := by have := HZL.out; rw [IntKind.wrap_i64]; omega
            have c2_ : World.cell? _ ⟨x, 2, none⟩ = some (.slice (some ad3) n2 d2) := blk_cell HXr.out 2
            clear hjx
            go_wp2_with fail
            refine wp_region_mix (fun w_ w1_ => w_ = w1_) [(false, 0), (false, 1), (false, 2), (false, 3), (false, 4), (false, 5), (false, 6), (false, 7), (false, 8), (false, 9), (false, 10)] (by kernel_rfl) (by kernel_rfl) (fun _ => rfl) (fun h h' => h.trans h') (fun wd hhp_ hbw_ => ?_)
            have hxw := blk_below HXr.out hbw_
            have hyw := blk_below HYr.out hbw_
            have y1_ := pw_cell_below hbw_ h0
            have y0_ := pw_cell_below hbw_ h02
            have y2_ : wd.cell? ⟨x, 2, none⟩ = some (.slice (some ad3) n2 d2) := blk_cell hxw 2
            have y3_ : wd.cell? ⟨y, 2, none⟩ = some (.slice (some ad4) n2 f2) := blk_cell hyw 2
            clear h0 h02 c2_
            have HXw := Aside0.mk hxw
            have HYw := Aside0.mk hyw
            have HBw := Aside0.mk (below_step HBr.out hbw_)
            have HDw := Aside0.mk (HDr.out.trans (hbw_.mono (by have := HDr.out.size; have := HD.out; omega)))
            clear hhp_ hbw_ hxw hyw HBr HXr HYr HDr
            (refine mix_read (o := { dst := some 71, op := Op.fieldAddr 90 (Operand.tmp 6) 2, type := 0, pos := "ref.go:350", after := #[], guard := none }) rfl (by first | rfl | (simp [Region.wanted, yielded]; done)) (by intro w_ hE_; (try dsimp only at hE_); subst hE_; first | (go_simp; done) | (go_simp; rfl)) ?_)
            (try simp only [Act.put, List.setIfInBounds_toArray, List.set_cons_zero, List.set_cons_succ])
            (refine mix_read (o := { dst := some 72, op := Op.load 60 (Operand.tmp 71), type := 60, pos := "ref.go:350", after := #[{ on := 0, ground := Ground.data }], guard := none }) rfl (by first | rfl | (simp [Region.wanted, yielded]; done)) (by intro w_ hE_; (try dsimp only at hE_); subst hE_; first | (go_simp; done) | (go_simp; rfl)) ?_)
            (try simp only [Act.put, List.setIfInBounds_toArray, List.set_cons_zero, List.set_cons_succ])
            (refine mix_read (o := { dst := some 73, op := Op.move (Operand.tmp 8), type := 3, pos := "ref.go:350", after := #[], guard := none }) rfl (by first | rfl | (simp [Region.wanted, yielded]; done)) (by intro w_ hE_; (try dsimp only at hE_); subst hE_; first | (go_simp; done) | (go_simp; rfl)) ?_)
            (try simp only [Act.put, List.setIfInBounds_toArray, List.set_cons_zero, List.set_cons_succ])
            (refine mix_read (o := { dst := some 74, op := Op.indexAddr 60 (Operand.tmp 72) (Operand.tmp 73), type := 0, pos := "ref.go:350", after := #[{ on := 1, ground := Ground.data }, { on := 2, ground := Ground.data }], guard := none }) rfl (by first | rfl | (simp [Region.wanted, yielded]; done)) (by intro w_ hE_; (try dsimp only at hE_); subst hE_; first | (go_simp; done) | (go_simp; rfl)) ?_)
            (try simp only [Act.put, List.setIfInBounds_toArray, List.set_cons_zero, List.set_cons_succ])
            (refine mix_read (o := { dst := some 75, op := Op.load 3 (Operand.tmp 74), type := 3, pos := "ref.go:350", after := #[{ on := 3, ground := Ground.data }], guard := none }) rfl (by first | rfl | (simp [Region.wanted, yielded]; done)) (by intro w_ hE_; (try dsimp only at hE_); subst hE_; first | (go_simp; done) | (go_simp; rfl)) ?_)
            (try simp only [Act.put, List.setIfInBounds_toArray, List.set_cons_zero, List.set_cons_succ])
            (refine mix_read (o := { dst := some 76, op := Op.fieldAddr 90 (Operand.tmp 7) 2, type := 0, pos := "ref.go:350", after := #[], guard := none }) rfl (by first | rfl | (simp [Region.wanted, yielded]; done)) (by intro w_ hE_; (try dsimp only at hE_); subst hE_; first | (go_simp; done) | (go_simp; rfl)) ?_)
            (try simp only [Act.put, List.setIfInBounds_toArray, List.set_cons_zero, List.set_cons_succ])
            (refine mix_read (o := { dst := some 77, op := Op.load 60 (Operand.tmp 76), type := 60, pos := "ref.go:350", after := #[{ on := 5, ground := Ground.data }], guard := none }) rfl (by first | rfl | (simp [Region.wanted, yielded]; done)) (by intro w_ hE_; (try dsimp only at hE_); subst hE_; first | (go_simp; done) | (go_simp; rfl)) ?_)
            (try simp only [Act.put, List.setIfInBounds_toArray, List.set_cons_zero, List.set_cons_succ])
            (refine mix_read (o := { dst := some 78, op := Op.move (Operand.tmp 8), type := 3, pos := "ref.go:350", after := #[], guard := none }) rfl (by first | rfl | (simp [Region.wanted, yielded]; done)) (by intro w_ hE_; (try dsimp only at hE_); subst hE_; first | (go_simp; done) | (go_simp; rfl)) ?_)
            (try simp only [Act.put, List.setIfInBounds_toArray, List.set_cons_zero, List.set_cons_succ])
            (refine mix_read (o := { dst := some 79, op := Op.indexAddr 60 (Operand.tmp 77) (Operand.tmp 78), type := 0, pos := "ref.go:350", after := #[{ on := 6, ground := Ground.data }, { on := 7, ground := Ground.data }], guard := none }) rfl (by first | rfl | (simp [Region.wanted, yielded]; done)) (by intro w_ hE_; (try dsimp only at hE_); subst hE_; first | (go_simp; done) | (go_simp; rfl)) ?_)
            (try simp only [Act.put, List.setIfInBounds_toArray, List.set_cons_zero, List.set_cons_succ])
            (refine mix_read (o := { dst := some 80, op := Op.load 3 (Operand.tmp 79), type := 3, pos := "ref.go:350", after := #[{ on := 8, ground := Ground.data }], guard := none }) rfl (by first | rfl | (simp [Region.wanted, yielded]; done)) (by intro w_ hE_; (try dsimp only at hE_); subst hE_; first | (go_simp; done) | (go_simp; rfl)) ?_)
            (try simp only [Act.put, List.setIfInBounds_toArray, List.set_cons_zero, List.set_cons_succ])
            (refine mix_read (o := { dst := some 81, op := Op.binOp BinOp.neq 3 (Operand.tmp 75) (Operand.tmp 80) 3, type := 4, pos := "ref.go:350", after := #[{ on := 4, ground := Ground.data }, { on := 9, ground := Ground.data }], guard := none }) rfl (by first | rfl | (simp [Region.wanted, yielded]; done)) (by intro w_ hE_; (try dsimp only at hE_); subst hE_; first | (go_simp; done) | (go_simp; rfl)) ?_)
            (try simp only [Act.put, List.setIfInBounds_toArray, List.set_cons_zero, List.set_cons_succ])
            refine mix_nil ?_
            go_wp2_with fail
            go_roundg fj
            case measure => omega
            case rel => exact ⟨j + 1, rfl, ⟨by have := HJ.out; omega⟩, HXw, HYw, HBw, HDw⟩
          · have k1 : ((j : Int) < (n2 : Int)) = False := eq_false (by omega)
            have c2_ : World.cell? _ ⟨x, 2, none⟩ = some (.slice P2 n2 d2) := blk_cell HXr.out 2
            clear hjx hjt
            go_wp2_with fail
            go_roundg f
            case measure => omega
            case rel => exact ⟨i + 1, rfl, ⟨by have := HI.out; omega⟩, HBr⟩
    · have k0 : ((i : Int) < (mm : Int)) = False := eq_false (by omega)
      clear hix hlt
      go_wp2
      go_ret
      exact ⟨rfl, HB.out⟩
set_option maxRecDepth 100000 in
set_option maxHeartbeats 4000000 in
theorem eqe_same (e : EdT) (v v2 : Value) (w : World) (h : EdAt w v e) (h2 : EdAt w v2 e) :
    Calls Try.prog 48 #[v, v2] w fun x w' => x = .returned (.bool true) ∧ Below w.heap.size w w' := by
  obtain ⟨A1, c1, A2, c2, A3, c3, A4, c4, rfl, _, r1, r2, r3, r4⟩ := h
  obtain ⟨B1, d1, B2, d2, B3, d3, B4, d4, rfl, _, s1, s2, s3, s4⟩ := h2
  have H1 := Aside0.mk (fun w h h' => eqs_same A1 c1 B1 d1 e.2.2.1 w h h')
  have H2 := Aside0.mk (fun w h h' => eqn_same A2 c2 B2 d2 e.2.2.2.1 w h h')
  have H3 := Aside0.mk (fun w h h' => eqp_same A3 c3 B3 d3 e.2.2.2.2.1 w h h')
  have H4 := Aside0.mk (fun w h h' => eqn_same A4 c4 B4 d4 e.2.2.2.2.2 w h h')
  have HR := Aside0.mk (fun wx (h : Below w.heap.size w wx) => And.intro (And.intro (Kd.C_below r1 h) (Kd.C_below s1 h)) (And.intro (And.intro (Kd.C_below r2 h) (Kd.C_below s2 h)) (And.intro (And.intro (Kd.C_below r3 h) (Kd.C_below s3 h)) (And.intro (Kd.C_below r4 h) (Kd.C_below s4 h)))))
  generalize e.2.2.1 = ads at *
  generalize e.2.2.2.1 = dls at *
  generalize e.2.2.2.2.1 = prs at *
  generalize e.2.2.2.2.2 = drs at *
  generalize e.2.1 = sq at *
  generalize e.1 = nx at *
  obtain ⟨m1, hm1⟩ : ∃ q, ads.length = q := ⟨_, rfl⟩
  obtain ⟨m2, hm2⟩ : ∃ q, dls.length = q := ⟨_, rfl⟩
  obtain ⟨m3, hm3⟩ : ∃ q, prs.length = q := ⟨_, rfl⟩
  obtain ⟨m4, hm4⟩ : ∃ q, drs.length = q := ⟨_, rfl⟩
  rw [hm1, hm2, hm3, hm4] at HR ⊢
  rw [hm1] at H1
  rw [hm2] at H2
  rw [hm3] at H3
  rw [hm4] at H4
  obtain ⟨hba, hbb, hbe⟩ := alloc2 w (.cells #[.int .i64 nx, .int .i64 sq, .slice A1 m1 c1, .slice A2 m2 c2, .slice A3 m3 c3, .slice A4 m4 c4] 66 (0, 0)) (.cells #[.int .i64 nx, .int .i64 sq, .slice B1 m1 d1, .slice B2 m2 d2, .slice B3 m3 d3, .slice B4 m4 d4] 66 (0, 0))
  obtain ⟨w1, hw1⟩ : ∃ q, (w.alloc (.cells #[.int .i64 nx, .int .i64 sq, .slice A1 m1 c1, .slice A2 m2 c2, .slice A3 m3 c3, .slice A4 m4 c4] 66 (0, 0))).alloc (.cells #[.int .i64 nx, .int .i64 sq, .slice B1 m1 d1, .slice B2 m2 d2, .slice B3 m3 d3, .slice B4 m4 d4] 66 (0, 0)) = q := ⟨_, rfl⟩
  rw [hw1] at hba hbb hbe
  obtain ⟨x, hx⟩ : ∃ q, w.heap.size = q := ⟨_, rfl⟩
  obtain ⟨y, hy⟩ : ∃ q, x + 1 = q := ⟨_, rfl⟩
  rw [hx] at hba hbb
  rw [hy] at hbb
  have HX1 := Aside0.mk hba
  have HY1 := Aside0.mk hbb
  have HB1 := Aside0.mk hbe
  clear r1 r2 r3 r4 s1 s2 s3 s4 hm1 hm2 hm3 hm4 hba hbb hbe
  have x0 : w1.cell? ⟨x, 0, none⟩ = some (.int .i64 nx) := blk_cell HX1.out 0
  have x1 : w1.cell? ⟨x, 1, none⟩ = some (.int .i64 sq) := blk_cell HX1.out 1
  have x2 : w1.cell? ⟨x, 2, none⟩ = some (.slice A1 m1 c1) := blk_cell HX1.out 2
  have z0 : w1.cell? ⟨y, 0, none⟩ = some (.int .i64 nx) := blk_cell HY1.out 0
  have z1 : w1.cell? ⟨y, 1, none⟩ = some (.int .i64 sq) := blk_cell HY1.out 1
  have z2 : w1.cell? ⟨y, 2, none⟩ = some (.slice B1 m1 d1) := blk_cell HY1.out 2
  have hc := H1.out w1 (HR.out w1 HB1.out).1.1 (HR.out w1 HB1.out).1.2
  go_enter Try.func48, Try.ntmps48
  go_wp2_with fail
  refine hc.mono ?_
  rintro e_ w2 ⟨rfl, hb⟩
  have HX2 := Aside0.mk (blk_below HX1.out hb)
  have HY2 := Aside0.mk (blk_below HY1.out hb)
  have HB2 := Aside0.mk (below_step HB1.out hb)
  clear hb hc x0 x1 x2 z0 z1 z2
  have x2 : w2.cell? ⟨x, 4, none⟩ = some (.slice A3 m3 c3) := blk_cell HX2.out 4
  have z2 : w2.cell? ⟨y, 4, none⟩ = some (.slice B3 m3 d3) := blk_cell HY2.out 4
  have hc := H3.out w2 (HR.out w2 HB2.out).2.2.1.1 (HR.out w2 HB2.out).2.2.1.2
  go_wp2_with fail
  refine hc.mono ?_
  rintro e_ w3 ⟨rfl, hb⟩
  have HX3 := Aside0.mk (blk_below HX2.out hb)
  have HY3 := Aside0.mk (blk_below HY2.out hb)
  have HB3 := Aside0.mk (below_step HB2.out hb)
  clear hb hc x2 z2
  have x2 : w3.cell? ⟨x, 3, none⟩ = some (.slice A2 m2 c2) := blk_cell HX3.out 3
  have z2 : w3.cell? ⟨y, 3, none⟩ = some (.slice B2 m2 d2) := blk_cell HY3.out 3
  have hc := H2.out w3 (HR.out w3 HB3.out).2.1.1 (HR.out w3 HB3.out).2.1.2
  go_wp2_with fail
  refine hc.mono ?_
  rintro e_ w4 ⟨rfl, hb⟩
  have HX4 := Aside0.mk (blk_below HX3.out hb)
  have HY4 := Aside0.mk (blk_below HY3.out hb)
  have HB4 := Aside0.mk (below_step HB3.out hb)
  clear hb hc x2 z2
  have x2 : w4.cell? ⟨x, 5, none⟩ = some (.slice A4 m4 c4) := blk_cell HX4.out 5
  have z2 : w4.cell? ⟨y, 5, none⟩ = some (.slice B4 m4 d4) := blk_cell HY4.out 5
  have hc := H4.out w4 (HR.out w4 HB4.out).2.2.2.1 (HR.out w4 HB4.out).2.2.2.2
  go_wp2_with fail
  refine hc.mono ?_
  rintro e_ w5 ⟨rfl, hb⟩
  have HB5 := Aside0.mk (below_step HB4.out hb)
  clear hb hc x2 z2
  go_wp2
  go_ret
  exact ⟨rfl, HB5.out⟩
end Go.Proofs.Ytfojeegepfjbiaa.EdO
