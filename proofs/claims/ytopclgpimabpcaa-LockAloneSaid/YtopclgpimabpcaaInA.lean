/- Contract of Ints: are two rows of numbers the same? -/
import Derived.Test.YtopclgpimabpcaaProg
import Derived.Below
import Derived.Deep.Draws
import Derived.Deep.AppendLies
import Derived.Maps.AppendAt
import Derived.OwnWalk
import Derived.Laws.BytesArg
import Derived.Laws.MakeOwn
import Derived.Laws.OwnMore
import Derived.Deep.OwnRows
import Derived.Tactics
import Derived.Lib.ConvBytes
import Derived.Laws.Slices
import Derived.WalkKit
import Derived.KernelRfl
import Derived.RowKit3
import Derived.Deep.LoopGhost
import Derived.Deep.QuietTactic
import Derived.BigQuiet
import Derived.WideLaws
import Derived.Deep.DeepCutAuto
import Derived.Deep.CutBlock
import Derived.Deep.RegionHeld3
import Derived.Laws.Rows
import Derived.Lib.AppendStr
import Derived.ArgAppend
import Derived.Laws.IdiomCopy
import Derived.OrdersHeld
import Derived.Laws.BitsLemmas
import Derived.RowKit
import Derived.WalkSpells
import Derived.Outline
import Derived.Test.YtopclgpimabpcaaWWords
import Derived.Test.YtopclgpimabpcaaWLast
import Derived.Test.YtopclgpimabpcaaWMore
import Derived.Test.YtopclgpimabpcaaWArr
import Derived.Test.YtopclgpimabpcaaWTab
import Derived.Test.YtopclgpimabpcaaWZeros
import Derived.Test.YtopclgpimabpcaaWRepsOne
import Derived.Test.YtopclgpimabpcaaTk
import Derived.Test.YtopclgpimabpcaaMix
namespace Go.Proofs.Ytopclgpimabpcaa.InA
open Go.RowKit Go.Proofs.YtopclgpimabpcaaW.PrintWords Go.Proofs.YtopclgpimabpcaaW.PrintLast Go.Proofs.YtopclgpimabpcaaW.PrintMore Go.Proofs.Ytopclgpimabpcaa.Tk Go.Proofs.Ytopclgpimabpcaa.Mix
set_option linter.unusedSimpArgs false
set_option linter.unusedVariables false
attribute [local go_sem] max2_int min2_int max_two min_two

theorem int_at {k : IntKind} {w wq : World} {ad : Addr} {l : List Int} {n : Nat} (h : (Kd.int k).C w (some ad) n l) (hb : Below w.heap.size w wq) (q : Nat) (hq : q < n) :
    wq.cell? (ad.add q) = some (.int k (rd l (q : Int))) := by
  obtain ⟨ad', e, hx⟩ := Kd.at_int h (q : Int) (by omega) (by omega)
  simp only [Int.toNat_natCast] at hx
  injection e with e
  subst e
  exact pw_cell_below hb hx
theorem list_ext_rd {a b : List Int} (hl : a.length = b.length) (h : ∀ j, j < a.length → rd a (j : Int) = rd b (j : Int)) : a = b := by
  refine List.ext_getElem hl (fun j h1 h2 => ?_)
  have := h j h1
  unfold rd at this
  rw [Int.toNat_natCast, List.getD_eq_getElem?_getD, List.getD_eq_getElem?_getD, List.getElem?_eq_getElem h1, List.getElem?_eq_getElem h2] at this
  exact this
set_option maxRecDepth 100000 in
theorem ints_calls (A : Option Addr) (c : Nat) (a : List Int) (A2 : Option Addr) (c2 : Nat) (b : List Int) (w : World)
    (hr : (Kd.int .i64).C w A a.length a) (hr2 : (Kd.int .i64).C w A2 b.length b) (hl : a.length ≤ 1000000000) :
    Calls Try.prog 23 #[.slice A a.length c, .slice A2 b.length c2] w fun e w' => e = .returned (.bool (decide (a = b))) ∧ Below w.heap.size w w' := by
  have HR := Aside0.mk hr
  have HR2 := Aside0.mk hr2
  have HB := Aside0.mk (Below.refl w.heap.size w)
  clear hr hr2
  go_enter Try.func23, Try.ntmps23
  by_cases hlen : a.length = b.length
  · have b0 : ((a.length : Int) != (b.length : Int)) = false := by simp [hlen]
    have HLEN := Aside0.mk hlen
    clear hlen
    go_wp2_with fail
    go_loopg [5] a.length (fun q v5 w' => ∃ i : Nat, v5 = .int .i64 (i : Int) ∧ Aside0 (i + q = a.length ∧ ∀ j, j < i → rd a (j : Int) = rd b (j : Int)) ∧ Aside0 (Below w.heap.size w w'))
    case atStart => exact ⟨0, rfl, ⟨by omega, fun j hj => by omega⟩, HB⟩
    case round =>
      clear HB
      obtain ⟨i, rfl, HI, HB⟩ := hrel
      have hi := HI.out.1
      have hlen := HLEN.out
      by_cases hlt : i < a.length
      · obtain ⟨f, rfl⟩ : ∃ f, gk = f + 1 := ⟨gk - 1, by omega⟩
        obtain ⟨ad, e_, _⟩ := Kd.at_int HR.out (i : Int) (by omega) (by omega)
        subst e_
        obtain ⟨ad2, e_, _⟩ := Kd.at_int HR2.out (i : Int) (by omega) (by omega)
        subst e_
        have hcell := int_at HR.out HB.out i hlt
        have hcell2 := int_at HR2.out HB.out i (by omega)
        obtain ⟨p, hp⟩ : ∃ p, rd a (i : Int) = p := ⟨_, rfl⟩
        obtain ⟨q, hq⟩ : ∃ q, rd b (i : Int) = q := ⟨_, rfl⟩
        rw [hp] at hcell
        rw [hq] at hcell2
        have HP := Aside0.mk (And.intro hp hq)
        have k0 : ((i : Int) < (a.length : Int)) = True := eq_true (by omega)
        have k1 : ((i : Int) < (b.length : Int)) = True := eq_true (by omega)
        have kw : IntKind.i64.wrap ((i : Int) + 1) = ((i + 1 : Nat) : Int) := by rw [IntKind.wrap_i64]; omega
        clear hp hq hi hlen
        go_wp2_with fail
        refine wp_region_mix (fun w_ w1_ => w_ = w1_) [(false, 0), (false, 1), (false, 2), (false, 3), (false, 4), (false, 5), (false, 6), (false, 7), (false, 8)] (by kernel_rfl) (by kernel_rfl) (fun _ => rfl) (fun h h' => h.trans h') (fun wd hhp_ hbw_ => ?_)
        have y1_ : wd.cell? (ad.add i) = _ := (hbw_.cell (World.block_lt_of_cell? wr _ hcell)).trans hcell
        have y0_ : wd.cell? (ad2.add i) = _ := (hbw_.cell (World.block_lt_of_cell? wr _ hcell2)).trans hcell2
        clear hcell hcell2
        have HBw := Aside0.mk (below_step HB.out hbw_)
        clear hhp_ hbw_ HB
        (refine mix_read (o := { dst := some 17, op := Op.move (Operand.tmp 0), type := 27, pos := "law.go:37", after := #[], guard := none }) rfl (by first | rfl | (simp [Region.wanted, yielded]; done)) (by intro w_ hE_; (try dsimp only at hE_); subst hE_; first | (go_simp; done) | (go_simp; rfl)) ?_)
        (try simp only [Act.put, List.setIfInBounds_toArray, List.set_cons_zero, List.set_cons_succ])
        (refine mix_read (o := { dst := some 18, op := Op.move (Operand.tmp 5), type := 3, pos := "law.go:37", after := #[], guard := none }) rfl (by first | rfl | (simp [Region.wanted, yielded]; done)) (by intro w_ hE_; (try dsimp only at hE_); subst hE_; first | (go_simp; done) | (go_simp; rfl)) ?_)
        (try simp only [Act.put, List.setIfInBounds_toArray, List.set_cons_zero, List.set_cons_succ])
        (refine mix_read (o := { dst := some 19, op := Op.indexAddr 27 (Operand.tmp 17) (Operand.tmp 18), type := 0, pos := "law.go:37", after := #[{ on := 0, ground := Ground.data }, { on := 1, ground := Ground.data }], guard := none }) rfl (by first | rfl | (simp [Region.wanted, yielded]; done)) (by intro w_ hE_; (try dsimp only at hE_); subst hE_; first | (go_simp; done) | (go_simp; rfl)) ?_)
        (try simp only [Act.put, List.setIfInBounds_toArray, List.set_cons_zero, List.set_cons_succ])
        (refine mix_read (o := { dst := some 20, op := Op.load 3 (Operand.tmp 19), type := 3, pos := "law.go:37", after := #[{ on := 2, ground := Ground.data }], guard := none }) rfl (by first | rfl | (simp [Region.wanted, yielded]; done)) (by intro w_ hE_; (try dsimp only at hE_); subst hE_; first | (go_simp; done) | (go_simp; rfl)) ?_)
        (try simp only [Act.put, List.setIfInBounds_toArray, List.set_cons_zero, List.set_cons_succ])
        (refine mix_read (o := { dst := some 21, op := Op.move (Operand.tmp 1), type := 27, pos := "law.go:37", after := #[], guard := none }) rfl (by first | rfl | (simp [Region.wanted, yielded]; done)) (by intro w_ hE_; (try dsimp only at hE_); subst hE_; first | (go_simp; done) | (go_simp; rfl)) ?_)
        (try simp only [Act.put, List.setIfInBounds_toArray, List.set_cons_zero, List.set_cons_succ])
        (refine mix_read (o := { dst := some 22, op := Op.move (Operand.tmp 5), type := 3, pos := "law.go:37", after := #[], guard := none }) rfl (by first | rfl | (simp [Region.wanted, yielded]; done)) (by intro w_ hE_; (try dsimp only at hE_); subst hE_; first | (go_simp; done) | (go_simp; rfl)) ?_)
        (try simp only [Act.put, List.setIfInBounds_toArray, List.set_cons_zero, List.set_cons_succ])
        (refine mix_read (o := { dst := some 23, op := Op.indexAddr 27 (Operand.tmp 21) (Operand.tmp 22), type := 0, pos := "law.go:37", after := #[{ on := 4, ground := Ground.data }, { on := 5, ground := Ground.data }], guard := none }) rfl (by first | rfl | (simp [Region.wanted, yielded]; done)) (by intro w_ hE_; (try dsimp only at hE_); subst hE_; first | (go_simp; done) | (go_simp; rfl)) ?_)
        (try simp only [Act.put, List.setIfInBounds_toArray, List.set_cons_zero, List.set_cons_succ])
        (refine mix_read (o := { dst := some 24, op := Op.load 3 (Operand.tmp 23), type := 3, pos := "law.go:37", after := #[{ on := 6, ground := Ground.data }], guard := none }) rfl (by first | rfl | (simp [Region.wanted, yielded]; done)) (by intro w_ hE_; (try dsimp only at hE_); subst hE_; first | (go_simp; done) | (go_simp; rfl)) ?_)
        (try simp only [Act.put, List.setIfInBounds_toArray, List.set_cons_zero, List.set_cons_succ])
        (refine mix_read (o := { dst := some 25, op := Op.binOp BinOp.neq 3 (Operand.tmp 20) (Operand.tmp 24) 3, type := 4, pos := "law.go:37", after := #[{ on := 3, ground := Ground.data }, { on := 7, ground := Ground.data }], guard := none }) rfl (by first | rfl | (simp [Region.wanted, yielded]; done)) (by intro w_ hE_; (try dsimp only at hE_); subst hE_; first | (go_simp; done) | (go_simp; rfl)) ?_)
        (try simp only [Act.put, List.setIfInBounds_toArray, List.set_cons_zero, List.set_cons_succ])
        refine mix_nil ?_
        by_cases hpq : p = q
        · subst hpq
          have b1 : (p != p) = false := by simp
          rw [b1]
          go_wp2_with fail
          go_roundg f
          case measure => omega
          case rel =>
            refine ⟨i + 1, by simp, ⟨by have := HI.out.1; omega, fun j hj => ?_⟩, HBw⟩
            rcases Nat.lt_or_ge j i with h | h
            · exact HI.out.2 j h
            · rw [show j = i by omega, HP.out.1, HP.out.2]
        · have b1 : (p != q) = true := bne_iff_ne.2 hpq
          rw [b1]
          have HD : Aside0 (decide (a = b) = false) := ⟨decide_eq_false (fun e => hpq (by rw [← HP.out.1, ← HP.out.2, e]))⟩
          clear hpq
          go_wp2
          go_ret
          exact ⟨by rw [HD.out]; rfl, HBw.out⟩
      · have hin : i = a.length := by omega
        have k0 : ((i : Int) < (a.length : Int)) = False := eq_false (by omega)
        have HD : Aside0 (decide (a = b) = true) := ⟨decide_eq_true (list_ext_rd hlen (by rw [← hin]; exact HI.out.2))⟩
        clear hin hi hlen
        go_wp2
        go_ret
        exact ⟨by rw [HD.out]; rfl, HB.out⟩
  · have b0 : ((a.length : Int) != (b.length : Int)) = true := bne_iff_ne.2 (by omega)
    have HNE : Aside0 (decide (a = b) = false) := ⟨decide_eq_false (fun e => hlen (by rw [e]))⟩
    clear hlen
    go_wp2
    go_ret
    exact ⟨by rw [HNE.out]; rfl, HB.out⟩
end Go.Proofs.Ytopclgpimabpcaa.InA
