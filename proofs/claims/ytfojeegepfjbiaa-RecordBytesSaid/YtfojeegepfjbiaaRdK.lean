/- Contracts of EqAll, Cut. -/
import Derived.Test.YtfojeegepfjbiaaProg
import Derived.Below
import Derived.Deep.Draws
import Derived.Deep.AppendLies
import Derived.Maps.AppendAt
import Derived.OwnWalk
import Derived.Laws.BytesArg
import Derived.Laws.MakeOwn
import Derived.Laws.OwnMore
import Derived.Deep.OwnRows
import Derived.Tactics
import Derived.Lib.ConvBytes
import Derived.Laws.Slices
import Derived.WalkKit
import Derived.KernelRfl
import Derived.RowKit3
import Derived.Deep.LoopGhost
import Derived.Deep.QuietTactic
import Derived.BigQuiet
import Derived.WideLaws
import Derived.Deep.DeepCutAuto
import Derived.Deep.CutBlock
import Derived.Deep.RegionHeld3
import Derived.Laws.Rows
import Derived.Lib.AppendStr
import Derived.ArgAppend
import Derived.Laws.IdiomCopy
import Derived.OrdersHeld
import Derived.Laws.BitsLemmas
import Derived.RowKit
import Derived.Deep.RegionWith
import Derived.WalkSpells
import Derived.Outline
import Derived.Test.YtfojeegepfjbiaaWWords
import Derived.Test.YtfojeegepfjbiaaWLast
import Derived.Test.YtfojeegepfjbiaaWMore
import Derived.Test.YtfojeegepfjbiaaWArr
import Derived.Test.YtfojeegepfjbiaaWTab
import Derived.Test.YtfojeegepfjbiaaWZeros
import Derived.Test.YtfojeegepfjbiaaWRepsOne
import Derived.Test.YtfojeegepfjbiaaRdJ
namespace Go.Proofs.Ytfojeegepfjbiaa.RdK
open Go.RowKit Go.Proofs.YtfojeegepfjbiaaW.PrintWords Go.Proofs.YtfojeegepfjbiaaW.PrintLast Go.Proofs.YtfojeegepfjbiaaW.PrintMore Go.Proofs.Ytfojeegepfjbiaa.Nm Go.Proofs.Ytfojeegepfjbiaa.NmA Go.Proofs.Ytfojeegepfjbiaa.NmB Go.Proofs.Ytfojeegepfjbiaa.NmC Go.Proofs.Ytfojeegepfjbiaa.NmD Go.Proofs.Ytfojeegepfjbiaa.NmE Go.Proofs.Ytfojeegepfjbiaa.NmI Go.Proofs.Ytfojeegepfjbiaa.CrP Go.Proofs.Ytfojeegepfjbiaa.CrA Go.Proofs.Ytfojeegepfjbiaa.CrB Go.Proofs.Ytfojeegepfjbiaa.CrC Go.Proofs.Ytfojeegepfjbiaa.CrD Go.Proofs.Ytfojeegepfjbiaa.CrE Go.Proofs.Ytfojeegepfjbiaa.CrG Go.Proofs.Ytfojeegepfjbiaa.CrH Go.Proofs.Ytfojeegepfjbiaa.Mix Go.Proofs.Ytfojeegepfjbiaa.MixT Go.Proofs.Ytfojeegepfjbiaa.RdA Go.Proofs.Ytfojeegepfjbiaa.RdB Go.Proofs.Ytfojeegepfjbiaa.RdC Go.Proofs.Ytfojeegepfjbiaa.RdD Go.Proofs.Ytfojeegepfjbiaa.RdE Go.Proofs.Ytfojeegepfjbiaa.RdF Go.Proofs.Ytfojeegepfjbiaa.RdJ
set_option linter.unusedSimpArgs false
set_option linter.unusedVariables false
attribute [local go_sem] max2_int min2_int max_two min_two

theorem list_ext_rec {ps qs : List Rec} (hl : ps.length = qs.length) (h : ∀ j, j < ps.length → ps.getD j rec0 = qs.getD j rec0) : ps = qs := by
  refine List.ext_getElem hl (fun j h1 h2 => ?_)
  have := h j h1
  rw [List.getD_eq_getElem?_getD, List.getD_eq_getElem?_getD, List.getElem?_eq_getElem h1, List.getElem?_eq_getElem h2] at this
  exact this
set_option maxRecDepth 100000 in
theorem eqall_calls (A : Option Addr) (c : Nat) (ps : List Rec) (A2 : Option Addr) (c2 : Nat) (qs : List Rec) (w : World)
    (hr : recK.C w A ps.length ps) (hr2 : recK.C w A2 qs.length qs) :
    Calls Try.prog 41 #[.slice A ps.length c, .slice A2 qs.length c2] w fun e w' => e = .returned (.bool (decide (ps = qs))) ∧ Below w.heap.size w w' := by
  have hl : ps.length ≤ 9223372036854775807 := Kd.C_max hr
  have HR := Aside0.mk hr
  have HR2 := Aside0.mk hr2
  have HB := Aside0.mk (Below.refl w.heap.size w)
  clear hr hr2
  go_enter Try.func41, Try.ntmps41
  by_cases hlen : ps.length = qs.length
  · have b0 : ((ps.length : Int) != (qs.length : Int)) = false := by simp [hlen]
    have HLEN := Aside0.mk hlen
    clear hlen
    go_wp2_with fail
    go_loopg [5] ps.length (fun q v5 w' => ∃ i : Nat, v5 = .int .i64 (i : Int) ∧ Aside0 (i + q = ps.length ∧ ∀ j, j < i → ps.getD j rec0 = qs.getD j rec0) ∧ Aside0 (Below w.heap.size w w'))
    case atStart => exact ⟨0, rfl, ⟨by omega, fun j hj => by omega⟩, HB⟩
    case round =>
      clear HB
      obtain ⟨i, rfl, HI, HB⟩ := hrel
      have hi := HI.out.1
      have hlen := HLEN.out
      by_cases hlt : i < ps.length
      · obtain ⟨f, rfl⟩ : ∃ f, gk = f + 1 := ⟨gk - 1, by omega⟩
        obtain ⟨ad, e1, p0, p1, p2, p3⟩ := rec_at (Kd.C_below HR.out HB.out) i hlt
        subst e1
        obtain ⟨ad2, e1, q0, q1, q2, q3⟩ := rec_at (Kd.C_below HR2.out HB.out) i (by omega)
        subst e1
        obtain ⟨p, hp⟩ : ∃ p, ps.getD i rec0 = p := ⟨_, rfl⟩
        obtain ⟨q, hq⟩ : ∃ q, qs.getD i rec0 = q := ⟨_, rfl⟩
        rw [hp] at p0 p1 p2 p3
        rw [hq] at q0 q1 q2 q3
        have HP := Aside0.mk (And.intro hp hq)
        have HEQ := Aside0.mk (fun w => eq_calls p q w)
        unfold recV at HEQ
        have k0 : ((i : Int) < (ps.length : Int)) = True := eq_true (by omega)
        have k1 : ((i : Int) < (qs.length : Int)) = True := eq_true (by omega)
        have k2 : i < ps.length := hlt
        have k3 : i < qs.length := by omega
        have kw : IntKind.i64.wrap ((i : Int) + 1) = ((i + 1 : Nat) : Int) := by rw [IntKind.wrap_i64]; omega
        clear hp hq hi hlen
        go_wp2_with fail
        refine wp_region_mix (fun w_ w1_ => Below w_.heap.size w_ w1_) [(false, 0), (false, 1), (false, 2), (false, 3), (false, 4), (false, 5), (false, 6), (false, 7), (true, 8), (false, 9)] (by kernel_rfl) (by kernel_rfl) (fun _ => Below.refl _ _) (fun h h' => below_step h h') (fun wd hhp_ hbw_ => ?_)
        have hxp : ∀ w_ : World, Below wd.heap.size wd w_ → w_.cell? (ad.add (i * 4)) = some (.int .i64 p.1) ∧ w_.cell? ⟨(ad.add (i * 4)).block, (ad.add (i * 4)).off + 1, none⟩ = some (.int .i64 p.2.1) ∧ w_.cell? ⟨(ad.add (i * 4)).block, (ad.add (i * 4)).off + 2, none⟩ = some (.string p.2.2.1) ∧ w_.cell? ⟨(ad.add (i * 4)).block, (ad.add (i * 4)).off + 3, none⟩ = some (.string p.2.2.2) := fun w_ h => ⟨pw_cell_below (below_step hbw_ h) p0, pw_cell_below (below_step hbw_ h) p1, pw_cell_below (below_step hbw_ h) p2, pw_cell_below (below_step hbw_ h) p3⟩
        have hxq : ∀ w_ : World, Below wd.heap.size wd w_ → w_.cell? (ad2.add (i * 4)) = some (.int .i64 q.1) ∧ w_.cell? ⟨(ad2.add (i * 4)).block, (ad2.add (i * 4)).off + 1, none⟩ = some (.int .i64 q.2.1) ∧ w_.cell? ⟨(ad2.add (i * 4)).block, (ad2.add (i * 4)).off + 2, none⟩ = some (.string q.2.2.1) ∧ w_.cell? ⟨(ad2.add (i * 4)).block, (ad2.add (i * 4)).off + 3, none⟩ = some (.string q.2.2.2) := fun w_ h => ⟨pw_cell_below (below_step hbw_ h) q0, pw_cell_below (below_step hbw_ h) q1, pw_cell_below (below_step hbw_ h) q2, pw_cell_below (below_step hbw_ h) q3⟩
        have HXP := Aside0.mk hxp
        have HXQ := Aside0.mk hxq
        clear hxp hxq p0 p1 p2 p3 q0 q1 q2 q3
        (refine mix_read (o := { dst := some 17, op := Op.move (Operand.tmp 0), type := 52, pos := "ref.go:92", after := #[], guard := none }) rfl (by first | rfl | (simp [Region.wanted, yielded]; done)) (by intro w_ hE_; (try dsimp only at hE_); first | (go_simp; done) | (go_simp; rfl)) ?_)
        (try simp only [Act.put, List.setIfInBounds_toArray, List.set_cons_zero, List.set_cons_succ])
        (refine mix_read (o := { dst := some 18, op := Op.move (Operand.tmp 5), type := 3, pos := "ref.go:92", after := #[], guard := none }) rfl (by first | rfl | (simp [Region.wanted, yielded]; done)) (by intro w_ hE_; (try dsimp only at hE_); first | (go_simp; done) | (go_simp; rfl)) ?_)
        (try simp only [Act.put, List.setIfInBounds_toArray, List.set_cons_zero, List.set_cons_succ])
        (refine mix_read (o := { dst := some 19, op := Op.indexAddr 52 (Operand.tmp 17) (Operand.tmp 18), type := 0, pos := "ref.go:92", after := #[{ on := 0, ground := Ground.data }, { on := 1, ground := Ground.data }], guard := none }) rfl (by first | rfl | (simp [Region.wanted, yielded]; done)) (by intro w_ hE_; (try dsimp only at hE_); first | (go_simp; done) | (go_simp; rfl)) ?_)
        (try simp only [Act.put, List.setIfInBounds_toArray, List.set_cons_zero, List.set_cons_succ])
        (refine mix_read (o := { dst := some 20, op := Op.load 45 (Operand.tmp 19), type := 45, pos := "ref.go:92", after := #[{ on := 2, ground := Ground.data }], guard := none }) rfl (by first | rfl | (simp [Region.wanted, yielded]; done)) (by intro w_ hE_; (try dsimp only at hE_); obtain ⟨r0, r1, r2, r3⟩ := HXP.out w_ hE_; first | (go_simp; done) | (go_simp; rfl)) ?_)
        (try simp only [Act.put, List.setIfInBounds_toArray, List.set_cons_zero, List.set_cons_succ])
        (refine mix_read (o := { dst := some 21, op := Op.move (Operand.tmp 1), type := 52, pos := "ref.go:92", after := #[], guard := none }) rfl (by first | rfl | (simp [Region.wanted, yielded]; done)) (by intro w_ hE_; (try dsimp only at hE_); first | (go_simp; done) | (go_simp; rfl)) ?_)
        (try simp only [Act.put, List.setIfInBounds_toArray, List.set_cons_zero, List.set_cons_succ])
        (refine mix_read (o := { dst := some 22, op := Op.move (Operand.tmp 5), type := 3, pos := "ref.go:92", after := #[], guard := none }) rfl (by first | rfl | (simp [Region.wanted, yielded]; done)) (by intro w_ hE_; (try dsimp only at hE_); first | (go_simp; done) | (go_simp; rfl)) ?_)
        (try simp only [Act.put, List.setIfInBounds_toArray, List.set_cons_zero, List.set_cons_succ])
        (refine mix_read (o := { dst := some 23, op := Op.indexAddr 52 (Operand.tmp 21) (Operand.tmp 22), type := 0, pos := "ref.go:92", after := #[{ on := 4, ground := Ground.data }, { on := 5, ground := Ground.data }], guard := none }) rfl (by first | rfl | (simp [Region.wanted, yielded]; done)) (by intro w_ hE_; (try dsimp only at hE_); first | (go_simp; done) | (go_simp; rfl)) ?_)
        (try simp only [Act.put, List.setIfInBounds_toArray, List.set_cons_zero, List.set_cons_succ])
        (refine mix_read (o := { dst := some 24, op := Op.load 45 (Operand.tmp 23), type := 45, pos := "ref.go:92", after := #[{ on := 6, ground := Ground.data }], guard := none }) rfl (by first | rfl | (simp [Region.wanted, yielded]; done)) (by intro w_ hE_; (try dsimp only at hE_); obtain ⟨r0, r1, r2, r3⟩ := HXQ.out w_ hE_; first | (go_simp; done) | (go_simp; rfl)) ?_)
        (try simp only [Act.put, List.setIfInBounds_toArray, List.set_cons_zero, List.set_cons_succ])
        refine mix_call (o := { dst := some 25, op := Op.call { callee := Callee.value (Operand.func 38), args := #[Operand.tmp 20, Operand.tmp 24], argTypes := #[45, 45] }, type := 4, pos := "ref.go:92", after := #[{ on := 3, ground := Ground.data }, { on := 7, ground := Ground.data }], guard := none }) rfl (by first | rfl | (simp [Region.wanted, yielded]; done)) (by first | (go_simp; done) | (go_simp; exact ⟨rfl, rfl⟩) | (go_simp; rfl)) ?_
        refine (HEQ.out _).mono ?_
        rintro e_ w2 ⟨rfl, hb⟩
        refine ⟨_, rfl, hb, ?_⟩
        have HB2 := Aside0.mk (below_step (below_step HB.out hbw_) hb)
        clear hb
        (try simp only [Act.put, List.setIfInBounds_toArray, List.set_cons_zero, List.set_cons_succ])
        (refine mix_read (o := { dst := some 26, op := Op.unOp UnOp.not 4 (Operand.tmp 25), type := 4, pos := "ref.go:92", after := #[{ on := 8, ground := Ground.data }], guard := none }) rfl (by first | rfl | (simp [Region.wanted, yielded]; done)) (by intro w_ hE_; (try dsimp only at hE_); first | (go_simp; done) | (go_simp; rfl)) ?_)
        (try simp only [Act.put, List.setIfInBounds_toArray, List.set_cons_zero, List.set_cons_succ])
        refine mix_nil ?_
        clear HB
        by_cases hpq : p = q
        · rw [decide_eq_true hpq]
          simp only [Bool.not_true]
          go_wp2_with fail
          go_roundg f
          case measure => omega
          case rel =>
            refine ⟨i + 1, by simp, ⟨by have := HI.out.1; omega, fun j hj => ?_⟩, HB2⟩
            rcases Nat.lt_or_ge j i with h | h
            · exact HI.out.2 j h
            · rw [show j = i by omega, HP.out.1, HP.out.2, hpq]
        · rw [decide_eq_false hpq]
          simp only [Bool.not_false]
          have HD : Aside0 (decide (ps = qs) = false) := ⟨decide_eq_false (fun e => hpq (by rw [← HP.out.1, ← HP.out.2, e]))⟩
          clear hpq
          go_wp2
          go_ret
          exact ⟨by rw [HD.out]; rfl, HB2.out⟩
      · have hin : i = ps.length := by omega
        have k0 : ((i : Int) < (ps.length : Int)) = False := eq_false (by omega)
        have HD : Aside0 (decide (ps = qs) = true) := ⟨decide_eq_true (list_ext_rec hlen (by rw [← hin]; exact HI.out.2))⟩
        clear hin hi hlen
        go_wp2
        go_ret
        exact ⟨by rw [HD.out]; rfl, HB.out⟩
  · have b0 : ((ps.length : Int) != (qs.length : Int)) = true := by simp; omega
    have HD : Aside0 (decide (ps = qs) = false) := ⟨decide_eq_false (fun e => hlen (by rw [e]))⟩
    clear hlen
    go_wp2
    go_ret
    exact ⟨by rw [HD.out]; rfl, HB.out⟩
end Go.Proofs.Ytfojeegepfjbiaa.RdK
