/- begun of the statements on tasks, TaskNone. -/
import Derived.Test.YtopclgpimabpcaaProg
import Derived.Below
import Derived.Deep.Draws
import Derived.Deep.AppendLies
import Derived.Maps.AppendAt
import Derived.OwnWalk
import Derived.Laws.BytesArg
import Derived.Laws.MakeOwn
import Derived.Laws.OwnMore
import Derived.Deep.OwnRows
import Derived.Tactics
import Derived.Lib.ConvBytes
import Derived.Laws.Slices
import Derived.WalkKit
import Derived.KernelRfl
import Derived.RowKit3
import Derived.Deep.LoopGhost
import Derived.Deep.QuietTactic
import Derived.BigQuiet
import Derived.WideLaws
import Derived.Deep.DeepCutAuto
import Derived.Deep.CutBlock
import Derived.Deep.RegionHeld3
import Derived.Laws.Rows
import Derived.Lib.AppendStr
import Derived.ArgAppend
import Derived.Laws.IdiomCopy
import Derived.OrdersHeld
import Derived.Laws.BitsLemmas
import Derived.RowKit
import Derived.WalkSpells
import Derived.Outline
import Derived.Test.YtopclgpimabpcaaWWords
import Derived.Test.YtopclgpimabpcaaWLast
import Derived.Test.YtopclgpimabpcaaWMore
import Derived.Test.YtopclgpimabpcaaWArr
import Derived.Test.YtopclgpimabpcaaWTab
import Derived.Test.YtopclgpimabpcaaWZeros
import Derived.Test.YtopclgpimabpcaaWRepsOne
import Derived.Test.YtopclgpimabpcaaTkD
namespace Go.Proofs.Ytopclgpimabpcaa.TkE
open Go.RowKit Go.Proofs.YtopclgpimabpcaaW.PrintWords Go.Proofs.YtopclgpimabpcaaW.PrintLast Go.Proofs.YtopclgpimabpcaaW.PrintMore Go.Proofs.Ytopclgpimabpcaa.Tk Go.Proofs.Ytopclgpimabpcaa.TkA Go.Proofs.Ytopclgpimabpcaa.TkB Go.Proofs.Ytopclgpimabpcaa.TkC Go.Proofs.Ytopclgpimabpcaa.TkD Go.Proofs.Ytopclgpimabpcaa.Mix
set_option linter.unusedSimpArgs false
set_option linter.unusedVariables false
attribute [local go_sem] max2_int min2_int max_two min_two

theorem alloc2 (w : World) (o1 o2 : Obj) : ((w.alloc o1).alloc o2).heap[w.heap.size]? = some o1 ∧ ((w.alloc o1).alloc o2).heap[w.heap.size + 1]? = some o2 ∧ Below w.heap.size w ((w.alloc o1).alloc o2) := by
  have hs : (w.alloc o1).heap.size = w.heap.size + 1 := by show (w.heap.push _).size = _; exact Array.size_push _
  refine ⟨blk_alloc (blk_new w o1) o2, ?_, ((Below.refl w.heap.size w).alloc (Nat.le_refl _) o1).alloc (by omega) o2⟩
  rw [← hs]
  exact blk_new (w.alloc o1) o2
theorem below_to {B : Nat} {w w1 w2 : World} (h : Below B w w1) (hB : B ≤ w1.heap.size) (k : Below w1.heap.size w1 w2) : Below B w w2 := below_then h hB k
set_option maxRecDepth 100000 in
set_option maxHeartbeats 1000000 in
theorem begun_calls (w : World) : Calls Try.prog 12 #[] w fun e w' => e = .returned (.bool true) ∧ Below w.heap.size w w' := by
  go_enter Try.func12, Try.ntmps12
  go_wp2_with fail
  refine (new_calls w.heap.size w (Nat.le_refl _)).mono ?_
  rintro e_ w1 ⟨p, rfl, hp, hb⟩
  have HP := Aside0.mk hp
  have HB := Aside0.mk hb
  clear hp hb
  go_wp2_with fail
  have ha2 := alloc2 w1 (.cells #[.int .i64 0, .int .i64 1] 3 (0, 0)) (.cells #[.slice (some ⟨w1.heap.size, 0, none⟩) 2 2, .int .i64 0] 32 (0, 0))
  have hown := (own_lit w1 w.heap.size 3 .i64 [0, 1] HB.out.size (by simp)).alloc (.cells #[.slice (some ⟨w1.heap.size, 0, none⟩) 2 2, .int .i64 0] 32 (0, 0))
  have hown2 : ((w1.alloc (.cells #[.int .i64 0, .int .i64 1] 3 (0, 0))).alloc (.cells #[.slice (some ⟨w1.heap.size, 0, none⟩) 2 2, .int .i64 0] 32 (0, 0))).ownsRow w.heap.size 3 1 (.slice (some ⟨w1.heap.size, 0, none⟩) 2 2) 2 (nums .i64 [0, 1]) := hown
  clear hown
  generalize (w1.alloc (.cells #[.int .i64 0, .int .i64 1] 3 (0, 0))).alloc (.cells #[.slice (some ⟨w1.heap.size, 0, none⟩) 2 2, .int .i64 0] 32 (0, 0)) = W at *
  have hadd := add_go (n := 0) (L := [0, 1]) (pool_below HP.out ha2.2.2) (by decide) (by decide) (by have := HB.out.size; omega) ha2.2.1 hown2 (by simp)
  have HBW := Aside0.mk (below_step HB.out ha2.2.2)
  clear ha2 hown2
  generalize w1.heap.size + 1 = h at *
  generalize (Value.slice (some ⟨w1.heap.size, 0, none⟩) 2 2) = lv at *
  refine hadd.mono ?_
  clear hadd
  rintro e_ w2 ⟨he, ⟨g, hp⟩, hb, hk⟩
  have he' : e_ = .returned (.int .i64 1) := he
  subst he'
  have hp2 : PoolAt w2 w.heap.size p [⟨g, h, lv, [0, 1], 0, 0, 0⟩] := hp
  have HB2 := Aside0.mk (HBW.out.trans hb)
  clear he hp hb hk
  go_wp2_with fail
  have hs : Calls Try.prog 15 #[.pointer (some ⟨p, 0, none⟩), .int .i64 1] w2 _ := step_go hp2 0 (by simp) rfl (by simp) (by simp)
  refine hs.mono ?_
  rintro e_ w3 ⟨rfl, hp, hb, hk⟩
  have hp3 : PoolAt w3 w.heap.size p [⟨g, h, lv, [0, 1], 1, 0, 1⟩] := hp
  have HB3 := Aside0.mk (HB2.out.trans hb)
  clear hp hb hk hs hp2
  go_wp2_with fail
  have hs : Calls Try.prog 15 #[.pointer (some ⟨p, 0, none⟩), .int .i64 1] w3 _ := step_go hp3 0 (by simp) rfl (by simp) (by simp)
  refine hs.mono ?_
  rintro e_ w4 ⟨rfl, hp, hb, hk⟩
  have hp4 : PoolAt w4 w.heap.size p [⟨g, h, lv, [0, 1], 2, 1, 2⟩] := hp
  have HB4 := Aside0.mk (HB3.out.trans hb)
  clear hp hb hk hs hp3
  go_wp2_with fail
  have hs : Calls Try.prog 15 #[.pointer (some ⟨p, 0, none⟩), .int .i64 1] w4 _ := step_idle hp4 0 (by simp) (by simp)
  refine hs.mono ?_
  rintro e_ w5 ⟨rfl, rfl⟩
  clear hs
  go_wp2_with fail
  have hs : Calls Try.prog 16 #[.pointer (some ⟨p, 0, none⟩), .int .i64 1] w4 _ := wake_set hp4 0 (by simp)
  refine hs.mono ?_
  rintro e_ w5 ⟨rfl, hp, hb, hk⟩
  have hp5 : PoolAt w5 w.heap.size p [⟨g, h, lv, [0, 1], 2, 0, 2⟩] := hp
  have HB5 := Aside0.mk (HB4.out.trans hb)
  clear hp hb hk hs hp4
  go_wp2_with fail
  have hs : Calls Try.prog 15 #[.pointer (some ⟨p, 0, none⟩), .int .i64 1] w5 _ := step_go hp5 0 (by simp) rfl (by simp) (by simp)
  refine hs.mono ?_
  rintro e_ w6 ⟨rfl, hp, hb, hk⟩
  have hp6 : PoolAt w6 w.heap.size p [⟨g, h, lv, [0, 1], 3, 2, 3⟩] := hp
  have HB6 := Aside0.mk (HB5.out.trans hb)
  clear hp hb hk hs hp5
  go_wp2_with fail
  have hs : Calls Try.prog 15 #[.pointer (some ⟨p, 0, none⟩), .int .i64 1] w6 _ := step_idle hp6 0 (by simp) (by simp)
  refine hs.mono ?_
  rintro e_ w7 ⟨rfl, rfl⟩
  clear hs
  go_wp2_with fail
  have hs : Calls Try.prog 20 #[.pointer (some ⟨p, 0, none⟩), .int .i64 1] w6 _ := steps_some hp6 0 (by simp)
  refine hs.mono ?_
  rintro e_ w7 ⟨he, rfl⟩
  have he' : e_ = .returned (.int .i64 3) := he
  subst he'
  clear hs he
  go_wp2_with fail
  have hs := all_calls hp6
  refine hs.mono ?_
  rintro e_ w7 ⟨v7, rfl, ho, hb⟩
  have ho' : Kd.R (Kd.int .i64) 3 w7 w6.heap.size (fun _ => True) v7 [] := ho
  obtain ⟨A7, c7, rfl⟩ := Kd.R_slice ho'
  have HB7 := Aside0.mk (below_step HB6.out hb)
  clear ho ho' hb hs hp6
  go_wp2_with fail
  refine (add_nilw (w := w7) (p := p)).mono ?_
  rintro e_ w8 ⟨rfl, rfl⟩
  go_wp2
  go_ret
  exact ⟨by simp, HB7.out⟩
set_option maxRecDepth 100000 in
theorem none_walk (w : World) : Calls Try.prog 4 #[] w fun e w' => e = .returned (.bool true) ∧ Below w.heap.size w w' := by
  go_enter Try.func4, Try.ntmps4
  go_wp2_with fail
  refine (wake_nil 1 w).mono ?_
  rintro e_ w0 ⟨rfl, rfl⟩
  go_wp2_with fail
  refine (begun_calls w).mono ?_
  rintro e_ w1 ⟨rfl, hb⟩
  have HB := Aside0.mk hb
  clear hb
  go_wp2_with fail
  have HB2 := Aside0.mk (below_step HB.out ((Below.refl w1.heap.size w1).alloc (Nat.le_refl _) (.cells #[.slice none 0 0, .int .i64 0] 32 (0, 0))))
  refine (add_nil _ _ ⟨_, _, rfl⟩).mono ?_
  rintro e_ w2 ⟨rfl, hw⟩
  rw [hw] at HB2
  clear hw HB
  go_wp2_with fail
  refine (step_nil 1 w2).mono ?_
  rintro e_ w3 ⟨rfl, rfl⟩
  go_wp2_with fail
  refine (ready_nil w2).mono ?_
  rintro e_ w3 ⟨rfl, rfl⟩
  go_wp2_with fail
  refine (all_nil w2).mono ?_
  rintro e_ w3 ⟨rfl, rfl⟩
  go_wp2_with fail
  refine (steps_nil 1 w2).mono ?_
  rintro e_ w3 ⟨rfl, rfl⟩
  go_wp2
  go_ret
  exact ⟨by simp, HB2.out⟩
end Go.Proofs.Ytopclgpimabpcaa.TkE
