/- Contract of begun; LockNone. -/
import Derived.Test.YtopclgpimabpcaaProg
import Derived.Below
import Derived.Deep.Draws
import Derived.Deep.AppendLies
import Derived.Maps.AppendAt
import Derived.OwnWalk
import Derived.Laws.BytesArg
import Derived.Laws.MakeOwn
import Derived.Laws.OwnMore
import Derived.Deep.OwnRows
import Derived.Tactics
import Derived.Lib.ConvBytes
import Derived.Laws.Slices
import Derived.WalkKit
import Derived.KernelRfl
import Derived.RowKit3
import Derived.Deep.LoopGhost
import Derived.Deep.QuietTactic
import Derived.BigQuiet
import Derived.WideLaws
import Derived.Deep.DeepCutAuto
import Derived.Deep.CutBlock
import Derived.Deep.RegionHeld3
import Derived.Laws.Rows
import Derived.Lib.AppendStr
import Derived.ArgAppend
import Derived.Laws.IdiomCopy
import Derived.OrdersHeld
import Derived.Laws.BitsLemmas
import Derived.RowKit
import Derived.WalkSpells
import Derived.Outline
import Derived.Test.YtopclgpimabpcaaWWords
import Derived.Test.YtopclgpimabpcaaWLast
import Derived.Test.YtopclgpimabpcaaWMore
import Derived.Test.YtopclgpimabpcaaWArr
import Derived.Test.YtopclgpimabpcaaWTab
import Derived.Test.YtopclgpimabpcaaWZeros
import Derived.Test.YtopclgpimabpcaaWRepsOne
import Derived.Test.YtopclgpimabpcaaLkF
import Derived.Test.YtopclgpimabpcaaInA
import Derived.Test.YtopclgpimabpcaaTk
namespace Go.Proofs.Ytopclgpimabpcaa.LkG
open Go.RowKit Go.Proofs.YtopclgpimabpcaaW.PrintWords Go.Proofs.YtopclgpimabpcaaW.PrintLast Go.Proofs.YtopclgpimabpcaaW.PrintMore Go.Proofs.Ytopclgpimabpcaa.Mix Go.Proofs.Ytopclgpimabpcaa.MixB Go.Proofs.Ytopclgpimabpcaa.MixT Go.Proofs.Ytopclgpimabpcaa.LkA Go.Proofs.Ytopclgpimabpcaa.LkB Go.Proofs.Ytopclgpimabpcaa.LkC Go.Proofs.Ytopclgpimabpcaa.LkD Go.Proofs.Ytopclgpimabpcaa.LkE Go.Proofs.Ytopclgpimabpcaa.LkF Go.Proofs.Ytopclgpimabpcaa.InA
set_option linter.unusedSimpArgs false
set_option linter.unusedVariables false
attribute [local go_sem] max2_int min2_int max_two min_two

set_option maxRecDepth 100000 in
theorem begun_calls (w : World) : Calls Try.prog 21 #[] w fun e w' => e = .returned (.bool true) ∧ Below w.heap.size w w' := by
  go_enter Try.func21, Try.ntmps21
  go_wp2_with fail
  refine (new_calls w).mono ?_
  rintro e_ w1 ⟨rfl, hl, hb⟩
  obtain ⟨p, hp⟩ : ∃ q, w.heap.size = q := ⟨_, rfl⟩
  have HL1 := Aside0.mk hl
  have HB1 := Aside0.mk hb
  rw [hp] at HL1 ⊢
  have HPP := Aside0.mk hp
  clear hl hb hp
  go_wp2_with fail
  refine (ask_calls HL1.out 1 true (by simp)).mono ?_
  rintro e_ w2 ⟨rfl, hl, hb, _⟩
  rw [show askL ([], []) 1 true = (true, ([(1, true)], [])) by decide] at hl ⊢
  have HL2 := Aside0.mk hl
  have HB2 := Aside0.mk (HB1.out.trans (by rw [HPP.out]; exact hb))
  clear hl hb
  go_wp2_with fail
  refine (ask_calls HL2.out 2 false (by simp)).mono ?_
  rintro e_ w3 ⟨rfl, hl, hb, _⟩
  rw [show askL ([(1, true)], []) 2 false = (false, ([(1, true)], [(2, false)])) by decide] at hl ⊢
  have HL3 := Aside0.mk hl
  have HB3 := Aside0.mk (HB2.out.trans (by rw [HPP.out]; exact hb))
  clear hl hb
  have hh1 : isIn 1 [(1, true)] = true := by decide
  have hh2 : isIn 2 [(1, true)] = false := by decide
  have HH1 := Aside0.mk (fun w (h : LkAt _ _ w p p [(1, true)] [(2, false)]) => has_calls h 1 (by simp))
  have HH2 := Aside0.mk (fun w (h : LkAt _ _ w p p [(1, true)] [(2, false)]) => has_calls h 2 (by simp))
  rw [hh1] at HH1
  rw [hh2] at HH2
  clear hh1 hh2
  go_wp2_with fail
  refine (HH1.out w3 HL3.out).mono ?_
  rintro e_ w4 ⟨rfl, hb⟩
  have HL4 := Aside0.mk (lk_below HL3.out hb)
  have HB4 := Aside0.mk (below_step HB3.out hb)
  clear hb
  go_wp2_with fail
  refine (HH2.out w4 HL4.out).mono ?_
  rintro e_ w5 ⟨rfl, hb⟩
  have HL5 := Aside0.mk (lk_below HL4.out hb)
  have HB5 := Aside0.mk (below_step HB4.out hb)
  clear hb
  go_wp2_with fail
  refine (leave_calls HL5.out 1 (by simp)).mono ?_
  rintro e_ w6 ⟨v6, rfl, ho, hl, hb, _⟩
  rw [show leaveL ([(1, true)], [(2, false)]) 1 = (([(2, false)], []), [2]) by decide] at ho hl
  obtain ⟨A6, c6, rfl⟩ := Kd.R_slice ho
  have HV6 := Aside0.mk (Kd.R_reads' ho).2.2
  have HL6 := Aside0.mk hl
  have HB6 := Aside0.mk (HB5.out.trans (by rw [HPP.out]; exact hb))
  clear ho hl hb
  go_wp2_with fail
  have hlit := Kd.R_of_own (h1 := fun _ => rfl) (own_lit w6 w6.heap.size 3 .i64 [2] (Nat.le_refl _) (by simp)) (ok := fun _ => True) (fun _ _ => trivial)
  have hlc : (Kd.int .i64).C (w6.alloc (.cells #[.int .i64 2] 3 (0, 0))) (some ⟨w6.heap.size, 0, none⟩) [2].length [2] := (Kd.R_reads' hlit).2.2
  have hba := (Below.refl w6.heap.size w6).alloc (Nat.le_refl _) (.cells #[.int .i64 2] 3 (0, 0))
  refine (ints_calls A6 c6 [2] (some ⟨w6.heap.size, 0, none⟩) 1 [2] _ (Kd.C_below HV6.out hba) hlc (by simp)).mono ?_
  rintro e_ w7 ⟨rfl, hb⟩
  have HL7 := Aside0.mk (lk_below HL6.out (below_step hba hb))
  have HB7 := Aside0.mk (below_step HB6.out (below_step hba hb))
  rw [decide_eq_true (rfl : [(2 : Int)] = [2])]
  clear hb hba hlc hlit HV6
  have hh3 : isIn 2 [(2, false)] = true := by decide
  have HH3 := Aside0.mk (has_calls HL7.out 2 (by simp))
  rw [hh3] at HH3
  clear hh3
  go_wp2_with fail
  refine HH3.out.mono ?_
  rintro e_ w8 ⟨rfl, hb⟩
  have HL8 := Aside0.mk (lk_below HL7.out hb)
  have HB8 := Aside0.mk (below_step HB7.out hb)
  clear hb
  go_wp2_with fail
  refine (ask_calls HL8.out 0 false (by simp)).mono ?_
  rintro e_ w9 ⟨rfl, hl, hb, _⟩
  rw [show askL ([(2, false)], []) 0 false = (false, ([(2, false)], [])) by decide]
  have HB9 := Aside0.mk (HB8.out.trans (by rw [HPP.out]; exact hb))
  clear hl hb
  go_wp2
  go_ret
  exact ⟨rfl, HB9.out⟩
theorem has_nil (id : Int) (w : World) : Calls Try.prog 28 #[.pointer none, .int .i64 id] w fun e w' => e = .returned (.bool false) ∧ w = w' := by
  go_enter Try.func28, Try.ntmps28
  go_wp2
  go_ret
  exact ⟨rfl, rfl⟩
theorem waiting_nil (w : World) : Calls Try.prog 30 #[.pointer none] w fun e w' => e = .returned (.slice none 0 0) ∧ w = w' := by
  go_enter Try.func30, Try.ntmps30
  go_wp2
  go_ret
  exact ⟨rfl, rfl⟩
set_option maxRecDepth 100000 in
theorem walk (w : World) : Calls Try.prog 9 #[] w fun e w' => e = .returned (.bool true) ∧ Below w.heap.size w w' := by
  go_enter Try.func9, Try.ntmps9
  go_wp2_with fail
  refine (begun_calls w).mono ?_
  rintro e_ w1 ⟨rfl, hb⟩
  have HB1 := Aside0.mk hb
  clear hb
  go_wp2_with fail
  refine (ask_nil 1 false w1).mono ?_
  rintro e_ w2 ⟨rfl, rfl⟩
  go_wp2_with fail
  refine (has_nil 1 w1).mono ?_
  rintro e_ w2 ⟨rfl, rfl⟩
  go_wp2_with fail
  refine (leave_nil 1 w1).mono ?_
  rintro e_ w2 ⟨rfl, rfl⟩
  go_wp2_with fail
  refine (waiting_nil w1).mono ?_
  rintro e_ w2 ⟨rfl, rfl⟩
  go_wp2
  go_ret
  exact ⟨rfl, HB1.out⟩
end Go.Proofs.Ytopclgpimabpcaa.LkG
