/- Contracts of those, Ready, All, Steps of a pool. -/
import Derived.Test.YtopclgpimabpcaaProg
import Derived.Below
import Derived.Deep.Draws
import Derived.Deep.AppendLies
import Derived.Maps.AppendAt
import Derived.OwnWalk
import Derived.Laws.BytesArg
import Derived.Laws.MakeOwn
import Derived.Laws.OwnMore
import Derived.Deep.OwnRows
import Derived.Tactics
import Derived.Lib.ConvBytes
import Derived.Laws.Slices
import Derived.WalkKit
import Derived.KernelRfl
import Derived.RowKit3
import Derived.Deep.LoopGhost
import Derived.Deep.QuietTactic
import Derived.BigQuiet
import Derived.WideLaws
import Derived.Deep.DeepCutAuto
import Derived.Deep.CutBlock
import Derived.Deep.RegionHeld3
import Derived.Laws.Rows
import Derived.Lib.AppendStr
import Derived.ArgAppend
import Derived.Laws.IdiomCopy
import Derived.OrdersHeld
import Derived.Laws.BitsLemmas
import Derived.RowKit
import Derived.WalkSpells
import Derived.Outline
import Derived.Test.YtopclgpimabpcaaWWords
import Derived.Test.YtopclgpimabpcaaWLast
import Derived.Test.YtopclgpimabpcaaWMore
import Derived.Test.YtopclgpimabpcaaWArr
import Derived.Test.YtopclgpimabpcaaWTab
import Derived.Test.YtopclgpimabpcaaWZeros
import Derived.Test.YtopclgpimabpcaaWRepsOne
import Derived.Test.YtopclgpimabpcaaTk
namespace Go.Proofs.Ytopclgpimabpcaa.TkA
open Go.RowKit Go.Proofs.YtopclgpimabpcaaW.PrintWords Go.Proofs.YtopclgpimabpcaaW.PrintLast Go.Proofs.YtopclgpimabpcaaW.PrintMore Go.Proofs.Ytopclgpimabpcaa.Tk
set_option linter.unusedSimpArgs false
set_option linter.unusedVariables false
attribute [local go_sem] max2_int min2_int max_two min_two

/-- Those of some states, from a number on. -/
def thoseF (m : Int) : Nat → List Tk → List Int
  | _, [] => []
  | i, t :: ts => if t.st ≤ m then ((i : Int) + 1) :: thoseF m (i + 1) ts else thoseF m (i + 1) ts
def thoseL (m : Int) (ts : List Tk) : List Int := thoseF m 0 ts
theorem drop_tk {ts : List Tk} {k : Nat} (hk : k < ts.length) : ts.drop k = ts.getD k default :: ts.drop (k + 1) := by
  rw [List.drop_eq_getElem_cons hk, List.getD_eq_getElem?_getD, List.getElem?_eq_getElem hk]
  rfl
set_option maxRecDepth 100000 in
theorem those_calls {w : World} {B p : Nat} {ts : List Tk} (h : PoolAt w B p ts) (m : Int) :
    Calls Try.prog 33 #[.pointer (some ⟨p, 0, none⟩), .int .i64 m] w fun e w' => ∃ v : Value, e = .returned v ∧ Kd.R (Kd.int .i64) 3 w' w.heap.size (fun _ => True) v (thoseL m ts) ∧ Below w.heap.size w w' := by
  have HP := Aside0.mk h
  obtain ⟨A, c, hc⟩ := pool_slice h
  have hl : ts.length ≤ 1000000 := by obtain ⟨_, _, _, _, _, _, _, h⟩ := h; exact h
  have HL := Aside0.mk hl
  have HB := Aside0.mk (Below.refl w.heap.size w)
  have HTH : Aside0 (thoseL m ts = thoseF m 0 ts) := ⟨rfl⟩
  have HCC := Aside0.mk hc
  clear h
  go_enter Try.func33, Try.ntmps33
  go_wp2_with fail
  obtain ⟨E, hE⟩ : ∃ E, thoseL m ts = E := ⟨_, rfl⟩
  have HEE := Aside0.mk hE
  rw [hE] at HTH
  clear hE
  go_loopg [5, 6, 7, 15] ts.length (fun q v5 v6 v7 v15 w' => ∃ (i : Nat) (acc : List Int), v15 = .int .i64 (i : Int) ∧ Aside0 (i + q = ts.length ∧ acc.length ≤ i ∧ acc ++ thoseF m i (ts.drop i) = E) ∧ Aside0 (Kd.R (Kd.int .i64) 3 w' w.heap.size (fun _ => True) v5 acc) ∧ Aside0 (Below w.heap.size w w'))
  case atStart => exact ⟨0, [], rfl, ⟨by omega, by simp, by rw [HTH.out]; rfl⟩, ⟨Kd.R_nil _ _ _ _ _⟩, HB⟩
  case round =>
    clear HB HTH hc
    obtain ⟨i, acc, rfl, HI, HO, HB⟩ := hrel
    have hi := HI.out
    have hl := HL.out
    by_cases hlt : i < ts.length
    · obtain ⟨f, rfl⟩ : ∃ f, gk = f + 1 := ⟨gk - 1, by omega⟩
      obtain ⟨g, c2, h1, h2, ht⟩ := pool_get HP.out hlt
      have h3 := pw_cell_below HB.out (blk_cell ht.2.2.1 1)
      have e1 := HCC.out.symm.trans h1
      injection e1 with e1
      injection e1 with e1 e2 e3
      subst e1
      have h2' := pw_cell_below HB.out h2
      have HE := hi.2.2
      rw [drop_tk hlt] at HE
      generalize ts.getD i default = t at *
      have h3' : wr.cell? ⟨t.g, 1, none⟩ = some (.int .i64 t.st) := h3
      have hth : thoseF m i (t :: ts.drop (i + 1)) = if t.st ≤ m then ((i : Int) + 1) :: thoseF m (i + 1) (ts.drop (i + 1)) else thoseF m (i + 1) (ts.drop (i + 1)) := rfl
      rw [hth] at HE
      clear hth h3 h1 h2 ht e2 e3
      generalize t.st = st at *
      generalize t.g = tg at *
      have k4 : ((i : Int) < (ts.length : Int)) = True := eq_true (by omega)
      have kw : IntKind.i64.wrap ((i : Int) + 1) = (i : Int) + 1 := by rw [IntKind.wrap_i64]; omega
      have HAL : Aside0 (acc.length ≤ 1000000) := ⟨by omega⟩
      clear hi hl
      by_cases hst : st ≤ m
      · rw [if_pos hst] at HE
        have HE := Aside0.mk HE
        go_wp2_with ((with_reducible refine gate_builtin (b := .append) (xs := #[.tmp 26, .tmp 29]) rfl ?_); at_builtin; go_must (refine Kd.R_append (Kd.int .i64) (w0 := w) (w.heap.size) rfl (.tmp 26) (.tmp 29) 27 3 (.int .i64 0) 8 rfl Try.underlying27 info3 rfl (by decide) (by omega) u5 acc ((i : Int) + 1) [.int .i64 ((i : Int) + 1)] (fun _ => True) (fun _ => False) rfl rfl rfl (fun _ hk => hk.elim) (fun _ _ => trivial) HO.out HB.out HB.out.size (by have := HAL.out; omega) ?_; intro v4 w4 ho hb hg hat; have HO2 := Aside0.mk ho; have HB2 := Aside0.mk hb; clear ho hb hg hat))
        go_roundg f
        case measure => omega
        case rel => exact ⟨i + 1, acc ++ [(i : Int) + 1], by simp, ⟨by have := HI.out; omega, by rw [List.length_append]; have := HI.out; simp; omega, by rw [List.append_assoc]; exact HE.out⟩, HO2, HB2⟩
      · rw [if_neg hst] at HE
        have HE := Aside0.mk HE
        go_wp2_with fail
        go_roundg f
        case measure => omega
        case rel => exact ⟨i + 1, acc, by simp, ⟨by have := HI.out; omega, by have := HI.out; omega, HE.out⟩, HO, HB⟩
    · have k4 : ((i : Int) < (ts.length : Int)) = False := eq_false (by omega)
      have HE := hi.2.2
      rw [List.drop_of_length_le (by omega)] at HE
      have hth : thoseF m i [] = [] := rfl
      rw [hth, List.append_nil] at HE
      have HE := Aside0.mk HE
      clear hi hl hth
      go_wp2
      go_ret
      exact ⟨_, rfl, by rw [HEE.out, ← HE.out]; exact HO.out, HB.out⟩
set_option maxRecDepth 100000 in
theorem those_nil (m : Int) (w : World) :
    Calls Try.prog 33 #[.pointer none, .int .i64 m] w fun e w' => e = .returned (.slice none 0 0) ∧ w = w' := by
  go_enter Try.func33, Try.ntmps33
  go_wp2
  go_ret
  exact ⟨rfl, rfl⟩
theorem ready_calls {w : World} {B p : Nat} {ts : List Tk} (h : PoolAt w B p ts) :
    Calls Try.prog 18 #[.pointer (some ⟨p, 0, none⟩)] w fun e w' => ∃ v : Value, e = .returned v ∧ Kd.R (Kd.int .i64) 3 w' w.heap.size (fun _ => True) v (thoseL 0 ts) ∧ Below w.heap.size w w' := by
  have HT := Aside0.mk (those_calls h 0)
  clear h
  go_enter Try.func18, Try.ntmps18
  go_wp2_with fail
  refine HT.out.mono ?_
  rintro e_ w1 ⟨v, rfl, ho, hb⟩
  have HO := Aside0.mk ho
  have HB := Aside0.mk hb
  clear ho hb
  go_wp2
  go_ret
  exact ⟨_, rfl, HO.out, HB.out⟩
theorem ready_nil (w : World) : Calls Try.prog 18 #[.pointer none] w fun e w' => e = .returned (.slice none 0 0) ∧ w = w' := by
  have HT := Aside0.mk (those_nil 0 w)
  go_enter Try.func18, Try.ntmps18
  go_wp2_with fail
  refine HT.out.mono ?_
  rintro e_ w1 ⟨rfl, rfl⟩
  go_wp2
  go_ret
  exact ⟨rfl, rfl⟩
theorem all_calls {w : World} {B p : Nat} {ts : List Tk} (h : PoolAt w B p ts) :
    Calls Try.prog 19 #[.pointer (some ⟨p, 0, none⟩)] w fun e w' => ∃ v : Value, e = .returned v ∧ Kd.R (Kd.int .i64) 3 w' w.heap.size (fun _ => True) v (thoseL 1 ts) ∧ Below w.heap.size w w' := by
  have HT := Aside0.mk (those_calls h 1)
  clear h
  go_enter Try.func19, Try.ntmps19
  go_wp2_with fail
  refine HT.out.mono ?_
  rintro e_ w1 ⟨v, rfl, ho, hb⟩
  have HO := Aside0.mk ho
  have HB := Aside0.mk hb
  clear ho hb
  go_wp2
  go_ret
  exact ⟨_, rfl, HO.out, HB.out⟩
theorem all_nil (w : World) : Calls Try.prog 19 #[.pointer none] w fun e w' => e = .returned (.slice none 0 0) ∧ w = w' := by
  have HT := Aside0.mk (those_nil 1 w)
  go_enter Try.func19, Try.ntmps19
  go_wp2_with fail
  refine HT.out.mono ?_
  rintro e_ w1 ⟨rfl, rfl⟩
  go_wp2
  go_ret
  exact ⟨rfl, rfl⟩

theorem steps_some {w : World} {B p : Nat} {ts : List Tk} (h : PoolAt w B p ts) (k : Nat) (hk : k < ts.length) :
    Calls Try.prog 20 #[.pointer (some ⟨p, 0, none⟩), .int .i64 ((k + 1 : Nat) : Int)] w fun e w' => e = .returned (.int .i64 ((ts.getD k default).sp : Int)) ∧ w = w' := by
  have HF := Aside0.mk (find_some h k hk)
  obtain ⟨g, c2, _, _, ht⟩ := pool_get h hk
  have h3 := blk_cell ht.2.2.1 2
  generalize ts.getD k default = t at *
  have h3' : w.cell? ⟨t.g, 2, none⟩ = some (.int .i64 (t.sp : Int)) := h3
  clear h h3 ht
  generalize t.sp = sp at *
  generalize t.g = tg at *
  generalize ((k + 1 : Nat) : Int) = id at *
  go_enter Try.func20, Try.ntmps20
  go_wp2_with fail
  refine HF.out.mono ?_
  rintro e_ w1 ⟨rfl, rfl⟩
  go_wp2
  go_ret
  exact ⟨rfl, rfl⟩
theorem steps_nil (id : Int) (w : World) :
    Calls Try.prog 20 #[.pointer none, .int .i64 id] w fun e w' => e = .returned (.int .i64 0) ∧ w = w' := by
  have HF := Aside0.mk (find_nil id w)
  go_enter Try.func20, Try.ntmps20
  go_wp2_with fail
  refine HF.out.mono ?_
  rintro e_ w1 ⟨rfl, rfl⟩
  go_wp2
  go_ret
  exact ⟨rfl, rfl⟩
end Go.Proofs.Ytopclgpimabpcaa.TkA
