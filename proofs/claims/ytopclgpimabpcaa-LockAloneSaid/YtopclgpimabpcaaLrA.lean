/- The reference's lock: contracts of may, Has, Waits, without, Waiting. -/
import Derived.Test.YtopclgpimabpcaaProg
import Derived.Below
import Derived.Deep.Draws
import Derived.Deep.AppendLies
import Derived.Maps.AppendAt
import Derived.OwnWalk
import Derived.Laws.BytesArg
import Derived.Laws.MakeOwn
import Derived.Laws.OwnMore
import Derived.Deep.OwnRows
import Derived.Tactics
import Derived.Lib.ConvBytes
import Derived.Laws.Slices
import Derived.WalkKit
import Derived.KernelRfl
import Derived.RowKit3
import Derived.Deep.LoopGhost
import Derived.Deep.QuietTactic
import Derived.BigQuiet
import Derived.WideLaws
import Derived.Deep.DeepCutAuto
import Derived.Deep.CutBlock
import Derived.Deep.RegionHeld3
import Derived.Laws.Rows
import Derived.Lib.AppendStr
import Derived.ArgAppend
import Derived.Laws.IdiomCopy
import Derived.OrdersHeld
import Derived.Laws.BitsLemmas
import Derived.RowKit
import Derived.WalkSpells
import Derived.Outline
import Derived.Test.YtopclgpimabpcaaWWords
import Derived.Test.YtopclgpimabpcaaWLast
import Derived.Test.YtopclgpimabpcaaWMore
import Derived.Test.YtopclgpimabpcaaWArr
import Derived.Test.YtopclgpimabpcaaWTab
import Derived.Test.YtopclgpimabpcaaWZeros
import Derived.Test.YtopclgpimabpcaaWRepsOne
import Derived.Test.YtopclgpimabpcaaLkG
namespace Go.Proofs.Ytopclgpimabpcaa.LrA
open Go.RowKit Go.Proofs.YtopclgpimabpcaaW.PrintWords Go.Proofs.YtopclgpimabpcaaW.PrintLast Go.Proofs.YtopclgpimabpcaaW.PrintMore Go.Proofs.Ytopclgpimabpcaa.Mix Go.Proofs.Ytopclgpimabpcaa.MixB Go.Proofs.Ytopclgpimabpcaa.MixT Go.Proofs.Ytopclgpimabpcaa.LkA Go.Proofs.Ytopclgpimabpcaa.LkB Go.Proofs.Ytopclgpimabpcaa.LkC Go.Proofs.Ytopclgpimabpcaa.LkD Go.Proofs.Ytopclgpimabpcaa.LkE Go.Proofs.Ytopclgpimabpcaa.LkF
set_option linter.unusedSimpArgs false
set_option linter.unusedVariables false
attribute [local go_sem] max2_int min2_int max_two min_two

abbrev RT : Nat := 48
abbrev RE : Nat := 81
theorem info81 : (Try.prog.info? 81).map (fun i => (i.zero, i.size, i.bytes)) = some (some (.agg #[.int .i64 0, .bool false]), 2, 16) := by kernel_rfl

set_option maxRecDepth 100000 in
theorem rhas_calls {w : World} {B p : Nat} {hs ws : List (Int × Bool)} (h : LkAt RT RE w B p hs ws) (id : Int) (hl : hs.length ≤ 1000000) :
    Calls Try.prog 29 #[.pointer (some ⟨p, 0, none⟩), .int .i64 id] w fun e w' => e = .returned (.bool (isIn id hs)) ∧ w = w' := by
  obtain ⟨A1, c1, A2, c2, h2, l1, l2, r1, r2, _⟩ := lk_reads h
  have x0 : w.cell? ⟨p, 0, none⟩ = some (.slice A1 hs.length c1) := blk_cell h2 0
  have HR := Aside0.mk r1
  obtain ⟨R, hR⟩ : ∃ q, isIn id hs = q := ⟨_, rfl⟩
  have HE := Aside0.mk hR
  rw [hR]
  clear h h2 r1 r2 hR
  go_enter Try.func29, Try.ntmps29
  go_wp2_with fail
  go_loopg [5] hs.length (fun q v5 w' => ∃ i : Nat, v5 = .int .i64 (i : Int) ∧ Aside0 (i + q = hs.length ∧ isIn id (hs.drop i) = R) ∧ Aside0 (w = w'))
  case atStart => exact ⟨0, rfl, ⟨by omega, HE.out⟩, ⟨rfl⟩⟩
  case round =>
    obtain ⟨i, rfl, HI, HW⟩ := hrel
    have hw := HW.out
    subst hw
    have hi := HI.out
    by_cases hlt : i < hs.length
    · obtain ⟨f, rfl⟩ : ∃ f, gk = f + 1 := ⟨gk - 1, by omega⟩
      obtain ⟨ad, e1, q0, q1⟩ := one_at HR.out i hlt
      subst e1
      have hf := hi.2
      rw [drop_one hlt] at hf
      generalize hs.getD i (0, false) = o at *
      obtain ⟨who, wr⟩ := o
      have q0' : w.cell? (ad.add (i * 2)) = some (.int .i64 who) := q0
      have k0 : ((i : Int) < (hs.length : Int)) = True := eq_true (by omega)
      have kw : IntKind.i64.wrap ((i : Int) + 1) = ((i + 1 : Nat) : Int) := by rw [IntKind.wrap_i64]; omega
      have hf' : ((who == id) || isIn id (hs.drop (i + 1))) = R := hf
      by_cases hwi : who = id
      · have b0 : (who == id) = true := by simp [hwi]
        rw [b0, Bool.true_or] at hf'
        clear hwi hi q0 q1 hf HE
        subst hf'
        go_wp2
        go_ret
        exact ⟨rfl, rfl⟩
      · have b0 : (who == id) = false := beq_eq_false_iff_ne.2 hwi
        rw [b0, Bool.false_or] at hf'
        have HF := Aside0.mk hf'
        clear hwi hi q0 q1 hf hf'
        go_wp2_with fail
        go_roundg f
        case measure => omega
        case rel => exact ⟨i + 1, by simp, ⟨by have := HI.out; omega, HF.out⟩, ⟨rfl⟩⟩
    · have k0 : ((i : Int) < (hs.length : Int)) = False := eq_false (by omega)
      have hf := hi.2
      rw [List.drop_of_length_le (by omega)] at hf
      have HF : Aside0 (R = false) := ⟨hf.symm⟩
      clear hi hf hlt
      go_wp2
      go_ret
      exact ⟨by rw [HF.out]; rfl, rfl⟩

set_option maxRecDepth 100000 in
theorem rwaits_calls {w : World} {B p : Nat} {hs ws : List (Int × Bool)} (h : LkAt RT RE w B p hs ws) (id : Int) (hl : ws.length ≤ 1000000) :
    Calls Try.prog 37 #[.pointer (some ⟨p, 0, none⟩), .int .i64 id] w fun e w' => e = .returned (.bool (isIn id ws)) ∧ w = w' := by
  obtain ⟨A1, c1, A2, c2, h2, l1, l2, r1, r2, _⟩ := lk_reads h
  have x0 : w.cell? ⟨p, 1, none⟩ = some (.slice A2 ws.length c2) := blk_cell h2 1
  have HR := Aside0.mk r2
  obtain ⟨R, hR⟩ : ∃ q, isIn id ws = q := ⟨_, rfl⟩
  have HE := Aside0.mk hR
  rw [hR]
  clear h h2 r1 r2 hR
  go_enter Try.func37, Try.ntmps37
  go_wp2_with fail
  go_loopg [5] ws.length (fun q v5 w' => ∃ i : Nat, v5 = .int .i64 (i : Int) ∧ Aside0 (i + q = ws.length ∧ isIn id (ws.drop i) = R) ∧ Aside0 (w = w'))
  case atStart => exact ⟨0, rfl, ⟨by omega, HE.out⟩, ⟨rfl⟩⟩
  case round =>
    obtain ⟨i, rfl, HI, HW⟩ := hrel
    have hw := HW.out
    subst hw
    have hi := HI.out
    by_cases hlt : i < ws.length
    · obtain ⟨f, rfl⟩ : ∃ f, gk = f + 1 := ⟨gk - 1, by omega⟩
      obtain ⟨ad, e1, q0, q1⟩ := one_at HR.out i hlt
      subst e1
      have hf := hi.2
      rw [drop_one hlt] at hf
      generalize ws.getD i (0, false) = o at *
      obtain ⟨who, wr⟩ := o
      have q0' : w.cell? (ad.add (i * 2)) = some (.int .i64 who) := q0
      have k0 : ((i : Int) < (ws.length : Int)) = True := eq_true (by omega)
      have kw : IntKind.i64.wrap ((i : Int) + 1) = ((i + 1 : Nat) : Int) := by rw [IntKind.wrap_i64]; omega
      have hf' : ((who == id) || isIn id (ws.drop (i + 1))) = R := hf
      by_cases hwi : who = id
      · have b0 : (who == id) = true := by simp [hwi]
        rw [b0, Bool.true_or] at hf'
        clear hwi hi q0 q1 hf HE
        subst hf'
        go_wp2
        go_ret
        exact ⟨rfl, rfl⟩
      · have b0 : (who == id) = false := beq_eq_false_iff_ne.2 hwi
        rw [b0, Bool.false_or] at hf'
        have HF := Aside0.mk hf'
        clear hwi hi q0 q1 hf hf'
        go_wp2_with fail
        go_roundg f
        case measure => omega
        case rel => exact ⟨i + 1, by simp, ⟨by have := HI.out; omega, HF.out⟩, ⟨rfl⟩⟩
    · have k0 : ((i : Int) < (ws.length : Int)) = False := eq_false (by omega)
      have hf := hi.2
      rw [List.drop_of_length_le (by omega)] at hf
      have HF : Aside0 (R = false) := ⟨hf.symm⟩
      clear hi hf hlt
      go_wp2
      go_ret
      exact ⟨by rw [HF.out]; rfl, rfl⟩

def mayR (hs : List (Int × Bool)) (wr : Bool) : Bool := hs.all (fun h => !(wr || h.2))
set_option maxRecDepth 100000 in
theorem rmay_calls {w : World} {B p : Nat} {hs ws : List (Int × Bool)} (h : LkAt RT RE w B p hs ws) (who : Int) (wr : Bool) (hl : hs.length ≤ 1000000) :
    Calls Try.prog 39 #[.pointer (some ⟨p, 0, none⟩), .agg #[.int .i64 who, .bool wr]] w fun e w' => e = .returned (.bool (mayR hs wr)) ∧ Below w.heap.size w w' := by
  obtain ⟨A1, c1, A2, c2, h2, l1, l2, r1, r2, _⟩ := lk_reads h
  have hba := (Below.refl w.heap.size w).alloc (Nat.le_refl _) (.cells #[.int .i64 who, .bool wr] 81 (0, 0))
  have hbx := blk_new w (.cells #[.int .i64 who, .bool wr] 81 (0, 0))
  obtain ⟨w1, hw1⟩ : ∃ q, w.alloc (.cells #[.int .i64 who, .bool wr] 81 (0, 0)) = q := ⟨_, rfl⟩
  obtain ⟨x, hx⟩ : ∃ q, w.heap.size = q := ⟨_, rfl⟩
  rw [hw1] at hba hbx
  have HB := Aside0.mk hba
  rw [hx] at hbx
  have hp1 := blk_below h2 hba
  have x0 : w1.cell? ⟨p, 0, none⟩ = some (.slice A1 hs.length c1) := blk_cell hp1 0
  have y1 : w1.cell? ⟨x, 1, none⟩ = some (.bool wr) := blk_cell hbx 1
  have HR := Aside0.mk (Kd.C_below r1 hba)
  rw [hx] at HB
  obtain ⟨R, hR⟩ : ∃ q, mayR hs wr = q := ⟨_, rfl⟩
  have HE := Aside0.mk hR
  rw [hR]
  clear h h2 r1 r2 hR hba hbx hp1
  go_enter Try.func39, Try.ntmps39
  go_wp2_with fail
  go_loopg [5] hs.length (fun q v5 w' => ∃ i : Nat, v5 = .int .i64 (i : Int) ∧ Aside0 (i + q = hs.length ∧ mayR (hs.drop i) wr = R) ∧ Aside0 (w1 = w'))
  case atStart => exact ⟨0, rfl, ⟨by omega, HE.out⟩, ⟨rfl⟩⟩
  case round =>
    obtain ⟨i, rfl, HI, HW⟩ := hrel
    have hw := HW.out
    subst hw
    have hi := HI.out
    by_cases hlt : i < hs.length
    · obtain ⟨f, rfl⟩ : ∃ f, gk = f + 1 := ⟨gk - 1, by omega⟩
      obtain ⟨ad, e1, q0, q1⟩ := one_at HR.out i hlt
      subst e1
      have hf := hi.2
      rw [drop_one hlt] at hf
      generalize hs.getD i (0, false) = o at *
      obtain ⟨who2, wr2⟩ := o
      have q1' : w1.cell? ⟨(ad.add (i * 2)).block, (ad.add (i * 2)).off + 1, none⟩ = some (.bool wr2) := q1
      have k0 : ((i : Int) < (hs.length : Int)) = True := eq_true (by omega)
      have kw : IntKind.i64.wrap ((i : Int) + 1) = ((i + 1 : Nat) : Int) := by rw [IntKind.wrap_i64]; omega
      have hf' : (!(wr || wr2) && mayR (hs.drop (i + 1)) wr) = R := hf
      clear q0 q1 hf HE hi
      cases wr with
      | true =>
        have HF : Aside0 (R = false) := ⟨by rw [← hf']; rfl⟩
        clear hf'
        go_wp2
        go_ret
        exact ⟨by rw [HF.out]; rfl, HB.out⟩
      | false =>
        cases wr2 with
        | true =>
          have HF : Aside0 (R = false) := ⟨by rw [← hf']; rfl⟩
          clear hf'
          go_wp2
          go_ret
          exact ⟨by rw [HF.out]; rfl, HB.out⟩
        | false =>
          have HF : Aside0 (mayR (hs.drop (i + 1)) false = R) := ⟨by rw [← hf']; rfl⟩
          clear hf'
          go_wp2_with fail
          go_roundg f
          case measure => omega
          case rel => exact ⟨i + 1, by simp, ⟨by have := HI.out; omega, HF.out⟩, ⟨rfl⟩⟩
    · have k0 : ((i : Int) < (hs.length : Int)) = False := eq_false (by omega)
      have hf := hi.2
      rw [List.drop_of_length_le (by omega)] at hf
      have HF : Aside0 (R = true) := ⟨hf.symm⟩
      clear hi hf hlt
      go_wp2
      go_ret
      exact ⟨by rw [HF.out]; rfl, HB.out⟩
set_option maxRecDepth 100000 in
theorem rwaiting_calls {w : World} {B p : Nat} {hs ws : List (Int × Bool)} (h : LkAt RT RE w B p hs ws) (hl : ws.length ≤ 1000000) :
    Calls Try.prog 31 #[.pointer (some ⟨p, 0, none⟩)] w fun e w' => ∃ v : Value, e = .returned v ∧ Kd.R (Kd.int .i64) 3 w' w.heap.size (fun _ => True) v (ws.map Prod.fst) ∧ Below w.heap.size w w' := by
  obtain ⟨A1, c1, A2, c2, h2, l1, l2, r1, r2, _⟩ := lk_reads h
  have HP := Aside0.mk h2
  have HR := Aside0.mk r2
  have HB := Aside0.mk (Below.refl w.heap.size w)
  clear h h2 r1 r2
  go_enter Try.func31, Try.ntmps31
  go_wp2_with fail
  go_loopg [3, 4] ws.length (fun q v3 v4 w' => ∃ i : Nat, v4 = .int .i64 (i : Int) ∧ Aside0 (i + q = ws.length) ∧ Aside0 (Kd.R (Kd.int .i64) 3 w' w.heap.size (fun _ => True) v3 ((ws.take i).map Prod.fst)) ∧ Aside0 (Below w.heap.size w w'))
  case atStart => exact ⟨0, rfl, ⟨by omega⟩, ⟨Kd.R_nil _ _ _ _ _⟩, HB⟩
  case round =>
    clear HB
    obtain ⟨i, rfl, HI, HO, HB⟩ := hrel
    have hi := HI.out
    have x1 : wr.cell? ⟨p, 1, none⟩ = some (.slice A2 ws.length c2) := blk_cell (blk_below HP.out HB.out) 1
    by_cases hlt : i < ws.length
    · obtain ⟨f, rfl⟩ : ∃ f, gk = f + 1 := ⟨gk - 1, by omega⟩
      obtain ⟨ad, e1, q0, q1⟩ := one_at (Kd.C_below HR.out HB.out) i hlt
      subst e1
      have htk : (ws.take (i + 1)).map Prod.fst = (ws.take i).map Prod.fst ++ [(ws.getD i (0, false)).1] := by
        rw [List.take_add_one, List.getElem?_eq_getElem hlt, List.getD_eq_getElem?_getD, List.getElem?_eq_getElem hlt, List.map_append]
        rfl
      have hal : ((ws.take i).map Prod.fst).length ≤ 1000000 := by rw [List.length_map, List.length_take]; omega
      generalize ws.getD i (0, false) = o at *
      obtain ⟨who, ow⟩ := o
      have q0' : wr.cell? (ad.add (i * 2)) = some (.int .i64 who) := q0
      have k0 : ((i : Int) < (ws.length : Int)) = True := eq_true (by omega)
      have kw : IntKind.i64.wrap ((i : Int) + 1) = ((i + 1 : Nat) : Int) := by rw [IntKind.wrap_i64]; omega
      have HTK := Aside0.mk htk
      have HAL := Aside0.mk hal
      clear q0 q1 htk hal hi
      generalize (ws.take i).map Prod.fst = acc at *
      go_wp2_with ((with_reducible refine gate_builtin (b := .append) (xs := #[.tmp 14, .tmp 23]) rfl ?_); at_builtin; go_must (refine Kd.R_append (Kd.int .i64) (w0 := w) (w.heap.size) rfl (.tmp 14) (.tmp 23) 27 3 (.int .i64 0) 8 rfl Try.underlying27 info3 rfl (by decide) (by omega) u3 acc who [.int .i64 who] (fun _ => True) (fun _ => False) rfl rfl rfl (fun _ hk => hk.elim) (fun _ _ => trivial) HO.out HB.out HB.out.size (by have := HAL.out; omega) ?_; intro v4 w4 ho hb hg hat; have HO4 := Aside0.mk ho; have HB4 := Aside0.mk hb; clear ho hb hg hat))
      go_roundg f
      case measure => omega
      case rel => exact ⟨i + 1, by simp, ⟨by have := HI.out; omega⟩, ⟨by rw [HTK.out]; exact HO4.out⟩, HB4⟩
    · have k0 : ((i : Int) < (ws.length : Int)) = False := eq_false (by omega)
      rw [List.take_of_length_le (by omega)] at HO
      clear hi hlt
      go_wp2
      go_ret
      exact ⟨_, rfl, HO.out, HB.out⟩
/-- All but those of a number. -/
def wo (id : Int) (os : List (Int × Bool)) : List (Int × Bool) := os.filter (fun o => o.1 != id)
theorem wo_snoc (id : Int) (os : List (Int × Bool)) (o : Int × Bool) : wo id (os ++ [o]) = if o.1 = id then wo id os else wo id os ++ [o] := by
  unfold wo
  rw [List.filter_append]
  by_cases h : o.1 = id
  · rw [if_pos h]; simp [h]
  · rw [if_neg h]; simp [h]
set_option maxRecDepth 100000 in
theorem without_calls (A : Option Addr) (c : Nat) (os : List (Int × Bool)) (id : Int) (w : World) (hr : KOne.C w A os.length os) (hl : os.length ≤ 1000000) :
    Calls Try.prog 38 #[.slice A os.length c, .int .i64 id] w fun e w' => ∃ v : Value, e = .returned v ∧ KOne.R RE w' w.heap.size (fun _ => True) v (wo id os) ∧ Below w.heap.size w w' := by
  have HR := Aside0.mk hr
  have HB := Aside0.mk (Below.refl w.heap.size w)
  clear hr
  go_enter Try.func38, Try.ntmps38
  go_wp2_with fail
  go_loopg [5, 6] os.length (fun q v5 v6 w' => ∃ i : Nat, v6 = .int .i64 (i : Int) ∧ Aside0 (i + q = os.length) ∧ Aside0 (KOne.R RE w' w.heap.size (fun _ => True) v5 (wo id (os.take i))) ∧ Aside0 (Below w.heap.size w w'))
  case atStart => exact ⟨0, rfl, ⟨by omega⟩, ⟨Kd.R_nil _ _ _ _ _⟩, HB⟩
  case round =>
    clear HB
    obtain ⟨i, rfl, HI, HO, HB⟩ := hrel
    have hi := HI.out
    by_cases hlt : i < os.length
    · obtain ⟨f, rfl⟩ : ∃ f, gk = f + 1 := ⟨gk - 1, by omega⟩
      obtain ⟨ad, e1, q0, q1⟩ := one_at (Kd.C_below HR.out HB.out) i hlt
      subst e1
      have htk : wo id (os.take (i + 1)) = if (os.getD i (0, false)).1 = id then wo id (os.take i) else wo id (os.take i) ++ [os.getD i (0, false)] := by
        rw [List.take_add_one, List.getElem?_eq_getElem hlt, List.getD_eq_getElem?_getD, List.getElem?_eq_getElem hlt]
        exact wo_snoc id _ _
      have hal : (wo id (os.take i)).length ≤ 1000000 := by
        have h1 := List.length_filter_le (fun o : Int × Bool => o.1 != id) (os.take i)
        rw [List.length_take] at h1
        unfold wo
        omega
      generalize os.getD i (0, false) = o at *
      obtain ⟨who, ow⟩ := o
      have q0' : wr.cell? (ad.add (i * 2)) = some (.int .i64 who) := q0
      have q1' : wr.cell? ⟨(ad.add (i * 2)).block, (ad.add (i * 2)).off + 1, none⟩ = some (.bool ow) := q1
      have k0 : ((i : Int) < (os.length : Int)) = True := eq_true (by omega)
      have kw : IntKind.i64.wrap ((i : Int) + 1) = ((i + 1 : Nat) : Int) := by rw [IntKind.wrap_i64]; omega
      by_cases hwi : who = id
      · have b0 : (who != id) = false := by simp [hwi]
        have HTK := Aside0.mk (htk.trans (if_pos hwi))
        clear q0 q1 htk hal hi hwi
        go_wp2_with fail
        go_roundg f
        case measure => omega
        case rel => exact ⟨i + 1, by simp, ⟨by have := HI.out; omega⟩, ⟨by rw [HTK.out]; exact HO.out⟩, HB⟩
      · have b0 : (who != id) = true := bne_iff_ne.2 hwi
        have HTK := Aside0.mk (htk.trans (if_neg hwi))
        have HAL := Aside0.mk hal
        clear q0 q1 htk hal hi hwi
        generalize wo id (os.take i) = acc at *
        go_wp2_with ((with_reducible refine gate_builtin (b := .append) (xs := #[.tmp 20, .tmp 25]) rfl ?_); at_builtin; go_must (refine Kd.R_append KOne (w0 := w) (w.heap.size) rfl (.tmp 20) (.tmp 25) 46 81 (.agg #[.int .i64 0, .bool false]) 16 rfl Try.underlying46 info81 rfl (by decide) (by omega) u5 acc (who, ow) [.int .i64 who, .bool ow] (fun _ => True) (fun _ => False) rfl rfl (one_M _) (fun _ hk => hk.elim) (fun _ _ => trivial) HO.out HB.out HB.out.size (by have := HAL.out; omega) ?_; intro v4 w4 ho hb hg hat; have HO4 := Aside0.mk ho; have HB4 := Aside0.mk hb; clear ho hb hg hat))
        go_roundg f
        case measure => omega
        case rel => exact ⟨i + 1, by simp, ⟨by have := HI.out; omega⟩, ⟨by rw [HTK.out]; exact HO4.out⟩, HB4⟩
    · have k0 : ((i : Int) < (os.length : Int)) = False := eq_false (by omega)
      rw [List.take_of_length_le (by omega)] at HO
      clear hi hlt
      go_wp2
      go_ret
      exact ⟨_, rfl, HO.out, HB.out⟩
end Go.Proofs.Ytopclgpimabpcaa.LrA
