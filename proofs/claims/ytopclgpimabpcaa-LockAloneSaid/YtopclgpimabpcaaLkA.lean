/- Contracts of find (a closure, slices.IndexFunc) over rows of those who have a lock or wait. -/
import Derived.Test.YtopclgpimabpcaaProg
import Derived.Below
import Derived.Deep.Draws
import Derived.Deep.AppendLies
import Derived.Maps.AppendAt
import Derived.OwnWalk
import Derived.Laws.BytesArg
import Derived.Laws.MakeOwn
import Derived.Laws.OwnMore
import Derived.Deep.OwnRows
import Derived.Tactics
import Derived.Lib.ConvBytes
import Derived.Laws.Slices
import Derived.WalkKit
import Derived.KernelRfl
import Derived.RowKit3
import Derived.Deep.LoopGhost
import Derived.Deep.QuietTactic
import Derived.BigQuiet
import Derived.WideLaws
import Derived.Deep.DeepCutAuto
import Derived.Deep.CutBlock
import Derived.Deep.RegionHeld3
import Derived.Laws.Rows
import Derived.Lib.AppendStr
import Derived.ArgAppend
import Derived.Laws.IdiomCopy
import Derived.OrdersHeld
import Derived.Laws.BitsLemmas
import Derived.RowKit
import Derived.WalkSpells
import Derived.Outline
import Derived.Test.YtopclgpimabpcaaWWords
import Derived.Test.YtopclgpimabpcaaWLast
import Derived.Test.YtopclgpimabpcaaWMore
import Derived.Test.YtopclgpimabpcaaWArr
import Derived.Test.YtopclgpimabpcaaWTab
import Derived.Test.YtopclgpimabpcaaWZeros
import Derived.Test.YtopclgpimabpcaaWRepsOne
import Derived.Test.YtopclgpimabpcaaMix
import Derived.Test.YtopclgpimabpcaaMixB
namespace Go.Proofs.Ytopclgpimabpcaa.LkA
open Go.RowKit Go.Proofs.YtopclgpimabpcaaW.PrintWords Go.Proofs.YtopclgpimabpcaaW.PrintLast Go.Proofs.YtopclgpimabpcaaW.PrintMore Go.Proofs.Ytopclgpimabpcaa.Mix Go.Proofs.Ytopclgpimabpcaa.MixB
set_option linter.unusedSimpArgs false
set_option linter.unusedVariables false
attribute [local go_sem] max2_int min2_int max_two min_two

/-- One that has a lock, or waits. -/
abbrev KOne : Kd (Int × Bool) := Kd.pair (Kd.int .i64) Kd.bool
theorem info76 : (Try.prog.info? 76).map (fun i => (i.zero, i.size, i.bytes)) = some (some (.agg #[.int .i64 0, .bool false]), 2, 16) := by kernel_rfl
theorem info3 : (Try.prog.info? 3).map (fun i => (i.zero, i.size, i.bytes)) = some (some (.int .i64 0), 1, 8) := by kernel_rfl
theorem one_at {w : World} {A : Option Addr} {n : Nat} {os : List (Int × Bool)} (h : KOne.C w A n os) (i : Nat) (hi : i < n) : ∃ ad, A = some ad ∧ w.cell? (ad.add (i * 2)) = some (.int .i64 (os.getD i (0, false)).1) ∧ w.cell? ⟨(ad.add (i * 2)).block, (ad.add (i * 2)).off + 1, none⟩ = some (.bool (os.getD i (0, false)).2) := by
  obtain ⟨ad, cs, e1, hs, ⟨c0, c1, e2, h0, h1⟩, hcell⟩ := ReadsRow.get_ h (0, false) (i : Int) (by omega) (by omega)
  rw [Int.toNat_natCast] at h0 h1 hcell
  have h0' : c0 = [.int .i64 (os.getD i (0, false)).1] := h0
  have h1' : c1 = [.bool (os.getD i (0, false)).2] := h1
  subst h0'
  subst h1'
  subst e2
  have hz : KOne.sz = 2 := rfl
  rw [hz] at hcell
  have q1 := hcell 1 _ rfl
  rw [add_field ad (i * 2) 1 (by decide)] at q1
  exact ⟨ad, e1, hcell 0 _ rfl, q1⟩
theorem clos_calls (who id : Int) (wr : Bool) (b : Nat) (w : World) (hb : w.cell? ⟨b, 0, none⟩ = some (.int .i64 id)) (hl : b < w.heap.size) :
    Calls Try.prog 41 #[.agg #[.int .i64 who, .bool wr], .pointer (some ⟨b, 0, none⟩)] w fun e w' => e = .returned (.bool (who == id)) ∧ Below w.heap.size w w' := by
  have hb2 : (w.alloc (.cells #[.int .i64 who, .bool wr] 76 (0, 0))).cell? ⟨b, 0, none⟩ = some (.int .i64 id) := pw_cell_below ((Below.refl w.heap.size w).alloc (Nat.le_refl _) _) hb
  have HB := Aside0.mk ((Below.refl w.heap.size w).alloc (Nat.le_refl _) (.cells #[.int .i64 who, .bool wr] 76 (0, 0)))
  clear hl
  go_enter Try.func41, Try.ntmps41
  go_wp2
  go_ret
  exact ⟨rfl, HB.out⟩
/-- Where somebody stands, from a number on; -1: nowhere. -/
def findF (id : Int) : Nat → List (Int × Bool) → Int
  | _, [] => -1
  | i, o :: l => if o.1 = id then (i : Int) else findF id (i + 1) l
theorem drop_one {os : List (Int × Bool)} {k : Nat} (hk : k < os.length) : os.drop k = os.getD k (0, false) :: os.drop (k + 1) := by
  rw [List.drop_eq_getElem_cons hk, List.getD_eq_getElem?_getD, List.getElem?_eq_getElem hk]
  rfl
set_option maxRecDepth 100000 in
theorem index_calls (A : Option Addr) (c : Nat) (os : List (Int × Bool)) (id : Int) (b : Nat) (w : World) (hr : KOne.C w A os.length os) (hb : w.cell? ⟨b, 0, none⟩ = some (.int .i64 id)) (hl : os.length ≤ 1000000) :
    Calls Try.prog 40 #[.slice A os.length c, .func (.func 41) #[] #[.pointer (some ⟨b, 0, none⟩)]] w fun e w' => e = .returned (.int .i64 (findF id 0 os)) ∧ Below w.heap.size w w' := by
  have HR := Aside0.mk hr
  have HBC : Aside0 (∀ wx, Below w.heap.size w wx → wx.cell? ⟨b, 0, none⟩ = some (.int .i64 id)) := ⟨fun wx h => pw_cell_below h hb⟩
  have HBL : Aside0 (b < w.heap.size) := ⟨World.block_lt_of_cell? w _ hb⟩
  have HB := Aside0.mk (Below.refl w.heap.size w)
  obtain ⟨E, hE⟩ : ∃ E, findF id 0 os = E := ⟨_, rfl⟩
  have HE := Aside0.mk hE
  rw [hE]
  clear hr hb hE
  go_enter Try.func40, Try.ntmps40
  go_wp2_with fail
  go_loopg [5, 8] os.length (fun q v5 v8 w' => ∃ i : Nat, v8 = .int .i64 (i : Int) ∧ Aside0 (i + q = os.length ∧ findF id i (os.drop i) = E) ∧ Aside0 (Below w.heap.size w w'))
  case atStart => exact ⟨0, rfl, ⟨by omega, HE.out⟩, HB⟩
  case round =>
    clear HB HE
    obtain ⟨i, rfl, HI, HB⟩ := hrel
    have hi := HI.out
    by_cases hlt : i < os.length
    · obtain ⟨f, rfl⟩ : ∃ f, gk = f + 1 := ⟨gk - 1, by omega⟩
      have k0 : ((i : Int) < (os.length : Int)) = True := eq_true (by omega)
      have kw : IntKind.i64.wrap ((i : Int) + 1) = (i : Int) + 1 := by rw [IntKind.wrap_i64]; omega
      obtain ⟨ad, e_, h0, h1⟩ := one_at (Kd.C_below HR.out HB.out) i hlt
      subst e_
      have hf := hi.2
      rw [drop_one hlt] at hf
      generalize os.getD i (0, false) = o at *
      obtain ⟨who, wrt⟩ := o
      have hf' : (if who = id then (i : Int) else findF id (i + 1) (os.drop (i + 1))) = E := hf
      have h0' : wr.cell? (ad.add (i * 2)) = some (.int .i64 who) := h0
      have h1' : wr.cell? ⟨(ad.add (i * 2)).block, (ad.add (i * 2)).off + 1, none⟩ = some (.bool wrt) := h1
      have HF := Aside0.mk hf'
      have HCL := Aside0.mk (clos_calls who id wrt b wr (HBC.out wr HB.out) (by have := HBL.out; have := HB.out.size; omega))
      clear h0 h1 hf hf' hi
      go_wp2_with fail
      refine HCL.out.mono ?_
      rintro e_ w4 ⟨rfl, hb⟩
      have HB4 := Aside0.mk (below_step HB.out hb)
      clear hb HCL
      by_cases hw : who = id
      · have b1 : (who == id) = true := by simp [hw]
        have HE := Aside0.mk (HF.out.symm.trans (if_pos hw))
        clear hw
        go_wp2
        go_ret
        exact ⟨by rw [HE.out]; rfl, HB4.out⟩
      · have b1 : (who == id) = false := beq_eq_false_iff_ne.2 hw
        have HE := Aside0.mk ((if_neg hw).symm.trans HF.out)
        clear hw
        go_wp2_with fail
        go_roundg f
        case measure => omega
        case rel => exact ⟨i + 1, by simp, ⟨by have := HI.out; omega, HE.out⟩, HB4⟩
    · have k0 : ((i : Int) < (os.length : Int)) = False := eq_false (by omega)
      have hf := hi.2
      rw [List.drop_of_length_le (by omega)] at hf
      have HE : Aside0 (E = -1) := ⟨hf.symm⟩
      clear hi hf hlt
      go_wp2
      go_ret
      exact ⟨by rw [HE.out]; rfl, HB.out⟩
def findL (id : Int) (os : List (Int × Bool)) : Int := findF id 0 os
set_option maxRecDepth 100000 in
theorem find_calls (A : Option Addr) (c : Nat) (os : List (Int × Bool)) (id : Int) (w : World) (hr : KOne.C w A os.length os) (hl : os.length ≤ 1000000) :
    Calls Try.prog 34 #[.slice A os.length c, .int .i64 id] w fun e w' => e = .returned (.int .i64 (findL id os)) ∧ Below w.heap.size w w' := by
  have hb := (Below.refl w.heap.size w).alloc (Nat.le_refl _) (.cells #[.int .i64 id] 3 (0, 0))
  have HI := Aside0.mk (index_calls A c os id w.heap.size (w.alloc (.cells #[.int .i64 id] 3 (0, 0))) (Kd.C_below hr hb) (blk_cell (blk_new w _) 0) hl)
  have HB := Aside0.mk hb
  have hmf : ∀ (fn : Fn) (first cap : Array Value) (w : World), (Instr.makeFunc fn first cap).run Try.prog w = .ok (.func fn first cap) w := fun _ _ _ _ => rfl
  clear hr hb hl
  go_enter Try.func34, Try.ntmps34
  go_wp2_with fail
  refine HI.out.mono ?_
  rintro e_ w1 ⟨rfl, hb⟩
  have HB1 := Aside0.mk (below_step HB.out hb)
  clear hb
  go_wp2
  go_ret
  exact ⟨rfl, HB1.out⟩
end Go.Proofs.Ytopclgpimabpcaa.LkA
