/- A lock in memory; contracts of New, may, Has, Waiting. -/
import Derived.Test.YtopclgpimabpcaaProg
import Derived.Below
import Derived.Deep.Draws
import Derived.Deep.AppendLies
import Derived.Maps.AppendAt
import Derived.OwnWalk
import Derived.Laws.BytesArg
import Derived.Laws.MakeOwn
import Derived.Laws.OwnMore
import Derived.Deep.OwnRows
import Derived.Tactics
import Derived.Lib.ConvBytes
import Derived.Laws.Slices
import Derived.WalkKit
import Derived.KernelRfl
import Derived.RowKit3
import Derived.Deep.LoopGhost
import Derived.Deep.QuietTactic
import Derived.BigQuiet
import Derived.WideLaws
import Derived.Deep.DeepCutAuto
import Derived.Deep.CutBlock
import Derived.Deep.RegionHeld3
import Derived.Laws.Rows
import Derived.Lib.AppendStr
import Derived.ArgAppend
import Derived.Laws.IdiomCopy
import Derived.OrdersHeld
import Derived.Laws.BitsLemmas
import Derived.RowKit
import Derived.WalkSpells
import Derived.Outline
import Derived.Test.YtopclgpimabpcaaWWords
import Derived.Test.YtopclgpimabpcaaWLast
import Derived.Test.YtopclgpimabpcaaWMore
import Derived.Test.YtopclgpimabpcaaWArr
import Derived.Test.YtopclgpimabpcaaWTab
import Derived.Test.YtopclgpimabpcaaWZeros
import Derived.Test.YtopclgpimabpcaaWRepsOne
import Derived.Test.YtopclgpimabpcaaLkC
import Derived.Test.YtopclgpimabpcaaMixT
namespace Go.Proofs.Ytopclgpimabpcaa.LkD
open Go.RowKit Go.Proofs.YtopclgpimabpcaaW.PrintWords Go.Proofs.YtopclgpimabpcaaW.PrintLast Go.Proofs.YtopclgpimabpcaaW.PrintMore Go.Proofs.Ytopclgpimabpcaa.Mix Go.Proofs.Ytopclgpimabpcaa.MixB Go.Proofs.Ytopclgpimabpcaa.MixT Go.Proofs.Ytopclgpimabpcaa.LkA Go.Proofs.Ytopclgpimabpcaa.LkB Go.Proofs.Ytopclgpimabpcaa.LkC
set_option linter.unusedSimpArgs false
set_option linter.unusedVariables false
attribute [local go_sem] max2_int min2_int max_two min_two

/-- A lock: its block p of type S, two rows of type E that lie in blocks of their own. -/
def LkAt (S E : Nat) (w : World) (B p : Nat) (hs ws : List (Int × Bool)) : Prop :=
  ∃ v1 v2 : Value, B ≤ p ∧ w.heap[p]? = some (.cells #[v1, v2] S (0, 0)) ∧ KOne.Q E w B (fun k => some k ≠ v2.ownBlock) v1 hs ∧ KOne.Q E w B (fun k => some k ≠ v1.ownBlock) v2 ws
/-- Blocks that are neither of type S nor of type E are as they were. -/
def Kt (S E : Nat) (w w' : World) : Prop := ∀ (g : Nat) (o : Obj), w.heap[g]? = some o → (∀ cs t, o = .cells cs t (0, 0) → t ≠ S ∧ t ≠ E) → w'.heap[g]? = some o
theorem Kt.refl (S E : Nat) (w : World) : Kt S E w w := fun _ _ h _ => h
theorem Kt.trans {S E : Nat} {w w1 w2 : World} (h : Kt S E w w1) (k : Kt S E w1 w2) : Kt S E w w2 := fun g o hb a => k g o (h g o hb a) a
theorem Kt.below {S E : Nat} {w w' : World} (h : Below w.heap.size w w') : Kt S E w w' := fun g o hb _ => blk_below hb h
theorem Kt.grown {S E : Nat} {w w' : World} {row : Option Nat} (h : w.grownBy w' row) (ht : ∀ k, row = some k → ∃ cells, w.heap[k]? = some (.cells cells E (0, 0))) : Kt S E w w' := by
  intro g o hb ha
  refine blk_grown hb h (fun e => ?_)
  obtain ⟨cells, hc⟩ := ht g e.symm
  rw [hb] at hc
  injection hc with hc
  exact (ha _ _ hc).2 rfl
theorem Kt.set {S E : Nat} {w : World} {p : Nat} {cs : Array Value} (h : w.heap[p]? = some (.cells cs S (0, 0))) (i : Nat) (v : Value) : Kt S E w (w.setCell ⟨p, i, none⟩ v) := by
  intro g o hb ha
  have hne : g ≠ p := by
    rintro rfl
    rw [h] at hb
    injection hb with hb
    exact (ha _ _ hb.symm).1 rfl
  exact (Below.heap_setCell w ⟨p, i, none⟩ v g hne).trans hb
theorem lk_below {S E : Nat} {w w' : World} {B p : Nat} {hs ws : List (Int × Bool)} (h : LkAt S E w B p hs ws) (hb : Below w.heap.size w w') : LkAt S E w' B p hs ws := by
  obtain ⟨v1, v2, h1, h2, h3, h4⟩ := h
  exact ⟨v1, v2, h1, blk_below h2 hb, Kd.Q_below h3 hb, Kd.Q_below h4 hb⟩
/-- What another lock's work leaves. -/
theorem lk_kt {S E S' E' : Nat} (h1 : S ≠ S' ∧ S ≠ E') (h2 : E ≠ S' ∧ E ≠ E') {w w' : World} {B p : Nat} {hs ws : List (Int × Bool)} (h : LkAt S E w B p hs ws) (hk : Kt S' E' w w') : LkAt S E w' B p hs ws := by
  obtain ⟨v1, v2, a1, a2, a3, a4⟩ := h
  have hkeep : ∀ (k q : Nat) (cells : Array Value), w.heap[k]? = some (.cells cells q (0, 0)) → q = E → w'.heap[k]? = w.heap[k]? := by
    intro k q cells hc hq
    subst hq
    rw [hk k _ hc (fun cs t e => by injection e with _ e2; subst e2; exact h2), hc]
  have hmove : ∀ {ok : Nat → Prop} {v : Value} {os : List (Int × Bool)}, KOne.Q E w B ok v os → KOne.Q E w' B ok v os := by
    intro ok v os hq
    refine Kd.Q_mono (Kd.Q_move (Kd.Q_bound hq) (fun k hk' => ?_)) (fun _ hk' => hk'.1)
    obtain ⟨_, _, _, q, hq2, cells, hc⟩ := hk'
    have : q = E := by
      have : q ∈ [E] := hq2
      simpa using this
    exact hkeep k q cells hc this
  exact ⟨v1, v2, a1, hk p _ a2 (fun cs t e => by injection e with _ e2; subst e2; exact h1), hmove a3, hmove a4⟩
theorem lk_reads {S E : Nat} {w : World} {B p : Nat} {hs ws : List (Int × Bool)} (h : LkAt S E w B p hs ws) :
    ∃ A1 c1 A2 c2, w.heap[p]? = some (.cells #[.slice A1 hs.length c1, .slice A2 ws.length c2] S (0, 0)) ∧ hs.length ≤ c1 ∧ ws.length ≤ c2 ∧ KOne.C w A1 hs.length hs ∧ KOne.C w A2 ws.length ws ∧ B ≤ p ∧
      KOne.Q E w B (fun k => some k ≠ (Value.slice A2 ws.length c2).ownBlock) (.slice A1 hs.length c1) hs ∧ KOne.Q E w B (fun k => some k ≠ (Value.slice A1 hs.length c1).ownBlock) (.slice A2 ws.length c2) ws := by
  obtain ⟨v1, v2, h1, h2, h3, h4⟩ := h
  obtain ⟨A1, c1, e1, l1, r1⟩ := Kd.Q_reads h3
  obtain ⟨A2, c2, e2, l2, r2⟩ := Kd.Q_reads h4
  subst e1
  subst e2
  exact ⟨A1, c1, A2, c2, h2, l1, l2, r1, r2, h1, h3, h4⟩
theorem new_calls (w : World) : Calls Try.prog 22 #[] w fun e w' => e = .returned (.pointer (some ⟨w.heap.size, 0, none⟩)) ∧ LkAt 72 76 w' w.heap.size w.heap.size [] [] ∧ Below w.heap.size w w' := by
  have hb := (Below.refl w.heap.size w).alloc (Nat.le_refl _) (.cells #[.slice none 0 0, .slice none 0 0] 72 (0, 0))
  have HL : Aside0 (LkAt 72 76 (w.alloc (.cells #[.slice none 0 0, .slice none 0 0] 72 (0, 0))) w.heap.size w.heap.size [] []) := ⟨⟨_, _, Nat.le_refl _, blk_new w _, Kd.Q_nil _ _ _ _ _, Kd.Q_nil _ _ _ _ _⟩⟩
  have HB := Aside0.mk hb
  clear hb
  go_enter Try.func22, Try.ntmps22
  go_wp2
  go_ret
  exact ⟨rfl, HL.out, HB.out⟩
/-- May one have it, too? -/
def mayL (hs : List (Int × Bool)) (wr : Bool) : Bool := match hs with
  | [] => true
  | h :: _ => !wr && !h.2
theorem may_calls {w : World} {B p : Nat} {hs ws : List (Int × Bool)} (h : LkAt 72 76 w B p hs ws) (wr : Bool) :
    Calls Try.prog 36 #[.pointer (some ⟨p, 0, none⟩), .bool wr] w fun e w' => e = .returned (.bool (mayL hs wr)) ∧ w = w' := by
  obtain ⟨A1, c1, A2, c2, h2, l1, l2, r1, r2, _⟩ := lk_reads h
  have x0 : w.cell? ⟨p, 0, none⟩ = some (.slice A1 hs.length c1) := blk_cell h2 0
  clear h h2
  cases hs with
  | nil =>
    go_enter Try.func36, Try.ntmps36
    go_wp2
    go_ret
    exact ⟨rfl, rfl⟩
  | cons o os =>
    obtain ⟨ad, e1, q0, q1⟩ := one_at r1 0 (by simp)
    subst e1
    obtain ⟨who, ow⟩ := o
    have q1' : w.cell? ⟨(ad.add 0).block, (ad.add 0).off + 1, none⟩ = some (.bool ow) := q1
    rw [show ad.add 0 = ad by simp [Addr.add]] at q1'
    clear q0 q1 r1 r2
    obtain ⟨n, hn⟩ : ∃ n, ((who, ow) :: os).length = n := ⟨_, rfl⟩
    have hn0 : 0 < n := by rw [← hn]; simp
    rw [hn] at x0 l1
    have hne : ((n : Int) == 0) = false := beq_eq_false_iff_ne.2 (by omega)
    clear hn
    cases wr with
    | true =>
      go_enter Try.func36, Try.ntmps36
      go_wp2
      go_ret
      exact ⟨rfl, rfl⟩
    | false =>
      go_enter Try.func36, Try.ntmps36
      go_wp2
      go_ret
      cases ow <;> exact ⟨rfl, rfl⟩
theorem findF_ge (id : Int) : ∀ (os : List (Int × Bool)) (i : Nat), (0 ≤ findF id i os) = (os.any (fun o => o.1 == id) = true) := by
  intro os
  induction os with
  | nil => intro i; simp [findF]
  | cons o os ih =>
    intro i
    unfold findF
    by_cases h : o.1 = id
    · rw [if_pos h]; simp [h]
    · rw [if_neg h, ih (i + 1)]; simp [h]
theorem find_has (id : Int) (os : List (Int × Bool)) : decide (0 ≤ findL id os) = os.any (fun o => o.1 == id) := by
  have := findF_ge id os 0
  unfold findL
  by_cases h : os.any (fun o => o.1 == id) = true
  · rw [h] at this ⊢; rw [decide_eq_true]; rw [this]
  · rw [decide_eq_false (by rw [this]; exact h)]; exact (Bool.eq_false_iff.2 h).symm
/-- Is one among them? -/
def isIn (id : Int) (os : List (Int × Bool)) : Bool := os.any (fun o => o.1 == id)
theorem has_calls {w : World} {B p : Nat} {hs ws : List (Int × Bool)} (h : LkAt 72 76 w B p hs ws) (id : Int) (hl : hs.length ≤ 1000000) :
    Calls Try.prog 28 #[.pointer (some ⟨p, 0, none⟩), .int .i64 id] w fun e w' => e = .returned (.bool (isIn id hs)) ∧ Below w.heap.size w w' := by
  obtain ⟨A1, c1, A2, c2, h2, l1, l2, r1, r2, _⟩ := lk_reads h
  have x0 : w.cell? ⟨p, 0, none⟩ = some (.slice A1 hs.length c1) := blk_cell h2 0
  have HF := Aside0.mk (find_calls A1 c1 hs id w r1 hl)
  have HI := Aside0.mk (find_has id hs)
  change Aside0 (_ = isIn id hs) at HI
  clear h h2 r1 r2
  generalize isIn id hs = b at *
  generalize findL id hs = f at *
  go_enter Try.func28, Try.ntmps28
  go_wp2_with fail
  refine HF.out.mono ?_
  rintro e_ w1 ⟨rfl, hb⟩
  have HB := Aside0.mk hb
  clear hb
  go_wp2
  go_ret
  exact ⟨by rw [← HI.out]; rfl, HB.out⟩
set_option maxRecDepth 100000 in
theorem waiting_calls {w : World} {B p : Nat} {hs ws : List (Int × Bool)} (h : LkAt 72 76 w B p hs ws) (hl : ws.length ≤ 1000000) :
    Calls Try.prog 30 #[.pointer (some ⟨p, 0, none⟩)] w fun e w' => ∃ v : Value, e = .returned v ∧ Kd.R (Kd.int .i64) 3 w' w.heap.size (fun _ => True) v (ws.map Prod.fst) ∧ Below w.heap.size w w' := by
  obtain ⟨A1, c1, A2, c2, h2, l1, l2, r1, r2, _⟩ := lk_reads h
  have x0 : w.cell? ⟨p, 1, none⟩ = some (.slice A2 ws.length c2) := blk_cell h2 1
  have HR := Aside0.mk r2
  have HB := Aside0.mk (Below.refl w.heap.size w)
  clear h h2 r1 r2
  go_enter Try.func30, Try.ntmps30
  go_wp2_with fail
  go_loopg [3, 5, 13] ws.length (fun q v3 v5 v13 w' => ∃ i : Nat, v13 = .int .i64 (i : Int) ∧ Aside0 (i + q = ws.length) ∧ Aside0 (Kd.R (Kd.int .i64) 3 w' w.heap.size (fun _ => True) v3 ((ws.take i).map Prod.fst)) ∧ Aside0 (Below w.heap.size w w'))
  case atStart => exact ⟨0, rfl, ⟨by omega⟩, ⟨Kd.R_nil _ _ _ _ _⟩, HB⟩
  case round =>
    clear HB
    obtain ⟨i, rfl, HI, HO, HB⟩ := hrel
    have hi := HI.out
    by_cases hlt : i < ws.length
    · obtain ⟨f, rfl⟩ : ∃ f, gk = f + 1 := ⟨gk - 1, by omega⟩
      obtain ⟨ad, e1, q0, q1⟩ := one_at (Kd.C_below HR.out HB.out) i hlt
      subst e1
      have htk : (ws.take (i + 1)).map Prod.fst = (ws.take i).map Prod.fst ++ [(ws.getD i (0, false)).1] := by
        rw [List.take_add_one, List.getElem?_eq_getElem hlt, List.getD_eq_getElem?_getD, List.getElem?_eq_getElem hlt, List.map_append]
        rfl
      have hal : ((ws.take i).map Prod.fst).length ≤ 1000000 := by rw [List.length_map, List.length_take]; omega
      generalize ws.getD i (0, false) = o at *
      obtain ⟨who, ow⟩ := o
      have q0' : wr.cell? (ad.add (i * 2)) = some (.int .i64 who) := q0
      have q1' : wr.cell? ⟨(ad.add (i * 2)).block, (ad.add (i * 2)).off + 1, none⟩ = some (.bool ow) := q1
      have k0 : ((i : Int) < (ws.length : Int)) = True := eq_true (by omega)
      have kw : IntKind.i64.wrap ((i : Int) + 1) = ((i + 1 : Nat) : Int) := by rw [IntKind.wrap_i64]; omega
      have HTK := Aside0.mk htk
      have HSZ : Aside0 ((wr.alloc (.cells #[.int .i64 who, .bool ow] 76 (0, 0))).heap.size = wr.heap.size + 1) := ⟨by show (wr.heap.push _).size = _; exact Array.size_push _⟩
      have HAL := Aside0.mk hal
      have hba := (Below.refl wr.heap.size wr).alloc (Nat.le_refl _) (.cells #[.int .i64 who, .bool ow] 76 (0, 0))
      have HO1 := Aside0.mk (Kd.R_below HO.out hba)
      have HB1 := Aside0.mk (below_step HB.out hba)
      clear q0 q1 htk hal hba hi HO HB
      generalize (ws.take i).map Prod.fst = acc at *
      go_wp2_with ((with_reducible refine gate_builtin (b := .append) (xs := #[.tmp 17, .tmp 20]) rfl ?_); at_builtin; go_must (refine Kd.R_append (Kd.int .i64) (w0 := w) (w.heap.size) rfl (.tmp 17) (.tmp 20) 27 3 (.int .i64 0) 8 rfl Try.underlying27 info3 rfl (by decide) (by omega) u3 acc who [.int .i64 who] (fun _ => True) (fun _ => False) rfl (by rw [HSZ.out]; rfl) rfl (fun _ hk => hk.elim) (fun _ _ => trivial) HO1.out HB1.out HB1.out.size (by have := HAL.out; omega) ?_; intro v4 w4 ho hb hg hat; have HO4 := Aside0.mk ho; have HB4 := Aside0.mk hb; clear ho hb hg hat))
      go_roundg f
      case measure => omega
      case rel => exact ⟨i + 1, by simp, ⟨by have := HI.out; omega⟩, ⟨by rw [HTK.out]; exact HO4.out⟩, HB4⟩
    · have k0 : ((i : Int) < (ws.length : Int)) = False := eq_false (by omega)
      rw [List.take_of_length_le (by omega)] at HO
      clear hi hlt
      go_wp2
      go_ret
      exact ⟨_, rfl, HO.out, HB.out⟩
end Go.Proofs.Ytopclgpimabpcaa.LkD
