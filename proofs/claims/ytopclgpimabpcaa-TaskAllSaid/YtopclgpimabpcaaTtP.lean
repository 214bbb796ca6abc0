/- Works in turn: states by rounds; rows beside the pool. -/
import Derived.Test.YtopclgpimabpcaaProg
import Derived.Below
import Derived.Deep.Draws
import Derived.Deep.AppendLies
import Derived.Maps.AppendAt
import Derived.OwnWalk
import Derived.Laws.BytesArg
import Derived.Laws.MakeOwn
import Derived.Laws.OwnMore
import Derived.Deep.OwnRows
import Derived.Tactics
import Derived.Lib.ConvBytes
import Derived.Laws.Slices
import Derived.WalkKit
import Derived.KernelRfl
import Derived.RowKit3
import Derived.Deep.LoopGhost
import Derived.Deep.QuietTactic
import Derived.BigQuiet
import Derived.WideLaws
import Derived.Deep.DeepCutAuto
import Derived.Deep.CutBlock
import Derived.Deep.RegionHeld3
import Derived.Laws.Rows
import Derived.Lib.AppendStr
import Derived.ArgAppend
import Derived.Laws.IdiomCopy
import Derived.OrdersHeld
import Derived.Laws.BitsLemmas
import Derived.RowKit
import Derived.WalkSpells
import Derived.Outline
import Derived.Test.YtopclgpimabpcaaWWords
import Derived.Test.YtopclgpimabpcaaWLast
import Derived.Test.YtopclgpimabpcaaWMore
import Derived.Test.YtopclgpimabpcaaWArr
import Derived.Test.YtopclgpimabpcaaWTab
import Derived.Test.YtopclgpimabpcaaWZeros
import Derived.Test.YtopclgpimabpcaaWRepsOne
import Derived.Test.YtopclgpimabpcaaTfWalk
namespace Go.Proofs.Ytopclgpimabpcaa.TtP
open Go.RowKit Go.Proofs.YtopclgpimabpcaaW.PrintWords Go.Proofs.YtopclgpimabpcaaW.PrintLast Go.Proofs.YtopclgpimabpcaaW.PrintMore Go.Proofs.Ytopclgpimabpcaa.Tk Go.Proofs.Ytopclgpimabpcaa.TkA Go.Proofs.Ytopclgpimabpcaa.TkB Go.Proofs.Ytopclgpimabpcaa.TkC Go.Proofs.Ytopclgpimabpcaa.TkD Go.Proofs.Ytopclgpimabpcaa.TkE Go.Proofs.Ytopclgpimabpcaa.TfWalk Go.Proofs.Ytopclgpimabpcaa.Mix
set_option linter.unusedSimpArgs false
set_option linter.unusedVariables false
attribute [local go_sem] max2_int min2_int max_two min_two

theorem below_of_lit {w w' : World} (h : w.grownBy w' none) : Below w.heap.size w w' := ⟨h.os, h.tape, h.output, h.size, fun j hj => h.block j hj (by simp)⟩
/-- A row of numbers beside the pool. -/
theorem R_kp {w w' : World} {base : Nat} {v : Value} {xs : List Int} (h : Kd.R (Kd.int .i64) 3 w base (fun _ => True) v xs) (hk : Kp w w') : Kd.R (Kd.int .i64) 3 w' base (fun _ => True) v xs :=
  Kd.R_of_own (own_kp (Kd.own_of_R h) hk (by decide) (by decide) (by decide) (by decide)) h.1
theorem own_R {w : World} {base : Nat} {v : Value} {xs : List Int} (h : Kd.R (Kd.int .i64) 3 w base (fun _ => True) v xs) : w.ownsRow base 3 1 v xs.length (nums .i64 xs) := Kd.own_of_R h
theorem mem_thoseF (m : Int) (v : Int) : ∀ (ts : List Tk) (i : Nat), v ∈ thoseF m i ts ↔ ∃ x, x < ts.length ∧ v = ((i + x + 1 : Nat) : Int) ∧ (ts.getD x default).st ≤ m := by
  intro ts
  induction ts with
  | nil => intro i; constructor
           · intro h; cases h
           · rintro ⟨x, hx, _⟩; simp at hx
  | cons t ts ih =>
    intro i
    show v ∈ (if t.st ≤ m then ((i : Int) + 1) :: thoseF m (i + 1) ts else thoseF m (i + 1) ts) ↔ _
    have hs : (∃ x, x < (t :: ts).length ∧ v = ((i + x + 1 : Nat) : Int) ∧ ((t :: ts).getD x default).st ≤ m) ↔ (v = (i : Int) + 1 ∧ t.st ≤ m) ∨ ∃ x, x < ts.length ∧ v = ((i + 1 + x + 1 : Nat) : Int) ∧ (ts.getD x default).st ≤ m := by
      constructor
      · rintro ⟨x, hx, hv, hs⟩
        cases x with
        | zero => exact .inl ⟨by omega, hs⟩
        | succ x => exact .inr ⟨x, by simpa using hx, by omega, hs⟩
      · rintro (⟨hv, hs⟩ | ⟨x, hx, hv, hs⟩)
        · exact ⟨0, by simp, by omega, hs⟩
        · exact ⟨x + 1, by simpa using hx, by omega, hs⟩
    rw [hs]
    by_cases h : t.st ≤ m
    · rw [if_pos h, List.mem_cons, ih]
      simp [h]
    · rw [if_neg h, ih]
      simp [h]
theorem mem_those {m v : Int} {ts : List Tk} : v ∈ thoseL m ts ↔ ∃ x, x < ts.length ∧ v = ((x + 1 : Nat) : Int) ∧ (ts.getD x default).st ≤ m := by
  have := mem_thoseF m v ts 0
  unfold thoseL
  simpa using this
theorem nodup_thoseF (m : Int) : ∀ (ts : List Tk) (i : Nat), (thoseF m i ts).Nodup := by
  intro ts
  induction ts with
  | nil => intro i; exact List.nodup_nil
  | cons t ts ih =>
    intro i
    show (if t.st ≤ m then ((i : Int) + 1) :: thoseF m (i + 1) ts else thoseF m (i + 1) ts).Nodup
    split
    · refine List.nodup_cons.2 ⟨fun h => ?_, ih _⟩
      obtain ⟨x, _, hv, _⟩ := (mem_thoseF m _ ts (i + 1)).1 h
      omega
    · exact ih _
/-- The state of a work of k steps behind r rounds. -/
def St (t : Tk) (k r : Nat) : Prop := t.L = List.replicate k 0 ∧ t.n = min (k + 1) r ∧ t.sp = min (k + 1) r ∧ t.st = if r ≤ k then 0 else 2
theorem stepV_rep (k n : Nat) : stepV (List.replicate k 0) n = if n < k then 0 else 2 := by
  unfold stepV
  rw [List.length_replicate]
  split
  · rename_i h
    unfold rd
    rw [Int.toNat_natCast, List.getD_eq_getElem?_getD, List.getElem?_replicate_of_lt h]
    rfl
  · rfl
theorem St_step {t : Tk} {k r : Nat} (h : St t k r) (hr : r ≤ k) : St {t with n := t.n + 1, st := stepV t.L t.n, sp := t.sp + 1} k (r + 1) := by
  obtain ⟨h1, h2, h3, h4⟩ := h
  refine ⟨h1, ?_, ?_, ?_⟩
  · show t.n + 1 = _; omega
  · show t.sp + 1 = _; omega
  · show stepV t.L t.n = _
    rw [h1, stepV_rep, h2]
    by_cases h : r < k
    · rw [if_pos (by omega), if_pos (by omega)]
    · rw [if_neg (by omega), if_neg (by omega)]
theorem St_idle {t : Tk} {k r : Nat} (h : St t k r) (hr : k < r) : St t k (r + 1) := by
  obtain ⟨h1, h2, h3, h4⟩ := h
  refine ⟨h1, by omega, by omega, ?_⟩
  rw [h4, if_neg (by omega), if_neg (by omega)]
theorem getD_set {ts : List Tk} {j x : Nat} {t : Tk} (hj : j < ts.length) : (ts.set j t).getD x default = if x = j then t else ts.getD x default := by
  rw [List.getD_eq_getElem?_getD, List.getElem?_set]
  by_cases h : x = j
  · subst h
    rw [if_pos rfl, if_pos rfl, if_pos hj]
    rfl
  · rw [if_neg (fun e => h e.symm), if_neg h, ← List.getD_eq_getElem?_getD]
/-- All of the works in the state behind r rounds. -/
def AllSt (ts : List Tk) (ks : List Nat) (r : Nat) : Prop := ts.length = ks.length ∧ ∀ x, x < ks.length → St (ts.getD x default) (ks.getD x 0) r
/-- In a round: those of the ready ones that were stepped. -/
def Mid (ts : List Tk) (ks : List Nat) (r : Nat) (l : List Int) : Prop := ts.length = ks.length ∧ ∀ x, x < ks.length → (((x + 1 : Nat) : Int) ∈ l → St (ts.getD x default) (ks.getD x 0) (r + 1)) ∧ (((x + 1 : Nat) : Int) ∉ l → St (ts.getD x default) (ks.getD x 0) r)
theorem mid_start {ts : List Tk} {ks : List Nat} {r : Nat} (h : AllSt ts ks r) : Mid ts ks r [] := ⟨h.1, fun x hx => ⟨fun hm => absurd hm (List.not_mem_nil), fun _ => h.2 x hx⟩⟩
theorem ready_mem {ts : List Tk} {ks : List Nat} {r x : Nat} (h : AllSt ts ks r) : ((x + 1 : Nat) : Int) ∈ thoseL 0 ts ↔ x < ks.length ∧ r ≤ ks.getD x 0 := by
  rw [mem_those]
  constructor
  · rintro ⟨y, hy, hv, hs⟩
    have : y = x := by omega
    subst this
    have hy' : y < ks.length := by rw [← h.1]; exact hy
    refine ⟨hy', ?_⟩
    rw [(h.2 y hy').2.2.2] at hs
    split at hs
    · assumption
    · omega
  · rintro ⟨hx, hr⟩
    exact ⟨x, by rw [h.1]; exact hx, rfl, by rw [(h.2 x hx).2.2.2, if_pos hr]; decide⟩
theorem mid_end {ts0 ts : List Tk} {ks : List Nat} {r : Nat} (h0 : AllSt ts0 ks r) (h : Mid ts ks r (thoseL 0 ts0)) : AllSt ts ks (r + 1) := by
  refine ⟨h.1, fun x hx => ?_⟩
  by_cases hm : ((x + 1 : Nat) : Int) ∈ thoseL 0 ts0
  · exact (h.2 x hx).1 hm
  · refine St_idle ((h.2 x hx).2 hm) ?_
    have := mt (ready_mem h0).2 hm
    omega
theorem all_mem {ts : List Tk} {ks : List Nat} {r x : Nat} (h : AllSt ts ks r) (hx : x < ks.length) : ((x + 1 : Nat) : Int) ∈ thoseL 1 ts ↔ r ≤ ks.getD x 0 := by
  rw [mem_those]
  constructor
  · rintro ⟨y, hy, hv, hs⟩
    have : y = x := by omega
    subst this
    rw [(h.2 y hx).2.2.2] at hs
    split at hs
    · assumption
    · omega
  · intro hr
    exact ⟨x, by rw [h.1]; exact hx, rfl, by rw [(h.2 x hx).2.2.2, if_pos hr]; decide⟩
theorem all_end {ts : List Tk} {ks : List Nat} (h : AllSt ts ks 12) (hk : ∀ x, x < ks.length → ks.getD x 0 ≤ 9) : thoseL 1 ts = [] := by
  refine List.eq_nil_iff_forall_not_mem.2 (fun v hv => ?_)
  obtain ⟨y, hy, rfl, hs⟩ := mem_those.1 hv
  have hy' : y < ks.length := by rw [← h.1]; exact hy
  rw [(h.2 y hy').2.2.2, if_neg (by have := hk y hy'; omega)] at hs
  omega
/-- One of the ready ones is stepped. -/
theorem mid_step {ts : List Tk} {ks : List Nat} {r x : Nat} {l : List Int} (h : Mid ts ks r l) (hx : x < ks.length) (hr : r ≤ ks.getD x 0) (hn : ((x + 1 : Nat) : Int) ∉ l) :
    Mid (ts.set x {ts.getD x default with n := (ts.getD x default).n + 1, st := stepV (ts.getD x default).L (ts.getD x default).n, sp := (ts.getD x default).sp + 1}) ks r (l ++ [((x + 1 : Nat) : Int)]) := by
  refine ⟨by rw [List.length_set]; exact h.1, fun y hy => ?_⟩
  rw [getD_set (by rw [h.1]; exact hx)]
  by_cases e : y = x
  · subst e
    rw [if_pos rfl]
    exact ⟨fun _ => St_step ((h.2 y hy).2 hn) hr, fun hm => absurd (List.mem_append_right _ (List.mem_singleton.2 rfl)) hm⟩
  · rw [if_neg e]
    have hiff : ((y + 1 : Nat) : Int) ∈ l ++ [((x + 1 : Nat) : Int)] ↔ ((y + 1 : Nat) : Int) ∈ l := by
      rw [List.mem_append, List.mem_singleton]
      exact ⟨fun hh => hh.elim id (fun e2 => absurd (by omega) e), .inl⟩
    rw [hiff]
    exact h.2 y hy
/-- A row is none of the works' lists. -/
def Far (v : Value) (ts : List Tk) : Prop := ∀ t ∈ ts, t.v.ownBlock = none ∨ t.v.ownBlock ≠ v.ownBlock
theorem pool_grown {w w' : World} {B p base : Nat} {ts : List Tk} {v : Value} {n : Nat} {xs : List Value} (h : PoolAt w B p ts) (ho : w.ownsRow base 3 1 v n xs) (hg : w.grownBy w' v.ownBlock) (hf : Far v ts) : PoolAt w' B p ts := by
  obtain ⟨vr, h1, h2, h3, h4, h5⟩ := h
  refine ⟨vr, h1, blk_grown h2 hg (own_ne ho h2 (by decide)), own_other h3 hg ?_, fun t ht => ?_, h5⟩
  · cases hb : vr.ownBlock with
    | none => exact .inl rfl
    | some k =>
      right
      intro e
      obtain ⟨cs, hc⟩ := own_typed h3 k hb
      exact own_ne ho hc (by decide) e
  · have h0 := h4 t ht
    exact ⟨h0.1, h0.2.1, blk_grown h0.2.2.1 hg (own_ne ho h0.2.2.1 (by decide)), blk_grown h0.2.2.2.1 hg (own_ne ho h0.2.2.2.1 (by decide)), own_other h0.2.2.2.2 hg (hf t ht)⟩
theorem far_append {w : World} {B p : Nat} {ts : List Tk} {v v1 : Value} (h : PoolAt w B p ts) (hf : Far v ts) (hat : v1.ownBlock = v.ownBlock ∨ ∃ b, v1.ownBlock = some b ∧ w.heap.size ≤ b) : Far v1 ts := by
  intro t ht
  rcases hat with e | ⟨b, e, hb⟩
  · rw [e]; exact hf t ht
  · obtain ⟨vr, _, _, _, h4, _⟩ := h
    cases hk : t.v.ownBlock with
    | none => exact .inl rfl
    | some k =>
      right
      rw [e]
      intro e2
      have := own_lt (h4 t ht).2.2.2.2 k hk
      injection e2 with e2
      omega
theorem far_new {w : World} {base e n : Nat} {ts : List Tk} {v : Value} {xs : List Value} {t : Tk} (hf : Far v ts) (ho : w.ownsRow base e 1 v n xs) (hn : ∃ b, t.v.ownBlock = some b ∧ w.heap.size ≤ b) : Far v (ts ++ [t]) := by
  intro x hx
  rcases List.mem_append.1 hx with hx | hx
  · exact hf x hx
  · rw [List.mem_singleton.1 hx]
    right
    obtain ⟨b, e1, hb⟩ := hn
    rw [e1]
    intro e2
    have := own_lt ho b e2.symm
    omega
end Go.Proofs.Ytopclgpimabpcaa.TtP
