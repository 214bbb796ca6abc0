/- Who has a lock to write has it alone: plain law; a map of the call's own from numbers to truths. -/
import Derived.Test.YtopclgpimabpcaaProg
import Derived.Below
import Derived.Deep.Draws
import Derived.Deep.AppendLies
import Derived.Maps.AppendAt
import Derived.OwnWalk
import Derived.Laws.BytesArg
import Derived.Laws.MakeOwn
import Derived.Laws.OwnMore
import Derived.Deep.OwnRows
import Derived.Tactics
import Derived.Lib.ConvBytes
import Derived.Laws.Slices
import Derived.WalkKit
import Derived.KernelRfl
import Derived.RowKit3
import Derived.Deep.LoopGhost
import Derived.Deep.QuietTactic
import Derived.BigQuiet
import Derived.WideLaws
import Derived.Deep.DeepCutAuto
import Derived.Deep.CutBlock
import Derived.Deep.RegionHeld3
import Derived.Laws.Rows
import Derived.Lib.AppendStr
import Derived.ArgAppend
import Derived.Laws.IdiomCopy
import Derived.OrdersHeld
import Derived.Laws.BitsLemmas
import Derived.RowKit
import Derived.Maps.OwnSet
import Derived.WalkSpells
import Derived.Outline
import Derived.Test.YtopclgpimabpcaaWWords
import Derived.Test.YtopclgpimabpcaaWLast
import Derived.Test.YtopclgpimabpcaaWMore
import Derived.Test.YtopclgpimabpcaaWArr
import Derived.Test.YtopclgpimabpcaaWTab
import Derived.Test.YtopclgpimabpcaaWZeros
import Derived.Test.YtopclgpimabpcaaWRepsOne
import Derived.Test.YtopclgpimabpcaaLaP
namespace Go.Proofs.Ytopclgpimabpcaa.LoP
open Go.RowKit Go.Proofs.YtopclgpimabpcaaW.PrintWords Go.Proofs.YtopclgpimabpcaaW.PrintLast Go.Proofs.YtopclgpimabpcaaW.PrintMore Go.Proofs.Ytopclgpimabpcaa.Mix Go.Proofs.Ytopclgpimabpcaa.MixB Go.Proofs.Ytopclgpimabpcaa.MixT Go.Proofs.Ytopclgpimabpcaa.LkA Go.Proofs.Ytopclgpimabpcaa.LkB Go.Proofs.Ytopclgpimabpcaa.LkC Go.Proofs.Ytopclgpimabpcaa.LkD Go.Proofs.Ytopclgpimabpcaa.LkE Go.Proofs.Ytopclgpimabpcaa.LkF Go.Proofs.Ytopclgpimabpcaa.LrA Go.Proofs.Ytopclgpimabpcaa.LrB Go.Proofs.Ytopclgpimabpcaa.LrC Go.Proofs.Ytopclgpimabpcaa.LrD Go.Proofs.Ytopclgpimabpcaa.LaP
set_option linter.unusedSimpArgs false
set_option linter.unusedVariables false
attribute [local go_sem] max2_int min2_int max_two min_two

theorem leave_app {hs ws : List (Int × Bool)} (hn : Nd (hs ++ ws)) (who : Int) : (leaveL (hs, ws) who).1.1 ++ (leaveL (hs, ws) who).1.2 = wo who (hs ++ ws) := by
  have hw : wo who (hs ++ ws) = wo who hs ++ wo who ws := by unfold wo; rw [List.filter_append]
  by_cases h : isIn who hs = true ∨ isIn who ws = true
  · rw [leave_wo hn h, grant_app, hw]
  · have h1 : isIn who hs = false := by cases hh : isIn who hs; rfl; exact absurd (.inl hh) h
    have h2 : isIn who ws = false := by cases hh : isIn who ws; rfl; exact absurd (.inr hh) h
    rw [hw, wo_none h1, wo_none h2]
    unfold leaveL
    simp only []
    rw [if_neg (by rw [h1]; simp), if_neg (by rw [h2]; simp)]
/-- Nobody waits for a lock that nobody has. -/
def Lv (s : LS) : Prop := s.1 = [] → s.2 = []
theorem grant_lv : ∀ (ws hs : List (Int × Bool)), Lv (grantL hs ws).1 := by
  intro ws
  induction ws with
  | nil => intro hs _; rfl
  | cons o ws ih =>
    intro hs
    cases hm : mayL hs o.2 with
    | true => rw [grant_go hm]; exact ih _
    | false =>
      rw [grant_stop hm]
      intro h
      simp only at h
      subst h
      simp [mayL] at hm
theorem lv_leave {s : LS} (h : Lv s) (who : Int) : Lv (leaveL s who).1 := by
  unfold leaveL
  split
  · exact grant_lv _ _
  · split
    · exact grant_lv _ _
    · exact h
theorem lv_ask {s : LS} (h : Lv s) (who : Int) (wr : Bool) : Lv (askL s who wr).2 := by
  obtain ⟨hs, ws⟩ := s
  unfold askL
  simp only []
  split
  · exact h
  · split
    · rename_i hc
      intro h0
      simp only at h0
      subst h0
      rcases hc with hc | hc
      · have : ws = [] := h rfl
        subst this
        simp at hc
      · simp [mayL] at hc
    · intro h0
      simp only at h0
      simp at h0
/-- What is written down of who asked. -/
def Wr (s : LS) (M : Int → Option Bool) : Prop := (∀ o ∈ s.1 ++ s.2, M o.1 = some o.2 ∧ 1 ≤ o.1 ∧ o.1 ≤ 8) ∧ ∀ k b, M k = some b → (k, b) ∈ s.1 ++ s.2
def delM (M : Int → Option Bool) (k : Int) : Int → Option Bool := fun j => if j = k then none else M j
def putM (M : Int → Option Bool) (k : Int) (b : Bool) : Int → Option Bool := fun j => if j = k then some b else M j
theorem wr_leave {s : LS} {M : Int → Option Bool} (h : Wr s M) (hn : Nd (s.1 ++ s.2)) (who : Int) : Wr (leaveL s who).1 (delM M who) := by
  obtain ⟨hs, ws⟩ := s
  have ha := leave_app hn who
  unfold Wr
  rw [ha]
  refine ⟨fun o ho => ?_, fun k b hk => ?_⟩
  · unfold wo at ho
    obtain ⟨h1, h2⟩ := List.mem_filter.1 ho
    have h3 := h.1 o h1
    refine ⟨?_, h3.2⟩
    unfold delM
    rw [if_neg (bne_iff_ne.1 h2)]
    exact h3.1
  · unfold delM at hk
    split at hk
    · cases hk
    · rename_i hne
      unfold wo
      exact List.mem_filter.2 ⟨h.2 k b hk, bne_iff_ne.2 hne⟩
theorem wr_ask {s : LS} {M : Int → Option Bool} (h : Wr s M) (who : Int) (wr : Bool) (h1 : 1 ≤ who) (h8 : who ≤ 8) (hm : M who = none) : Wr (askL s who wr).2 (putM M who wr) := by
  obtain ⟨hs, ws⟩ := s
  have hno : ∀ o ∈ hs ++ ws, o.1 ≠ who := fun o ho e => by have := (h.1 o ho).1; rw [e, hm] at this; cases this
  have hi1 : isIn who hs = false := by
    cases hh : isIn who hs with
    | false => rfl
    | true =>
      obtain ⟨o, ho, he⟩ := List.mem_map.1 (isIn_mem.1 hh)
      exact absurd he (hno o (by simp [ho]))
  have hi2 : isIn who ws = false := by
    cases hh : isIn who ws with
    | false => rfl
    | true =>
      obtain ⟨o, ho, he⟩ := List.mem_map.1 (isIn_mem.1 hh)
      exact absurd he (hno o (by simp [ho]))
  have key : ∀ os : List (Int × Bool), (∀ o, o ∈ os ↔ o ∈ hs ++ ws ∨ o = (who, wr)) → (∀ o ∈ os, putM M who wr o.1 = some o.2 ∧ 1 ≤ o.1 ∧ o.1 ≤ 8) ∧ ∀ k b, putM M who wr k = some b → (k, b) ∈ os := by
    intro os hos
    refine ⟨fun o ho => ?_, fun k b hk => ?_⟩
    · rcases (hos o).1 ho with h2 | h2
      · have h3 := h.1 o h2
        unfold putM
        rw [if_neg (hno o h2)]
        exact h3
      · subst h2
        unfold putM
        rw [if_pos rfl]
        exact ⟨rfl, h1, h8⟩
    · unfold putM at hk
      split at hk
      · rename_i he
        injection hk with hk
        exact (hos _).2 (.inr (by rw [he, hk]))
      · exact (hos _).2 (.inl (h.2 k b hk))
  unfold askL
  simp only []
  rw [if_neg (by rw [hi1, hi2]; simp; omega)]
  split
  · exact key _ (fun o => by rw [← List.append_assoc, List.mem_append, List.mem_singleton])
  · rename_i hc
    have hw : ws = [] := List.eq_nil_of_length_eq_zero (by omega)
    subst hw
    exact key _ (fun o => by simp [List.mem_append])
/-- How many of those below j have it, how many of these to write. -/
def Cnt (hs : List (Int × Bool)) (j hv wn : Nat) : Prop := 1 ≤ j ∧ wn ≤ hv ∧ hv ≤ j ∧ (hv = 0 → ∀ t : Nat, 1 ≤ t → t < j → isIn (t : Int) hs = false) ∧ (hs.length ≤ 1 → hv = 0 ∨ (hv = 1 ∧ ∃ t : Nat, t < j ∧ isIn (t : Int) hs = true)) ∧ (0 < wn → hs.length ≤ 1)
theorem cnt_start (hs : List (Int × Bool)) : Cnt hs 1 0 0 := ⟨by omega, by omega, by omega, fun _ t h1 h2 => by omega, fun _ => .inl rfl, fun h => by omega⟩
theorem cnt_no {hs : List (Int × Bool)} {j hv wn : Nat} (h : Cnt hs j hv wn) (hn : isIn (j : Int) hs = false) : Cnt hs (j + 1) hv wn := by
  obtain ⟨h1, h2, h3, h4, h5, h6⟩ := h
  refine ⟨by omega, h2, by omega, fun h0 t a1 a2 => ?_, fun hl => ?_, h6⟩
  · rcases Nat.lt_or_ge t j with h | h
    · exact h4 h0 t a1 h
    · rw [show t = j by omega]; exact hn
  · rcases h5 hl with h | ⟨h, t, a1, a2⟩
    · exact .inl h
    · exact .inr ⟨h, t, by omega, a2⟩
theorem isIn_one {hs : List (Int × Bool)} (hl : hs.length ≤ 1) {a b : Int} (h1 : isIn a hs = true) (h2 : isIn b hs = true) : a = b := by
  obtain ⟨o, ho, he⟩ := List.mem_map.1 (isIn_mem.1 h1)
  obtain ⟨o2, ho2, he2⟩ := List.mem_map.1 (isIn_mem.1 h2)
  match hs, hl with
  | [], _ => simp at ho
  | [x], _ =>
    rw [List.mem_singleton.1 ho] at he
    rw [List.mem_singleton.1 ho2] at he2
    rw [← he, ← he2]
theorem cnt_yes {hs ws : List (Int × Bool)} {M : Int → Option Bool} {j hv wn : Nat} (h : Cnt hs j hv wn) (hy : isIn (j : Int) hs = true) (hu : Uni hs) (hw : Wr (hs, ws) M) : Cnt hs (j + 1) (hv + 1) (if (M (j : Int)).getD false = true then wn + 1 else wn) := by
  obtain ⟨h1, h2, h3, h4, h5, h6⟩ := h
  refine ⟨by omega, by split <;> omega, by omega, fun h0 => by omega, fun hl => ?_, fun hp => ?_⟩
  · rcases h5 hl with h | ⟨h, t, a1, a2⟩
    · exact .inr ⟨by omega, j, by omega, hy⟩
    · have := isIn_one hl a2 hy
      omega
  · by_cases hb : (M (j : Int)).getD false = true
    · obtain ⟨o, ho, he⟩ := List.mem_map.1 (isIn_mem.1 hy)
      have h7 := (hw.1 o (by simp [ho])).1
      rw [he] at h7
      rw [h7] at hb
      simp only [Option.getD_some] at hb
      rcases hu with h8 | h8
      · rw [h8 o ho] at hb; cases hb
      · exact h8
    · rw [if_neg hb] at hp
      exact h6 hp
theorem cnt_end {hs ws : List (Int × Bool)} {M : Int → Option Bool} {wn : Nat} (h : Cnt hs 9 0 wn) (hw : Wr (hs, ws) M) (hl : Lv (hs, ws)) : ws = [] := by
  apply hl
  obtain ⟨_, _, _, h4, _⟩ := h
  cases hs with
  | nil => rfl
  | cons o os =>
    exfalso
    have ho := (hw.1 o (by simp)).2
    obtain ⟨t, ht⟩ := Int.eq_ofNat_of_zero_le (show 0 ≤ o.1 by omega)
    have := h4 rfl t (by omega) (by omega)
    unfold isIn at this
    simp [ht] at this
/-- Whose number is from j on. -/
def From (s : LS) (j : Nat) : Prop := ∀ o ∈ s.1 ++ s.2, (j : Int) ≤ o.1 ∧ o.1 ≤ 8
theorem from_leave {s : LS} {j : Nat} (h : From s j) (hn : Nd (s.1 ++ s.2)) : From (leaveL s (j : Int)).1 (j + 1) := by
  obtain ⟨hs, ws⟩ := s
  unfold From
  rw [leave_app hn]
  intro o ho
  unfold wo at ho
  obtain ⟨h1, h2⟩ := List.mem_filter.1 ho
  have h3 := h o h1
  have h4 := bne_iff_ne.1 h2
  omega
theorem from_end {s : LS} (h : From s 9) : s.2 = [] := by
  cases hs : s.2 with
  | nil => rfl
  | cons o os =>
    have := h o (by rw [hs]; simp)
    omega
/-- A map of the call's own that tells what M tells. -/
def MapIs (w : World) (t e b n : Nat) (M : Int → Option Bool) : Prop :=
  ∃ D : DataW Unit, w.ownsMap Try.prog t (plainElem Try.prog e) b n D ∧ Maps.IsMap D ∧ ∀ k : Int, (Lit.int .i64 k).wf = true → Maps.has D (.int .i64 k) = (M k).isSome ∧ D.atKey (.int .i64 k) (.lit (.bool false)) = .lit (.bool ((M k).getD false))
theorem lit_ne {a b : Int} (h : a ≠ b) : (Lit.int .i64 a) ≠ (Lit.int .i64 b) := fun e => by injection e with _ e; exact h e
theorem mapis_grown {w w' : World} {t e b n : Nat} {M : Int → Option Bool} {row : Option Nat} (h : MapIs w t e b n M) (hg : w.grownBy w' row) (hne : some b ≠ row) : MapIs w' t e b n M := by
  obtain ⟨D, h1, h2⟩ := h
  exact ⟨D, h1.kept hg hne, h2⟩
theorem mapis_heap {w w' : World} {t e b n : Nat} {M : Int → Option Bool} (h : MapIs w t e b n M) (hh : w'.heap[b]? = w.heap[b]?) : MapIs w' t e b n M := by
  obtain ⟨D, ⟨es, clock, h1, h3⟩, h2⟩ := h
  exact ⟨D, ⟨es, clock, hh.trans h1, h3⟩, h2⟩
theorem mapis_kt {S E : Nat} {w w' : World} {t e b n : Nat} {M : Int → Option Bool} (h : MapIs w t e b n M) (hk : Kt S E w w') : MapIs w' t e b n M := by
  obtain ⟨D, ⟨es, clock, h1, h3⟩, h2⟩ := h
  exact ⟨D, ⟨es, clock, hk b _ h1 (fun cs t e => by cases e), h3⟩, h2⟩
theorem mapis_below {w w' : World} {t e b n : Nat} {M : Int → Option Bool} (h : MapIs w t e b n M) (hb : Below w.heap.size w w') : MapIs w' t e b n M := by
  obtain ⟨D, ⟨es, clock, h1, h3⟩, h2⟩ := h
  exact ⟨D, ⟨es, clock, blk_below h1 hb, h3⟩, h2⟩
/-- A lock stays behind a store into a map. -/
theorem lk_map {S E : Nat} {w w' : World} {B p t e b n : Nat} {M : Int → Option Bool} {hs ws : List (Int × Bool)} (h : LkAt S E w B p hs ws) (hm : MapIs w t e b n M) (hg : w.grownBy w' (some b)) : LkAt S E w' B p hs ws := by
  obtain ⟨D, ⟨es, clock, hb, _⟩, _⟩ := hm
  obtain ⟨v1, v2, a1, a2, a3, a4⟩ := h
  have hne : ∀ k cells q, w.heap[k]? = some (.cells cells q (0, 0)) → some k ≠ some b := by
    intro k cells q hc e
    injection e with e
    subst e
    rw [hb] at hc
    cases hc
  have hmove : ∀ {ok : Nat → Prop} {v : Value} {os : List (Int × Bool)}, KOne.Q E w B ok v os → KOne.Q E w' B ok v os := by
    intro ok v os hq
    refine Kd.Q_mono (Kd.Q_grown (Kd.Q_bound hq) hg (fun k hk' => ?_)) (fun _ hk' => hk'.1)
    obtain ⟨_, _, _, q, hq2, cells, hc⟩ := hk'
    exact hne k cells q hc
  exact ⟨v1, v2, a1, blk_grown a2 hg (hne p _ _ a2), hmove a3, hmove a4⟩
theorem mapis_made (w : World) (t e : Nat) : MapIs (w.alloc (.map #[] 0)) t e w.heap.size 0 (fun _ => none) := by
  refine ⟨.map [], World.ownsMap_made w _ t _, Maps.isMap_empty, fun k hk => ⟨rfl, ?_⟩⟩
  exact Maps.atKey_of_not_has rfl _
theorem mapis_mono {w : World} {t e b n n' : Nat} {M : Int → Option Bool} (h : MapIs w t e b n M) (hn : n ≤ n') : MapIs w t e b n' M := by
  obtain ⟨D, h1, h2⟩ := h
  exact ⟨D, h1.mono hn, h2⟩
section
variable {w : World} {b n : Nat} {M : Int → Option Bool} {ops : Array Oper} {rest : List Oper} {o : Oper} {a : Act} {Q : Exit → Act → World → Prop}
abbrev MB (w : World) (b n : Nat) (M : Int → Option Bool) : Prop := MapIs w 3 4 b n M
theorem int_law : Maps.Keyed Try.prog 3 := Maps.int_keyed Try.underlying3
theorem key_lit {k : Int} (hk : (Lit.int .i64 k).wf = true) : WideAt.IsKeyLit (.int .i64 k) := by first | trivial | exact hk | simp [WideAt.IsKeyLit]
theorem wp_mdel (hm : MB w b n M) (hg : o.guard = none) (m x : Operand) (hop : o.op = Op.call { callee := Callee.builtin Builtin.delete, args := #[m, x], argTypes := #[55, 3] }) (he : a.eval m = .map (some b)) (k : Int) (hx : a.eval x = .int .i64 k) (hk : (Lit.int .i64 k).wf = true)
    (hK : ∀ w', MB w' b n (delM M k) → w.grownBy w' (some b) → wpList Try.prog ops Q rest (a.put o.dst (.tuple #[])) w') : wpList Try.prog ops Q (o :: rest) a w := by
  obtain ⟨D, h1, h2, h3⟩ := hm
  refine wpList_delete_own w hg m x 55 3 hop 4 int_law Try.underlying55 _ b n D he h1 _ _ hx (Maps.keyOf_int_mk Try.underlying3 hk) (fun w' h4 h5 => hK w' ⟨D.del (.int .i64 k), h4, h2.del _, fun j hj => ?_⟩ h5.grown)
  unfold delM
  by_cases hjk : j = k
  · subst hjk
    rw [if_pos rfl]
    exact ⟨Maps.has_del_same, Maps.atKey_del_same _⟩
  · rw [if_neg hjk, Maps.has_del_other (lit_ne hjk), Maps.atKey_del_other (lit_ne hjk)]
    exact h3 j hj
theorem wp_mput (hm : MB w b n M) (hn : n < 9223372036854775807) (hg : o.guard = none) (m x v : Operand) (hop : o.op = Op.mapUpdate 55 m x v) (he : a.eval m = .map (some b)) (k : Int) (hx : a.eval x = .int .i64 k) (y : Bool) (hv : a.eval v = .bool y) (hk : (Lit.int .i64 k).wf = true)
    (hK : ∀ w', MB w' b (n + 1) (putM M k y) → w.grownBy w' (some b) → wpList Try.prog ops Q rest (a.put o.dst undef) w') : wpList Try.prog ops Q (o :: rest) a w := by
  obtain ⟨D, h1, h2, h3⟩ := hm
  refine wpList_mapUpdate_own w hg m x v 55 hop 3 4 int_law Try.underlying55 _ b n D he h1 (by unfold maxLen; omega) _ _ _ hx hv (Maps.keyOf_int_mk Try.underlying3 hk) (.lit (.bool y)) [] (plainElem_bool Try.underlying4 y) (fun w' h4 h5 => hK w' ⟨D.put (.int .i64 k) (.lit (.bool y)), h4, h2.put _ _, fun j hj => ?_⟩ h5)
  unfold putM
  by_cases hjk : j = k
  · subst hjk
    rw [if_pos rfl]
    exact ⟨Maps.has_put_same h2 (key_lit hk) _, Maps.atKey_put_same h2 (key_lit hk) _ _⟩
  · rw [if_neg hjk, Maps.has_put_other (lit_ne hjk), Maps.atKey_put_other (lit_ne hjk)]
    exact h3 j hj
theorem plain_bool {v : Value} {x : Bool} {ps : List MemPlace} (h : plainElem (H := Unit) Try.prog 4 v = some (.lit (.bool x), ps)) : v = .bool x := by
  unfold plainElem at h
  rw [Try.underlying4] at h
  cases v <;> simp at h
  rw [h.1]
theorem zero_bool (w : World) : (zeroValue 4).run Try.prog w = .ok (.bool false) w := by kernel_rfl
theorem wp_mget_ok (hm : MB w b n M) (hg : o.guard = none) (m x : Operand) (hop : o.op = Op.lookup 55 m x true) (he : a.eval m = .map (some b)) (k : Int) (hx : a.eval x = .int .i64 k) (hk : (Lit.int .i64 k).wf = true)
    (hK : wpList Try.prog ops Q rest (a.put o.dst (.tuple #[.bool ((M k).getD false), .bool (M k).isSome])) w) : wpList Try.prog ops Q (o :: rest) a w := by
  obtain ⟨D, h1, h2, h3⟩ := hm
  refine wpList_lookup_own_ok w hg m x 55 hop 3 4 int_law Try.underlying55 _ (zero_bool w) (.lit (.bool false)) [] (plainElem_bool Try.underlying4 false) b n D he h1 _ _ hx (Maps.keyOf_int_mk Try.underlying3 hk) (fun v ps hv => ?_)
  rw [(h3 k hk).2] at hv
  rw [(h3 k hk).1, plain_bool hv]
  exact hK
theorem wp_mget (hm : MB w b n M) (hg : o.guard = none) (m x : Operand) (hop : o.op = Op.lookup 55 m x false) (he : a.eval m = .map (some b)) (k : Int) (hx : a.eval x = .int .i64 k) (hk : (Lit.int .i64 k).wf = true)
    (hK : wpList Try.prog ops Q rest (a.put o.dst (.bool ((M k).getD false))) w) : wpList Try.prog ops Q (o :: rest) a w := by
  obtain ⟨D, h1, h2, h3⟩ := hm
  refine wpList_plain hg fun K' hK' => ?_
  obtain ⟨v, ps, hrun, hv⟩ := h1.lookup (t := 55) int_law Try.underlying55 (zero_bool w) (plainElem_bool Try.underlying4 false) (Maps.keyOf_int_mk Try.underlying3 hk)
  rw [(h3 k hk).2] at hv
  rw [plain_bool hv] at hrun
  unfold Oper.wp
  simp [execOp, hop, he, hx, hrun, Result.andThen]
  exact hK' _ _ hK
end
end Go.Proofs.Ytopclgpimabpcaa.LoP
