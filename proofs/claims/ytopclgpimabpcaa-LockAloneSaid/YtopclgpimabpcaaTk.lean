/- The pool of works in memory; contracts of find, those, Ready, All, Steps. -/
import Derived.Test.YtopclgpimabpcaaProg
import Derived.Below
import Derived.Deep.Draws
import Derived.Deep.AppendLies
import Derived.Maps.AppendAt
import Derived.OwnWalk
import Derived.Laws.BytesArg
import Derived.Laws.MakeOwn
import Derived.Laws.OwnMore
import Derived.Deep.OwnRows
import Derived.Tactics
import Derived.Lib.ConvBytes
import Derived.Laws.Slices
import Derived.WalkKit
import Derived.KernelRfl
import Derived.RowKit3
import Derived.Deep.LoopGhost
import Derived.Deep.QuietTactic
import Derived.BigQuiet
import Derived.WideLaws
import Derived.Deep.DeepCutAuto
import Derived.Deep.CutBlock
import Derived.Deep.RegionHeld3
import Derived.Laws.Rows
import Derived.Lib.AppendStr
import Derived.ArgAppend
import Derived.Laws.IdiomCopy
import Derived.OrdersHeld
import Derived.Laws.BitsLemmas
import Derived.RowKit
import Derived.WalkSpells
import Derived.Outline
import Derived.Test.YtopclgpimabpcaaWWords
import Derived.Test.YtopclgpimabpcaaWLast
import Derived.Test.YtopclgpimabpcaaWMore
import Derived.Test.YtopclgpimabpcaaWArr
import Derived.Test.YtopclgpimabpcaaWTab
import Derived.Test.YtopclgpimabpcaaWZeros
import Derived.Test.YtopclgpimabpcaaWRepsOne
namespace Go.Proofs.Ytopclgpimabpcaa.Tk
open Go.RowKit Go.Proofs.YtopclgpimabpcaaW.PrintWords Go.Proofs.YtopclgpimabpcaaW.PrintLast Go.Proofs.YtopclgpimabpcaaW.PrintMore
set_option linter.unusedSimpArgs false
set_option linter.unusedVariables false
attribute [local go_sem] max2_int min2_int max_two min_two

theorem info3 : (Try.prog.info? 3).map (fun i => (i.zero, i.size, i.bytes)) = some (some (.int .i64 0), 1, 8) := by kernel_rfl
theorem info65 : (Try.prog.info? 65).map (fun i => (i.zero, i.size, i.bytes)) = some (some (.pointer none), 1, 8) := by kernel_rfl

/-- A task: its block, its work's block, the work's list, how often it was stepped, what the task's last step told, how many there were. -/
structure Tk where
  g : Nat
  h : Nat
  v : Value
  L : List Int
  n : Nat
  st : Int
  sp : Nat
instance : Inhabited Tk := ⟨⟨0, 0, .bool false, [], 0, 0, 0⟩⟩
def Blk (w : World) (g : Nat) (cs : Array Value) (t : TypeId) : Prop := w.heap[g]? = some (.cells cs t (0, 0))
def TkAt (w : World) (B : Nat) (t : Tk) : Prop :=
  B ≤ t.g ∧ B ≤ t.h ∧ Blk w t.g #[.iface 30 (.pointer (some ⟨t.h, 0, none⟩)), .int .i64 t.st, .int .i64 (t.sp : Int)] 67 ∧ Blk w t.h #[t.v, .int .i64 (t.n : Int)] 32 ∧ w.ownsRow B 3 1 t.v t.L.length (nums .i64 t.L)
def ptrs (ts : List Tk) : List Value := ts.map (fun t => .pointer (some ⟨t.g, 0, none⟩))
def PoolAt (w : World) (B p : Nat) (ts : List Tk) : Prop :=
  ∃ v, B ≤ p ∧ Blk w p #[v] 62 ∧ w.ownsRow B 65 1 v ts.length (ptrs ts) ∧ (∀ t ∈ ts, TkAt w B t) ∧ (ts.map Tk.g).Nodup ∧ (ts.map Tk.h).Nodup ∧ ts.length ≤ 1000000
/-- Blocks of other types are as they were. -/
def Kp (w w' : World) : Prop := ∀ g cs t, Blk w g cs t → t ≠ 62 → t ≠ 65 → t ≠ 67 → t ≠ 32 → Blk w' g cs t
theorem Kp.refl (w : World) : Kp w w := fun _ _ _ h _ _ _ _ => h
theorem Kp.trans {w w1 w2 : World} (h : Kp w w1) (k : Kp w1 w2) : Kp w w2 := fun g cs t hb a b c d => k g cs t (h g cs t hb a b c d) a b c d
theorem Kp.below {w w' : World} (h : Below w.heap.size w w') : Kp w w' := fun g cs t hb _ _ _ _ => blk_below hb h
theorem blk_keep {w w' : World} {g : Nat} {cs : Array Value} {t : TypeId} (hb : Blk w g cs t) (h : Below w.heap.size w w') : Blk w' g cs t := blk_below hb h
theorem own_kp {w w' : World} {base : Nat} {e : TypeId} {size n : Nat} {v : Value} {xs : List Value} (h : w.ownsRow base e size v n xs) (hk : Kp w w') (a : e ≠ 62) (b : e ≠ 65) (c : e ≠ 67) (d : e ≠ 32) : w'.ownsRow base e size v n xs := by
  obtain ⟨h1, h2⟩ := h
  refine ⟨h1, ?_⟩
  rcases h2 with h2 | ⟨g, cap, cur, rfl, hg, hh, r⟩
  · exact .inl h2
  · exact .inr ⟨g, cap, cur, rfl, hg, hk g _ _ hh a b c d, r⟩
theorem tk_below {w w' : World} {B : Nat} {t : Tk} (h : TkAt w B t) (hb : Below w.heap.size w w') : TkAt w' B t :=
  ⟨h.1, h.2.1, blk_keep h.2.2.1 hb, blk_keep h.2.2.2.1 hb, pw_own_below h.2.2.2.2 hb⟩
theorem pool_below {w w' : World} {B p : Nat} {ts : List Tk} (h : PoolAt w B p ts) (hb : Below w.heap.size w w') : PoolAt w' B p ts := by
  obtain ⟨v, h1, h2, h3, h4, h5⟩ := h
  exact ⟨v, h1, blk_keep h2 hb, pw_own_below h3 hb, fun t ht => tk_below (h4 t ht) hb, h5⟩
/-- The task number k. -/
theorem pool_get {w : World} {B p : Nat} {ts : List Tk} (h : PoolAt w B p ts) {k : Nat} (hk : k < ts.length) : ∃ g c, w.cell? ⟨p, 0, none⟩ = some (.slice (some ⟨g, 0, none⟩) ts.length c) ∧ w.cell? ⟨g, k, none⟩ = some (.pointer (some ⟨(ts.getD k default).g, 0, none⟩)) ∧ TkAt w B (ts.getD k default) := by
  obtain ⟨v, h1, h2, h3, h4, h5⟩ := h
  obtain ⟨g, cap, rfl, hb, hl⟩ := h3.form (by omega)
  refine ⟨g, cap, blk_cell h2 0, ?_, ?_⟩
  · have := h3.cells (g := g) rfl k (.pointer (some ⟨(ts.getD k default).g, 0, none⟩)) (by unfold ptrs; rw [List.getElem?_map, List.getElem?_eq_getElem hk, List.getD_eq_getElem?_getD, List.getElem?_eq_getElem hk]; rfl)
    rwa [add_plain] at this
  · have hm : ts.getD k default ∈ ts := by rw [List.getD_eq_getElem?_getD, List.getElem?_eq_getElem hk]; exact List.getElem_mem hk
    exact h4 _ hm
theorem pool_slice {w : World} {B p : Nat} {ts : List Tk} (h : PoolAt w B p ts) : ∃ A c, w.cell? ⟨p, 0, none⟩ = some (.slice A ts.length c) := by
  obtain ⟨v, h1, h2, h3, h4, h5⟩ := h
  obtain ⟨A, c, rfl⟩ := own_slice h3
  exact ⟨A, c, blk_cell h2 0⟩
theorem find_some {w : World} {B p : Nat} {ts : List Tk} (h : PoolAt w B p ts) (k : Nat) (hk : k < ts.length) :
    Calls Try.prog 32 #[.pointer (some ⟨p, 0, none⟩), .int .i64 ((k + 1 : Nat) : Int)] w fun e w' => e = .returned (.pointer (some ⟨(ts.getD k default).g, 0, none⟩)) ∧ w = w' := by
  obtain ⟨g, c, h1, h2, _⟩ := pool_get h hk
  have hl : ts.length ≤ 1000000 := by obtain ⟨_, _, _, _, _, _, _, h⟩ := h; exact h
  generalize (ts.getD k default).g = tg at *
  obtain ⟨m, hm⟩ : ∃ m, ts.length = m := ⟨_, rfl⟩
  rw [hm] at h1 hk hl
  have k1 : ¬ ((k + 1 : Nat) : Int) < 1 := by omega
  have k2 : ¬ (m : Int) < ((k + 1 : Nat) : Int) := by omega
  have k3 : IntKind.i64.wrap (((k + 1 : Nat) : Int) - 1) = (k : Int) := by rw [IntKind.wrap_i64]; omega
  have k4 : ((k : Int) < (m : Int)) = True := eq_true (by omega)
  generalize ((k + 1 : Nat) : Int) = id at *
  clear h hm hk
  go_enter Try.func32, Try.ntmps32
  go_wp2
  go_ret
  exact ⟨rfl, rfl⟩
theorem find_none {w : World} {B p : Nat} {ts : List Tk} (h : PoolAt w B p ts) (id : Int) (hk : id < 1 ∨ (ts.length : Int) < id) :
    Calls Try.prog 32 #[.pointer (some ⟨p, 0, none⟩), .int .i64 id] w fun e w' => e = .returned (.pointer none) ∧ w = w' := by
  obtain ⟨A, c, h1⟩ := pool_slice h
  generalize ts.length = m at *
  clear h
  by_cases k1 : id < 1
  · clear hk
    go_enter Try.func32, Try.ntmps32
    go_wp2
    go_ret
    exact ⟨rfl, rfl⟩
  · have k2 : (m : Int) < id := by omega
    clear hk
    go_enter Try.func32, Try.ntmps32
    go_wp2
    go_ret
    exact ⟨rfl, rfl⟩
theorem find_nil (id : Int) (w : World) :
    Calls Try.prog 32 #[.pointer none, .int .i64 id] w fun e w' => e = .returned (.pointer none) ∧ w = w' := by
  go_enter Try.func32, Try.ntmps32
  go_wp2
  go_ret
  exact ⟨rfl, rfl⟩
end Go.Proofs.Ytopclgpimabpcaa.Tk
