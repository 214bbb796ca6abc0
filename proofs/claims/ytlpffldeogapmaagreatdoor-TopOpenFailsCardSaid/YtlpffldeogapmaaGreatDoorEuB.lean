/- Contract of disk.FS.Used: the lengths of all files, in whatever order. A law of its own in the evaluator. -/
import Derived.Test.YtlpffldeogapmaaGreatDoorProg
import Derived.Below
import Derived.Deep.Draws
import Derived.Deep.AppendLies
import Derived.Maps.AppendAt
import Derived.OwnWalk
import Derived.Laws.BytesArg
import Derived.Laws.MakeOwn
import Derived.Laws.OwnMore
import Derived.Deep.OwnRows
import Derived.Tactics
import Derived.Laws.IdiomRangeMap
import Derived.Maps.RangeRun
import Derived.Lib.ConvBytes
import Derived.Laws.Slices
import Derived.WalkKit
import Derived.KernelRfl
import Derived.RowKit3
import Derived.Deep.LoopGhost
import Derived.Deep.QuietTactic
import Derived.BigQuiet
import Derived.WideLaws
import Derived.Deep.DeepCutAuto
import Derived.Deep.CutBlock
import Derived.Deep.RegionHeld3
import Derived.Laws.Rows
import Derived.Lib.AppendStr
import Derived.ArgAppend
import Derived.Laws.IdiomCopy
import Derived.OrdersHeld
import Derived.Laws.BitsLemmas
import Derived.RowKit
import Derived.WalkSpells
import Derived.Outline
import Derived.Test.YtlpffldeogapmaaGreatDoorEvY
namespace Go.Proofs.YtlpffldeogapmaaGreatDoor.EuB
open Go.RowKit Go.Proofs.YtlpffldeogapmaaGreatDoor.Ev
set_option linter.unusedSimpArgs false
set_option linter.unusedVariables false

/-- The sum over those seen. -/
def seenF (f : MapEntry → Int) (es : List MapEntry) (seen : Array Nat) : Int := (es.map fun e => if seen.contains e.born then f e else 0).sum
theorem seenF_none (f : MapEntry → Int) : ∀ es : List MapEntry, seenF f es #[] = 0
  | [] => rfl
  | e :: es => by
    have := seenF_none f es
    simp only [seenF, List.map_cons, List.sum_cons] at this ⊢
    rw [this]; simp
theorem seenF_other (f : MapEntry → Int) (seen : Array Nat) (b : Nat) : ∀ es : List MapEntry, b ∉ es.map (·.born) → seenF f es (seen.push b) = seenF f es seen
  | [], _ => rfl
  | e :: es, h => by
    simp only [List.map_cons, List.mem_cons, not_or] at h
    have := seenF_other f seen b es h.2
    simp only [seenF, List.map_cons, List.sum_cons] at this ⊢
    rw [this, contains_push, show (e.born == b) = false from beq_eq_false_iff_ne.2 (fun q => h.1 q.symm), Bool.or_false]
theorem seenF_push (f : MapEntry → Int) (seen : Array Nat) (e : MapEntry) (hs : seen.contains e.born = false) : ∀ es : List MapEntry, (es.map (·.born)).Nodup → e ∈ es → seenF f es (seen.push e.born) = seenF f es seen + f e
  | [], _, h => by cases h
  | x :: es, hn, h => by
    simp only [List.map_cons, List.nodup_cons] at hn
    rcases List.mem_cons.1 h with rfl | h
    · have := seenF_other f seen e.born es hn.1
      simp only [seenF, List.map_cons, List.sum_cons] at this ⊢
      rw [this, contains_push, hs]
      simp; omega
    · have := seenF_push f seen e hs es hn.2 h
      have hne : x.born ≠ e.born := fun q => hn.1 (q ▸ List.mem_map_of_mem h)
      simp only [seenF, List.map_cons, List.sum_cons] at this ⊢
      rw [this, contains_push, show (x.born == e.born) = false from beq_eq_false_iff_ne.2 hne, Bool.or_false]
      omega
theorem seenF_all (f : MapEntry → Int) (es : Array MapEntry) (seen : Array Nat) (h : (leftOf es seen).size = 0) : seenF f es.toList seen = (es.toList.map f).sum := by
  have h1 := all_seen es seen h
  unfold seenF
  congr 1
  exact List.map_congr_left fun x hx => by rw [if_pos (h1 x hx)]
set_option maxRecDepth 1000000 in
theorem used_calls (B O bm : Nat) (es : Array MapEntry) (clock : Nat) (f : MapEntry → Int) (w : World) (hp : w.cell? ⟨B, O + 1, none⟩ = some (.map (some bm))) (hb : w.heap[bm]? = some (.map es clock))
    (hst : (∀ x ∈ es.toList, x.born < clock) ∧ (es.toList.map (·.born)).Nodup ∧ True) (hv : ∀ x ∈ es.toList, ∃ (l : Nat) (o : Nat) (q : Option Addr) (n c : Nat), x.val = .pointer (some ⟨l, o, none⟩) ∧ w.cell? ⟨l, o, none⟩ = some (.slice q n c) ∧ f x = n)
    (hs : ∀ seen, 0 ≤ seenF f es.toList seen ∧ seenF f es.toList seen < 4611686018427387904) :
    Calls Tryz.prog 197 #[.pointer (some ⟨B, O, none⟩)] w fun e w' => e = .returned (.int .i64 ((es.toList.map f).sum)) ∧ ∃ (w1 : World) (seen : Array Nat), w1.Alike w ∧ w1.tape = w.tape ∧ w' = w1.alloc (.mapIter (some bm) clock seen clock) := by
  have hrg := run_range_map (P := Tryz.prog) w 73 _ _ bm es clock Tryz.underlying73 hb
  go_enter Tryz.func197, Tryz.ntmps197
  go_wp2
  go_loopw [3] (fun s w' => ∃ (w1 : World) (seen : Array Nat), w1.Alike w ∧ w1.tape = w.tape ∧ w' = w1.alloc (.mapIter (some bm) clock seen clock) ∧ s = .int .i64 (seenF f es.toList seen)) (fun _ w' => (leftOf es (w'.iterSeen w.heap.size)).size)
  case atStart => exact ⟨w, #[], ⟨rfl, rfl, rfl⟩, rfl, rfl, by rw [seenF_none]⟩
  case round =>
    obtain ⟨w1, seen, hal, htp, rfl, rfl⟩ := hrel
    have hsz : w1.heap.size = w.heap.size := by rw [hal.1]
    have hb1 : w1.heap[bm]? = some (.map es clock) := by rw [hal.1]; exact hb
    have law := run_next_map (P := Tryz.prog) w1 0 bm clock clock seen es clock hb1 hst.1 (Nat.le_refl _)
    rw [hsz] at law
    rcases law with ⟨h0, hrun⟩ | ⟨e, he, w2, hal2, hrun⟩
    · have hnx : ∀ ty, (Instr.next (.pointer (some ⟨w.heap.size, 0, none⟩)) false ty).run Tryz.prog (w1.alloc (.mapIter (some bm) clock seen clock)) = _ := fun _ => hrun
      go_wp2
      go_ret
      rw [seenF_all f es seen h0]
      exact ⟨rfl, w1, seen, hal, htp, rfl⟩
    · have htp2 : w2.tape = w1.tape := by
        have h2 := run_next_at (P := Tryz.prog) (w1.alloc (.mapIter (some bm) clock seen clock)) 0 w1.heap.size bm clock clock seen es clock (heap_alloc_new _ _)
          (by rw [heap_alloc_old _ _ (Array.getElem?_eq_some_iff.1 hb1).1]; exact hb1) hst.1 (Nat.le_refl _)
        rw [hsz, hrun] at h2
        rcases h2 with ⟨h0, _⟩ | ⟨e', he', W1, hW, hr2⟩
        · have := Array.eq_empty_of_size_eq_zero h0
          rw [this] at he; simp at he
        · injection hr2 with _ hr3
          have h4 := congrArg World.tape hr3
          have h5 : w2.tape = W1.tape := h4
          rw [h5]
          rcases hW with rfl | rfl <;> rfl
      obtain ⟨l, o, q, n, c, hval, hcell, hfx⟩ := hv e (mem_left he).1
      rw [hval] at hrun
      have hnx : ∀ ty, (Instr.next (.pointer (some ⟨w.heap.size, 0, none⟩)) false ty).run Tryz.prog (w1.alloc (.mapIter (some bm) clock seen clock)) = _ := fun _ => hrun
      have hsz2 : w2.heap.size = w.heap.size := by rw [hal2.1, hal.1]
      have hb2 : w2.heap[bm]? = some (.map es clock) := by rw [hal2.1]; exact hb1
      have hen := run_entry_map (P := Tryz.prog) w2 bm clock seen es clock e hb2 (mem_left he).1 hst.2.1
      rw [hsz2, hval] at hen
      have hc2 : (w2.alloc (.mapIter (some bm) clock (seen.push e.born) clock)).cell? ⟨l, o, none⟩ = some (.slice q n c) := by
        have hlt : l < w.heap.size := World.block_lt_of_cell? w _ hcell
        have h1 : (w2.alloc (.mapIter (some bm) clock (seen.push e.born) clock)).heap[l]? = w.heap[l]? := by
          rw [heap_alloc_old _ _ (by omega), hal2.1, hal.1]
        simp only [World.cell?, h1] at hcell ⊢
        exact hcell
      have hpush := seenF_push f seen e (mem_left he).2 es.toList hst.2.1 (mem_left he).1
      have hs1 := hs (seen.push e.born)
      rw [hpush, hfx] at hs1
      have hw64 : wrap64 (seenF f es.toList seen + (n : Int)) = seenF f es.toList seen + (n : Int) := by unfold wrap64; omega
      go_wp2
      go_roundw
      case rel =>
        refine ⟨w2, seen.push e.born, ⟨hal2.1.trans hal.1, hal2.2.1.trans hal.2.1, hal2.2.2.trans hal.2.2⟩, htp2.trans htp, rfl, ?_⟩
        rw [hpush, hfx]
      case measure =>
        rw [← hsz2, World.iterSeen_alloc, hsz2, ← hsz, World.iterSeen_alloc]
        exact left_shrinks es seen e he
end Go.Proofs.YtlpffldeogapmaaGreatDoor.EuB
