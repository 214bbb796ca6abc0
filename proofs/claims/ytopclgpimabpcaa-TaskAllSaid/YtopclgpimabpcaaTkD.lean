/- Contracts of New and Add. -/
import Derived.Test.YtopclgpimabpcaaProg
import Derived.Below
import Derived.Deep.Draws
import Derived.Deep.AppendLies
import Derived.Maps.AppendAt
import Derived.OwnWalk
import Derived.Laws.BytesArg
import Derived.Laws.MakeOwn
import Derived.Laws.OwnMore
import Derived.Deep.OwnRows
import Derived.Tactics
import Derived.Lib.ConvBytes
import Derived.Laws.Slices
import Derived.WalkKit
import Derived.KernelRfl
import Derived.RowKit3
import Derived.Deep.LoopGhost
import Derived.Deep.QuietTactic
import Derived.BigQuiet
import Derived.WideLaws
import Derived.Deep.DeepCutAuto
import Derived.Deep.CutBlock
import Derived.Deep.RegionHeld3
import Derived.Laws.Rows
import Derived.Lib.AppendStr
import Derived.ArgAppend
import Derived.Laws.IdiomCopy
import Derived.OrdersHeld
import Derived.Laws.BitsLemmas
import Derived.RowKit
import Derived.WalkSpells
import Derived.Outline
import Derived.Test.YtopclgpimabpcaaWWords
import Derived.Test.YtopclgpimabpcaaWLast
import Derived.Test.YtopclgpimabpcaaWMore
import Derived.Test.YtopclgpimabpcaaWArr
import Derived.Test.YtopclgpimabpcaaWTab
import Derived.Test.YtopclgpimabpcaaWZeros
import Derived.Test.YtopclgpimabpcaaWRepsOne
import Derived.Test.YtopclgpimabpcaaTkC
namespace Go.Proofs.Ytopclgpimabpcaa.TkD
open Go.RowKit Go.Proofs.YtopclgpimabpcaaW.PrintWords Go.Proofs.YtopclgpimabpcaaW.PrintLast Go.Proofs.YtopclgpimabpcaaW.PrintMore Go.Proofs.Ytopclgpimabpcaa.Tk Go.Proofs.Ytopclgpimabpcaa.TkA Go.Proofs.Ytopclgpimabpcaa.TkB Go.Proofs.Ytopclgpimabpcaa.TkC Go.Proofs.Ytopclgpimabpcaa.Mix
set_option linter.unusedSimpArgs false
set_option linter.unusedVariables false
attribute [local go_sem] max2_int min2_int max_two min_two

set_option maxRecDepth 100000 in
theorem new_calls (B : Nat) (w : World) (hB : B ≤ w.heap.size) : Calls Try.prog 13 #[] w fun e w' => ∃ p, e = .returned (.pointer (some ⟨p, 0, none⟩)) ∧ PoolAt w' B p [] ∧ Below w.heap.size w w' := by
  have HB := Aside0.mk hB
  clear hB
  go_enter Try.func13, Try.ntmps13
  go_wp2
  go_ret
  refine ⟨w.heap.size, rfl, ⟨.slice none 0 0, HB.out, blk_new w _, own_nil _ _ _ _, by simp, by simp, by simp, by simp⟩, (Below.refl w.heap.size w).alloc (Nat.le_refl _) _⟩
theorem add_nil (x : Value) (w : World) (hx : ∃ t v, x = .iface t v) : Calls Try.prog 14 #[.pointer none, x] w fun e w' => e = .returned (.int .i64 0) ∧ w = w' := by
  obtain ⟨t, v, rfl⟩ := hx
  go_enter Try.func14, Try.ntmps14
  go_wp2
  go_ret
  exact ⟨rfl, rfl⟩
theorem add_nilw {w : World} {p : Nat} : Calls Try.prog 14 #[.pointer (some ⟨p, 0, none⟩), .nilIface] w fun e w' => e = .returned (.int .i64 0) ∧ w = w' := by
  have hq : ∀ w : World, (binOp .eql 64 .nilIface .nilIface).run Try.prog w = .ok (.bool true) w := fun w => by rfl
  go_enter Try.func14, Try.ntmps14
  go_wp2
  go_ret
  exact ⟨rfl, rfl⟩
set_option maxRecDepth 100000 in
theorem add_full {w : World} {B p h : Nat} {ts : List Tk} (hp : PoolAt w B p ts) (hl : 40 ≤ (thoseL 1 ts).length) : Calls Try.prog 14 #[.pointer (some ⟨p, 0, none⟩), .iface 30 (.pointer (some ⟨h, 0, none⟩))] w fun e w' => e = .returned (.int .i64 0) ∧ Below w.heap.size w w' := by
  have hq : ∀ w : World, (binOp .eql 64 (.iface 30 (.pointer (some ⟨h, 0, none⟩))) .nilIface).run Try.prog w = .ok (.bool false) w := fun w => by rfl
  have HA := Aside0.mk (all_calls hp)
  generalize thoseL 1 ts = L at *
  have HL := Aside0.mk hl
  clear hp hl
  go_enter Try.func14, Try.ntmps14
  go_wp2_with fail
  refine HA.out.mono ?_
  rintro e_ w1 ⟨v, rfl, ho, hb⟩
  obtain ⟨A, c, rfl⟩ := Kd.R_slice ho
  have HB := Aside0.mk hb
  have k1 : (40 : Int) ≤ (L.length : Int) := by have := HL.out; omega
  clear ho hb
  go_wp2
  go_ret
  exact ⟨rfl, HB.out⟩
set_option maxRecDepth 100000 in
theorem add_go {w : World} {B p h n : Nat} {v : Value} {L : List Int} {ts : List Tk} (hp : PoolAt w B p ts) (hl : (thoseL 1 ts).length < 40) (hts : ts.length < 1000000) (hB : B ≤ h) (hb : Blk w h #[v, .int .i64 (n : Int)] 32) (ho : w.ownsRow B 3 1 v L.length (nums .i64 L)) (hm : h ∉ ts.map Tk.h) :
    Calls Try.prog 14 #[.pointer (some ⟨p, 0, none⟩), .iface 30 (.pointer (some ⟨h, 0, none⟩))] w fun e w' => e = .returned (.int .i64 ((ts.length + 1 : Nat) : Int)) ∧ (∃ g, PoolAt w' B p (ts ++ [⟨g, h, v, L, n, 0, 0⟩])) ∧ Below B w w' ∧ Kp w w' := by
  have hq : ∀ w : World, (binOp .eql 64 (.iface 30 (.pointer (some ⟨h, 0, none⟩))) .nilIface).run Try.prog w = .ok (.bool false) w := fun w => by rfl
  have HA := Aside0.mk (all_calls hp)
  generalize thoseL 1 ts = Lc at *
  have HL := Aside0.mk hl
  have HP := Aside0.mk (And.intro hp (And.intro hts (And.intro hB (And.intro hb (And.intro ho hm)))))
  clear hp hl hb ho hm hts hB
  go_enter Try.func14, Try.ntmps14
  go_wp2_with fail
  refine HA.out.mono ?_
  rintro e_ w1 ⟨v, rfl, ho, hb⟩
  obtain ⟨A, c, rfl⟩ := Kd.R_slice ho
  have HB := Aside0.mk hb
  have k1 : ((40 : Int) ≤ (Lc.length : Int)) = False := eq_false (by have := HL.out; omega)
  obtain ⟨vr, r1, r2, r3, r4, r5, r6, r7⟩ := pool_below HP.out.1 hb
  obtain ⟨Ar, cr, rfl⟩ := own_slice r3
  have c0 : w1.cell? ⟨p, 0, none⟩ = some (.slice Ar ts.length cr) := blk_cell r2 0
  have HR := Aside0.mk (And.intro r1 (And.intro r2 (And.intro r3 (And.intro r4 (And.intro r5 (And.intro r6 r7))))))
  clear ho hb r1 r2 r3 r4 r5 r6 r7
  have hW : Blk (w1.alloc (.cells #[.iface 30 (.pointer (some ⟨h, 0, none⟩)), .int .i64 0, .int .i64 0] 67 (0, 0))) w1.heap.size #[.iface 30 (.pointer (some ⟨h, 0, none⟩)), .int .i64 0, .int .i64 0] 67 := blk_new w1 _
  have HWB := Aside0.mk ((Below.refl w1.heap.size w1).alloc (Nat.le_refl _) (.cells #[.iface 30 (.pointer (some ⟨h, 0, none⟩)), .int .i64 0, .int .i64 0] 67 (0, 0)))
  have HW := Aside0.mk hW
  have HSZ : Aside0 ((w1.alloc (.cells #[.iface 30 (.pointer (some ⟨h, 0, none⟩)), .int .i64 0, .int .i64 0] 67 (0, 0))).heap.size = w1.heap.size + 1) := ⟨by show (w1.heap.push _).size = _; exact Array.size_push _⟩
  have HBB : Aside0 (B ≤ w1.heap.size) := ⟨by have := blk_lt HR.out.2.1; have := HR.out.1; omega⟩
  clear hW
  go_wp2_with ((with_reducible refine gate_builtin (b := .append) (xs := #[.tmp 21, .tmp 25]) rfl ?_); at_builtin; go_must (refine print_append_cells (w0 := w1) B rfl (.tmp 21) (.tmp 25) 60 65 (.pointer none) 1 8 rfl Try.underlying60 info65 rfl (by decide) (by decide) (.slice Ar ts.length cr) ts.length (ptrs ts) [.pointer (some ⟨w1.heap.size, 0, none⟩)] ?hs_ ?hx_ rfl (by intro u hu; rw [List.mem_singleton.1 hu]; rfl) (pw_own_below HR.out.2.2.1 HWB.out) ⟨HWB.out.os, HWB.out.tape, HWB.out.output, HWB.out.size, fun j hj => HWB.out.block j (by have := HBB.out; omega)⟩ (by have := HBB.out; have := HWB.out.size; omega) (by have := HP.out.2.1; omega) ?_; (case hs_ => rfl); (case hx_ => rw [HSZ.out]; rfl); intro v3 w3 ho hb hg hat; obtain ⟨A3, c3, e3⟩ := own_slice ho; subst e3; have hp3 : Blk w3 p #[.slice Ar ts.length cr] 62 := blk_grown (blk_keep HR.out.2.1 HWB.out) hg (own_ne HR.out.2.2.1 HR.out.2.1 (by decide)); have q3 : w3.cell? ⟨p, 0, none⟩ = some (.slice Ar ts.length cr) := blk_cell hp3 0; have f3 := blk_frozen hp3 0; have q4 : (w3.setCell ⟨p, 0, none⟩ (.slice A3 (ts.length + 1) c3)).cell? ⟨p, 0, none⟩ = some (.slice A3 (ts.length + 1) c3) := blk_cell (blk_set hp3 0 _) 0; have H3 := Aside0.mk (And.intro ho (And.intro hb (And.intro hg hp3))); clear ho hb hg hat hp3))
  go_ret
  obtain ⟨ho, hb, hg, hp3⟩ := H3.out
  have hk : ∀ g cs t, Blk w1 g cs t → t ≠ 65 → Blk w3 g cs t := fun g cs t h1 h2 => blk_grown (blk_keep h1 HWB.out) hg (own_ne HR.out.2.2.1 h1 (fun e => h2 e.symm))
  have hkp : Kp w1 w3 := fun g cs t h1 _ h2 _ _ => hk g cs t h1 h2
  have hgn : Blk w3 w1.heap.size #[.iface 30 (.pointer (some ⟨h, 0, none⟩)), .int .i64 0, .int .i64 0] 67 := blk_grown HW.out hg (own_ne (pw_own_below HR.out.2.2.1 HWB.out) HW.out (by decide))
  have hset : ∀ g cs t, Blk w3 g cs t → t ≠ 62 → Blk (w3.setCell ⟨p, 0, none⟩ (.slice A3 (ts.length + 1) c3)) g cs t := fun g cs t h1 h2 => blk_set2 h1 hp3 h2 _
  have hall : ∀ g cs t, Blk w1 g cs t → t ≠ 62 → t ≠ 65 → Blk (w3.setCell ⟨p, 0, none⟩ (.slice A3 (ts.length + 1) c3)) g cs t := fun g cs t h1 h2 h3 => hset g cs t (hk g cs t h1 h3) h2
  have hKp : Kp w1 (w3.setCell ⟨p, 0, none⟩ (.slice A3 (ts.length + 1) c3)) := fun g cs t h1 h2 h3 _ _ => hall g cs t h1 h2 h3
  have hB1 : Below B w w1 := ⟨HB.out.os, HB.out.tape, HB.out.output, HB.out.size, fun j hj => HB.out.block j (by have := blk_lt HP.out.2.2.2.1; have := HP.out.2.2.1; omega)⟩
  refine ⟨by simp, ⟨w1.heap.size, .slice A3 (ts.length + 1) c3, HR.out.1, blk_set hp3 0 _, ?_, ?_, ?_, ?_, ?_⟩, (hB1.trans hb).trans (below_set HR.out.1 _), (Kp.below HB.out).trans hKp⟩
  · have := own_set2 ho hp3 (i := 0) (by decide) (.slice A3 (ts.length + 1) c3)
    rw [List.length_append]
    unfold ptrs at this ⊢
    rw [List.map_append]
    exact this
  · intro x hx
    rcases List.mem_append.1 hx with hx | hx
    · have h0 := HR.out.2.2.2.1 x hx
      exact ⟨h0.1, h0.2.1, hall _ _ _ h0.2.2.1 (by decide) (by decide), hall _ _ _ h0.2.2.2.1 (by decide) (by decide), own_kp h0.2.2.2.2 hKp (by decide) (by decide) (by decide) (by decide)⟩
    · have := List.mem_singleton.1 hx
      subst this
      have hb0 := blk_keep HP.out.2.2.2.1 HB.out
      have ho0 := pw_own_below HP.out.2.2.2.2.1 HB.out
      exact ⟨HBB.out, HP.out.2.2.1, hset _ _ _ hgn (by decide), hall _ _ _ hb0 (by decide) (by decide), own_kp ho0 hKp (by decide) (by decide) (by decide) (by decide)⟩
  · rw [List.map_append]
    refine List.nodup_append.2 ⟨HR.out.2.2.2.2.1, by simp, ?_⟩
    intro a ha b hb2 hab
    have := List.mem_singleton.1 hb2
    subst this
    subst hab
    obtain ⟨x, hx, hxe⟩ := List.mem_map.1 ha
    have := blk_lt (HR.out.2.2.2.1 x hx).2.2.1
    simp at hxe
    omega
  · rw [List.map_append]
    refine List.nodup_append.2 ⟨HR.out.2.2.2.2.2.1, by simp, ?_⟩
    intro a ha b hb2 hab
    have := List.mem_singleton.1 hb2
    subst this
    subst hab
    exact HP.out.2.2.2.2.2 ha
  · rw [List.length_append]
    have := HP.out.2.1
    simp
    omega
end Go.Proofs.Ytopclgpimabpcaa.TkD
