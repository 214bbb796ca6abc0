/- TopOpenFails: two pieces of code, walked by hand. No condition. -/
import Derived.Test.YtlpffldeogapmaaGreatDoorProg
import Derived.Below
import Derived.Deep.Draws
import Derived.Deep.AppendLies
import Derived.Maps.AppendAt
import Derived.OwnWalk
import Derived.Laws.BytesArg
import Derived.Laws.MakeOwn
import Derived.Laws.OwnMore
import Derived.Deep.OwnRows
import Derived.Tactics
import Derived.Lib.ConvBytes
import Derived.Laws.Slices
import Derived.WalkKit
import Derived.KernelRfl
import Derived.RowKit3
import Derived.Deep.LoopGhost
import Derived.Deep.QuietTactic
import Derived.BigQuiet
import Derived.WideLaws
import Derived.Deep.DeepCutAuto
import Derived.Deep.CutBlock
import Derived.Deep.RegionHeld3
import Derived.Laws.Rows
import Derived.Lib.AppendStr
import Derived.ArgAppend
import Derived.Laws.IdiomCopy
import Derived.OrdersHeld
import Derived.Laws.BitsLemmas
import Derived.RowKit
import Derived.WalkSpells
import Derived.Outline
import Derived.Test.YtlpffldeogapmaaGreatDoorWWords
import Derived.Test.YtlpffldeogapmaaGreatDoorWLast
import Derived.Test.YtlpffldeogapmaaGreatDoorWMore
import Derived.Test.YtlpffldeogapmaaGreatDoorWArr
import Derived.Test.YtlpffldeogapmaaGreatDoorWTab
import Derived.Test.YtlpffldeogapmaaGreatDoorWZeros
import Derived.Test.YtlpffldeogapmaaGreatDoorWRepsOne
import Derived.Test.YtlpffldeogapmaaGreatDoorEvV
import Derived.Test.YtlpffldeogapmaaGreatDoorMix
namespace Go.Proofs.YtlpffldeogapmaaGreatDoor.Ta
open Go.RowKit Go.Proofs.YtlpffldeogapmaaGreatDoorW.PrintWords Go.Proofs.YtlpffldeogapmaaGreatDoorW.PrintLast Go.Proofs.YtlpffldeogapmaaGreatDoorW.PrintMore Go.Proofs.YtlpffldeogapmaaGreatDoor.Ev Go.Proofs.YtlpffldeogapmaaGreatDoor.Mix
set_option linter.unusedSimpArgs false
set_option linter.unusedVariables false
attribute [local go_sem] max2_int min2_int max_two min_two

open Go.MapKept
noncomputable section
noncomputable def bodyOf (fn : Func) : Code := match fn.body with | some c => c | none => .skip
/-- The piece of a code at a path. -/
def subC : List Nat → Code → Code
  | [], c => c
  | 0 :: p, .seq x _ => subC p x
  | _ :: p, .seq _ y => subC p y
  | _ :: p, .block _ x => subC p x
  | _ :: p, .loop x => subC p x
  | _, c => c
noncomputable def cl : Code → Code
  | .seq x _ => x
  | .loop x => x
  | .block _ x => x
  | c => c
noncomputable def cr : Code → Code
  | .seq _ y => y
  | c => c
noncomputable def cTl : Code := (cl (cr (cr (cr (cl (cl (cr (cr (cl (cl (cr (cl (cr (cr (cr (cr (bodyOf Tryz.f50)))))))))))))))))
noncomputable def cCt : Code := cl (bodyOf Tryz.f28)
abbrev pT : List Nat := [1, 1, 1, 1, 0, 1, 0, 0, 1, 1, 0, 0, 1, 1, 1, 0]
theorem cTl_eq : subC pT (bodyOf Tryz.f50) = cTl := by kernel_rfl
theorem cCt_eq : subC [0] (bodyOf Tryz.f28) = cCt := by kernel_rfl
end
set_option maxRecDepth 1000000
set_option maxHeartbeats 4000000

theorem cell_heap {w W : World} (h : W.heap = w.heap) (a : Addr) : W.cell? a = w.cell? a := by unfold World.cell?; rw [h]
theorem tailR (x0 x1 x2 x3 x4 x5 x6 x7 x8 x9 x10 x11 x12 x13 x14 x15 x16 x17 x18 x19 x20 x21 x22 x23 x24 x25 x26 x27 x28 x29 x30 x31 x32 x33 x34 x35 x36 x37 x38 x39 x40 x41 x42 x43 x44 x45 x46 x47 x48 x49 x50 x51 x52 x53 x54 x55 x56 x57 x58 x59 x60 x61 x62 x63 x64 x65 x66 x67 x68 x69 x70 x71 x72 x73 x74 x75 x76 x77 x78 x79 x80 x81 x82 x83 x84 x85 x86 x87 x88 x89 x90 x91 x92 x93 x94 x95 x96 x97 x98 x99 x100 x101 x102 x103 x104 x105 x106 x107 x108 x109 x110 x111 x112 x113 x114 x115 x116 x117 : Value) (A : Option Addr) (L c k n c' : Nat) (q : Option Addr) (xp : Addr) (w : World) (hx2 : x2 = .slice A L c) (hx10 : x10 = .int .i64 (k : Int)) (hx12 : x12 = .pointer (some xp)) (hx13 : x13 = .int .i64 0)
    (hcb : w.cell? xp = some (.slice q n c')) (hcs : w.cell? (xp.add 1) = some (.int .i64 (n : Int))) (hrow : k < L → ∃ (ad : Addr) (z : Int), A = some ad ∧ w.cell? (ad.add k) = some (.int .i64 z)) (hn : n < 4611686018427387904) (Q : Exit → Act → World → Prop)
    (hexit : ∀ (a' : Act) (w' : World), (a'.tmps.size = 118 ∧ a'.defers = [] ∧ a'.tmps.getD 2 undef = x2 ∧ a'.tmps.getD 7 undef = x7 ∧ a'.tmps.getD 11 undef = x11 ∧ a'.tmps.getD 12 undef = x12 ∧ a'.tmps.getD 53 undef = x53 ∧ a'.tmps.getD 54 undef = x54 ∧ a'.tmps.getD 55 undef = x55 ∧ a'.tmps.getD 13 undef = .int .i64 0) → w'.heap = w.heap → Below w.heap.size w w' → Q .normal a' w') :
    cTl.wp Tryz.prog Q ⟨#[x0, x1, x2, x3, x4, x5, x6, x7, x8, x9, x10, x11, x12, x13, x14, x15, x16, x17, x18, x19, x20, x21, x22, x23, x24, x25, x26, x27, x28, x29, x30, x31, x32, x33, x34, x35, x36, x37, x38, x39, x40, x41, x42, x43, x44, x45, x46, x47, x48, x49, x50, x51, x52, x53, x54, x55, x56, x57, x58, x59, x60, x61, x62, x63, x64, x65, x66, x67, x68, x69, x70, x71, x72, x73, x74, x75, x76, x77, x78, x79, x80, x81, x82, x83, x84, x85, x86, x87, x88, x89, x90, x91, x92, x93, x94, x95, x96, x97, x98, x99, x100, x101, x102, x103, x104, x105, x106, x107, x108, x109, x110, x111, x112, x113, x114, x115, x116, x117], []⟩ w := by
  dsimp only [cTl, cl, cr, bodyOf, Tryz.f50]
  subst hx2; subst hx10; subst hx12; subst hx13
  have HEX := Aside0.mk hexit
  have HC := Aside0.mk (And.intro hcb hcs)
  clear hexit hcb hcs
  by_cases hlt : k < L
  · obtain ⟨ad, z, rfl, hcz⟩ := hrow hlt
    have HX := Aside0.mk hcz
    clear hrow hcz
    have k0 : IntKind.i64.wrap 0 = 0 := by decide
    have kn : IntKind.i64.wrap ((n : Int) - (n : Int)) = 0 := by rw [IntKind.wrap_i64]; omega
    go_wp2_with fail
    refine wp_region_mix (fun w_ w1_ => w_ = w1_) [(false, 0), (false, 1), (false, 2), (false, 3), (false, 4), (false, 5), (false, 6), (false, 7), (false, 8), (false, 9), (false, 10), (false, 11), (false, 12), (false, 13), (false, 14), (false, 15), (false, 16)] (by kernel_rfl) (by kernel_rfl) (fun _ => rfl) (fun h h' => h.trans h') (fun wd hhp_ hbw_ => ?_)
    have HC1 : Aside0 (wd.cell? xp = some (.slice q n c')) := ⟨by rw [cell_heap hhp_]; exact HC.out.1⟩
    have HC2 : Aside0 (wd.cell? (xp.add 1) = some (.int .i64 (n : Int))) := ⟨by rw [cell_heap hhp_]; exact HC.out.2⟩
    have HC3 : Aside0 (wd.cell? (ad.add k) = some (.int .i64 z)) := ⟨by rw [cell_heap hhp_]; exact HX.out⟩
    have q1_ := HC1.out
    have q2_ : wd.cell? { block := xp.block, off := xp.off + 1 } = some (.int .i64 (n : Int)) := by have := HC2.out; simpa [Addr.add] using this
    have q3_ := HC3.out
    (refine mix_read (o := { dst := some 70, op := Op.move (Operand.tmp 2), type := 22, pos := "disk.go:240", after := #[], guard := none }) rfl (by first | rfl | (simp [Region.wanted, yielded]; done)) (by intro w_ hE_; (try dsimp only at hE_); subst hE_; first | (go_simp; done) | (go_simp; rfl)) ?_)
    (try simp only [Act.put, List.setIfInBounds_toArray, List.set_cons_zero, List.set_cons_succ])
    (refine mix_read (o := { dst := some 71, op := Op.move (Operand.tmp 10), type := 3, pos := "disk.go:240", after := #[], guard := none }) rfl (by first | rfl | (simp [Region.wanted, yielded]; done)) (by intro w_ hE_; (try dsimp only at hE_); subst hE_; first | (go_simp; done) | (go_simp; rfl)) ?_)
    (try simp only [Act.put, List.setIfInBounds_toArray, List.set_cons_zero, List.set_cons_succ])
    (refine mix_read (o := { dst := some 72, op := Op.indexAddr 22 (Operand.tmp 70) (Operand.tmp 71), type := 0, pos := "disk.go:240", after := #[{ on := 0, ground := Ground.data }, { on := 1, ground := Ground.data }], guard := none }) rfl (by first | rfl | (simp [Region.wanted, yielded]; done)) (by intro w_ hE_; (try dsimp only at hE_); subst hE_; first | (go_simp; done) | (go_simp; rfl)) ?_)
    (try simp only [Act.put, List.setIfInBounds_toArray, List.set_cons_zero, List.set_cons_succ])
    (refine mix_read (o := { dst := some 73, op := Op.load 3 (Operand.tmp 72), type := 3, pos := "disk.go:240", after := #[{ on := 2, ground := Ground.data }], guard := none }) rfl (by first | rfl | (simp [Region.wanted, yielded]; done)) (by intro w_ hE_; (try dsimp only at hE_); subst hE_; first | (go_simp; done) | (go_simp; rfl)) ?_)
    (try simp only [Act.put, List.setIfInBounds_toArray, List.set_cons_zero, List.set_cons_succ])
    (refine mix_read (o := { dst := some 74, op := Op.call { callee := Callee.builtin Builtin.max, args := #[Operand.tmp 73, Operand.const (Value.int IntKind.i64 0)], argTypes := #[3, 3] }, type := 3, pos := "disk.go:240", after := #[{ on := 3, ground := Ground.data }], guard := none }) rfl (by first | rfl | (simp [Region.wanted, yielded]; done)) (by intro w_ hE_; (try dsimp only at hE_); subst hE_; first | (go_simp; done) | (go_simp; rfl)) ?_)
    (try simp only [Act.put, List.setIfInBounds_toArray, List.set_cons_zero, List.set_cons_succ])
    (refine mix_read (o := { dst := some 75, op := Op.move (Operand.tmp 12), type := 72, pos := "disk.go:240", after := #[], guard := none }) rfl (by first | rfl | (simp [Region.wanted, yielded]; done)) (by intro w_ hE_; (try dsimp only at hE_); subst hE_; first | (go_simp; done) | (go_simp; rfl)) ?_)
    (try simp only [Act.put, List.setIfInBounds_toArray, List.set_cons_zero, List.set_cons_succ])
    (refine mix_read (o := { dst := some 76, op := Op.nilCheck (Operand.tmp 75), type := 0, pos := "disk.go:240", after := #[{ on := 5, ground := Ground.data }], guard := none }) rfl (by first | rfl | (simp [Region.wanted, yielded]; done)) (by intro w_ hE_; (try dsimp only at hE_); subst hE_; first | (go_simp; done) | (go_simp; rfl)) ?_)
    (try simp only [Act.put, List.setIfInBounds_toArray, List.set_cons_zero, List.set_cons_succ])
    (refine mix_read (o := { dst := some 77, op := Op.fieldAddr 79 (Operand.tmp 76) 0, type := 0, pos := "disk.go:240", after := #[{ on := 6, ground := Ground.data }], guard := none }) rfl (by first | rfl | (simp [Region.wanted, yielded]; done)) (by intro w_ hE_; (try dsimp only at hE_); subst hE_; first | (go_simp; done) | (go_simp; rfl)) ?_)
    (try simp only [Act.put, List.setIfInBounds_toArray, List.set_cons_zero, List.set_cons_succ])
    (refine mix_read (o := { dst := some 78, op := Op.load 38 (Operand.tmp 77), type := 38, pos := "disk.go:240", after := #[{ on := 7, ground := Ground.data }], guard := none }) rfl (by first | rfl | (simp [Region.wanted, yielded]; done)) (by intro w_ hE_; (try dsimp only at hE_); subst hE_; first | (go_simp; done) | (go_simp; rfl)) ?_)
    (try simp only [Act.put, List.setIfInBounds_toArray, List.set_cons_zero, List.set_cons_succ])
    (refine mix_read (o := { dst := some 79, op := Op.call { callee := Callee.builtin Builtin.len, args := #[Operand.tmp 78], argTypes := #[38] }, type := 3, pos := "disk.go:240", after := #[{ on := 8, ground := Ground.data }], guard := none }) rfl (by first | rfl | (simp [Region.wanted, yielded]; done)) (by intro w_ hE_; (try dsimp only at hE_); subst hE_; first | (go_simp; done) | (go_simp; rfl)) ?_)
    (try simp only [Act.put, List.setIfInBounds_toArray, List.set_cons_zero, List.set_cons_succ])
    (refine mix_read (o := { dst := some 80, op := Op.move (Operand.tmp 12), type := 72, pos := "disk.go:240", after := #[], guard := none }) rfl (by first | rfl | (simp [Region.wanted, yielded]; done)) (by intro w_ hE_; (try dsimp only at hE_); subst hE_; first | (go_simp; done) | (go_simp; rfl)) ?_)
    (try simp only [Act.put, List.setIfInBounds_toArray, List.set_cons_zero, List.set_cons_succ])
    (refine mix_read (o := { dst := some 81, op := Op.nilCheck (Operand.tmp 80), type := 0, pos := "disk.go:240", after := #[{ on := 10, ground := Ground.data }], guard := none }) rfl (by first | rfl | (simp [Region.wanted, yielded]; done)) (by intro w_ hE_; (try dsimp only at hE_); subst hE_; first | (go_simp; done) | (go_simp; rfl)) ?_)
    (try simp only [Act.put, List.setIfInBounds_toArray, List.set_cons_zero, List.set_cons_succ])
    (refine mix_read (o := { dst := some 82, op := Op.fieldAddr 79 (Operand.tmp 81) 1, type := 0, pos := "disk.go:240", after := #[{ on := 11, ground := Ground.data }], guard := none }) rfl (by first | rfl | (simp [Region.wanted, yielded]; done)) (by intro w_ hE_; (try dsimp only at hE_); subst hE_; first | (go_simp; done) | (go_simp; rfl)) ?_)
    (try simp only [Act.put, List.setIfInBounds_toArray, List.set_cons_zero, List.set_cons_succ])
    (refine mix_read (o := { dst := some 83, op := Op.load 3 (Operand.tmp 82), type := 3, pos := "disk.go:240", after := #[{ on := 12, ground := Ground.data }], guard := none }) rfl (by first | rfl | (simp [Region.wanted, yielded]; done)) (by intro w_ hE_; (try dsimp only at hE_); subst hE_; first | (go_simp; done) | (go_simp; rfl)) ?_)
    (try simp only [Act.put, List.setIfInBounds_toArray, List.set_cons_zero, List.set_cons_succ])
    (refine mix_read (o := { dst := some 84, op := Op.binOp BinOp.sub 3 (Operand.tmp 79) (Operand.tmp 83) 3, type := 3, pos := "disk.go:240", after := #[{ on := 9, ground := Ground.data }, { on := 13, ground := Ground.data }], guard := none }) rfl (by first | rfl | (simp [Region.wanted, yielded]; done)) (by intro w_ hE_; (try dsimp only at hE_); subst hE_; first | (go_simp; done) | (go_simp; rfl)) ?_)
    (try simp only [Act.put, List.setIfInBounds_toArray, List.set_cons_zero, List.set_cons_succ])
    (refine mix_read (o := { dst := some 85, op := Op.call { callee := Callee.builtin Builtin.min, args := #[Operand.tmp 74, Operand.tmp 84], argTypes := #[3, 3] }, type := 3, pos := "disk.go:240", after := #[{ on := 4, ground := Ground.data }, { on := 14, ground := Ground.data }], guard := none }) rfl (by first | rfl | (simp [Region.wanted, yielded]; done)) (by intro w_ hE_; (try dsimp only at hE_); subst hE_; first | (go_simp; done) | (go_simp; rfl)) ?_)
    (try simp only [Act.put, List.setIfInBounds_toArray, List.set_cons_zero, List.set_cons_succ])
    (refine mix_read (o := { dst := some 13, op := Op.assign (Operand.tmp 85), type := 3, pos := "disk.go:240", after := #[{ on := 15, ground := Ground.data }, { on := 0, ground := Ground.phase }, { on := 1, ground := Ground.phase }, { on := 2, ground := Ground.phase }, { on := 3, ground := Ground.phase }, { on := 4, ground := Ground.phase }, { on := 5, ground := Ground.phase }, { on := 6, ground := Ground.phase }, { on := 7, ground := Ground.phase }, { on := 8, ground := Ground.phase }, { on := 9, ground := Ground.phase }, { on := 10, ground := Ground.phase }, { on := 11, ground := Ground.phase }, { on := 12, ground := Ground.phase }, { on := 13, ground := Ground.phase }, { on := 14, ground := Ground.phase }, { on := 15, ground := Ground.phase }], guard := none }) rfl (by first | rfl | (simp [Region.wanted, yielded]; done)) (by intro w_ hE_; (try dsimp only at hE_); subst hE_; first | (go_simp; done) | (go_simp; rfl)) ?_)
    (try simp only [Act.put, List.setIfInBounds_toArray, List.set_cons_zero, List.set_cons_succ])
    refine mix_nil ?_
    go_wp2_with fail
    all_goals refine HEX.out _ _ ?_ hhp_ hbw_
    all_goals first | (simp [k0]; done) | (simp [k0]; omega) | (simp [k0]; split <;> omega)
  · clear hrow
    go_wp2_with fail
    exact HEX.out _ _ (by simp) rfl (Below.refl _ _)


theorem cutR (x0 x1 x2 x3 x4 x5 x6 x7 x8 x9 x10 x11 x12 x13 x14 x15 x16 x17 x18 : Value) (A : Option Addr) (L c : Nat) (w : World) (hx2 : x2 = .slice A L c) (hc : L ≤ c) (Q : Exit → Act → World → Prop)
    (hexit : ∀ (a' : Act) (m : Nat) (c2 : Nat), m ≤ L → m ≤ c2 → (a'.tmps.size = 19 ∧ a'.defers = [] ∧ a'.tmps.getD 0 undef = x0 ∧ a'.tmps.getD 1 undef = x1) → a'.tmps.getD 2 undef = .slice A m c2 → Q .normal a' w) :
    cCt.wp Tryz.prog Q ⟨#[x0, x1, x2, x3, x4, x5, x6, x7, x8, x9, x10, x11, x12, x13, x14, x15, x16, x17, x18], []⟩ w := by
  dsimp only [cCt, cl, cr, bodyOf, Tryz.f28]
  subst hx2
  have HEX := Aside0.mk hexit
  clear hexit
  by_cases hlt : 10 < L
  · go_wp2_with fail
    exact HEX.out _ 10 c (by omega) (by omega) (by simp) (by simp)
  · go_wp2_with fail
    exact HEX.out _ L c (by omega) hc (by simp) (by simp)

end Go.Proofs.YtlpffldeogapmaaGreatDoor.Ta
