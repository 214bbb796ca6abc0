/- TopRepair: the code in its parts; a round of the loop over the sectors. No condition. -/
import Derived.Test.YtlpffldeogapmaaGreatDoorProg
import Derived.Below
import Derived.Deep.Draws
import Derived.Deep.AppendLies
import Derived.Maps.AppendAt
import Derived.OwnWalk
import Derived.Laws.BytesArg
import Derived.Laws.MakeOwn
import Derived.Laws.OwnMore
import Derived.Deep.OwnRows
import Derived.Tactics
import Derived.Lib.ConvBytes
import Derived.Laws.Slices
import Derived.WalkKit
import Derived.KernelRfl
import Derived.RowKit3
import Derived.Deep.LoopGhost
import Derived.Deep.QuietTactic
import Derived.BigQuiet
import Derived.WideLaws
import Derived.Deep.DeepCutAuto
import Derived.Deep.CutBlock
import Derived.Deep.RegionHeld3
import Derived.Laws.Rows
import Derived.Lib.AppendStr
import Derived.ArgAppend
import Derived.Laws.IdiomCopy
import Derived.OrdersHeld
import Derived.Laws.BitsLemmas
import Derived.RowKit
import Derived.WalkSpells
import Derived.Outline
import Derived.Test.YtlpffldeogapmaaGreatDoorWWords
import Derived.Test.YtlpffldeogapmaaGreatDoorWLast
import Derived.Test.YtlpffldeogapmaaGreatDoorWMore
import Derived.Test.YtlpffldeogapmaaGreatDoorWArr
import Derived.Test.YtlpffldeogapmaaGreatDoorWTab
import Derived.Test.YtlpffldeogapmaaGreatDoorWZeros
import Derived.Test.YtlpffldeogapmaaGreatDoorWRepsOne
import Derived.Test.YtlpffldeogapmaaGreatDoorEuF
import Derived.Test.YtlpffldeogapmaaGreatDoorEuG
import Derived.Test.YtlpffldeogapmaaGreatDoorMix
namespace Go.Proofs.YtlpffldeogapmaaGreatDoor.Rr
open Go.RowKit Go.Proofs.YtlpffldeogapmaaGreatDoorW.PrintWords Go.Proofs.YtlpffldeogapmaaGreatDoorW.PrintLast Go.Proofs.YtlpffldeogapmaaGreatDoorW.PrintMore Go.Proofs.YtlpffldeogapmaaGreatDoor.Ev Go.Proofs.YtlpffldeogapmaaGreatDoor.EuF Go.Proofs.YtlpffldeogapmaaGreatDoor.EuG Go.Proofs.YtlpffldeogapmaaGreatDoor.Mix
set_option linter.unusedSimpArgs false
set_option linter.unusedVariables false
attribute [local go_sem] max2_int min2_int max_two min_two

open Go.MapKept
noncomputable section
/-! ### The code, in its parts -/
noncomputable def bodyOf (fn : Func) : Code := match fn.body with | some c => c | none => .skip
noncomputable def cl : Code → Code
  | .seq x _ => x
  | .loop x => x
  | .block _ x => x
  | c => c
noncomputable def cr : Code → Code
  | .seq _ y => y
  | c => c
noncomputable def cB : Code := bodyOf Tryz.f3
noncomputable def cT : Code := tailC 11 cB
noncomputable def cS : Code := cr cT
noncomputable def cI : Code := cl (cl cT)
noncomputable def cLp : Code := cl (cl (cr (cl cT)))
theorem cB_eq : Tryz.f3.body = some cB := by kernel_rfl
theorem cT_eq : cT = .seq (.seq cI (.block 2 (.loop cLp))) cS := by kernel_rfl
theorem keep_run : keepN 1 11 cB = true := by kernel_rfl
theorem keep_cI : keepB 1 cI = true := by kernel_rfl
end
set_option maxRecDepth 1000000
set_option maxHeartbeats 4000000

theorem cell_heap {w W : World} (h : W.heap = w.heap) (a : Addr) : W.cell? a = w.cell? a := by unfold World.cell?; rw [h]
theorem cell_keep {w w' : World} {a : Addr} {v : Value} (h : w.cell? a = some v) (hb : Below w.heap.size w w') : w'.cell? a = some v :=
  (hb.cell (World.block_lt_of_cell? w _ h)).trans h
theorem u8_lo (n : Int) : 0 ≤ IntKind.u8.wrap n := by rw [IntKind.wrap_u8]; omega
theorem u8_hi (n : Int) : IntKind.u8.wrap n < 256 := by rw [IntKind.wrap_u8]; omega
theorem roundR (x0 x1 x2 x3 x4 x5 x6 x7 x8 x9 x10 x11 x12 x13 x14 x15 x16 x17 x18 x19 x20 x21 x22 x23 x24 x25 x26 x27 x28 x29 x30 x31 x32 x33 x34 x35 x36 x37 x38 x39 x40 x41 x42 x43 x44 x45 x46 x47 x48 x49 x50 x51 x52 x53 x54 x55 x56 x57 x58 x59 x60 x61 x62 x63 x64 x65 x66 x67 x68 x69 x70 x71 x72 x73 x74 x75 x76 x77 x78 x79 x80 x81 x82 x83 x84 x85 x86 x87 x88 x89 x90 x91 x92 x93 x94 x95 x96 x97 x98 x99 x100 x101 x102 x103 x104 x105 x106 x107 x108 x109 x110 x111 x112 x113 x114 x115 x116 x117 x118 x119 x120 x121 x122 x123 x124 x125 x126 x127 x128 x129 x130 x131 x132 x133 x134 x135 x136 x137 x138 x139 x140 x141 x142 x143 x144 x145 x146 x147 x148 x149 x150 x151 x152 x153 x154 x155 x156 x157 x158 x159 x160 x161 x162 x163 x164 x165 x166 x167 x168 x169 x170 x171 x172 x173 x174 x175 x176 x177 x178 : Value) (A : Option Addr) (L c i : Nat) (l : List Int) (tp ad12 : Addr) (vp : Value) (c12 : Nat) (xb : Int) (w0 w : World) (hx1 : x1 = .slice A L c) (hx14 : x14 = .int .i64 (i : Int)) (hx8 : x8 = .pointer (some tp)) (hx2 : x2 = .int .u8 xb) (hx12 : x12 = .slice (some ad12) 161 c12)
    (hcp : w.cell? tp = some vp) (hR : (Kd.int .i64).C w0 A L l) (hlen : L = l.length) (hb : Below w0.heap.size w0 w) (hL : L ≤ 9223372036854775807) (Q : Exit → Act → World → Prop)
    (hexit : ∀ a' : Act, (a'.tmps.size = 179 ∧ a'.defers = [] ∧ a'.tmps.getD 1 undef = x1 ∧ a'.tmps.getD 2 undef = x2 ∧ a'.tmps.getD 8 undef = x8 ∧ a'.tmps.getD 11 undef = x11 ∧ a'.tmps.getD 12 undef = x12) → ¬ (i < L ∧ i < 4) → Q (.exit 2) a' w)
    (hcall : i < L → i < 4 → ∀ W : World, W.heap = w.heap → Below w.heap.size w W → Calls Tryz.prog 14 #[vp] W (fun e w1 => ∃ vf, e = .returned vf ∧ w1.cell? tp = some vp ∧ Below w0.heap.size w0 w1 ∧
      Calls Tryz.prog 13 #[.int .i64 (rd l (i : Int)), .int .i64 3] w1 (fun e w2 => ∃ vs, e = .returned vs ∧ w2.cell? tp = some vp ∧ Below w0.heap.size w0 w2 ∧
        ∀ z : Int, 0 ≤ z → z < 256 → Calls Tryz.prog 16 #[vf, x11, vs, .int .u8 z] w2 (fun e w3 => (∃ v, e = .returned v) ∧ w3.cell? tp = some vp ∧ Below w0.heap.size w0 w3 ∧ ∀ a' : Act, (a'.tmps.size = 179 ∧ a'.defers = [] ∧ a'.tmps.getD 1 undef = x1 ∧ a'.tmps.getD 2 undef = x2 ∧ a'.tmps.getD 8 undef = x8 ∧ a'.tmps.getD 11 undef = x11 ∧ a'.tmps.getD 12 undef = x12 ∧ a'.tmps.getD 14 undef = .int .i64 ((i + 1 : Nat) : Int)) → Q .normal a' w3)))) :
    cLp.wp Tryz.prog Q ⟨#[x0, x1, x2, x3, x4, x5, x6, x7, x8, x9, x10, x11, x12, x13, x14, x15, x16, x17, x18, x19, x20, x21, x22, x23, x24, x25, x26, x27, x28, x29, x30, x31, x32, x33, x34, x35, x36, x37, x38, x39, x40, x41, x42, x43, x44, x45, x46, x47, x48, x49, x50, x51, x52, x53, x54, x55, x56, x57, x58, x59, x60, x61, x62, x63, x64, x65, x66, x67, x68, x69, x70, x71, x72, x73, x74, x75, x76, x77, x78, x79, x80, x81, x82, x83, x84, x85, x86, x87, x88, x89, x90, x91, x92, x93, x94, x95, x96, x97, x98, x99, x100, x101, x102, x103, x104, x105, x106, x107, x108, x109, x110, x111, x112, x113, x114, x115, x116, x117, x118, x119, x120, x121, x122, x123, x124, x125, x126, x127, x128, x129, x130, x131, x132, x133, x134, x135, x136, x137, x138, x139, x140, x141, x142, x143, x144, x145, x146, x147, x148, x149, x150, x151, x152, x153, x154, x155, x156, x157, x158, x159, x160, x161, x162, x163, x164, x165, x166, x167, x168, x169, x170, x171, x172, x173, x174, x175, x176, x177, x178], []⟩ w := by
  dsimp only [cLp, cT, cB, bodyOf, tailC, cl, cr, Tryz.f3]
  subst hx1; subst hx14; subst hx8; subst hx2; subst hx12; subst hlen
  have HEX := Aside0.mk hexit
  have HCA := Aside0.mk hcall
  have HR := Aside0.mk hR
  have HB := Aside0.mk hb
  have HCP := Aside0.mk hcp
  clear hexit hcall hR hb hcp
  by_cases hlt : i < l.length
  · obtain ⟨ad, e1, q1⟩ := Kd.at_int HR.out (i : Int) (by omega) (by omega)
    simp only [Int.toNat_natCast] at q1
    subst e1
    have HX2 := Aside0.mk q1
    clear q1
    by_cases h100 : i < 4
    · have kw : IntKind.i64.wrap ((i : Int) + 1) = ((i + 1 : Nat) : Int) := by rw [IntKind.wrap_i64]; omega
      have hc := HCA.out hlt h100
      clear HCA
      have HCA := Aside0.mk hc
      clear hc
      go_wp2_with fail
      refine wp_region_mix (fun w_ w1_ => (w_.cell? tp = some vp → w1_.cell? tp = some vp) ∧ (w_.cell? (ad.add i) = some (.int .i64 (rd l (i : Int))) → w1_.cell? (ad.add i) = some (.int .i64 (rd l (i : Int))))) [(false, 0), (false, 1), (false, 2), (false, 3), (false, 5), (false, 6), (false, 7), (false, 8), (false, 9), (false, 10), (false, 11), (false, 12), (false, 13), (false, 14), (false, 16), (false, 17), (false, 18), (false, 19), (true, 4), (true, 15), (true, 20)] (by kernel_rfl) (by kernel_rfl) (fun _ => ⟨id, id⟩) (fun h h' => ⟨fun q => h'.1 (h.1 q), fun q => h'.2 (h.2 q)⟩) (fun wd hhp_ hbw_ => ?_)
      have HC1 : Aside0 (wd.cell? tp = some vp) := ⟨by rw [cell_heap hhp_]; exact HCP.out⟩
      have HC2 : Aside0 (wd.cell? (ad.add i) = some (.int .i64 (rd l (i : Int)))) := ⟨by rw [cell_heap hhp_]; exact cell_keep HX2.out HB.out⟩
      (refine mix_read (o := { dst := some 90, op := Op.move (Operand.tmp 8), type := 24, pos := "more.go:44", after := #[], guard := none }) rfl (by first | rfl | (simp [Region.wanted, yielded]; done)) (by intro w_ hE_; (try dsimp only at hE_); first | (go_simp; done) | (go_simp; rfl)) ?_)
      (try simp only [Act.put, List.setIfInBounds_toArray, List.set_cons_zero, List.set_cons_succ])
      (refine mix_read (o := { dst := some 91, op := Op.nilCheck (Operand.tmp 90), type := 0, pos := "more.go:44", after := #[{ on := 0, ground := Ground.data }], guard := none }) rfl (by first | rfl | (simp [Region.wanted, yielded]; done)) (by intro w_ hE_; (try dsimp only at hE_); first | (go_simp; done) | (go_simp; rfl)) ?_)
      (try simp only [Act.put, List.setIfInBounds_toArray, List.set_cons_zero, List.set_cons_succ])
      (refine mix_read (o := { dst := some 92, op := Op.fieldAddr 34 (Operand.tmp 91) 0, type := 0, pos := "more.go:44", after := #[{ on := 1, ground := Ground.data }], guard := none }) rfl (by first | rfl | (simp [Region.wanted, yielded]; done)) (by intro w_ hE_; (try dsimp only at hE_); first | (go_simp; done) | (go_simp; rfl)) ?_)
      (try simp only [Act.put, List.setIfInBounds_toArray, List.set_cons_zero, List.set_cons_succ])
      (refine mix_read (o := { dst := some 93, op := Op.load 32 (Operand.tmp 92), type := 32, pos := "more.go:44", after := #[{ on := 2, ground := Ground.data }], guard := none }) rfl (by first | rfl | (simp [Region.wanted, yielded]; done)) (by intro w_ hE_; (try dsimp only at hE_); have q1_ := hE_.1 HC1.out; have q2_ := hE_.2 HC2.out; (first | (go_simp; done) | (go_simp; rfl))) ?_)
      (try simp only [Act.put, List.setIfInBounds_toArray, List.set_cons_zero, List.set_cons_succ])
      (refine mix_read (o := { dst := some 95, op := Op.move (Operand.tmp 11), type := 9, pos := "more.go:44", after := #[], guard := none }) rfl (by first | rfl | (simp [Region.wanted, yielded]; done)) (by intro w_ hE_; (try dsimp only at hE_); first | (go_simp; done) | (go_simp; rfl)) ?_)
      (try simp only [Act.put, List.setIfInBounds_toArray, List.set_cons_zero, List.set_cons_succ])
      (refine mix_read (o := { dst := some 96, op := Op.move (Operand.tmp 1), type := 22, pos := "more.go:44", after := #[], guard := none }) rfl (by first | rfl | (simp [Region.wanted, yielded]; done)) (by intro w_ hE_; (try dsimp only at hE_); first | (go_simp; done) | (go_simp; rfl)) ?_)
      (try simp only [Act.put, List.setIfInBounds_toArray, List.set_cons_zero, List.set_cons_succ])
      (refine mix_read (o := { dst := some 97, op := Op.move (Operand.tmp 14), type := 3, pos := "more.go:44", after := #[], guard := none }) rfl (by first | rfl | (simp [Region.wanted, yielded]; done)) (by intro w_ hE_; (try dsimp only at hE_); first | (go_simp; done) | (go_simp; rfl)) ?_)
      (try simp only [Act.put, List.setIfInBounds_toArray, List.set_cons_zero, List.set_cons_succ])
      (refine mix_read (o := { dst := some 98, op := Op.indexAddr 22 (Operand.tmp 96) (Operand.tmp 97), type := 0, pos := "more.go:44", after := #[{ on := 6, ground := Ground.data }, { on := 7, ground := Ground.data }], guard := none }) rfl (by first | rfl | (simp [Region.wanted, yielded]; done)) (by intro w_ hE_; (try dsimp only at hE_); first | (go_simp; done) | (go_simp; rfl)) ?_)
      (try simp only [Act.put, List.setIfInBounds_toArray, List.set_cons_zero, List.set_cons_succ])
      (refine mix_read (o := { dst := some 99, op := Op.load 3 (Operand.tmp 98), type := 3, pos := "more.go:44", after := #[{ on := 8, ground := Ground.data }], guard := none }) rfl (by first | rfl | (simp [Region.wanted, yielded]; done)) (by intro w_ hE_; (try dsimp only at hE_); have q1_ := hE_.1 HC1.out; have q2_ := hE_.2 HC2.out; (first | (go_simp; done) | (go_simp; rfl))) ?_)
      (try simp only [Act.put, List.setIfInBounds_toArray, List.set_cons_zero, List.set_cons_succ])
      (refine mix_read (o := { dst := some 100, op := Op.move (Operand.tmp 12), type := 38, pos := "more.go:44", after := #[], guard := none }) rfl (by first | rfl | (simp [Region.wanted, yielded]; done)) (by intro w_ hE_; (try dsimp only at hE_); first | (go_simp; done) | (go_simp; rfl)) ?_)
      (try simp only [Act.put, List.setIfInBounds_toArray, List.set_cons_zero, List.set_cons_succ])
      (refine mix_read (o := { dst := some 101, op := Op.call { callee := Callee.builtin Builtin.len, args := #[Operand.tmp 100], argTypes := #[38] }, type := 3, pos := "more.go:44", after := #[{ on := 10, ground := Ground.data }], guard := none }) rfl (by first | rfl | (simp [Region.wanted, yielded]; done)) (by intro w_ hE_; (try dsimp only at hE_); first | (go_simp; done) | (go_simp; rfl)) ?_)
      (try simp only [Act.put, List.setIfInBounds_toArray, List.set_cons_zero, List.set_cons_succ])
      (refine mix_read (o := { dst := some 102, op := Op.binOp BinOp.sub 3 (Operand.tmp 101) (Operand.const (Value.int IntKind.i64 1)) 3, type := 3, pos := "more.go:44", after := #[{ on := 11, ground := Ground.data }], guard := none }) rfl (by first | rfl | (simp [Region.wanted, yielded]; done)) (by intro w_ hE_; (try dsimp only at hE_); first | (go_simp; done) | (go_simp; rfl)) ?_)
      (try simp only [Act.put, List.setIfInBounds_toArray, List.set_cons_zero, List.set_cons_succ])
      (refine mix_read (o := { dst := some 103, op := Op.binOp BinOp.quo 3 (Operand.tmp 102) (Operand.const (Value.int IntKind.i64 64)) 3, type := 3, pos := "more.go:44", after := #[{ on := 12, ground := Ground.data }], guard := none }) rfl (by first | rfl | (simp [Region.wanted, yielded]; done)) (by intro w_ hE_; (try dsimp only at hE_); first | (go_simp; done) | (go_simp; rfl)) ?_)
      (try simp only [Act.put, List.setIfInBounds_toArray, List.set_cons_zero, List.set_cons_succ])
      (refine mix_read (o := { dst := some 104, op := Op.binOp BinOp.add 3 (Operand.const (Value.int IntKind.i64 1)) (Operand.tmp 103) 3, type := 3, pos := "more.go:44", after := #[{ on := 13, ground := Ground.data }], guard := none }) rfl (by first | rfl | (simp [Region.wanted, yielded]; done)) (by intro w_ hE_; (try dsimp only at hE_); first | (go_simp; done) | (go_simp; rfl)) ?_)
      (try simp only [Act.put, List.setIfInBounds_toArray, List.set_cons_zero, List.set_cons_succ])
      (refine mix_read (o := { dst := some 106, op := Op.move (Operand.tmp 2), type := 5, pos := "more.go:44", after := #[], guard := none }) rfl (by first | rfl | (simp [Region.wanted, yielded]; done)) (by intro w_ hE_; (try dsimp only at hE_); first | (go_simp; done) | (go_simp; rfl)) ?_)
      (try simp only [Act.put, List.setIfInBounds_toArray, List.set_cons_zero, List.set_cons_succ])
      (refine mix_read (o := { dst := some 107, op := Op.move (Operand.tmp 14), type := 3, pos := "more.go:44", after := #[], guard := none }) rfl (by first | rfl | (simp [Region.wanted, yielded]; done)) (by intro w_ hE_; (try dsimp only at hE_); first | (go_simp; done) | (go_simp; rfl)) ?_)
      (try simp only [Act.put, List.setIfInBounds_toArray, List.set_cons_zero, List.set_cons_succ])
      (refine mix_read (o := { dst := some 108, op := Op.convert 3 5 (Operand.tmp 107), type := 5, pos := "more.go:44", after := #[{ on := 17, ground := Ground.data }], guard := none }) rfl (by first | rfl | (simp [Region.wanted, yielded]; done)) (by intro w_ hE_; (try dsimp only at hE_); first | (go_simp; done) | (go_simp; rfl)) ?_)
      (try simp only [Act.put, List.setIfInBounds_toArray, List.set_cons_zero, List.set_cons_succ])
      (refine mix_read (o := { dst := some 109, op := Op.binOp BinOp.add 5 (Operand.tmp 106) (Operand.tmp 108) 5, type := 5, pos := "more.go:44", after := #[{ on := 16, ground := Ground.data }, { on := 18, ground := Ground.data }], guard := none }) rfl (by first | rfl | (simp [Region.wanted, yielded]; done)) (by intro w_ hE_; (try dsimp only at hE_); first | (go_simp; done) | (go_simp; rfl)) ?_)
      (try simp only [Act.put, List.setIfInBounds_toArray, List.set_cons_zero, List.set_cons_succ])
      refine mix_call (o := { dst := some 94, op := Op.call { callee := Callee.value (Operand.func 14), args := #[Operand.tmp 93], argTypes := #[32] }, type := 40, pos := "more.go:44", after := #[{ on := 3, ground := Ground.data }], guard := none }) rfl (by first | rfl | (simp [Region.wanted, yielded]; done)) (by first | (go_simp; done) | (go_simp; exact ⟨rfl, rfl⟩) | (go_simp; rfl)) ?_
      refine (HCA.out wd hhp_ hbw_).mono ?_
      rintro e_ w1 ⟨vf, rfl, hc1, hb1, hk1⟩
      have HC1a := Aside0.mk hc1
      have HC2a := Aside0.mk (cell_keep HX2.out hb1)
      have HK1 := Aside0.mk hk1
      refine ⟨vf, rfl, ⟨fun _ => HC1a.out, fun _ => HC2a.out⟩, ?_⟩
      clear hc1 hb1 hk1
      (try simp only [Act.put, List.setIfInBounds_toArray, List.set_cons_zero, List.set_cons_succ])
      refine mix_call (o := { dst := some 105, op := Op.call { callee := Callee.value (Operand.func 13), args := #[Operand.tmp 99, Operand.tmp 104], argTypes := #[3, 3] }, type := 3, pos := "more.go:44", after := #[{ on := 9, ground := Ground.data }, { on := 14, ground := Ground.data }, { on := 4, ground := Ground.chain }], guard := none }) rfl (by first | rfl | (simp [Region.wanted, yielded]; done)) (by first | (go_simp; done) | (go_simp; exact ⟨rfl, rfl⟩) | (go_simp; rfl)) ?_
      refine (HK1.out).mono ?_
      rintro e_ w2 ⟨vs, rfl, hc1, hb1, hk1⟩
      have HC1b := Aside0.mk hc1
      have HC2b := Aside0.mk (cell_keep HX2.out hb1)
      have HK2 := Aside0.mk hk1
      refine ⟨vs, rfl, ⟨fun _ => HC1b.out, fun _ => HC2b.out⟩, ?_⟩
      clear hc1 hb1 hk1
      (try simp only [Act.put, List.setIfInBounds_toArray, List.set_cons_zero, List.set_cons_succ])
      refine mix_call (o := { dst := some 110, op := Op.call { callee := Callee.value (Operand.func 16), args := #[Operand.tmp 94, Operand.tmp 95, Operand.tmp 105, Operand.tmp 109], argTypes := #[40, 9, 3, 5] }, type := 28, pos := "more.go:44", after := #[{ on := 4, ground := Ground.data }, { on := 5, ground := Ground.data }, { on := 15, ground := Ground.data }, { on := 19, ground := Ground.data }, { on := 15, ground := Ground.chain }], guard := none }) rfl (by first | rfl | (simp [Region.wanted, yielded]; done)) (by first | (go_simp; done) | (go_simp; exact ⟨rfl, rfl⟩) | (go_simp; rfl)) ?_
      refine (HK2.out _ (u8_lo _) (u8_hi _)).mono ?_
      rintro e_ w3 ⟨⟨v, rfl⟩, hc1, hb1, hk1⟩
      have HC1c := Aside0.mk hc1
      have HC2c := Aside0.mk (cell_keep HX2.out hb1)
      have HK3 := Aside0.mk hk1
      refine ⟨v, rfl, ⟨fun _ => HC1c.out, fun _ => HC2c.out⟩, ?_⟩
      clear hc1 hb1 hk1
      (try simp only [Act.put, List.setIfInBounds_toArray, List.set_cons_zero, List.set_cons_succ])
      refine mix_nil ?_
      go_wp2_with fail
      exact HK3.out _ (by simp)
    · go_wp2_with fail
      exact HEX.out _ (by simp) (by omega)
  · go_wp2_with fail
    exact HEX.out _ (by simp) (by omega)
theorem arr_eq (tm : Array Value) (h : tm.size = 179) : tm = #[tm.getD 0 undef, tm.getD 1 undef, tm.getD 2 undef, tm.getD 3 undef, tm.getD 4 undef, tm.getD 5 undef, tm.getD 6 undef, tm.getD 7 undef, tm.getD 8 undef, tm.getD 9 undef, tm.getD 10 undef, tm.getD 11 undef, tm.getD 12 undef, tm.getD 13 undef, tm.getD 14 undef, tm.getD 15 undef, tm.getD 16 undef, tm.getD 17 undef, tm.getD 18 undef, tm.getD 19 undef, tm.getD 20 undef, tm.getD 21 undef, tm.getD 22 undef, tm.getD 23 undef, tm.getD 24 undef, tm.getD 25 undef, tm.getD 26 undef, tm.getD 27 undef, tm.getD 28 undef, tm.getD 29 undef, tm.getD 30 undef, tm.getD 31 undef, tm.getD 32 undef, tm.getD 33 undef, tm.getD 34 undef, tm.getD 35 undef, tm.getD 36 undef, tm.getD 37 undef, tm.getD 38 undef, tm.getD 39 undef, tm.getD 40 undef, tm.getD 41 undef, tm.getD 42 undef, tm.getD 43 undef, tm.getD 44 undef, tm.getD 45 undef, tm.getD 46 undef, tm.getD 47 undef, tm.getD 48 undef, tm.getD 49 undef, tm.getD 50 undef, tm.getD 51 undef, tm.getD 52 undef, tm.getD 53 undef, tm.getD 54 undef, tm.getD 55 undef, tm.getD 56 undef, tm.getD 57 undef, tm.getD 58 undef, tm.getD 59 undef, tm.getD 60 undef, tm.getD 61 undef, tm.getD 62 undef, tm.getD 63 undef, tm.getD 64 undef, tm.getD 65 undef, tm.getD 66 undef, tm.getD 67 undef, tm.getD 68 undef, tm.getD 69 undef, tm.getD 70 undef, tm.getD 71 undef, tm.getD 72 undef, tm.getD 73 undef, tm.getD 74 undef, tm.getD 75 undef, tm.getD 76 undef, tm.getD 77 undef, tm.getD 78 undef, tm.getD 79 undef, tm.getD 80 undef, tm.getD 81 undef, tm.getD 82 undef, tm.getD 83 undef, tm.getD 84 undef, tm.getD 85 undef, tm.getD 86 undef, tm.getD 87 undef, tm.getD 88 undef, tm.getD 89 undef, tm.getD 90 undef, tm.getD 91 undef, tm.getD 92 undef, tm.getD 93 undef, tm.getD 94 undef, tm.getD 95 undef, tm.getD 96 undef, tm.getD 97 undef, tm.getD 98 undef, tm.getD 99 undef, tm.getD 100 undef, tm.getD 101 undef, tm.getD 102 undef, tm.getD 103 undef, tm.getD 104 undef, tm.getD 105 undef, tm.getD 106 undef, tm.getD 107 undef, tm.getD 108 undef, tm.getD 109 undef, tm.getD 110 undef, tm.getD 111 undef, tm.getD 112 undef, tm.getD 113 undef, tm.getD 114 undef, tm.getD 115 undef, tm.getD 116 undef, tm.getD 117 undef, tm.getD 118 undef, tm.getD 119 undef, tm.getD 120 undef, tm.getD 121 undef, tm.getD 122 undef, tm.getD 123 undef, tm.getD 124 undef, tm.getD 125 undef, tm.getD 126 undef, tm.getD 127 undef, tm.getD 128 undef, tm.getD 129 undef, tm.getD 130 undef, tm.getD 131 undef, tm.getD 132 undef, tm.getD 133 undef, tm.getD 134 undef, tm.getD 135 undef, tm.getD 136 undef, tm.getD 137 undef, tm.getD 138 undef, tm.getD 139 undef, tm.getD 140 undef, tm.getD 141 undef, tm.getD 142 undef, tm.getD 143 undef, tm.getD 144 undef, tm.getD 145 undef, tm.getD 146 undef, tm.getD 147 undef, tm.getD 148 undef, tm.getD 149 undef, tm.getD 150 undef, tm.getD 151 undef, tm.getD 152 undef, tm.getD 153 undef, tm.getD 154 undef, tm.getD 155 undef, tm.getD 156 undef, tm.getD 157 undef, tm.getD 158 undef, tm.getD 159 undef, tm.getD 160 undef, tm.getD 161 undef, tm.getD 162 undef, tm.getD 163 undef, tm.getD 164 undef, tm.getD 165 undef, tm.getD 166 undef, tm.getD 167 undef, tm.getD 168 undef, tm.getD 169 undef, tm.getD 170 undef, tm.getD 171 undef, tm.getD 172 undef, tm.getD 173 undef, tm.getD 174 undef, tm.getD 175 undef, tm.getD 176 undef, tm.getD 177 undef, tm.getD 178 undef] := by
  have e : tm = ((List.range 179).map fun i => tm.getD i undef).toArray := by
    apply Array.ext
    · simp [h]
    · intro i h1 h2
      simp [Array.getD, h1]
  exact e.trans rfl
theorem roundA (tm : Array Value) (hsz : tm.size = 179) (A : Option Addr) (L c i : Nat) (l : List Int) (tp ad12 : Addr) (vp : Value) (c12 : Nat) (xb : Int) (w0 w : World) (hx1 : tm.getD 1 undef = .slice A L c) (hx14 : tm.getD 14 undef = .int .i64 (i : Int)) (hx8 : tm.getD 8 undef = .pointer (some tp)) (hx2 : tm.getD 2 undef = .int .u8 xb) (hx12 : tm.getD 12 undef = .slice (some ad12) 161 c12)
    (hcp : w.cell? tp = some vp) (hR : (Kd.int .i64).C w0 A L l) (hlen : L = l.length) (hb : Below w0.heap.size w0 w) (hL : L ≤ 9223372036854775807) (Q : Exit → Act → World → Prop)
    (hexit : ∀ a' : Act, (a'.tmps.size = 179 ∧ a'.defers = [] ∧ a'.tmps.getD 1 undef = tm.getD 1 undef ∧ a'.tmps.getD 2 undef = tm.getD 2 undef ∧ a'.tmps.getD 8 undef = tm.getD 8 undef ∧ a'.tmps.getD 11 undef = tm.getD 11 undef ∧ a'.tmps.getD 12 undef = tm.getD 12 undef) → ¬ (i < L ∧ i < 4) → Q (.exit 2) a' w)
    (hcall : i < L → i < 4 → ∀ W : World, W.heap = w.heap → Below w.heap.size w W → Calls Tryz.prog 14 #[vp] W (fun e w1 => ∃ vf, e = .returned vf ∧ w1.cell? tp = some vp ∧ Below w0.heap.size w0 w1 ∧
      Calls Tryz.prog 13 #[.int .i64 (rd l (i : Int)), .int .i64 3] w1 (fun e w2 => ∃ vs, e = .returned vs ∧ w2.cell? tp = some vp ∧ Below w0.heap.size w0 w2 ∧
        ∀ z : Int, 0 ≤ z → z < 256 → Calls Tryz.prog 16 #[vf, tm.getD 11 undef, vs, .int .u8 z] w2 (fun e w3 => (∃ v, e = .returned v) ∧ w3.cell? tp = some vp ∧ Below w0.heap.size w0 w3 ∧ ∀ a' : Act, (a'.tmps.size = 179 ∧ a'.defers = [] ∧ a'.tmps.getD 1 undef = tm.getD 1 undef ∧ a'.tmps.getD 2 undef = tm.getD 2 undef ∧ a'.tmps.getD 8 undef = tm.getD 8 undef ∧ a'.tmps.getD 11 undef = tm.getD 11 undef ∧ a'.tmps.getD 12 undef = tm.getD 12 undef ∧ a'.tmps.getD 14 undef = .int .i64 ((i + 1 : Nat) : Int)) → Q .normal a' w3)))) :
    cLp.wp Tryz.prog Q ⟨tm, []⟩ w := by
  have ea : (⟨tm, []⟩ : Act) = ⟨#[tm.getD 0 undef, tm.getD 1 undef, tm.getD 2 undef, tm.getD 3 undef, tm.getD 4 undef, tm.getD 5 undef, tm.getD 6 undef, tm.getD 7 undef, tm.getD 8 undef, tm.getD 9 undef, tm.getD 10 undef, tm.getD 11 undef, tm.getD 12 undef, tm.getD 13 undef, tm.getD 14 undef, tm.getD 15 undef, tm.getD 16 undef, tm.getD 17 undef, tm.getD 18 undef, tm.getD 19 undef, tm.getD 20 undef, tm.getD 21 undef, tm.getD 22 undef, tm.getD 23 undef, tm.getD 24 undef, tm.getD 25 undef, tm.getD 26 undef, tm.getD 27 undef, tm.getD 28 undef, tm.getD 29 undef, tm.getD 30 undef, tm.getD 31 undef, tm.getD 32 undef, tm.getD 33 undef, tm.getD 34 undef, tm.getD 35 undef, tm.getD 36 undef, tm.getD 37 undef, tm.getD 38 undef, tm.getD 39 undef, tm.getD 40 undef, tm.getD 41 undef, tm.getD 42 undef, tm.getD 43 undef, tm.getD 44 undef, tm.getD 45 undef, tm.getD 46 undef, tm.getD 47 undef, tm.getD 48 undef, tm.getD 49 undef, tm.getD 50 undef, tm.getD 51 undef, tm.getD 52 undef, tm.getD 53 undef, tm.getD 54 undef, tm.getD 55 undef, tm.getD 56 undef, tm.getD 57 undef, tm.getD 58 undef, tm.getD 59 undef, tm.getD 60 undef, tm.getD 61 undef, tm.getD 62 undef, tm.getD 63 undef, tm.getD 64 undef, tm.getD 65 undef, tm.getD 66 undef, tm.getD 67 undef, tm.getD 68 undef, tm.getD 69 undef, tm.getD 70 undef, tm.getD 71 undef, tm.getD 72 undef, tm.getD 73 undef, tm.getD 74 undef, tm.getD 75 undef, tm.getD 76 undef, tm.getD 77 undef, tm.getD 78 undef, tm.getD 79 undef, tm.getD 80 undef, tm.getD 81 undef, tm.getD 82 undef, tm.getD 83 undef, tm.getD 84 undef, tm.getD 85 undef, tm.getD 86 undef, tm.getD 87 undef, tm.getD 88 undef, tm.getD 89 undef, tm.getD 90 undef, tm.getD 91 undef, tm.getD 92 undef, tm.getD 93 undef, tm.getD 94 undef, tm.getD 95 undef, tm.getD 96 undef, tm.getD 97 undef, tm.getD 98 undef, tm.getD 99 undef, tm.getD 100 undef, tm.getD 101 undef, tm.getD 102 undef, tm.getD 103 undef, tm.getD 104 undef, tm.getD 105 undef, tm.getD 106 undef, tm.getD 107 undef, tm.getD 108 undef, tm.getD 109 undef, tm.getD 110 undef, tm.getD 111 undef, tm.getD 112 undef, tm.getD 113 undef, tm.getD 114 undef, tm.getD 115 undef, tm.getD 116 undef, tm.getD 117 undef, tm.getD 118 undef, tm.getD 119 undef, tm.getD 120 undef, tm.getD 121 undef, tm.getD 122 undef, tm.getD 123 undef, tm.getD 124 undef, tm.getD 125 undef, tm.getD 126 undef, tm.getD 127 undef, tm.getD 128 undef, tm.getD 129 undef, tm.getD 130 undef, tm.getD 131 undef, tm.getD 132 undef, tm.getD 133 undef, tm.getD 134 undef, tm.getD 135 undef, tm.getD 136 undef, tm.getD 137 undef, tm.getD 138 undef, tm.getD 139 undef, tm.getD 140 undef, tm.getD 141 undef, tm.getD 142 undef, tm.getD 143 undef, tm.getD 144 undef, tm.getD 145 undef, tm.getD 146 undef, tm.getD 147 undef, tm.getD 148 undef, tm.getD 149 undef, tm.getD 150 undef, tm.getD 151 undef, tm.getD 152 undef, tm.getD 153 undef, tm.getD 154 undef, tm.getD 155 undef, tm.getD 156 undef, tm.getD 157 undef, tm.getD 158 undef, tm.getD 159 undef, tm.getD 160 undef, tm.getD 161 undef, tm.getD 162 undef, tm.getD 163 undef, tm.getD 164 undef, tm.getD 165 undef, tm.getD 166 undef, tm.getD 167 undef, tm.getD 168 undef, tm.getD 169 undef, tm.getD 170 undef, tm.getD 171 undef, tm.getD 172 undef, tm.getD 173 undef, tm.getD 174 undef, tm.getD 175 undef, tm.getD 176 undef, tm.getD 177 undef, tm.getD 178 undef], []⟩ := congrArg (fun q => (⟨q, []⟩ : Act)) (arr_eq tm hsz)
  rw [ea]
  exact roundR (tm.getD 0 undef) (tm.getD 1 undef) (tm.getD 2 undef) (tm.getD 3 undef) (tm.getD 4 undef) (tm.getD 5 undef) (tm.getD 6 undef) (tm.getD 7 undef) (tm.getD 8 undef) (tm.getD 9 undef) (tm.getD 10 undef) (tm.getD 11 undef) (tm.getD 12 undef) (tm.getD 13 undef) (tm.getD 14 undef) (tm.getD 15 undef) (tm.getD 16 undef) (tm.getD 17 undef) (tm.getD 18 undef) (tm.getD 19 undef) (tm.getD 20 undef) (tm.getD 21 undef) (tm.getD 22 undef) (tm.getD 23 undef) (tm.getD 24 undef) (tm.getD 25 undef) (tm.getD 26 undef) (tm.getD 27 undef) (tm.getD 28 undef) (tm.getD 29 undef) (tm.getD 30 undef) (tm.getD 31 undef) (tm.getD 32 undef) (tm.getD 33 undef) (tm.getD 34 undef) (tm.getD 35 undef) (tm.getD 36 undef) (tm.getD 37 undef) (tm.getD 38 undef) (tm.getD 39 undef) (tm.getD 40 undef) (tm.getD 41 undef) (tm.getD 42 undef) (tm.getD 43 undef) (tm.getD 44 undef) (tm.getD 45 undef) (tm.getD 46 undef) (tm.getD 47 undef) (tm.getD 48 undef) (tm.getD 49 undef) (tm.getD 50 undef) (tm.getD 51 undef) (tm.getD 52 undef) (tm.getD 53 undef) (tm.getD 54 undef) (tm.getD 55 undef) (tm.getD 56 undef) (tm.getD 57 undef) (tm.getD 58 undef) (tm.getD 59 undef) (tm.getD 60 undef) (tm.getD 61 undef) (tm.getD 62 undef) (tm.getD 63 undef) (tm.getD 64 undef) (tm.getD 65 undef) (tm.getD 66 undef) (tm.getD 67 undef) (tm.getD 68 undef) (tm.getD 69 undef) (tm.getD 70 undef) (tm.getD 71 undef) (tm.getD 72 undef) (tm.getD 73 undef) (tm.getD 74 undef) (tm.getD 75 undef) (tm.getD 76 undef) (tm.getD 77 undef) (tm.getD 78 undef) (tm.getD 79 undef) (tm.getD 80 undef) (tm.getD 81 undef) (tm.getD 82 undef) (tm.getD 83 undef) (tm.getD 84 undef) (tm.getD 85 undef) (tm.getD 86 undef) (tm.getD 87 undef) (tm.getD 88 undef) (tm.getD 89 undef) (tm.getD 90 undef) (tm.getD 91 undef) (tm.getD 92 undef) (tm.getD 93 undef) (tm.getD 94 undef) (tm.getD 95 undef) (tm.getD 96 undef) (tm.getD 97 undef) (tm.getD 98 undef) (tm.getD 99 undef) (tm.getD 100 undef) (tm.getD 101 undef) (tm.getD 102 undef) (tm.getD 103 undef) (tm.getD 104 undef) (tm.getD 105 undef) (tm.getD 106 undef) (tm.getD 107 undef) (tm.getD 108 undef) (tm.getD 109 undef) (tm.getD 110 undef) (tm.getD 111 undef) (tm.getD 112 undef) (tm.getD 113 undef) (tm.getD 114 undef) (tm.getD 115 undef) (tm.getD 116 undef) (tm.getD 117 undef) (tm.getD 118 undef) (tm.getD 119 undef) (tm.getD 120 undef) (tm.getD 121 undef) (tm.getD 122 undef) (tm.getD 123 undef) (tm.getD 124 undef) (tm.getD 125 undef) (tm.getD 126 undef) (tm.getD 127 undef) (tm.getD 128 undef) (tm.getD 129 undef) (tm.getD 130 undef) (tm.getD 131 undef) (tm.getD 132 undef) (tm.getD 133 undef) (tm.getD 134 undef) (tm.getD 135 undef) (tm.getD 136 undef) (tm.getD 137 undef) (tm.getD 138 undef) (tm.getD 139 undef) (tm.getD 140 undef) (tm.getD 141 undef) (tm.getD 142 undef) (tm.getD 143 undef) (tm.getD 144 undef) (tm.getD 145 undef) (tm.getD 146 undef) (tm.getD 147 undef) (tm.getD 148 undef) (tm.getD 149 undef) (tm.getD 150 undef) (tm.getD 151 undef) (tm.getD 152 undef) (tm.getD 153 undef) (tm.getD 154 undef) (tm.getD 155 undef) (tm.getD 156 undef) (tm.getD 157 undef) (tm.getD 158 undef) (tm.getD 159 undef) (tm.getD 160 undef) (tm.getD 161 undef) (tm.getD 162 undef) (tm.getD 163 undef) (tm.getD 164 undef) (tm.getD 165 undef) (tm.getD 166 undef) (tm.getD 167 undef) (tm.getD 168 undef) (tm.getD 169 undef) (tm.getD 170 undef) (tm.getD 171 undef) (tm.getD 172 undef) (tm.getD 173 undef) (tm.getD 174 undef) (tm.getD 175 undef) (tm.getD 176 undef) (tm.getD 177 undef) (tm.getD 178 undef) A L c i l tp ad12 vp c12 xb w0 w hx1 hx14 hx8 hx2 hx12 hcp hR hlen hb hL Q hexit hcall

end Go.Proofs.YtlpffldeogapmaaGreatDoor.Rr
