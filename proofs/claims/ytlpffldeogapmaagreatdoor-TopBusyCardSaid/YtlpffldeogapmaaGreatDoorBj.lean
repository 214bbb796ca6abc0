/- TopBusy: of two works at once the second is told to be busy. What the evaluator asks of the law, and the law out of it. No condition. -/
import Derived.Test.YtlpffldeogapmaaGreatDoorProg
import Derived.Below
import Derived.Deep.Draws
import Derived.Deep.AppendLies
import Derived.Maps.AppendAt
import Derived.OwnWalk
import Derived.Laws.BytesArg
import Derived.Laws.MakeOwn
import Derived.Laws.OwnMore
import Derived.Deep.OwnRows
import Derived.Tactics
import Derived.Lib.ConvBytes
import Derived.Laws.Slices
import Derived.WalkKit
import Derived.KernelRfl
import Derived.RowKit3
import Derived.Deep.LoopGhost
import Derived.Deep.QuietTactic
import Derived.BigQuiet
import Derived.WideLaws
import Derived.Deep.DeepCutAuto
import Derived.Deep.CutBlock
import Derived.Deep.RegionHeld3
import Derived.Laws.Rows
import Derived.Lib.AppendStr
import Derived.ArgAppend
import Derived.Laws.IdiomCopy
import Derived.OrdersHeld
import Derived.Laws.BitsLemmas
import Derived.RowKit
import Derived.WalkSpells
import Derived.Outline
import Derived.Test.YtlpffldeogapmaaGreatDoorWWords
import Derived.Test.YtlpffldeogapmaaGreatDoorWLast
import Derived.Test.YtlpffldeogapmaaGreatDoorWMore
import Derived.Test.YtlpffldeogapmaaGreatDoorWArr
import Derived.Test.YtlpffldeogapmaaGreatDoorWTab
import Derived.Test.YtlpffldeogapmaaGreatDoorWZeros
import Derived.Test.YtlpffldeogapmaaGreatDoorWRepsOne
import Derived.Test.YtlpffldeogapmaaGreatDoorBt
import Derived.Test.YtlpffldeogapmaaGreatDoorBh
namespace Go.Proofs.YtlpffldeogapmaaGreatDoor.Bj
open Go.RowKit Go.Proofs.YtlpffldeogapmaaGreatDoorW.PrintWords Go.Proofs.YtlpffldeogapmaaGreatDoorW.PrintLast Go.Proofs.YtlpffldeogapmaaGreatDoorW.PrintMore Go.Proofs.YtlpffldeogapmaaGreatDoor.Ev Go.Proofs.YtlpffldeogapmaaGreatDoor.EvZ Go.Proofs.YtlpffldeogapmaaGreatDoor.EuC Go.Proofs.YtlpffldeogapmaaGreatDoor.EuE Go.Proofs.YtlpffldeogapmaaGreatDoor.Sm Go.Proofs.YtlpffldeogapmaaGreatDoor.Me Go.Proofs.YtlpffldeogapmaaGreatDoor.Ba Go.Proofs.YtlpffldeogapmaaGreatDoor.Bt Go.Proofs.YtlpffldeogapmaaGreatDoor.EuF Go.Proofs.YtlpffldeogapmaaGreatDoor.EuG Go.Proofs.YtlpffldeogapmaaGreatDoor.Bh
set_option linter.unusedSimpArgs false
set_option linter.unusedVariables false
attribute [local go_sem] max2_int min2_int max_two min_two

open Go.MapKept
set_option maxRecDepth 1000000
set_option maxHeartbeats 4000000
noncomputable section
def sm : Sums := fun g => ([(13, smallS), (197, usedS), (17, sumS), (44, (sortFFN [58])), (286, (sortFF [300, 373] keyI)), (379, encT)] : List (Nat × FF)).lookup g
theorem sums : SumsOk Tryz.prog sm := fun g x h => by
  unfold sm at h
  simp only [List.lookup] at h
  split at h
  · rename_i q
    cases h; rw [eq_of_beq q]; exact small_ok
  · split at h
    · rename_i q
      cases h; rw [eq_of_beq q]; exact used_ok
    · split at h
      · rename_i q
        cases h; rw [eq_of_beq q]; exact sum_ok
      · split at h
        · rename_i q
          cases h; rw [eq_of_beq q]; exact sortSN_ok
        · split at h
          · rename_i q
            cases h; rw [eq_of_beq q]; exact sortI_ok
          · split at h
            · rename_i q
              cases h; rw [eq_of_beq q]; exact enc_ok
            · cases h


abbrev CHx : CH := run Tryz.prog pls sm 200
theorem chx_ok : CHok Tryz.prog CHx := runs sums 200
def h0 : H := .mk (dflt .no 5) 0
def KR : KT := fun t h => (resOf Tryz.prog Tryz.f5.results.toList).run t h (onB (fun b => b))
def fin (cH : CH) (t : T) (h : H) : R := (compC Tryz.prog (pls 5) cS).run cH (fun _ _ _ => false) KR t h KR
def nodeB (cH : CH) (b o : Nat) (t : T) (n : Nat) : H → R := Nat.rec (motive := fun _ => H → R) (fun _ => false) (fun _ ih h => gd (fin cH t h) (cH 22 [.p b o, .ui .i64] h (fun _ h' => Bool.rec (motive := fun _ => R) (ih h') true (heq h h')))) n
/-- Some picks of which it is known what they pick of two; then: the end alone, or all there may be. -/
def endQ (cH : CH) (b o : Nat) (t : T) (stop : Bool) (h : H) : R := Bool.rec (motive := fun _ => R) (nodeB cH b o t 20 h) (fin cH t h) stop
def goP (cH : CH) (b o : Nat) (t : T) (stop : Bool) (path : List Nat) : H → R := List.rec (motive := fun _ => H → R) (endQ cH b o t stop) (fun j _ ih h => cH 22 [.p b o, .sm j 2] h (fun _ h' => ih h')) path
def slimT (b o : Nat) (y1 y2 : AV) : T := put 3 11 y2 (put 3 10 y1 (put 3 8 (.p b o) T0))
def slim (b o : Nat) (y1 y2 : AV) (f : T → R) : R := (pcc AV 3 8).run (.p b o) (fun t => (pcc AV 3 10).run y1 (fun t => (pcc AV 3 11).run y2 f t) t) T0
def headK (cH : CH) (path : List Nat) (stop : Bool) (t : T) (h : H) : R :=
  (acc AV 3 12).run (onI (fun k n => keq k .i64 (gd (Nat.beq n 0) ((acc AV 3 8).run (onP (fun b o => (acc AV 3 10).run (fun y1 => (acc AV 3 11).run (fun y2 => slim b o y1 y2 (fun t' => goP cH b o t' stop path h)) t) t)) t)))) t
theorem headK_true {cH : CH} {path : List Nat} {stop : Bool} {t : T} {h : H} (e : headK cH path stop t h = true) : ∃ b o y1 y2, get 3 12 t = .i .i64 0 ∧ get 3 8 t = .p b o ∧ get 3 10 t = y1 ∧ get 3 11 t = y2 ∧ goP cH b o (slimT b o y1 y2) stop path h = true := by
  obtain ⟨_, e⟩ := acc_run e
  obtain ⟨k, n, h9, e2⟩ := onI_true e
  obtain ⟨hk, e3⟩ := keq_true (show keq k .i64 (gd (Nat.beq n 0) _) = true from e2)
  obtain ⟨hn, e4⟩ := gd_true e3
  have hn0 : n = 0 := Nat.eq_of_beq_eq_true hn
  rw [hk, hn0] at h9
  obtain ⟨_, e5⟩ := acc_run e4
  obtain ⟨b, o, h6, e6⟩ := onP_true e5
  obtain ⟨_, e7⟩ := acc_run e6
  obtain ⟨_, e8⟩ := acc_run e7
  obtain ⟨_, e9⟩ := pcc_run (show (pcc AV 3 8).run (.p b o) (fun t' => (pcc AV 3 10).run (get 3 10 t) (fun t' => (pcc AV 3 11).run (get 3 11 t) (fun t' => goP cH b o t' stop path h) t') t') T0 = true from e8)
  obtain ⟨_, e10⟩ := pcc_run e9
  obtain ⟨_, e11⟩ := pcc_run e10
  exact ⟨b, o, _, _, h9, h6, rfl, rfl, e11⟩
def prefixRun (cH : CH) (j : Nat) (path : List Nat) (stop : Bool) : R :=
  argsT [.sm j 4, .rg .i64 0 0, .un] 0 T0 (fun t => (preC Tryz.prog (pls 5) 8 cB).run cH (fun _ _ _ => false) (fun _ _ => false) t h0 (fun t h => (compC Tryz.prog (pls 5) cI).run cH (fun _ _ _ => false) (fun _ _ => false) t h (headK cH path stop)))
theorem ok_cB : codeOk Tryz.prog (pls 5) 98 cB = true := all_ok 5 Tryz.f5 cB Tryz.func5 cB_eq
theorem ok_cT : codeOk Tryz.prog (pls 5) 98 (.seq (.seq cI (.block 2 (.loop cLp))) cS) = true := by
  rw [← cT_eq]; exact tail_ok 8 cB ok_cB
theorem ok_cI : codeOk Tryz.prog (pls 5) 98 cI = true := by
  have := ok_cT
  simp only [codeOk, Bool.and_eq_true] at this
  exact this.1.1
theorem ok_cS : codeOk Tryz.prog (pls 5) 98 cS = true := by
  have := ok_cT
  simp only [codeOk, Bool.and_eq_true] at this
  exact this.2
def ρ0 : Ren := fun _ => none
theorem hr0 (w : World) : HR ρ0 h0 w := ⟨fun _ _ h => (by cases h), fun _ _ h => (by cases h), fun _ _ _ _ h => (by cases h), fun b _ => (by
  show H.at (.mk (dflt .no 5) 0) b = .no
  unfold H.at
  split
  · exact get_dflt _ _ _
  · rfl)⟩
theorem ext0_below {h : H} {ρ : Ren} {w w' : World} (e : Ext ρ0 h0 w ρ h w') : Below w.heap.size w w' :=
  ⟨e.below.os, e.below.tape, e.below.output, e.below.size, fun B hB => e.keep B hB (fun ⟨b, l, h1, _⟩ => by cases h1)⟩
theorem slR3 {ρ : Ren} {b o : Nat} {y1 y2 : AV} {a : Act} (hsz : a.tmps.size = 98) (h6 : VR ρ (.p b o) (a.tmps.getD 8 undef)) (h7 : VR ρ y1 (a.tmps.getD 10 undef)) (h8 : VR ρ y2 (a.tmps.getD 11 undef)) : SlR 98 ρ (slimT b o y1 y2) a := by
  refine ⟨hsz, fun n hn => ?_⟩
  unfold slimT
  rw [get_put 3 11 n _ _ (by decide) hn, get_put 3 10 n _ _ (by decide) hn, get_put 3 8 n _ _ (by decide) hn]
  by_cases e8 : n = 11
  · rw [if_pos e8, e8]; exact h8
  · rw [if_neg e8]
    by_cases e7 : n = 10
    · rw [if_pos e7, e7]; exact h7
    · rw [if_neg e7]
      by_cases e6 : n = 8
      · rw [if_pos e6, e6]; exact h6
      · rw [if_neg e6, T0, get_dflt]; simp only [VR]
/-- What holds at the loop's head. -/
def Fact (b o : Nat) (t : T) (path : List Nat) (stop : Bool) (i : Nat) (h : H) : Prop :=
  (i < path.length ∧ goP CHx b o t stop (path.drop i) h = true) ∨ (i = path.length ∧ stop = true ∧ fin CHx t h = true) ∨ (path.length ≤ i ∧ stop = false ∧ ∃ n, nodeB CHx b o t n h = true)
theorem fact_of {b o : Nat} {t : T} {path : List Nat} {stop : Bool} {i : Nat} {h : H} (hi : i ≤ path.length) (e : goP CHx b o t stop (path.drop i) h = true) : Fact b o t path stop i h := by
  rcases Nat.lt_or_ge i path.length with h1 | h1
  · exact .inl ⟨h1, e⟩
  · have h2 : i = path.length := by omega
    rw [List.drop_eq_nil_of_le h1] at e
    cases stop with
    | true => exact .inr (.inl ⟨h2, rfl, e⟩)
    | false => exact .inr (.inr ⟨h1, rfl, 20, (show nodeB CHx b o t 20 h = true from e)⟩)
def Inv3 (path : List Nat) (stop : Bool) (w : World) (A : Option Addr) (l : List Int) (c b o : Nat) (y1 y2 : AV) (a : Act) (w2 : World) : Prop :=
  ∃ (i : Nat) (h2 : H) (ρ2 : Ren), i ≤ 50 ∧ a.tmps.size = 98 ∧ a.defers = [] ∧ a.tmps.getD 2 undef = .slice A l.length c ∧ a.tmps.getD 12 undef = .int .i64 (i : Int) ∧ VR ρ2 (.p b o) (a.tmps.getD 8 undef) ∧ VR ρ2 y1 (a.tmps.getD 10 undef) ∧ VR ρ2 y2 (a.tmps.getD 11 undef) ∧
    HR ρ2 h2 w2 ∧ Ext ρ0 h0 w ρ2 h2 w2 ∧ Fact b o (slimT b o y1 y2) path stop i h2
def mu (a : Act) (_ : World) : Nat := match a.tmps.getD 12 undef with | .int _ n => (100 - n).toNat | _ => 0
theorem mu_of {a : Act} {w : World} {i : Nat} (h : a.tmps.getD 12 undef = .int .i64 (i : Int)) : mu a w = (100 - (i : Int)).toNat := by
  unfold mu; rw [h]
theorem wrap_rd {l : List Int} (h : ∀ n ∈ l, (Lit.int .i64 n).wf = true) {i : Int} : IntKind.i64.wrap (rd l i) = rd l i := by
  have hr : rd l i = 0 ∨ rd l i ∈ l := by
    unfold rd
    rw [List.getD_eq_getElem?_getD]
    cases hq : l[i.toNat]? with
    | none => exact .inl rfl
    | some x => exact .inr (List.mem_of_getElem? hq)
  rcases hr with hr | hr
  · rw [hr, IntKind.wrap_i64]; omega
  · have := h _ hr
    simp [Lit.wf, IntKind.min, IntKind.max, IntKind.bits, IntKind.signed] at this
    rw [IntKind.wrap_i64]; omega

theorem VRs_start (A : Option Addr) (L c : Nat) (za zb : Int) (ha : -9223372036854775808 ≤ za ∧ za < 9223372036854775808) (hb : -9223372036854775808 ≤ zb ∧ zb < 9223372036854775808) (j : Nat) (hj : (za.tmod 4).natAbs = j) : VRs ρ0 [.sm j 4, .rg .i64 0 0, .un] (#[Value.int .i64 za, .int .i64 zb, .slice A L c]).toList := by
  have wa : IntKind.i64.wrap za = za := by rw [IntKind.wrap_i64]; omega
  have wb : IntKind.i64.wrap zb = zb := by rw [IntKind.wrap_i64]; omega
  simp only [VRs, VR]
  exact ⟨_, _, rfl, ⟨za, by rw [wa], by rw [wa]; exact hj⟩, _, _, rfl, ⟨zb, by rw [wb], .inl trivial⟩, _, _, rfl, trivial, rfl⟩
theorem cons_of {n : Nat} : ∀ {l : List Value}, l.length = n + 1 → ∃ x t, l = x :: t ∧ t.length = n
  | x :: t, h => ⟨x, t, rfl, by simpa using h⟩
theorem arr_lit (xs : Array Value) (h : xs.size = 98) : ∃ x0 x1 x2 x3 x4 x5 x6 x7 x8 x9 x10 x11 x12 x13 x14 x15 x16 x17 x18 x19 x20 x21 x22 x23 x24 x25 x26 x27 x28 x29 x30 x31 x32 x33 x34 x35 x36 x37 x38 x39 x40 x41 x42 x43 x44 x45 x46 x47 x48 x49 x50 x51 x52 x53 x54 x55 x56 x57 x58 x59 x60 x61 x62 x63 x64 x65 x66 x67 x68 x69 x70 x71 x72 x73 x74 x75 x76 x77 x78 x79 x80 x81 x82 x83 x84 x85 x86 x87 x88 x89 x90 x91 x92 x93 x94 x95 x96 x97 : Value, xs = #[x0, x1, x2, x3, x4, x5, x6, x7, x8, x9, x10, x11, x12, x13, x14, x15, x16, x17, x18, x19, x20, x21, x22, x23, x24, x25, x26, x27, x28, x29, x30, x31, x32, x33, x34, x35, x36, x37, x38, x39, x40, x41, x42, x43, x44, x45, x46, x47, x48, x49, x50, x51, x52, x53, x54, x55, x56, x57, x58, x59, x60, x61, x62, x63, x64, x65, x66, x67, x68, x69, x70, x71, x72, x73, x74, x75, x76, x77, x78, x79, x80, x81, x82, x83, x84, x85, x86, x87, x88, x89, x90, x91, x92, x93, x94, x95, x96, x97] := by
  obtain ⟨l0⟩ := xs
  have g0 : l0.length = 98 := h
  clear h
  obtain ⟨x0, l1, e0, g1⟩ := cons_of g0
  obtain ⟨x1, l2, e1, g2⟩ := cons_of g1
  obtain ⟨x2, l3, e2, g3⟩ := cons_of g2
  obtain ⟨x3, l4, e3, g4⟩ := cons_of g3
  obtain ⟨x4, l5, e4, g5⟩ := cons_of g4
  obtain ⟨x5, l6, e5, g6⟩ := cons_of g5
  obtain ⟨x6, l7, e6, g7⟩ := cons_of g6
  obtain ⟨x7, l8, e7, g8⟩ := cons_of g7
  obtain ⟨x8, l9, e8, g9⟩ := cons_of g8
  obtain ⟨x9, l10, e9, g10⟩ := cons_of g9
  obtain ⟨x10, l11, e10, g11⟩ := cons_of g10
  obtain ⟨x11, l12, e11, g12⟩ := cons_of g11
  obtain ⟨x12, l13, e12, g13⟩ := cons_of g12
  obtain ⟨x13, l14, e13, g14⟩ := cons_of g13
  obtain ⟨x14, l15, e14, g15⟩ := cons_of g14
  obtain ⟨x15, l16, e15, g16⟩ := cons_of g15
  obtain ⟨x16, l17, e16, g17⟩ := cons_of g16
  obtain ⟨x17, l18, e17, g18⟩ := cons_of g17
  obtain ⟨x18, l19, e18, g19⟩ := cons_of g18
  obtain ⟨x19, l20, e19, g20⟩ := cons_of g19
  obtain ⟨x20, l21, e20, g21⟩ := cons_of g20
  obtain ⟨x21, l22, e21, g22⟩ := cons_of g21
  obtain ⟨x22, l23, e22, g23⟩ := cons_of g22
  obtain ⟨x23, l24, e23, g24⟩ := cons_of g23
  obtain ⟨x24, l25, e24, g25⟩ := cons_of g24
  obtain ⟨x25, l26, e25, g26⟩ := cons_of g25
  obtain ⟨x26, l27, e26, g27⟩ := cons_of g26
  obtain ⟨x27, l28, e27, g28⟩ := cons_of g27
  obtain ⟨x28, l29, e28, g29⟩ := cons_of g28
  obtain ⟨x29, l30, e29, g30⟩ := cons_of g29
  obtain ⟨x30, l31, e30, g31⟩ := cons_of g30
  obtain ⟨x31, l32, e31, g32⟩ := cons_of g31
  obtain ⟨x32, l33, e32, g33⟩ := cons_of g32
  obtain ⟨x33, l34, e33, g34⟩ := cons_of g33
  obtain ⟨x34, l35, e34, g35⟩ := cons_of g34
  obtain ⟨x35, l36, e35, g36⟩ := cons_of g35
  obtain ⟨x36, l37, e36, g37⟩ := cons_of g36
  obtain ⟨x37, l38, e37, g38⟩ := cons_of g37
  obtain ⟨x38, l39, e38, g39⟩ := cons_of g38
  obtain ⟨x39, l40, e39, g40⟩ := cons_of g39
  obtain ⟨x40, l41, e40, g41⟩ := cons_of g40
  obtain ⟨x41, l42, e41, g42⟩ := cons_of g41
  obtain ⟨x42, l43, e42, g43⟩ := cons_of g42
  obtain ⟨x43, l44, e43, g44⟩ := cons_of g43
  obtain ⟨x44, l45, e44, g45⟩ := cons_of g44
  obtain ⟨x45, l46, e45, g46⟩ := cons_of g45
  obtain ⟨x46, l47, e46, g47⟩ := cons_of g46
  obtain ⟨x47, l48, e47, g48⟩ := cons_of g47
  obtain ⟨x48, l49, e48, g49⟩ := cons_of g48
  obtain ⟨x49, l50, e49, g50⟩ := cons_of g49
  obtain ⟨x50, l51, e50, g51⟩ := cons_of g50
  obtain ⟨x51, l52, e51, g52⟩ := cons_of g51
  obtain ⟨x52, l53, e52, g53⟩ := cons_of g52
  obtain ⟨x53, l54, e53, g54⟩ := cons_of g53
  obtain ⟨x54, l55, e54, g55⟩ := cons_of g54
  obtain ⟨x55, l56, e55, g56⟩ := cons_of g55
  obtain ⟨x56, l57, e56, g57⟩ := cons_of g56
  obtain ⟨x57, l58, e57, g58⟩ := cons_of g57
  obtain ⟨x58, l59, e58, g59⟩ := cons_of g58
  obtain ⟨x59, l60, e59, g60⟩ := cons_of g59
  obtain ⟨x60, l61, e60, g61⟩ := cons_of g60
  obtain ⟨x61, l62, e61, g62⟩ := cons_of g61
  obtain ⟨x62, l63, e62, g63⟩ := cons_of g62
  obtain ⟨x63, l64, e63, g64⟩ := cons_of g63
  obtain ⟨x64, l65, e64, g65⟩ := cons_of g64
  obtain ⟨x65, l66, e65, g66⟩ := cons_of g65
  obtain ⟨x66, l67, e66, g67⟩ := cons_of g66
  obtain ⟨x67, l68, e67, g68⟩ := cons_of g67
  obtain ⟨x68, l69, e68, g69⟩ := cons_of g68
  obtain ⟨x69, l70, e69, g70⟩ := cons_of g69
  obtain ⟨x70, l71, e70, g71⟩ := cons_of g70
  obtain ⟨x71, l72, e71, g72⟩ := cons_of g71
  obtain ⟨x72, l73, e72, g73⟩ := cons_of g72
  obtain ⟨x73, l74, e73, g74⟩ := cons_of g73
  obtain ⟨x74, l75, e74, g75⟩ := cons_of g74
  obtain ⟨x75, l76, e75, g76⟩ := cons_of g75
  obtain ⟨x76, l77, e76, g77⟩ := cons_of g76
  obtain ⟨x77, l78, e77, g78⟩ := cons_of g77
  obtain ⟨x78, l79, e78, g79⟩ := cons_of g78
  obtain ⟨x79, l80, e79, g80⟩ := cons_of g79
  obtain ⟨x80, l81, e80, g81⟩ := cons_of g80
  obtain ⟨x81, l82, e81, g82⟩ := cons_of g81
  obtain ⟨x82, l83, e82, g83⟩ := cons_of g82
  obtain ⟨x83, l84, e83, g84⟩ := cons_of g83
  obtain ⟨x84, l85, e84, g85⟩ := cons_of g84
  obtain ⟨x85, l86, e85, g86⟩ := cons_of g85
  obtain ⟨x86, l87, e86, g87⟩ := cons_of g86
  obtain ⟨x87, l88, e87, g88⟩ := cons_of g87
  obtain ⟨x88, l89, e88, g89⟩ := cons_of g88
  obtain ⟨x89, l90, e89, g90⟩ := cons_of g89
  obtain ⟨x90, l91, e90, g91⟩ := cons_of g90
  obtain ⟨x91, l92, e91, g92⟩ := cons_of g91
  obtain ⟨x92, l93, e92, g93⟩ := cons_of g92
  obtain ⟨x93, l94, e93, g94⟩ := cons_of g93
  obtain ⟨x94, l95, e94, g95⟩ := cons_of g94
  obtain ⟨x95, l96, e95, g96⟩ := cons_of g95
  obtain ⟨x96, l97, e96, g97⟩ := cons_of g96
  obtain ⟨x97, l98, e97, g98⟩ := cons_of g97
  have e98 := List.eq_nil_of_length_eq_zero g98
  subst e98
  subst e97
  subst e96
  subst e95
  subst e94
  subst e93
  subst e92
  subst e91
  subst e90
  subst e89
  subst e88
  subst e87
  subst e86
  subst e85
  subst e84
  subst e83
  subst e82
  subst e81
  subst e80
  subst e79
  subst e78
  subst e77
  subst e76
  subst e75
  subst e74
  subst e73
  subst e72
  subst e71
  subst e70
  subst e69
  subst e68
  subst e67
  subst e66
  subst e65
  subst e64
  subst e63
  subst e62
  subst e61
  subst e60
  subst e59
  subst e58
  subst e57
  subst e56
  subst e55
  subst e54
  subst e53
  subst e52
  subst e51
  subst e50
  subst e49
  subst e48
  subst e47
  subst e46
  subst e45
  subst e44
  subst e43
  subst e42
  subst e41
  subst e40
  subst e39
  subst e38
  subst e37
  subst e36
  subst e35
  subst e34
  subst e33
  subst e32
  subst e31
  subst e30
  subst e29
  subst e28
  subst e27
  subst e26
  subst e25
  subst e24
  subst e23
  subst e22
  subst e21
  subst e20
  subst e19
  subst e18
  subst e17
  subst e16
  subst e15
  subst e14
  subst e13
  subst e12
  subst e11
  subst e10
  subst e9
  subst e8
  subst e7
  subst e6
  subst e5
  subst e4
  subst e3
  subst e2
  subst e1
  subst e0
  exact ⟨x0, x1, x2, x3, x4, x5, x6, x7, x8, x9, x10, x11, x12, x13, x14, x15, x16, x17, x18, x19, x20, x21, x22, x23, x24, x25, x26, x27, x28, x29, x30, x31, x32, x33, x34, x35, x36, x37, x38, x39, x40, x41, x42, x43, x44, x45, x46, x47, x48, x49, x50, x51, x52, x53, x54, x55, x56, x57, x58, x59, x60, x61, x62, x63, x64, x65, x66, x67, x68, x69, x70, x71, x72, x73, x74, x75, x76, x77, x78, x79, x80, x81, x82, x83, x84, x85, x86, x87, x88, x89, x90, x91, x92, x93, x94, x95, x96, x97, rfl⟩


theorem race (za zb : Int) (hza : -9223372036854775808 ≤ za ∧ za < 9223372036854775808) (hzb : -9223372036854775808 ≤ zb ∧ zb < 9223372036854775808) (j : Nat) (hj : (za.tmod 4).natAbs = j) (path : List Nat) (stop : Bool) (hrun : prefixRun CHx j path stop = true) (A : Option Addr) (c : Nat) (l : List Int) (w : World) (hR : (Kd.int .i64).C w A l.length l) (hL : l.length ≤ 9223372036854775807) (hwf : ∀ n ∈ l, (Lit.int .i64 n).wf = true) (hpl : path.length ≤ l.length) (hpc : path.length ≤ 50) (hps : stop = true → l.length = path.length) (hpj : ∀ (k j : Nat), path[k]? = some j → ((rd l (k : Int)).tmod 2).natAbs = j) :
    Calls Tryz.prog 5 #[Value.int .i64 za, Value.int .i64 zb, Value.slice A l.length c] w fun e w' => e = .returned (.bool true) ∧ Below w.heap.size w w' := by
  refine calls_of_wp Tryz.func5 cB_eq ?_
  rw [Tryz.ntmps5]
  obtain ⟨t, e1, ht⟩ := argsT_run hrun
  have hs : St 98 ρ0 t h0 { tmps := #[Value.int .i64 za, Value.int .i64 zb, Value.slice A l.length c] ++ Array.replicate (98 - #[Value.int .i64 za, Value.int .i64 zb, Value.slice A l.length c].size) undef, defers := [] } w := ⟨SlR.enter (VRs_start A l.length c za zb hza hzb j hj) ht _, hr0 w, rfl⟩
  have hxs : ({ tmps := #[Value.int .i64 za, Value.int .i64 zb, Value.slice A l.length c] ++ Array.replicate (98 - #[Value.int .i64 za, Value.int .i64 zb, Value.slice A l.length c].size) undef, defers := [] } : Act).tmps.getD 2 undef = .slice A l.length c := by simp
  generalize ({ tmps := #[Value.int .i64 za, Value.int .i64 zb, Value.slice A l.length c] ++ Array.replicate (98 - #[Value.int .i64 za, Value.int .i64 zb, Value.slice A l.length c].size) undef, defers := [] } : Act) = a0 at hs hxs
  show cB.wp Tryz.prog _ a0 w
  refine pre_ok (P := Tryz.prog) (E := fun _ _ _ => false) (Z := fun _ _ => false) (K := fun t h => (compC Tryz.prog (pls 5) cI).run CHx (fun _ _ _ => false) (fun _ _ => false) t h (headK CHx path stop)) mixed_ok clone_ok (pls 5) (M := 98) (N := 98) (Nat.le_refl _) 2 (.slice A l.length c) _ chx_ok 8 cB ok_cB keep_run t h0 e1 ρ0 a0 w hs hxs ?_ (fun _ _ _ ⟨_, _, _, _, _, q⟩ => (Bool.false_ne_true q).elim) (fun _ _ ⟨_, _, _, _, _, q⟩ => (Bool.false_ne_true q).elim)
  intro t' h' ρ' a' w' s' hx' hE hK
  rw [show tailC 8 cB = .seq (.seq cI (.block 2 (.loop cLp))) cS from cT_eq]
  refine wp_seq (wp_seq (wp_mono (code_okK mixed_ok clone_ok (pls 5) (Nat.le_refl 98) 2 _ cI ok_cI keep_cI CHx _ _ t' h' (headK CHx path stop) chx_ok hK ρ' a' w' s' hx') ?_))
  intro e a1 w1 q
  cases e with
  | exit id => obtain ⟨⟨_, _, _, _, _, q⟩, _⟩ := q; exact (Bool.false_ne_true q).elim
  | ret => obtain ⟨⟨_, _, _, _, _, q⟩, _⟩ := q; exact (Bool.false_ne_true q).elim
  | goto _ => exact q.1.elim
  | panic _ => exact q.1.elim
  | outgrown => exact q.1.elim
  | normal =>
    obtain ⟨⟨t1, h1, ρ1, s1, hE1, k1⟩, hx1⟩ := q
    obtain ⟨b, o, y1, y2, g9, g6, g7, g8, hnode⟩ := headK_true k1
    have hEx := hE.trans hE1
    have v9 := s1.sl.2 12 (by decide)
    rw [g9] at v9
    obtain ⟨_, v9⟩ := VR_i v9
    have v6 := s1.sl.2 8 (by decide)
    rw [g6] at v6
    have v7 := s1.sl.2 10 (by decide)
    rw [g7] at v7
    have v8 := s1.sl.2 11 (by decide)
    rw [g8] at v8
    refine wp_block (wp_loop (Inv3 path stop w A l c b o y1 y2) mu ⟨0, h1, ρ1, Nat.zero_le _, s1.sl.1, s1.df, hx1, v9, v6, v7, v8, s1.hp, hEx, fact_of (Nat.zero_le _) hnode⟩ ?_)
    clear v6 v7 v8 v9 g6 g7 g8 g9 hnode hEx hE1 s1 hx1 k1 hE hK s' hx' hs ht e1 hrun
    rintro ⟨tm, df⟩ w2 ⟨i, h2, ρ2, hi, hsz, hdf, q0, q9, q6, q7, q8, hhr, hEx, hfact⟩
    simp only at hsz hdf q0 q9 q6 q7 q8
    subst hdf
    obtain ⟨x0, x1, x2, x3, x4, x5, x6, x7, x8, x9, x10, x11, x12, x13, x14, x15, x16, x17, x18, x19, x20, x21, x22, x23, x24, x25, x26, x27, x28, x29, x30, x31, x32, x33, x34, x35, x36, x37, x38, x39, x40, x41, x42, x43, x44, x45, x46, x47, x48, x49, x50, x51, x52, x53, x54, x55, x56, x57, x58, x59, x60, x61, x62, x63, x64, x65, x66, x67, x68, x69, x70, x71, x72, x73, x74, x75, x76, x77, x78, x79, x80, x81, x82, x83, x84, x85, x86, x87, x88, x89, x90, x91, x92, x93, x94, x95, x96, x97, rfl⟩ := arr_lit tm hsz
    have q0 : x2 = .slice A l.length c := q0
    have q9 : x12 = .int .i64 (i : Int) := q9
    have q6 : VR ρ2 (.p b o) x8 := q6
    have q7 : VR ρ2 y1 x10 := q7
    have q8 : VR ρ2 y2 x11 := q8
    have hbl := ext0_below hEx
    refine roundL x0 x1 x2 x3 x4 x5 x6 x7 x8 x9 x10 x11 x12 x13 x14 x15 x16 x17 x18 x19 x20 x21 x22 x23 x24 x25 x26 x27 x28 x29 x30 x31 x32 x33 x34 x35 x36 x37 x38 x39 x40 x41 x42 x43 x44 x45 x46 x47 x48 x49 x50 x51 x52 x53 x54 x55 x56 x57 x58 x59 x60 x61 x62 x63 x64 x65 x66 x67 x68 x69 x70 x71 x72 x73 x74 x75 x76 x77 x78 x79 x80 x81 x82 x83 x84 x85 x86 x87 x88 x89 x90 x91 x92 x93 x94 x95 x96 x97 A l.length c i l w w2 q0 q9 hR rfl hbl hL _ ?_ ?_
    · rintro a' ⟨z1, z2, z3, z4, z5, z6⟩ hout
      have hf : fin CHx (slimT b o y1 y2) h2 = true := by
        rcases hfact with ⟨f1, f2⟩ | ⟨f1, f2, f3⟩ | ⟨f1, f2, n, f3⟩
        · exfalso; omega
        · exact f3
        · cases n with
          | zero => exact (Bool.false_ne_true f3).elim
          | succ n => exact (gd_true (show gd (fin CHx (slimT b o y1 y2) h2) (CHx 22 [.p b o, .ui .i64] h2 (fun _ h' => Bool.rec (motive := fun _ => R) (nodeB CHx b o (slimT b o y1 y2) n h') true (heq h2 h'))) = true from f3)).1
      show if (2 : Nat) = 2 then cS.wp Tryz.prog (bodyPost Tryz.prog Tryz.f5 (fun e w' => e = Ending.returned (.bool true) ∧ Below w.heap.size w w')) a' w2 else bodyPost Tryz.prog Tryz.f5 (fun e w' => e = Ending.returned (.bool true) ∧ Below w.heap.size w w') (.exit 2) a' w2
      rw [if_pos rfl]
      have hsl : SlR 98 ρ2 (slimT b o y1 y2) a' := slR3 z1 (by rw [z4]; exact q6) (by rw [z5]; exact q7) (by rw [z6]; exact q8)
      refine wp_mono (code_ok mixed_ok clone_ok (pls 5) (Nat.le_refl 98) cS ok_cS CHx (fun _ _ _ => false) KR (slimT b o y1 y2) h2 KR chx_ok hf ρ2 a' w2 ⟨hsl, hhr, z2⟩) fun e a3 w3 q => ?_
      have fin3 : Nxt 98 ρ2 h2 w2 KR a3 w3 → a3.defers = [] ∧ ∃ v, (results Tryz.f5 a3.tmps).run Tryz.prog w3 = .ok v w3 ∧ (Ending.returned v = .returned (.bool true) ∧ Below w.heap.size w w3) := fun ⟨t4, h4, ρ4, s4, e4, k4⟩ => by
        obtain ⟨v, u1, u2⟩ := resOf_ok (fn := Tryz.f5) k4
        obtain ⟨v', u3, u4⟩ := u2 _ ρ4 a3 w3 s4.sl s4.hp
        obtain ⟨bb, rfl, u5⟩ := onB_true u1
        have u5 : bb = true := u5
        subst u5
        rw [VR_b u4] at u3
        exact ⟨s4.df, _, u3, rfl, ext0_below (hEx.trans e4)⟩
      cases e with
      | normal => exact fin3 q
      | ret => exact fin3 q
      | exit id => obtain ⟨_, _, _, _, _, q⟩ := q; exact (Bool.false_ne_true q).elim
      | goto _ => exact q.elim
      | panic _ => exact q.elim
      | outgrown => exact q.elim
    · intro hlt hcap
      have hx : ∃ m : Int, Value.int .i64 (rd l (i : Int)) = .int .i64 (IntKind.i64.wrap m) := ⟨rd l (i : Int), by rw [wrap_rd hwf]⟩
      have step : ∀ (av : AV) (KK : AV → H → R), VR ρ2 av (.int .i64 (rd l (i : Int))) → CHx 22 [.p b o, av] h2 KK = true → (∀ (a' : Act) (w3 : World) (v : AV) (h3 : H) (ρ3 : Ren), KK v h3 = true → HR ρ3 h3 w3 → Ext ρ2 h2 w2 ρ3 h3 w3 → (∀ hh, HR ρ3 hh w3 → Ext ρ2 h2 w2 ρ3 hh w3 → Fact b o (slimT b o y1 y2) path stop (i + 1) hh → (a'.tmps.size = 98 ∧ a'.defers = [] ∧ a'.tmps.getD 2 undef = x2 ∧ a'.tmps.getD 8 undef = x8 ∧ a'.tmps.getD 10 undef = x10 ∧ a'.tmps.getD 11 undef = x11 ∧ a'.tmps.getD 12 undef = .int .i64 ((i + 1 : Nat) : Int)) → Inv3 path stop w A l c b o y1 y2 a' w3) →
          (a'.tmps.size = 98 ∧ a'.defers = [] ∧ a'.tmps.getD 2 undef = x2 ∧ a'.tmps.getD 8 undef = x8 ∧ a'.tmps.getD 10 undef = x10 ∧ a'.tmps.getD 11 undef = x11 ∧ a'.tmps.getD 12 undef = .int .i64 ((i + 1 : Nat) : Int)) → Inv3 path stop w A l c b o y1 y2 a' w3) →
          Calls Tryz.prog 22 #[x8, .int .i64 (rd l (i : Int))] w2 (fun e w' => (∃ v, e = .returned v) ∧ ∀ a' : Act, (a'.tmps.size = 98 ∧ a'.defers = [] ∧ a'.tmps.getD 2 undef = x2 ∧ a'.tmps.getD 8 undef = x8 ∧ a'.tmps.getD 10 undef = x10 ∧ a'.tmps.getD 11 undef = x11 ∧ a'.tmps.getD 12 undef = .int .i64 ((i + 1 : Nat) : Int)) → Inv3 path stop w A l c b o y1 y2 a' w' ∧ mu a' w' < mu ⟨#[x0, x1, x2, x3, x4, x5, x6, x7, x8, x9, x10, x11, x12, x13, x14, x15, x16, x17, x18, x19, x20, x21, x22, x23, x24, x25, x26, x27, x28, x29, x30, x31, x32, x33, x34, x35, x36, x37, x38, x39, x40, x41, x42, x43, x44, x45, x46, x47, x48, x49, x50, x51, x52, x53, x54, x55, x56, x57, x58, x59, x60, x61, x62, x63, x64, x65, x66, x67, x68, x69, x70, x71, x72, x73, x74, x75, x76, x77, x78, x79, x80, x81, x82, x83, x84, x85, x86, x87, x88, x89, x90, x91, x92, x93, x94, x95, x96, x97], []⟩ w2) := by
        intro av KK hav hp hK
        refine (chx_ok 22 [.p b o, av] h2 _ hp ρ2 #[x8, .int .i64 (rd l (i : Int))] w2 hhr (by simp only [VRs]; exact ⟨_, _, rfl, q6, _, _, rfl, hav, rfl⟩)).mono ?_
        rintro e w3 ⟨v', rfl, v, h3, ρ3, hF, hr3, hE3, hv3⟩
        refine ⟨⟨v', rfl⟩, ?_⟩
        intro a' hz
        have hsub := hE3.sub
        refine ⟨hK a' w3 v h3 ρ3 hF hr3 hE3 (fun hh k1 k2 k3 hz => ?_) hz, ?_⟩
        · obtain ⟨z1, z2, z3, z4, z5, z6, z9⟩ := hz
          exact ⟨i + 1, hh, ρ3, by omega, z1, z2, z3.trans q0, z9, by rw [z4]; exact VR.mono hsub _ _ q6, by rw [z5]; exact VR.mono hsub _ _ q7, by rw [z6]; exact VR.mono hsub _ _ q8, k1, hEx.trans k2, k3⟩
        · have hm : mu ⟨#[x0, x1, x2, x3, x4, x5, x6, x7, x8, x9, x10, x11, x12, x13, x14, x15, x16, x17, x18, x19, x20, x21, x22, x23, x24, x25, x26, x27, x28, x29, x30, x31, x32, x33, x34, x35, x36, x37, x38, x39, x40, x41, x42, x43, x44, x45, x46, x47, x48, x49, x50, x51, x52, x53, x54, x55, x56, x57, x58, x59, x60, x61, x62, x63, x64, x65, x66, x67, x68, x69, x70, x71, x72, x73, x74, x75, x76, x77, x78, x79, x80, x81, x82, x83, x84, x85, x86, x87, x88, x89, x90, x91, x92, x93, x94, x95, x96, x97], []⟩ w2 = (100 - (i : Int)).toNat := mu_of q9
          show mu a' w3 < mu ⟨#[x0, x1, x2, x3, x4, x5, x6, x7, x8, x9, x10, x11, x12, x13, x14, x15, x16, x17, x18, x19, x20, x21, x22, x23, x24, x25, x26, x27, x28, x29, x30, x31, x32, x33, x34, x35, x36, x37, x38, x39, x40, x41, x42, x43, x44, x45, x46, x47, x48, x49, x50, x51, x52, x53, x54, x55, x56, x57, x58, x59, x60, x61, x62, x63, x64, x65, x66, x67, x68, x69, x70, x71, x72, x73, x74, x75, x76, x77, x78, x79, x80, x81, x82, x83, x84, x85, x86, x87, x88, x89, x90, x91, x92, x93, x94, x95, x96, x97], []⟩ w2
          obtain ⟨_, _, _, _, _, _, z9⟩ := hz
          rw [hm, mu_of z9]
          omega
      rcases hfact with ⟨f1, f2⟩ | ⟨f1, f2, f3⟩ | ⟨f1, f2, n, f3⟩
      · have hj : path[i]? = some path[i] := List.getElem?_eq_getElem f1
        rw [List.drop_eq_getElem_cons f1] at f2
        refine step (.sm path[i] 2) _ ?_ (show CHx 22 [.p b o, .sm path[i] 2] h2 (fun _ h' => goP CHx b o (slimT b o y1 y2) stop (path.drop (i + 1)) h') = true from f2) ?_
        · simp only [VR]
          exact ⟨rd l (i : Int), by rw [wrap_rd hwf], by rw [wrap_rd hwf]; exact hpj i _ hj⟩
        · intro a' w3 v h3 ρ3 hF hr3 hE3 key hz
          exact key h3 hr3 hE3 (fact_of f1 hF) hz
      · exfalso
        have := hps f2
        omega
      · cases n with
        | zero => exact (Bool.false_ne_true f3).elim
        | succ n =>
          obtain ⟨_, hp⟩ := gd_true (show gd (fin CHx (slimT b o y1 y2) h2) (CHx 22 [.p b o, .ui .i64] h2 (fun _ h' => Bool.rec (motive := fun _ => R) (nodeB CHx b o (slimT b o y1 y2) n h') true (heq h2 h'))) = true from f3)
          refine step (.ui .i64) _ (by simp only [VR]; exact hx) hp ?_
          intro a' w3 v h3 ρ3 hF hr3 hE3 key hz
          have hF : (Bool.rec (motive := fun _ => R) (nodeB CHx b o (slimT b o y1 y2) n h3) true (heq h2 h3) : R) = true := hF
          cases hq : heq h2 h3 with
          | false =>
            rw [hq] at hF
            exact key h3 hr3 hE3 (.inr (.inr ⟨by omega, f2, n, hF⟩)) hz
          | true =>
            obtain ⟨k1, k2⟩ := back hq hhr hr3 hE3
            exact key h2 k1 k2 (.inr (.inr ⟨by omega, f2, n + 1, f3⟩)) hz

end
end Go.Proofs.YtlpffldeogapmaaGreatDoor.Bj
