/- TopOpenFails: T.crash, disk.FS.Crash in the evaluator, at tails of which nothing is known. No condition. -/
import Derived.Test.YtlpffldeogapmaaGreatDoorProg
import Derived.Below
import Derived.Deep.Draws
import Derived.Deep.AppendLies
import Derived.Maps.AppendAt
import Derived.OwnWalk
import Derived.Laws.BytesArg
import Derived.Laws.MakeOwn
import Derived.Laws.OwnMore
import Derived.Deep.OwnRows
import Derived.Tactics
import Derived.Lib.ConvBytes
import Derived.Laws.Slices
import Derived.WalkKit
import Derived.KernelRfl
import Derived.RowKit3
import Derived.Deep.LoopGhost
import Derived.Deep.QuietTactic
import Derived.BigQuiet
import Derived.WideLaws
import Derived.Deep.DeepCutAuto
import Derived.Deep.CutBlock
import Derived.Deep.RegionHeld3
import Derived.Laws.Rows
import Derived.Lib.AppendStr
import Derived.ArgAppend
import Derived.Laws.IdiomCopy
import Derived.OrdersHeld
import Derived.Laws.BitsLemmas
import Derived.RowKit
import Derived.WalkSpells
import Derived.Outline
import Derived.Test.YtlpffldeogapmaaGreatDoorWWords
import Derived.Test.YtlpffldeogapmaaGreatDoorWLast
import Derived.Test.YtlpffldeogapmaaGreatDoorWMore
import Derived.Test.YtlpffldeogapmaaGreatDoorWArr
import Derived.Test.YtlpffldeogapmaaGreatDoorWTab
import Derived.Test.YtlpffldeogapmaaGreatDoorWZeros
import Derived.Test.YtlpffldeogapmaaGreatDoorWRepsOne
import Derived.Test.YtlpffldeogapmaaGreatDoorTb
import Derived.Test.YtlpffldeogapmaaGreatDoorEuC
namespace Go.Proofs.YtlpffldeogapmaaGreatDoor.Tc
open Go.RowKit Go.Proofs.YtlpffldeogapmaaGreatDoorW.PrintWords Go.Proofs.YtlpffldeogapmaaGreatDoorW.PrintLast Go.Proofs.YtlpffldeogapmaaGreatDoorW.PrintMore Go.Proofs.YtlpffldeogapmaaGreatDoor.Ev Go.Proofs.YtlpffldeogapmaaGreatDoor.EvZ Go.Proofs.YtlpffldeogapmaaGreatDoor.EuC Go.Proofs.YtlpffldeogapmaaGreatDoor.Ta Go.Proofs.YtlpffldeogapmaaGreatDoor.Tb
set_option linter.unusedSimpArgs false
set_option linter.unusedVariables false
attribute [local go_sem] max2_int min2_int max_two min_two

open Go.MapKept
set_option linter.unusedSectionVars false
set_option maxRecDepth 1000000
set_option maxHeartbeats 4000000
variable [GO]
noncomputable section

theorem arr19 (tm : Array Value) (h : tm.size = 19) : tm = #[tm.getD 0 undef, tm.getD 1 undef, tm.getD 2 undef, tm.getD 3 undef, tm.getD 4 undef, tm.getD 5 undef, tm.getD 6 undef, tm.getD 7 undef, tm.getD 8 undef, tm.getD 9 undef, tm.getD 10 undef, tm.getD 11 undef, tm.getD 12 undef, tm.getD 13 undef, tm.getD 14 undef, tm.getD 15 undef, tm.getD 16 undef, tm.getD 17 undef, tm.getD 18 undef] := by
  have e : tm = ((List.range 19).map fun i => tm.getD i undef).toArray := by
    apply Array.ext
    · simp [h]
    · intro i h1 h2
      simp [Array.getD, h1]
  exact e.trans rfl
theorem arr118 (tm : Array Value) (h : tm.size = 118) : tm = #[tm.getD 0 undef, tm.getD 1 undef, tm.getD 2 undef, tm.getD 3 undef, tm.getD 4 undef, tm.getD 5 undef, tm.getD 6 undef, tm.getD 7 undef, tm.getD 8 undef, tm.getD 9 undef, tm.getD 10 undef, tm.getD 11 undef, tm.getD 12 undef, tm.getD 13 undef, tm.getD 14 undef, tm.getD 15 undef, tm.getD 16 undef, tm.getD 17 undef, tm.getD 18 undef, tm.getD 19 undef, tm.getD 20 undef, tm.getD 21 undef, tm.getD 22 undef, tm.getD 23 undef, tm.getD 24 undef, tm.getD 25 undef, tm.getD 26 undef, tm.getD 27 undef, tm.getD 28 undef, tm.getD 29 undef, tm.getD 30 undef, tm.getD 31 undef, tm.getD 32 undef, tm.getD 33 undef, tm.getD 34 undef, tm.getD 35 undef, tm.getD 36 undef, tm.getD 37 undef, tm.getD 38 undef, tm.getD 39 undef, tm.getD 40 undef, tm.getD 41 undef, tm.getD 42 undef, tm.getD 43 undef, tm.getD 44 undef, tm.getD 45 undef, tm.getD 46 undef, tm.getD 47 undef, tm.getD 48 undef, tm.getD 49 undef, tm.getD 50 undef, tm.getD 51 undef, tm.getD 52 undef, tm.getD 53 undef, tm.getD 54 undef, tm.getD 55 undef, tm.getD 56 undef, tm.getD 57 undef, tm.getD 58 undef, tm.getD 59 undef, tm.getD 60 undef, tm.getD 61 undef, tm.getD 62 undef, tm.getD 63 undef, tm.getD 64 undef, tm.getD 65 undef, tm.getD 66 undef, tm.getD 67 undef, tm.getD 68 undef, tm.getD 69 undef, tm.getD 70 undef, tm.getD 71 undef, tm.getD 72 undef, tm.getD 73 undef, tm.getD 74 undef, tm.getD 75 undef, tm.getD 76 undef, tm.getD 77 undef, tm.getD 78 undef, tm.getD 79 undef, tm.getD 80 undef, tm.getD 81 undef, tm.getD 82 undef, tm.getD 83 undef, tm.getD 84 undef, tm.getD 85 undef, tm.getD 86 undef, tm.getD 87 undef, tm.getD 88 undef, tm.getD 89 undef, tm.getD 90 undef, tm.getD 91 undef, tm.getD 92 undef, tm.getD 93 undef, tm.getD 94 undef, tm.getD 95 undef, tm.getD 96 undef, tm.getD 97 undef, tm.getD 98 undef, tm.getD 99 undef, tm.getD 100 undef, tm.getD 101 undef, tm.getD 102 undef, tm.getD 103 undef, tm.getD 104 undef, tm.getD 105 undef, tm.getD 106 undef, tm.getD 107 undef, tm.getD 108 undef, tm.getD 109 undef, tm.getD 110 undef, tm.getD 111 undef, tm.getD 112 undef, tm.getD 113 undef, tm.getD 114 undef, tm.getD 115 undef, tm.getD 116 undef, tm.getD 117 undef] := by
  have e : tm = ((List.range 118).map fun i => tm.getD i undef).toArray := by
    apply Array.ext
    · simp [h]
    · intro i h1 h2
      simp [Array.getD, h1]
  exact e.trans rfl

theorem slP {N : Nat} {ρ : Ren} {t : T} {a : Act} {k : Nat} {v : AV} (h : SlR N ρ t a) (hk : k < 8 ^ 3) (hv : VR ρ v (a.tmps.getD k undef)) : SlR N ρ (put 3 k v t) a := by
  refine ⟨h.1, fun n hn => ?_⟩
  rw [get_put 3 k n _ _ hk hn]
  by_cases e : n = k
  · rw [if_pos e, e]; exact hv
  · rw [if_neg e]; exact h.2 n hn
theorem sl0 {N : Nat} {ρ : Ren} {a : Act} (h : a.tmps.size = N) : SlR N ρ T0 a := ⟨h, fun n _ => by rw [T0, get_dflt]; simp only [VR]⟩
def isUs (r : R) (x : AV) : R := AV.rec (motive_1 := fun _ => R) (motive_2 := fun _ => Unit) false false (fun _ => false) (fun _ _ => false) (fun _ _ => false) (fun _ _ _ => false) (fun _ _ => false) (fun _ _ _ _ => false) (fun _ _ _ => false) (fun _ _ => false) r (fun _ _ => false) false false false false false (fun _ _ _ _ _ => false) (fun _ _ _ => false) (fun _ => false) (fun _ _ => false) (fun _ _ => false) (fun _ => false) (fun _ _ _ _ => false) (fun _ _ => false) (fun _ => false) (fun _ _ => false) () (fun _ _ _ _ => ()) x
theorem isUs_true {r : R} {x : AV} (e : isUs r x = true) : x = .us ∧ r = true := by
  cases x <;> first | exact ⟨rfl, e⟩ | exact (Bool.false_ne_true e).elim
def usD (r d : R) (x : AV) : R := AV.rec (motive_1 := fun _ => R) (motive_2 := fun _ => Unit) d d (fun _ => d) (fun _ _ => d) (fun _ _ => d) (fun _ _ _ => d) (fun _ _ => d) (fun _ _ _ _ => d) (fun _ _ _ => d) (fun _ _ => d) r (fun _ _ => d) d d d d d (fun _ _ _ _ _ => d) (fun _ _ _ => d) (fun _ => d) (fun _ _ => d) (fun _ _ => d) (fun _ => d) (fun _ _ _ _ => d) (fun _ _ => d) (fun _ => d) (fun _ _ => d) () (fun _ _ _ _ => ()) x
theorem usD_true {r d : R} {x : AV} (e : usD r d x = true) : d = true ∨ (x = .us ∧ r = true) := by
  cases x <;> first | exact .inl e | exact .inr ⟨rfl, e⟩
def isRi (h : H) (r : R) : R := onH (fun ht _ => (acc Blk 5 1).run (fun k => Blk.rec (motive := fun _ => R) false r (fun _ _ _ _ => false) (fun _ _ => false) (fun _ _ _ _ => false) k) ht) h
theorem isRi_true {h : H} {r : R} (e : isRi h r = true) : h.at 1 = .ri ∧ r = true := by
  cases h with
  | mk ht nx =>
    obtain ⟨hb, e1⟩ := acc_run (show (acc Blk 5 1).run _ ht = true from e)
    cases hk : get 5 1 ht <;> rw [hk] at e1 <;> first | exact ⟨H.at_of hb hk, e1⟩ | exact (Bool.false_ne_true e1).elim
def ctT (v0 v1 v2 : AV) : T := (put 3 2 v2 (put 3 1 v1 (put 3 0 v0 T0)))
def ctF (v0 v1 v2 : AV) (f : T → R) : R := (fun t => (pcc AV 3 0).run v0 (fun t => (pcc AV 3 1).run v1 (fun t => (pcc AV 3 2).run v2 (fun t => f t) t) t) t) T0
theorem ctF_true {v0 v1 v2 : AV} {f : T → R} (e : ctF v0 v1 v2 f = true) : f (ctT v0 v1 v2) = true := by
  obtain ⟨_, e0⟩ := pcc_run e
  obtain ⟨_, e1⟩ := pcc_run e0
  obtain ⟨_, e2⟩ := pcc_run e1
  exact e2
def tlT (v2 v7 v11 v12 v13 v53 v54 v55 : AV) : T := (put 3 55 v55 (put 3 54 v54 (put 3 53 v53 (put 3 13 v13 (put 3 12 v12 (put 3 11 v11 (put 3 7 v7 (put 3 2 v2 T0))))))))
def tlF (v2 v7 v11 v12 v13 v53 v54 v55 : AV) (f : T → R) : R := (fun t => (pcc AV 3 2).run v2 (fun t => (pcc AV 3 7).run v7 (fun t => (pcc AV 3 11).run v11 (fun t => (pcc AV 3 12).run v12 (fun t => (pcc AV 3 13).run v13 (fun t => (pcc AV 3 53).run v53 (fun t => (pcc AV 3 54).run v54 (fun t => (pcc AV 3 55).run v55 (fun t => f t) t) t) t) t) t) t) t) t) T0
theorem tlF_true {v2 v7 v11 v12 v13 v53 v54 v55 : AV} {f : T → R} (e : tlF v2 v7 v11 v12 v13 v53 v54 v55 f = true) : f (tlT v2 v7 v11 v12 v13 v53 v54 v55) = true := by
  obtain ⟨_, e0⟩ := pcc_run e
  obtain ⟨_, e1⟩ := pcc_run e0
  obtain ⟨_, e2⟩ := pcc_run e1
  obtain ⟨_, e3⟩ := pcc_run e2
  obtain ⟨_, e4⟩ := pcc_run e3
  obtain ⟨_, e5⟩ := pcc_run e4
  obtain ⟨_, e6⟩ := pcc_run e5
  obtain ⟨_, e7⟩ := pcc_run e6
  exact e7

def ccCut : CC := ⟨fun _ _ _ t h K => ((acc AV 3 0).run (fun v0 => ((acc AV 3 1).run (fun v1 => ((acc AV 3 2).run (fun v2 => (isUs (ctF v0 v1 v2 (fun t => K t h)) v2)) t)) t)) t)⟩
def ccTail : CC := ⟨fun _ _ _ t h K => ((acc AV 3 2).run (fun v2 => ((acc AV 3 7).run (fun v7 => ((acc AV 3 11).run (fun v11 => ((acc AV 3 12).run (fun v12 => ((acc AV 3 13).run (fun v13 => ((acc AV 3 53).run (fun v53 => ((acc AV 3 54).run (fun v54 => ((acc AV 3 55).run (fun v55 => ((acc AV 3 10).run (onI (fun kk k => keq kk .i64 (gd (Nat.blt k 1000000) (onI (fun kz z => keq kz .i64 (gd (Nat.beq z 0) (isUs (onP (fun b o => ldc h b o (avLen (fun n => gd (Nat.blt n 4611686018427387904) (ldc h b (Nat.add o 1) (onI (fun kj m => keq kj .i64 (gd (Nat.beq m n) (isRi h (tlF v2 v7 v11 v12 v13 v53 v54 v55 (fun t => K t h)))))))))) v12) v2))) v13)))) t)) t)) t)) t)) t)) t)) t)) t)) t)⟩
theorem cut_cs : CodeS Tryz.prog 19 ccCut (subC [0] (bodyOf Tryz.f28)) := by
  rw [cCt_eq]
  intro cH E Z t h K hc e ρ a w hs
  obtain ⟨_, e⟩ := acc_run (show ((acc AV 3 0).run (fun v0 => ((acc AV 3 1).run (fun v1 => ((acc AV 3 2).run (fun v2 => (isUs (ctF v0 v1 v2 (fun t => K t h)) v2)) t)) t)) t) = true from e)
  obtain ⟨_, e⟩ := acc_run e
  obtain ⟨_, e⟩ := acc_run e
  obtain ⟨h2, e⟩ := isUs_true e
  have e := ctF_true e
  obtain ⟨tm, df⟩ := a
  have hdf : df = [] := hs.df
  subst hdf
  have s0 := hs.sl.2 0 (by decide)
  have s1 := hs.sl.2 1 (by decide)
  have s2 := hs.sl.2 2 (by decide)
  rw [h2] at e s2
  have s2' := s2
  simp only [VR] at s2'
  obtain ⟨A, L, c, e2, hLc, hrow⟩ := s2'
  have hsz : tm.size = 19 := hs.sl.1
  have ea : (⟨tm, []⟩ : Act) = ⟨#[tm.getD 0 undef, tm.getD 1 undef, tm.getD 2 undef, tm.getD 3 undef, tm.getD 4 undef, tm.getD 5 undef, tm.getD 6 undef, tm.getD 7 undef, tm.getD 8 undef, tm.getD 9 undef, tm.getD 10 undef, tm.getD 11 undef, tm.getD 12 undef, tm.getD 13 undef, tm.getD 14 undef, tm.getD 15 undef, tm.getD 16 undef, tm.getD 17 undef, tm.getD 18 undef], []⟩ := congrArg (fun q => (⟨q, []⟩ : Act)) (arr19 tm hsz)
  rw [ea]
  refine cutR (tm.getD 0 undef) (tm.getD 1 undef) (tm.getD 2 undef) (tm.getD 3 undef) (tm.getD 4 undef) (tm.getD 5 undef) (tm.getD 6 undef) (tm.getD 7 undef) (tm.getD 8 undef) (tm.getD 9 undef) (tm.getD 10 undef) (tm.getD 11 undef) (tm.getD 12 undef) (tm.getD 13 undef) (tm.getD 14 undef) (tm.getD 15 undef) (tm.getD 16 undef) (tm.getD 17 undef) (tm.getD 18 undef) A L c w e2 hLc _ ?_
  rintro a' m c2 hm hmc ⟨z1, z2, z3, z4⟩ z5
  refine ⟨_, h, ρ, ⟨?_, hs.hp, z2⟩, Ext.refl _ _ _, e⟩
  unfold ctT
  refine slP (slP (slP (sl0 z1) (by decide) (by rw [z3]; exact s0)) (by decide) (by rw [z4]; exact s1)) (by decide) ?_
  rw [z5]
  simp only [VR]
  refine ⟨A, m, c2, rfl, hmc, ?_⟩
  rcases hrow with h0 | ⟨l, o, r1, r2, r3⟩
  · exact .inl (by omega)
  · exact .inr ⟨l, o, r1, r2, fun i hi => r3 i (by omega)⟩
theorem tail_cs : CodeS Tryz.prog 118 ccTail (subC pT (bodyOf Tryz.f50)) := by
  rw [cTl_eq]
  intro cH E Z t h K hc e ρ a w hs
  obtain ⟨_, e⟩ := acc_run (show ((acc AV 3 2).run (fun v2 => ((acc AV 3 7).run (fun v7 => ((acc AV 3 11).run (fun v11 => ((acc AV 3 12).run (fun v12 => ((acc AV 3 13).run (fun v13 => ((acc AV 3 53).run (fun v53 => ((acc AV 3 54).run (fun v54 => ((acc AV 3 55).run (fun v55 => ((acc AV 3 10).run (onI (fun kk k => keq kk .i64 (gd (Nat.blt k 1000000) (onI (fun kz z => keq kz .i64 (gd (Nat.beq z 0) (isUs (onP (fun b o => ldc h b o (avLen (fun n => gd (Nat.blt n 4611686018427387904) (ldc h b (Nat.add o 1) (onI (fun kj m => keq kj .i64 (gd (Nat.beq m n) (isRi h (tlF v2 v7 v11 v12 v13 v53 v54 v55 (fun t => K t h)))))))))) v12) v2))) v13)))) t)) t)) t)) t)) t)) t)) t)) t)) t) = true from e)
  obtain ⟨_, e⟩ := acc_run e
  obtain ⟨_, e⟩ := acc_run e
  obtain ⟨_, e⟩ := acc_run e
  obtain ⟨_, e⟩ := acc_run e
  obtain ⟨_, e⟩ := acc_run e
  obtain ⟨_, e⟩ := acc_run e
  obtain ⟨_, e⟩ := acc_run e
  obtain ⟨_, e⟩ := acc_run e
  obtain ⟨kk, k, h10, ea1⟩ := onI_true e
  obtain ⟨hkk, ea2⟩ := keq_true ea1
  subst hkk
  obtain ⟨hk6, ea3⟩ := gd_true ea2
  have hk6 : k < 1000000 := by simpa [Nat.blt_eq] using hk6
  obtain ⟨kz, z, h13, ea4⟩ := onI_true ea3
  obtain ⟨hkz, ea5⟩ := keq_true ea4
  subst hkz
  obtain ⟨hz, ea6⟩ := gd_true ea5
  have hz : z = 0 := Nat.eq_of_beq_eq_true hz
  subst hz
  obtain ⟨h2, ea7⟩ := isUs_true ea6
  obtain ⟨b, o, h12, ea8⟩ := onP_true ea7
  obtain ⟨d, tr, nn, zz, hkb, hob, ea9⟩ := ldc_true ea8
  obtain ⟨tm, df⟩ := a
  have hdf : df = [] := hs.df
  subst hdf
  have s2 := hs.sl.2 2 (by decide)
  have s7 := hs.sl.2 7 (by decide)
  have s11 := hs.sl.2 11 (by decide)
  have s12 := hs.sl.2 12 (by decide)
  have s13 := hs.sl.2 13 (by decide)
  have s53 := hs.sl.2 53 (by decide)
  have s54 := hs.sl.2 54 (by decide)
  have s55 := hs.sl.2 55 (by decide)
  have s10 := hs.sl.2 10 (by decide)
  rw [h12] at s12
  rw [h10] at s10
  rw [h13] at s13
  rw [h2] at s2
  obtain ⟨lb, hlb, e12⟩ := VR_p s12
  obtain ⟨cb, hcb, vcb, _⟩ := cell_at hs.hp.blk hlb hkb hob
  obtain ⟨q, n, c', hcbq, eb1⟩ := avLen_true ea9 vcb
  subst hcbq
  obtain ⟨hn, eb2⟩ := gd_true eb1
  have hn : n < 4611686018427387904 := by simpa [Nat.blt_eq] using hn
  obtain ⟨d2, tr2, nn2, zz2, hkb2, hob2, eb3⟩ := ldc_true eb2
  obtain ⟨kj, m, hm, eb4⟩ := onI_true eb3
  obtain ⟨hkj, eb5⟩ := keq_true eb4
  subst hkj
  obtain ⟨hmn, eb6⟩ := gd_true eb5
  have hmn : m = n := Nat.eq_of_beq_eq_true hmn
  subst hmn
  obtain ⟨hri, eb7⟩ := isRi_true eb6
  have eK := tlF_true eb7
  obtain ⟨cs, hcs, vcs, _⟩ := cell_at hs.hp.blk hlb hkb2 hob2
  rw [hm] at vcs
  obtain ⟨_, hvcs⟩ := VR_i vcs
  subst hvcs
  obtain ⟨_, e10⟩ := VR_i s10
  obtain ⟨_, e13⟩ := VR_i s13
  have wk : IntKind.i64.wrap (k : Int) = (k : Int) := by rw [IntKind.wrap_i64]; omega
  have wm : IntKind.i64.wrap (m : Int) = (m : Int) := by rw [IntKind.wrap_i64]; omega
  rw [wk] at e10
  rw [wm] at hcs
  have s2' := s2
  simp only [VR] at s2'
  obtain ⟨A, L, c, e2, hLc, hrow⟩ := s2'
  have hsz : tm.size = 118 := hs.sl.1
  have ea : (⟨tm, []⟩ : Act) = ⟨#[tm.getD 0 undef, tm.getD 1 undef, tm.getD 2 undef, tm.getD 3 undef, tm.getD 4 undef, tm.getD 5 undef, tm.getD 6 undef, tm.getD 7 undef, tm.getD 8 undef, tm.getD 9 undef, tm.getD 10 undef, tm.getD 11 undef, tm.getD 12 undef, tm.getD 13 undef, tm.getD 14 undef, tm.getD 15 undef, tm.getD 16 undef, tm.getD 17 undef, tm.getD 18 undef, tm.getD 19 undef, tm.getD 20 undef, tm.getD 21 undef, tm.getD 22 undef, tm.getD 23 undef, tm.getD 24 undef, tm.getD 25 undef, tm.getD 26 undef, tm.getD 27 undef, tm.getD 28 undef, tm.getD 29 undef, tm.getD 30 undef, tm.getD 31 undef, tm.getD 32 undef, tm.getD 33 undef, tm.getD 34 undef, tm.getD 35 undef, tm.getD 36 undef, tm.getD 37 undef, tm.getD 38 undef, tm.getD 39 undef, tm.getD 40 undef, tm.getD 41 undef, tm.getD 42 undef, tm.getD 43 undef, tm.getD 44 undef, tm.getD 45 undef, tm.getD 46 undef, tm.getD 47 undef, tm.getD 48 undef, tm.getD 49 undef, tm.getD 50 undef, tm.getD 51 undef, tm.getD 52 undef, tm.getD 53 undef, tm.getD 54 undef, tm.getD 55 undef, tm.getD 56 undef, tm.getD 57 undef, tm.getD 58 undef, tm.getD 59 undef, tm.getD 60 undef, tm.getD 61 undef, tm.getD 62 undef, tm.getD 63 undef, tm.getD 64 undef, tm.getD 65 undef, tm.getD 66 undef, tm.getD 67 undef, tm.getD 68 undef, tm.getD 69 undef, tm.getD 70 undef, tm.getD 71 undef, tm.getD 72 undef, tm.getD 73 undef, tm.getD 74 undef, tm.getD 75 undef, tm.getD 76 undef, tm.getD 77 undef, tm.getD 78 undef, tm.getD 79 undef, tm.getD 80 undef, tm.getD 81 undef, tm.getD 82 undef, tm.getD 83 undef, tm.getD 84 undef, tm.getD 85 undef, tm.getD 86 undef, tm.getD 87 undef, tm.getD 88 undef, tm.getD 89 undef, tm.getD 90 undef, tm.getD 91 undef, tm.getD 92 undef, tm.getD 93 undef, tm.getD 94 undef, tm.getD 95 undef, tm.getD 96 undef, tm.getD 97 undef, tm.getD 98 undef, tm.getD 99 undef, tm.getD 100 undef, tm.getD 101 undef, tm.getD 102 undef, tm.getD 103 undef, tm.getD 104 undef, tm.getD 105 undef, tm.getD 106 undef, tm.getD 107 undef, tm.getD 108 undef, tm.getD 109 undef, tm.getD 110 undef, tm.getD 111 undef, tm.getD 112 undef, tm.getD 113 undef, tm.getD 114 undef, tm.getD 115 undef, tm.getD 116 undef, tm.getD 117 undef], []⟩ := congrArg (fun q => (⟨q, []⟩ : Act)) (arr118 tm hsz)
  rw [ea]
  refine tailR (tm.getD 0 undef) (tm.getD 1 undef) (tm.getD 2 undef) (tm.getD 3 undef) (tm.getD 4 undef) (tm.getD 5 undef) (tm.getD 6 undef) (tm.getD 7 undef) (tm.getD 8 undef) (tm.getD 9 undef) (tm.getD 10 undef) (tm.getD 11 undef) (tm.getD 12 undef) (tm.getD 13 undef) (tm.getD 14 undef) (tm.getD 15 undef) (tm.getD 16 undef) (tm.getD 17 undef) (tm.getD 18 undef) (tm.getD 19 undef) (tm.getD 20 undef) (tm.getD 21 undef) (tm.getD 22 undef) (tm.getD 23 undef) (tm.getD 24 undef) (tm.getD 25 undef) (tm.getD 26 undef) (tm.getD 27 undef) (tm.getD 28 undef) (tm.getD 29 undef) (tm.getD 30 undef) (tm.getD 31 undef) (tm.getD 32 undef) (tm.getD 33 undef) (tm.getD 34 undef) (tm.getD 35 undef) (tm.getD 36 undef) (tm.getD 37 undef) (tm.getD 38 undef) (tm.getD 39 undef) (tm.getD 40 undef) (tm.getD 41 undef) (tm.getD 42 undef) (tm.getD 43 undef) (tm.getD 44 undef) (tm.getD 45 undef) (tm.getD 46 undef) (tm.getD 47 undef) (tm.getD 48 undef) (tm.getD 49 undef) (tm.getD 50 undef) (tm.getD 51 undef) (tm.getD 52 undef) (tm.getD 53 undef) (tm.getD 54 undef) (tm.getD 55 undef) (tm.getD 56 undef) (tm.getD 57 undef) (tm.getD 58 undef) (tm.getD 59 undef) (tm.getD 60 undef) (tm.getD 61 undef) (tm.getD 62 undef) (tm.getD 63 undef) (tm.getD 64 undef) (tm.getD 65 undef) (tm.getD 66 undef) (tm.getD 67 undef) (tm.getD 68 undef) (tm.getD 69 undef) (tm.getD 70 undef) (tm.getD 71 undef) (tm.getD 72 undef) (tm.getD 73 undef) (tm.getD 74 undef) (tm.getD 75 undef) (tm.getD 76 undef) (tm.getD 77 undef) (tm.getD 78 undef) (tm.getD 79 undef) (tm.getD 80 undef) (tm.getD 81 undef) (tm.getD 82 undef) (tm.getD 83 undef) (tm.getD 84 undef) (tm.getD 85 undef) (tm.getD 86 undef) (tm.getD 87 undef) (tm.getD 88 undef) (tm.getD 89 undef) (tm.getD 90 undef) (tm.getD 91 undef) (tm.getD 92 undef) (tm.getD 93 undef) (tm.getD 94 undef) (tm.getD 95 undef) (tm.getD 96 undef) (tm.getD 97 undef) (tm.getD 98 undef) (tm.getD 99 undef) (tm.getD 100 undef) (tm.getD 101 undef) (tm.getD 102 undef) (tm.getD 103 undef) (tm.getD 104 undef) (tm.getD 105 undef) (tm.getD 106 undef) (tm.getD 107 undef) (tm.getD 108 undef) (tm.getD 109 undef) (tm.getD 110 undef) (tm.getD 111 undef) (tm.getD 112 undef) (tm.getD 113 undef) (tm.getD 114 undef) (tm.getD 115 undef) (tm.getD 116 undef) (tm.getD 117 undef) A L c k m c' q ⟨lb.B, lb.O + o, none⟩ w e2 e10 e12 e13 hcb hcs (fun hkL => ?_) hn _ ?_
  · rcases hrow with h0 | ⟨l, o', r1, r2, r3⟩
    · omega
    · obtain ⟨z, hz⟩ := r3 k hkL
      obtain ⟨ob, b1, b2⟩ := hs.hp.blk 1 l r1 (by rw [hri]; simp)
      rw [hri] at b2
      have b2 : ob = GO.ob := b2
      refine ⟨⟨l.B, o', none⟩, IntKind.i64.wrap z, r2, ?_⟩
      have hadd : (⟨l.B, o', none⟩ : Addr).add k = ⟨l.B, o' + k, none⟩ := by
        unfold Addr.add
        by_cases hk0 : k = 0
        · rw [if_pos hk0, hk0]; rfl
        · rw [if_neg hk0]
      rw [hadd, ← hz]
      unfold World.cell? goCell
      simp only [b1, b2]
      cases GO.ob <;> rfl
  · rintro a' w' ⟨z1, z2, f2, f7, f11, f12, f53, f54, f55, f13⟩ hw hb
    refine ⟨_, h, ρ, ⟨?_, hs.hp.same hw, z2⟩, Ext.same (below_0 hb) hw, eK⟩
    unfold tlT
    rw [h2, h12, h13]
    refine (slP (slP (slP (slP (slP (slP (slP (slP (sl0 z1) (by decide) (by rw [f2]; exact s2)) (by decide) (by rw [f7]; exact s7)) (by decide) (by rw [f11]; exact s11)) (by decide) (by rw [f12]; exact s12)) (by decide) (by rw [f13]; exact VR_mki (k := .i64) (n := 0) (by decide))) (by decide) (by rw [f53]; exact s53)) (by decide) (by rw [f54]; exact s54)) (by decide) (by rw [f55]; exact s55))
/-! ### The two functions -/
def crT : FF := ⟨fun cH l h k => gd (Nat.beq (llen l) 3) (nth 2 l (usD ((bodyR Tryz.prog pls 28 Tryz.f28 (bodyOf Tryz.f28) ccCut [0]).run cH l h k) ((body Tryz.prog pls 28).run cH l h k)))⟩
def crF : FF := ⟨fun cH l h k => gd (Nat.beq (llen l) 3) (nth 2 l (usD ((bodyR Tryz.prog pls 50 Tryz.f50 (bodyOf Tryz.f50) ccTail pT).run cH l h k) ((body Tryz.prog pls 50).run cH l h k)))⟩
theorem crT_ok : FnOk Tryz.prog 28 crT := by
  intro cH hc args h F e ρ vs w hr hv
  obtain ⟨hl, e⟩ := gd_true (show gd (Nat.beq (llen args) 3) (nth 2 args (usD ((bodyR Tryz.prog pls 28 Tryz.f28 (bodyOf Tryz.f28) ccCut [0]).run cH args h F) ((body Tryz.prog pls 28).run cH args h F))) = true from e)
  obtain ⟨x, hx, e⟩ := nth_true e
  rcases usD_true e with e | ⟨_, e⟩
  · exact body_ok mixed_ok clone_ok all_ok _ cH hc args h F e ρ vs w hr hv
  · have hn := hv.length
    rw [← llen_eq args, Nat.eq_of_beq_eq_true hl, Array.length_toList] at hn
    exact bodyR_ok mixed_ok clone_ok all_ok Tryz.func28 (by kernel_rfl) cut_cs hc e hr hv (by rw [hn]; decide)
theorem crF_ok : FnOk Tryz.prog 50 crF := by
  intro cH hc args h F e ρ vs w hr hv
  obtain ⟨hl, e⟩ := gd_true (show gd (Nat.beq (llen args) 3) (nth 2 args (usD ((bodyR Tryz.prog pls 50 Tryz.f50 (bodyOf Tryz.f50) ccTail pT).run cH args h F) ((body Tryz.prog pls 50).run cH args h F))) = true from e)
  obtain ⟨x, hx, e⟩ := nth_true e
  rcases usD_true e with e | ⟨_, e⟩
  · exact body_ok mixed_ok clone_ok all_ok _ cH hc args h F e ρ vs w hr hv
  · have hn := hv.length
    rw [← llen_eq args, Nat.eq_of_beq_eq_true hl, Array.length_toList] at hn
    exact bodyR_ok mixed_ok clone_ok all_ok Tryz.func50 (by kernel_rfl) tail_cs hc e hr hv (by rw [hn]; decide)

end
end Go.Proofs.YtlpffldeogapmaaGreatDoor.Tc
