/- Contract of small: a number from 0 to k - 1. A law of its own in the evaluator. -/
import Derived.Test.YtlpffldeogapmaaGreatDoorProg
import Derived.Below
import Derived.Deep.Draws
import Derived.Deep.AppendLies
import Derived.Maps.AppendAt
import Derived.OwnWalk
import Derived.Laws.BytesArg
import Derived.Laws.MakeOwn
import Derived.Laws.OwnMore
import Derived.Deep.OwnRows
import Derived.Tactics
import Derived.Lib.ConvBytes
import Derived.Laws.Slices
import Derived.WalkKit
import Derived.KernelRfl
import Derived.RowKit3
import Derived.Deep.LoopGhost
import Derived.Deep.QuietTactic
import Derived.BigQuiet
import Derived.WideLaws
import Derived.Deep.DeepCutAuto
import Derived.Deep.CutBlock
import Derived.Deep.RegionHeld3
import Derived.Laws.Rows
import Derived.Lib.AppendStr
import Derived.ArgAppend
import Derived.Laws.IdiomCopy
import Derived.OrdersHeld
import Derived.Laws.BitsLemmas
import Derived.RowKit
import Derived.WalkSpells
import Derived.Outline
import Derived.Test.YtlpffldeogapmaaGreatDoorEvY
namespace Go.Proofs.YtlpffldeogapmaaGreatDoor.EvZ
open Go.RowKit Go.Proofs.YtlpffldeogapmaaGreatDoor.Ev
set_option linter.unusedSimpArgs false
set_option linter.unusedVariables false

set_option linter.unusedSectionVars false
variable [GO]
theorem small_calls (x k : Int) (hx : -9223372036854775808 ≤ x ∧ x < 9223372036854775808) (hk : 0 < k ∧ k < 9223372036854775808) (w : World) :
    Calls Tryz.prog 13 #[.int .i64 x, .int .i64 k] w fun e w' => ∃ j : Int, e = .returned (.int .i64 j) ∧ 0 ≤ j ∧ j < k ∧ Below w.heap.size w w' ∧ w'.heap = w.heap := by
  have h1 := Int.tmod_lt_of_pos x hk.1
  have h2 := Int.lt_tmod_of_pos x hk.1
  have hk0 : (k == 0) = false := beq_eq_false_iff_ne.2 (by omega)
  have h3 : x.tmod k < 0 → 0 ≤ wrap64 (-x.tmod k) ∧ wrap64 (-x.tmod k) < k := fun h => by unfold wrap64; omega
  go_enter Tryz.func13, Tryz.ntmps13
  go_wp2
  all_goals go_ret
  all_goals refine ⟨_, rfl, ?_, ?_, Below.refl _ _, rfl⟩
  all_goals first | omega | exact (h3 (by omega)).1 | exact (h3 (by omega)).2
theorem small_exact (x k : Int) (hx : -9223372036854775808 ≤ x ∧ x < 9223372036854775808) (hk : 0 < k ∧ k < 9223372036854775808) (w : World) :
    Calls Tryz.prog 13 #[.int .i64 x, .int .i64 k] w fun e w' => e = .returned (.int .i64 ((x.tmod k).natAbs : Int)) ∧ Below w.heap.size w w' ∧ w'.heap = w.heap := by
  have h1 := Int.tmod_lt_of_pos x hk.1
  have h2 := Int.lt_tmod_of_pos x hk.1
  have hk0 : (k == 0) = false := beq_eq_false_iff_ne.2 (by omega)
  go_enter Tryz.func13, Tryz.ntmps13
  go_wp2
  all_goals go_ret
  all_goals refine ⟨?_, Below.refl _ _, rfl⟩
  all_goals first | exact congrArg (fun z : Int => Ending.returned (Value.int .i64 z)) (show -x.tmod k = _ by omega) | exact congrArg (fun z : Int => Ending.returned (Value.int .i64 z)) (show x.tmod k = _ by omega)
open Go.Proofs.YtlpffldeogapmaaGreatDoor.Ev Go.MapKept
noncomputable section
theorem upto_true {f : Nat → R} : ∀ {n : Nat}, upto f n = true → ∀ j, j < n → f j = true
  | 0, _, j, hj => absurd hj (Nat.not_lt_zero j)
  | n + 1, e, j, hj => by
    have e : (Bool.rec (motive := fun _ => R) false (upto f n) (f n) : R) = true := e
    cases hf : f n with
    | false => rw [hf] at e; exact (Bool.false_ne_true e).elim
    | true =>
      rw [hf] at e
      rcases Nat.lt_succ_iff_lt_or_eq.1 hj with h | h
      · exact upto_true e j h
      · subst h; exact hf
def isUi (x : AV) : Bool := AV.rec (motive_1 := fun _ => Bool) (motive_2 := fun _ => Unit) false false (fun kd => Nat.beq (kc kd) (kc .i64)) (fun _ _ => false) (fun _ _ => false) (fun _ _ _ => false) (fun _ _ => false) (fun _ _ _ _ => false) (fun _ _ _ => false) (fun _ _ => false) false (fun _ _ => false) false false false false false (fun _ _ _ _ _ => false) (fun _ _ _ => false) (fun _ => false) (fun _ _ => false) (fun _ _ => false) (fun _ => false) (fun _ _ _ _ => false) (fun _ _ => false) (fun _ => false) (fun _ _ => false) () (fun _ _ _ _ => ()) x
def smallY (h : H) (k : AV → H → R) (y : AV) : R := AV.rec (motive_1 := fun _ => R) (motive_2 := fun _ => Unit) false false (fun _ => false) (fun _ _ => false) (fun _ _ => false) (fun _ _ _ => false) (fun _ _ => false) (fun _ _ _ _ => false) (fun _ _ _ => false) (fun _ _ => false) false (fun _ _ => false) false false false false false (fun _ _ _ _ _ => false) (fun _ _ _ => false) (fun _ => false) (fun _ _ => false) (fun _ _ => false) (fun _ => false) (fun _ _ _ _ => false) (fun _ _ => false) (fun _ => false) (fun kd n => keq kd .i64 (gd (Nat.blt 0 n) (gd (Nat.blt n 4611686018427387904) (upto (fun j => k (.i .i64 j) h) n)))) () (fun _ _ _ _ => ()) y
def isRg (x : AV) : Bool := AV.rec (motive_1 := fun _ => Bool) (motive_2 := fun _ => Unit) false false (fun _ => false) (fun _ _ => false) (fun _ _ => false) (fun kd _ _ => Nat.beq (kc kd) (kc .i64)) (fun _ _ => false) (fun _ _ _ _ => false) (fun _ _ _ => false) (fun _ _ => false) false (fun _ _ => false) false false false false false (fun _ _ _ _ _ => false) (fun _ _ _ => false) (fun _ => false) (fun _ _ => false) (fun _ _ => false) (fun _ => false) (fun _ _ _ _ => false) (fun _ _ => false) (fun _ => false) (fun _ _ => false) () (fun _ _ _ _ => ()) x
def smallZ (h : H) (k : AV → H → R) (y : AV) : R := AV.rec (motive_1 := fun _ => R) (motive_2 := fun _ => Unit) false false (fun _ => false) (fun _ _ => false) (fun _ _ => false) (fun _ _ _ => false) (fun _ _ => false) (fun _ _ _ _ => false) (fun _ _ _ => false) (fun _ _ => false) false (fun _ _ => false) false false false false false (fun _ _ _ _ _ => false) (fun _ _ _ => false) (fun _ => false) (fun _ _ => false) (fun _ _ => false) (fun _ => false) (fun _ _ _ _ => false) (fun _ _ => false) (fun _ => false) (fun kd n => keq kd .i64 (gd (Nat.blt 0 n) (gd (Nat.blt n 4611686018427387904) (k (.rg .i64 9223372036854775808 n) h)))) () (fun _ _ _ _ => ()) y
def smallX (cH : CH) (l : List AV) (h : H) (k : AV → H → R) (x : AV) : R := Bool.rec (motive := fun _ => R) (Bool.rec (motive := fun _ => R) ((body Tryz.prog pls 13).run cH l h k) (gd (Nat.beq (llen l) 2) (nth 1 l (smallZ h k))) (isRg x)) (gd (Nat.beq (llen l) 2) (nth 1 l (smallY h k))) (isUi x)
def smallW (j n : Nat) (h : H) (k : AV → H → R) (y : AV) : R := AV.rec (motive_1 := fun _ => R) (motive_2 := fun _ => Unit) false false (fun _ => false) (fun _ _ => false) (fun _ _ => false) (fun _ _ _ => false) (fun _ _ => false) (fun _ _ _ _ => false) (fun _ _ _ => false) (fun _ _ => false) false (fun _ _ => false) false false false false false (fun _ _ _ _ _ => false) (fun _ _ _ => false) (fun _ => false) (fun _ _ => false) (fun _ _ => false) (fun _ => false) (fun _ _ _ _ => false) (fun _ _ => false) (fun _ => false) (fun kd m => keq kd .i64 (gd (Nat.beq m n) (gd (Nat.blt 0 n) (gd (Nat.blt n 4611686018427387904) (gd (Nat.blt j n) (k (.i .i64 j) h)))))) () (fun _ _ _ _ => ()) y
def smD (f g : Nat → Nat → R) (d : R) (x : AV) : R := AV.rec (motive_1 := fun _ => R) (motive_2 := fun _ => Unit) d d (fun _ => d) (fun _ _ => d) (fun _ _ => d) (fun _ _ _ => d) f (fun _ _ _ _ => d) (fun _ _ _ => d) (fun _ _ => d) d g d d d d d (fun _ _ _ _ _ => d) (fun _ _ _ => d) (fun _ => d) (fun _ _ => d) (fun _ _ => d) (fun _ => d) (fun _ _ _ _ => d) (fun _ _ => d) (fun _ => d) (fun _ _ => d) () (fun _ _ _ _ => ()) x
theorem smD_true {f g : Nat → Nat → R} {d : R} {x : AV} (h : smD f g d x = true) : d = true ∨ (∃ j n, x = .sm j n ∧ f j n = true) ∨ ∃ j n, x = .sr j n ∧ g j n = true := by
  cases x <;> first | exact .inl h | exact .inr (.inl ⟨_, _, rfl, h⟩) | exact .inr (.inr ⟨_, _, rfl, h⟩)
def smallR (lo n : Nat) (h : H) (k : AV → H → R) (y : AV) : R := AV.rec (motive_1 := fun _ => R) (motive_2 := fun _ => Unit) false false (fun _ => false) (fun _ _ => false) (fun _ _ => false) (fun _ _ _ => false) (fun _ _ => false) (fun _ _ _ _ => false) (fun _ _ _ => false) (fun _ _ => false) false (fun _ _ => false) false false false false false (fun _ _ _ _ _ => false) (fun _ _ _ => false) (fun _ => false) (fun _ _ => false) (fun _ _ => false) (fun _ => false) (fun _ _ _ _ => false) (fun _ _ => false) (fun _ => false) (fun kd m => keq kd .i64 (gd (Nat.beq m n) (gd (Nat.blt lo n) (gd (Nat.blt n 4611686018427387904) (fc (fun l => fc (fun q => k (.rg .i64 l q) h) (Nat.sub n lo)) (Nat.add 9223372036854775808 lo)))))) () (fun _ _ _ _ => ()) y
def smallU (cH : CH) (l : List AV) (h : H) (k : AV → H → R) (x : AV) : R := smD (fun j n => gd (Nat.beq (llen l) 2) (nth 1 l (smallW j n h k))) (fun j n => gd (Nat.beq (llen l) 2) (nth 1 l (smallR j n h k))) (smallX cH l h k x) x
def smallS : FF := ⟨fun cH l h k => nth 0 l (smallU cH l h k)⟩
theorem Ext.same {ρ : Ren} {h : H} {w w' : World} (hb : Below 0 w w') (e : w'.heap = w.heap) : Ext ρ h w ρ h w' :=
  ⟨Sub.refl ρ, fun _ h => .inl h, fun _ _ _ => by rw [e], hb, fun _ _ h => ⟨h, rfl⟩, Nat.le_refl _⟩
theorem below_0 {B : Nat} {w w' : World} (h : Below B w w') : Below 0 w w' := ⟨h.os, h.tape, h.output, h.size, fun k hk => absurd hk (Nat.not_lt_zero k)⟩
theorem small_okX (cH : CH) (hc : CHok Tryz.prog cH) (args : List AV) (h : H) (F : AV → H → R) (x : AV) (hx : args[0]? = some x) (e : smallX cH args h F x = true) (ρ : Ren) (vs : Array Value) (w : World) (hr : HR ρ h w) (hv : VRs ρ args vs.toList) :
    Calls Tryz.prog 13 vs w fun e w' => ∃ v', e = .returned v' ∧ Res ρ h w F v' w' := by
  unfold smallX at e
  cases hq : isUi x with
  | false =>
    rw [hq] at e
    have e : (Bool.rec (motive := fun _ => R) ((body Tryz.prog pls 13).run cH args h F) (gd (Nat.beq (llen args) 2) (nth 1 args (smallZ h F))) (isRg x) : R) = true := e
    cases hg : isRg x with
    | false =>
      rw [hg] at e
      exact body_ok mixed_ok clone_ok all_ok _ cH hc args h F e ρ vs w hr hv
    | true =>
      rw [hg] at e
      obtain ⟨hl, e⟩ := gd_true e
      obtain ⟨y, hy, e⟩ := nth_true e
      obtain ⟨x', g1, g2⟩ := hv.at 0 x hx
      obtain ⟨y', g3, g4⟩ := hv.at 1 y hy
      have hn := hv.length
      rw [← llen_eq args, Nat.eq_of_beq_eq_true hl] at hn
      have hvs : vs = #[x', y'] := by
        apply Array.toList_inj.1
        match hvl : vs.toList, hn, g1, g3 with
        | [a, b], _, g1, g3 => simp at g1 g3; rw [g1, g3]
      subst hvs
      cases x <;> try exact (Bool.false_ne_true hg).elim
      case rg kd lo m =>
        have hkd : kd = .i64 := kc_inj (Nat.eq_of_beq_eq_true hg)
        subst hkd
        cases y <;> try exact (Bool.false_ne_true e).elim
        case i kd n =>
          obtain ⟨rfl, e⟩ := keq_true e
          obtain ⟨h1, e⟩ := gd_true e
          obtain ⟨h2, e⟩ := gd_true e
          have h1 : 0 < n := by simpa [Nat.blt_eq] using h1
          have h2 : n < 4611686018427387904 := by simpa [Nat.blt_eq] using h2
          simp only [VR] at g2
          obtain ⟨q, rfl, _⟩ := g2
          obtain ⟨_, rfl⟩ := VR_i g4
          have hw : IntKind.i64.wrap (n : Int) = (n : Int) := by rw [IntKind.wrap_i64]; omega
          rw [hw]
          have hq1 : -9223372036854775808 ≤ IntKind.i64.wrap q ∧ IntKind.i64.wrap q < 9223372036854775808 := by rw [IntKind.wrap_i64]; omega
          refine (small_calls _ (n : Int) hq1 (by omega) w).mono ?_
          rintro e_ w' ⟨j, rfl, j0, j1, jb, jh⟩
          refine ⟨_, rfl, .rg .i64 9223372036854775808 n, h, ρ, e, hr.same jh, Ext.same (below_0 jb) jh, ?_⟩
          have hj : IntKind.i64.wrap j = j := by rw [IntKind.wrap_i64]; omega
          have hf : (hf IntKind.i64 : Int) = 9223372036854775808 := rfl
          simp only [VR]
          exact ⟨j, by rw [hj], .inr (by rw [hj, hf]; omega)⟩
  | true =>
    rw [hq] at e
    obtain ⟨hl, e⟩ := gd_true e
    obtain ⟨y, hy, e⟩ := nth_true e
    obtain ⟨x', g1, g2⟩ := hv.at 0 x hx
    obtain ⟨y', g3, g4⟩ := hv.at 1 y hy
    have hn := hv.length
    rw [← llen_eq args, Nat.eq_of_beq_eq_true hl] at hn
    have hvs : vs = #[x', y'] := by
      apply Array.toList_inj.1
      match hvl : vs.toList, hn, g1, g3 with
      | [a, b], _, g1, g3 => simp at g1 g3; rw [g1, g3]
    subst hvs
    cases x <;> try exact (Bool.false_ne_true hq).elim
    case ui kd =>
      have hkd : kd = .i64 := kc_inj (Nat.eq_of_beq_eq_true hq)
      subst hkd
      cases y <;> try exact (Bool.false_ne_true e).elim
      case i kd n =>
        obtain ⟨rfl, e⟩ := keq_true e
        obtain ⟨h1, e⟩ := gd_true e
        obtain ⟨h2, e⟩ := gd_true e
        have h1 : 0 < n := by simpa [Nat.blt_eq] using h1
        have h2 : n < 4611686018427387904 := by simpa [Nat.blt_eq] using h2
        obtain ⟨q, rfl⟩ : ∃ q : Int, x' = .int .i64 (IntKind.i64.wrap q) := by simpa only [VR] using g2
        obtain ⟨_, rfl⟩ := VR_i g4
        have hw : IntKind.i64.wrap (n : Int) = (n : Int) := by rw [IntKind.wrap_i64]; omega
        rw [hw]
        have hq1 : -9223372036854775808 ≤ IntKind.i64.wrap q ∧ IntKind.i64.wrap q < 9223372036854775808 := by rw [IntKind.wrap_i64]; omega
        refine (small_calls _ (n : Int) hq1 (by omega) w).mono ?_
        rintro e_ w' ⟨j, rfl, j0, j1, jb, jh⟩
        refine ⟨_, rfl, .i .i64 j.toNat, h, ρ, upto_true e j.toNat (by omega), hr.same jh, Ext.same (below_0 jb) jh, ?_⟩
        have := i64_small (ρ := ρ) (n := j.toNat) (by omega)
        rwa [Int.toNat_of_nonneg j0] at this
theorem small_ok : FnOk Tryz.prog 13 smallS := by
  intro cH hc args h F e ρ vs w hr hv
  obtain ⟨x, hx, e⟩ := nth_true (n := 0) (l := args) (f := smallU cH args h F) e
  rcases smD_true (show smD (fun j n => gd (Nat.beq (llen args) 2) (nth 1 args (smallW j n h F))) (fun j n => gd (Nat.beq (llen args) 2) (nth 1 args (smallR j n h F))) (smallX cH args h F x) x = true from e) with e | ⟨j, n, rfl, e⟩ | ⟨lo, n, rfl, e⟩
  · exact small_okX cH hc args h F _ hx e ρ vs w hr hv
  · obtain ⟨hl, e⟩ := gd_true e
    obtain ⟨y, hy, e⟩ := nth_true e
    obtain ⟨x', g1, g2⟩ := hv.at 0 _ hx
    obtain ⟨y', g3, g4⟩ := hv.at 1 y hy
    have hn := hv.length
    rw [← llen_eq args, Nat.eq_of_beq_eq_true hl] at hn
    have hvs : vs = #[x', y'] := by
      apply Array.toList_inj.1
      match hvl : vs.toList, hn, g1, g3 with
      | [a, b], _, g1, g3 => simp at g1 g3; rw [g1, g3]
    subst hvs
    cases y <;> try exact (Bool.false_ne_true e).elim
    case i kd m =>
      obtain ⟨rfl, e⟩ := keq_true e
      obtain ⟨h0, e⟩ := gd_true e
      obtain ⟨h1, e⟩ := gd_true e
      obtain ⟨h2, e⟩ := gd_true e
      obtain ⟨h3, eF⟩ := gd_true e
      obtain rfl := Nat.eq_of_beq_eq_true h0
      have h1 : 0 < m := by simpa [Nat.blt_eq] using h1
      have h2 : m < 4611686018427387904 := by simpa [Nat.blt_eq] using h2
      have h3 : j < m := by simpa [Nat.blt_eq] using h3
      simp only [VR] at g2
      obtain ⟨q, rfl, hj⟩ := g2
      obtain ⟨_, rfl⟩ := VR_i g4
      have hw : IntKind.i64.wrap (m : Int) = (m : Int) := by rw [IntKind.wrap_i64]; omega
      rw [hw]
      have hq1 : -9223372036854775808 ≤ IntKind.i64.wrap q ∧ IntKind.i64.wrap q < 9223372036854775808 := by rw [IntKind.wrap_i64]; omega
      refine (small_exact _ (m : Int) hq1 (by omega) w).mono ?_
      rintro e_ w' ⟨rfl, jb, jh⟩
      refine ⟨_, rfl, .i .i64 j, h, ρ, eF, hr.same jh, Ext.same (below_0 jb) jh, ?_⟩
      rw [hj]
      exact i64_small (ρ := ρ) (n := j) (by omega)
  · obtain ⟨hl, e⟩ := gd_true e
    obtain ⟨y, hy, e⟩ := nth_true e
    obtain ⟨x', g1, g2⟩ := hv.at 0 _ hx
    obtain ⟨y', g3, g4⟩ := hv.at 1 y hy
    have hn := hv.length
    rw [← llen_eq args, Nat.eq_of_beq_eq_true hl] at hn
    have hvs : vs = #[x', y'] := by
      apply Array.toList_inj.1
      match hvl : vs.toList, hn, g1, g3 with
      | [a, b], _, g1, g3 => simp at g1 g3; rw [g1, g3]
    subst hvs
    cases y <;> try exact (Bool.false_ne_true e).elim
    case i kd m =>
      obtain ⟨rfl, e⟩ := keq_true e
      obtain ⟨h0, e⟩ := gd_true e
      obtain ⟨h1, e⟩ := gd_true e
      obtain ⟨h2, eF⟩ := gd_true e
      have eF : F (.rg .i64 (9223372036854775808 + lo) (n - lo)) h = true := eF
      obtain rfl := Nat.eq_of_beq_eq_true h0
      have h1 : lo < m := by simpa [Nat.blt_eq] using h1
      have h2 : m < 4611686018427387904 := by simpa [Nat.blt_eq] using h2
      simp only [VR] at g2
      obtain ⟨q, rfl, hj⟩ := g2
      obtain ⟨_, rfl⟩ := VR_i g4
      have hw : IntKind.i64.wrap (m : Int) = (m : Int) := by rw [IntKind.wrap_i64]; omega
      rw [hw]
      have hq1 : -9223372036854775808 ≤ IntKind.i64.wrap q ∧ IntKind.i64.wrap q < 9223372036854775808 := by rw [IntKind.wrap_i64]; omega
      have t1 := Int.tmod_lt_of_pos (IntKind.i64.wrap q) (show (0 : Int) < m by omega)
      have t2 := Int.lt_tmod_of_pos (IntKind.i64.wrap q) (show (0 : Int) < m by omega)
      refine (small_exact _ (m : Int) hq1 (by omega) w).mono ?_
      rintro e_ w' ⟨rfl, jb, jh⟩
      refine ⟨_, rfl, .rg .i64 (9223372036854775808 + lo) (m - lo), h, ρ, eF, hr.same jh, Ext.same (below_0 jb) jh, ?_⟩
      obtain ⟨u, hu⟩ : ∃ u, ((IntKind.i64.wrap q).tmod m).natAbs = u := ⟨_, rfl⟩
      have hu2 : u < m := by omega
      rw [hu] at hj ⊢
      have hwu : IntKind.i64.wrap (u : Int) = (u : Int) := by rw [IntKind.wrap_i64]; omega
      have hf : (hf IntKind.i64 : Int) = 9223372036854775808 := rfl
      simp only [VR]
      exact ⟨(u : Int), by rw [hwu], .inr (by rw [hwu, hf]; omega)⟩
end
end Go.Proofs.YtlpffldeogapmaaGreatDoor.EvZ
