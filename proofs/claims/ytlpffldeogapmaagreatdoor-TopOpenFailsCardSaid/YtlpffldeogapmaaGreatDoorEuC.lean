/- disk.FS.Used in the evaluator. -/
import Derived.Test.YtlpffldeogapmaaGreatDoorProg
import Derived.Below
import Derived.Deep.Draws
import Derived.Deep.AppendLies
import Derived.Maps.AppendAt
import Derived.OwnWalk
import Derived.Laws.BytesArg
import Derived.Laws.MakeOwn
import Derived.Laws.OwnMore
import Derived.Deep.OwnRows
import Derived.Tactics
import Derived.Lib.ConvBytes
import Derived.Laws.Slices
import Derived.WalkKit
import Derived.KernelRfl
import Derived.RowKit3
import Derived.Deep.LoopGhost
import Derived.Deep.QuietTactic
import Derived.BigQuiet
import Derived.WideLaws
import Derived.Deep.DeepCutAuto
import Derived.Deep.CutBlock
import Derived.Deep.RegionHeld3
import Derived.Laws.Rows
import Derived.Lib.AppendStr
import Derived.ArgAppend
import Derived.Laws.IdiomCopy
import Derived.OrdersHeld
import Derived.Laws.BitsLemmas
import Derived.RowKit
import Derived.WalkSpells
import Derived.Outline
import Derived.Test.YtlpffldeogapmaaGreatDoorEuB
namespace Go.Proofs.YtlpffldeogapmaaGreatDoor.EuC
open Go.RowKit Go.Proofs.YtlpffldeogapmaaGreatDoor.Ev Go.Proofs.YtlpffldeogapmaaGreatDoor.EuB
set_option linter.unusedSimpArgs false
set_option linter.unusedVariables false

open Go.MapKept
set_option linter.unusedSectionVars false
variable [GO]
noncomputable section
def avM (f : Nat → R) (x : AV) : R := AV.rec (motive_1 := fun _ => R) (motive_2 := fun _ => Unit) false false (fun _ => false) (fun _ _ => false) (fun _ _ => false) (fun _ _ _ => false) (fun _ _ => false) (fun _ _ _ _ => false) (fun _ _ _ => false) (fun _ _ => false) false (fun _ _ => false) false false false false false (fun _ _ _ _ _ => false) (fun _ _ _ => false) f (fun _ _ => false) (fun _ _ => false) (fun _ => false) (fun _ _ _ _ => false) (fun _ _ => false) (fun _ => false) (fun _ _ => false) () (fun _ _ _ _ => ()) x
def avLen (f : Nat → R) (x : AV) : R := AV.rec (motive_1 := fun _ => R) (motive_2 := fun _ => Unit) false false (fun _ => false) (fun _ _ => false) (fun _ _ => false) (fun _ _ _ => false) (fun _ _ => false) (fun _ _ _ _ => false) (fun _ _ _ => false) (fun _ _ => false) false (fun _ _ => false) false false false false (f 0) (fun _ _ _ _ _ => false) (fun _ _ _ => false) (fun _ => false) (fun _ _ => false) (fun _ _ => false) (fun _ => false) (fun _ _ n _ => f n) (fun _ _ => false) (fun _ => false) (fun _ _ => false) () (fun _ _ _ _ => ()) x
def foldU (h : H) (es : List ME) : Nat → (Nat → R) → R := List.rec (motive := fun _ => Nat → (Nat → R) → R) (fun n f => f n) (fun e _ ih n f => ME.rec (motive := fun _ => R) (fun _ v _ => onP (fun b o => ldc h b o (avLen (fun m => fc (fun m => ih m f) (Nat.add n m)))) v) e) es
def lenOf (w : World) (v : Value) : Nat :=
  match v with
  | .pointer (some A) => match w.cell? A with | some (.slice _ n _) => n | _ => 0
  | _ => 0
theorem avLen_true {f : Nat → R} {x : AV} (h : avLen f x = true) {ρ : Ren} {v : Value} (hv : VR ρ x v) : ∃ q n c, v = .slice q n c ∧ f n = true := by
  cases x <;> try exact (Bool.false_ne_true h).elim
  case sl0 =>
    have : v = .slice none 0 0 := by simpa only [VR] using hv
    exact ⟨none, 0, 0, this, h⟩
  case sl b o n c =>
    simp only [VR] at hv
    obtain ⟨l, a, c', h1, h2, _⟩ := hv
    exact ⟨some a, n, c', h2, h⟩
theorem foldU_true {h : H} {ρ : Ren} {w : World} (hb : HB ρ h w) : ∀ {es : List ME} {arr : List MapEntry} {n : Nat} {F : Nat → R}, foldU h es n F = true → MERs ρ es arr →
    F (n + (arr.map fun e => lenOf w e.val).sum) = true ∧ ∀ x ∈ arr, ∃ (l o : Nat) (q : Option Addr) (m c : Nat), x.val = .pointer (some ⟨l, o, none⟩) ∧ w.cell? ⟨l, o, none⟩ = some (.slice q m c) ∧ lenOf w x.val = m
  | [], arr, n, F, e, hm => by
    have : arr = [] := hm
    subst this
    exact ⟨e, fun x hx => by cases hx⟩
  | .mk k v b :: es, arr, n, F, e, hm => by
    obtain ⟨en, r, rfl, h1, h2⟩ := hm
    obtain ⟨bl, o, rfl, e⟩ := onP_true (show onP (fun b o => ldc h b o (avLen (fun m => fc (fun m => foldU h es m F) (Nat.add n m)))) v = true from e)
    obtain ⟨d, t, nn, z, hk, ho, e⟩ := ldc_true e
    have hvp := h1.2.1
    simp only [VR] at hvp
    obtain ⟨l, hl, hval⟩ := hvp
    obtain ⟨u, hc, hu, _⟩ := cell_at hb hl hk ho
    obtain ⟨q, m, c, rfl, e⟩ := avLen_true e hu
    obtain ⟨g1, g2⟩ := foldU_true hb (n := n + m) e h2
    have hlen : lenOf w en.val = m := by rw [hval]; simp [lenOf, hc]
    refine ⟨?_, fun x hx => ?_⟩
    · simp only [List.map_cons, List.sum_cons, hlen]
      rw [show n + (m + (r.map fun e => lenOf w e.val).sum) = n + m + (r.map fun e => lenOf w e.val).sum by omega]
      exact g1
    · rcases List.mem_cons.1 hx with rfl | hx
      · exact ⟨l.B, l.O + o, q, m, c, hval, hc, hlen⟩
      · exact g2 x hx
def notIn (n : Nat) (l : List ME) : Bool := List.rec (motive := fun _ => Bool) true (fun e _ ih => ME.rec (motive := fun _ => Bool) (fun _ _ m => and (not (Nat.beq n m)) ih) e) l
def bornB (c : Nat) (l : List ME) : Bool := List.rec (motive := fun _ => Bool) true (fun e t ih => ME.rec (motive := fun _ => Bool) (fun _ _ n => and (Nat.blt n c) (and (notIn n t) ih)) e) l
theorem notIn_true {ρ : Ren} {n : Nat} : ∀ {l : List ME} {arr : List MapEntry}, notIn n l = true → MERs ρ l arr → n ∉ arr.map (·.born)
  | [], arr, _, hm => by have : arr = [] := hm; subst this; simp
  | .mk k v b :: l, arr, e, hm => by
    obtain ⟨en, r, rfl, h1, h2⟩ := hm
    obtain ⟨e1, e2⟩ := and_t (show and (not (Nat.beq n b)) (notIn n l) = true from e)
    have := notIn_true e2 h2
    have hb : en.born = b := h1.2.2
    simp only [List.map_cons, List.mem_cons, not_or]
    refine ⟨fun q => ?_, this⟩
    rw [hb] at q; subst q
    rw [Nat.beq_refl] at e1; cases e1
theorem bornB_true {ρ : Ren} {c : Nat} : ∀ {l : List ME} {arr : List MapEntry}, bornB c l = true → MERs ρ l arr → (∀ x ∈ arr, x.born < c) ∧ (arr.map (·.born)).Nodup
  | [], arr, _, hm => by have : arr = [] := hm; subst this; simp
  | .mk k v b :: l, arr, e, hm => by
    obtain ⟨en, r, rfl, h1, h2⟩ := hm
    obtain ⟨e1, e2⟩ := and_t (show and (Nat.blt b c) (and (notIn b l) (bornB c l)) = true from e)
    obtain ⟨e2, e3⟩ := and_t e2
    obtain ⟨g1, g2⟩ := bornB_true e3 h2
    have hb : en.born = b := h1.2.2
    refine ⟨fun x hx => ?_, ?_⟩
    · rcases List.mem_cons.1 hx with rfl | hx
      · rw [hb]; simpa [Nat.blt_eq] using e1
      · exact g1 x hx
    · simp only [List.map_cons, List.nodup_cons]
      exact ⟨by rw [hb]; exact notIn_true e2 h2, g2⟩
theorem seenF_nat (g : MapEntry → Nat) (seen : Array Nat) : ∀ es : List MapEntry, 0 ≤ seenF (fun e => (g e : Int)) es seen ∧ seenF (fun e => (g e : Int)) es seen ≤ ((es.map g).sum : Nat)
  | [] => ⟨by simp [seenF], by simp [seenF]⟩
  | e :: es => by
    obtain ⟨h1, h2⟩ := seenF_nat g seen es
    simp only [seenF, List.map_cons, List.sum_cons] at h1 h2 ⊢
    split <;> constructor <;> omega
theorem sum_cast (g : MapEntry → Nat) : ∀ es : List MapEntry, (es.map fun e => (g e : Int)).sum = ((es.map g).sum : Nat)
  | [] => rfl
  | e :: es => by simp only [List.map_cons, List.sum_cons, sum_cast g es]; omega
theorem avM_true {f : Nat → R} {x : AV} (h : avM f x = true) : ∃ r, x = .m r ∧ f r = true := by
  cases x <;> first | exact (Bool.false_ne_true h).elim | exact ⟨_, rfl, h⟩
theorem HR.alloc {ρ : Ren} {h : H} {w w' : World} {o : Obj} (a : HR ρ h w) (e : w'.heap = w.heap.push o) : HR ρ h w' :=
  ⟨a.dom, fun b l h1 h2 => by
    obtain ⟨ob, g1, g2⟩ := a.blk b l h1 h2
    have := (Array.getElem?_eq_some_iff.1 g1).1
    exact ⟨ob, by rw [e, Array.getElem?_push, if_neg (by omega)]; exact g1, g2⟩, a.inj, a.cl⟩
theorem Ext.alloc {ρ : Ren} {h : H} {w w' : World} {o : Obj} (e : w'.heap = w.heap.push o) (hb : Below 0 w w') : Ext ρ h w ρ h w' :=
  ⟨Sub.refl ρ, fun _ h => .inl h, fun B hB _ => by rw [e, Array.getElem?_push, if_neg (by omega)], hb, fun _ _ h => ⟨h, rfl⟩, Nat.le_refl _⟩
def usedM (h : H) (k : AV → H → R) (es : List ME) (c : Nat) : R := gd (bornB c es) (foldU h es 0 (fun n => gd (Nat.blt n 4611686018427387904) (k (.i .i64 n) h)))
def usedP (h : H) (k : AV → H → R) (b o : Nat) : R := ldc h b (Nat.add o 1) (avM (fun r => ldM h r (usedM h k)))
def usedS : FF := ⟨fun _ l h k => gd (Nat.beq (llen l) 1) (nth 0 l (onP (usedP h k)))⟩
theorem used_ok : FnOk Tryz.prog 197 usedS := by
  intro cH hc args h F e ρ vs w hr hv
  obtain ⟨hl1, e⟩ := gd_true (show gd (Nat.beq (llen args) 1) (nth 0 args (onP (usedP h F))) = true from e)
  obtain ⟨x, hx, e⟩ := nth_true e
  obtain ⟨b, o, rfl, e⟩ := onP_true e
  obtain ⟨x', g1, g2⟩ := hv.at 0 _ hx
  have hn := hv.length
  rw [← llen_eq args, Nat.eq_of_beq_eq_true hl1] at hn
  have hvs : vs = #[x'] := by
    apply Array.toList_inj.1
    match hvl : vs.toList, hn, g1 with
    | [a], _, g1 => simp at g1; rw [g1]
  subst hvs
  simp only [VR] at g2
  obtain ⟨l, hl, rfl⟩ := g2
  obtain ⟨d, t, n, z, hk, ho, e⟩ := ldc_true (show ldc h b (o + 1) (avM (fun r => ldM h r (usedM h F))) = true from e)
  obtain ⟨v, hcv, hvv, _⟩ := cell_at hr.blk hl hk ho
  obtain ⟨r, hrm, e⟩ := avM_true e
  rw [hrm] at hvv
  simp only [VR] at hvv
  obtain ⟨l2, hl2, rfl⟩ := hvv
  obtain ⟨es, c, hat, e⟩ := ldM_true e
  obtain ⟨arr, hheap, hms⟩ := map_at hr.blk hl2 hat
  obtain ⟨e1, e⟩ := gd_true (show gd (bornB c es) (foldU h es 0 (fun n => gd (Nat.blt n 4611686018427387904) (F (.i .i64 n) h))) = true from e)
  obtain ⟨b1, b2⟩ := bornB_true e1 hms
  obtain ⟨e2, f1⟩ := foldU_true hr.blk e hms
  obtain ⟨e3, e4⟩ := gd_true e2
  rw [Nat.zero_add] at e3 e4
  have e3 : (arr.toList.map fun e => lenOf w e.val).sum < 4611686018427387904 := by simpa [Nat.blt_eq] using e3
  have hcall := used_calls l.B (l.O + o) l2.B arr c (fun e => (lenOf w e.val : Int)) w hcv hheap ⟨b1, b2, trivial⟩
    (fun x hx => by
      obtain ⟨p, q, a, m, k, k1, k2, k3⟩ := f1 x hx
      exact ⟨p, q, a, m, k, k1, k2, by simp only [k3]⟩)
    (fun seen => by
      obtain ⟨q1, q2⟩ := seenF_nat (fun e => lenOf w e.val) seen arr.toList
      exact ⟨q1, by omega⟩)
  refine hcall.mono ?_
  rintro e_ w' ⟨rfl, w1, seen, hal, htp, rfl⟩
  have hh : (w1.alloc (.mapIter (some l2.B) c seen c)).heap = w.heap.push (.mapIter (some l2.B) c seen c) := by show w1.heap.push _ = _; rw [hal.1]
  refine ⟨_, rfl, _, h, ρ, e4, HR.alloc hr hh, Ext.alloc hh ⟨hal.2.1, htp, hal.2.2, by rw [hh]; simp, fun k hk => absurd hk (Nat.not_lt_zero k)⟩, ?_⟩
  rw [sum_cast (fun e => lenOf w e.val)]
  exact i64_small (by omega)
end
end Go.Proofs.YtlpffldeogapmaaGreatDoor.EuC
