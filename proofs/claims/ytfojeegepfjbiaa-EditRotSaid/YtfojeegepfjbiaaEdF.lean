/- What an edit is written as: plain facts. -/
import Derived.Test.YtfojeegepfjbiaaProg
import Derived.Below
import Derived.Deep.Draws
import Derived.Deep.AppendLies
import Derived.Maps.AppendAt
import Derived.OwnWalk
import Derived.Laws.BytesArg
import Derived.Laws.MakeOwn
import Derived.Laws.OwnMore
import Derived.Deep.OwnRows
import Derived.Tactics
import Derived.Lib.ConvBytes
import Derived.Laws.Slices
import Derived.WalkKit
import Derived.KernelRfl
import Derived.RowKit3
import Derived.Deep.LoopGhost
import Derived.Deep.QuietTactic
import Derived.BigQuiet
import Derived.WideLaws
import Derived.Deep.DeepCutAuto
import Derived.Deep.CutBlock
import Derived.Deep.RegionHeld3
import Derived.Laws.Rows
import Derived.Lib.AppendStr
import Derived.ArgAppend
import Derived.Laws.IdiomCopy
import Derived.OrdersHeld
import Derived.Laws.BitsLemmas
import Derived.RowKit
import Derived.WalkSpells
import Derived.Outline
import Derived.Test.YtfojeegepfjbiaaWWords
import Derived.Test.YtfojeegepfjbiaaWLast
import Derived.Test.YtfojeegepfjbiaaWMore
import Derived.Test.YtfojeegepfjbiaaWArr
import Derived.Test.YtfojeegepfjbiaaWTab
import Derived.Test.YtfojeegepfjbiaaWZeros
import Derived.Test.YtfojeegepfjbiaaWRepsOne
import Derived.Test.YtfojeegepfjbiaaEdE
namespace Go.Proofs.Ytfojeegepfjbiaa.EdF
open Go.RowKit Go.Proofs.YtfojeegepfjbiaaW.PrintWords Go.Proofs.YtfojeegepfjbiaaW.PrintLast Go.Proofs.YtfojeegepfjbiaaW.PrintMore Go.Proofs.Ytfojeegepfjbiaa.Mix Go.Proofs.Ytfojeegepfjbiaa.MixB Go.Proofs.Ytfojeegepfjbiaa.MixT Go.Proofs.Ytfojeegepfjbiaa.Nm Go.Proofs.Ytfojeegepfjbiaa.NmA Go.Proofs.Ytfojeegepfjbiaa.NmH Go.Proofs.Ytfojeegepfjbiaa.EdZ Go.Proofs.Ytfojeegepfjbiaa.EdA Go.Proofs.Ytfojeegepfjbiaa.EdB Go.Proofs.Ytfojeegepfjbiaa.EdC Go.Proofs.Ytfojeegepfjbiaa.EdD Go.Proofs.Ytfojeegepfjbiaa.EdE
set_option linter.unusedSimpArgs false
set_option linter.unusedVariables false
attribute [local go_sem] max2_int min2_int max_two min_two

theorem in_iff (lo hi : Int) (xs : List Int) : inL lo hi xs = true ↔ ∀ n ∈ xs, lo ≤ n ∧ n ≤ hi := by
  unfold inL
  rw [Bool.not_eq_true', List.any_eq_false]
  constructor
  · intro h n hn
    have := h n hn
    unfold offB at this
    simp only [Bool.or_eq_true, decide_eq_true_eq, not_or] at this
    omega
  · intro h n hn
    have := h n hn
    unfold offB
    simp only [Bool.or_eq_true, decide_eq_true_eq, not_or]
    omega
theorem in_one (lo hi n : Int) : inL lo hi [n] = true ↔ lo ≤ n ∧ n ≤ hi := by rw [in_iff]; simp
theorem seg_iff (s : SegT) : segOk s = true ↔ (1 ≤ s.1 ∧ s.1 ≤ 1125899906842624) ∧ (0 ≤ s.2.2.1 ∧ s.2.2.1 ≤ 1125899906842624) ∧ (0 ≤ s.2.2.2.1 ∧ s.2.2.2.1 ≤ 3) ∧ 0 ≤ s.2.2.2.2.1 ∧ s.2.2.2.2.1 ≤ 4194304 := by
  unfold segOk
  simp only [Bool.and_eq_true, in_one]
theorem parF_iff (ns zs : List Int) : ∀ (q i : Nat), parF ns zs q i = true ↔ ∀ k, i ≤ k → k < i + q → (ns.take k).contains (ns.getD k 0) = false ∧ 0 ≤ zs.getD k 0 ∧ zs.getD k 0 ≤ 4194304 := by
  intro q
  induction q with
  | zero => intro i; simp only [parF, true_iff]; intro k h1 h2; omega
  | succ q ih =>
    intro i
    unfold parF
    rw [Bool.and_eq_true, Bool.and_eq_true, ih, in_one, Bool.not_eq_true']
    constructor
    · rintro ⟨h1, h2, h3⟩ k hk1 hk2
      by_cases e : k = i
      · subst e; exact ⟨h1, h2⟩
      · exact h3 k (by omega) (by omega)
    · intro h
      exact ⟨(h i (Nat.le_refl _) (by omega)).1, (h i (Nat.le_refl _) (by omega)).2, fun k h1 h2 => h k (by omega) (by omega)⟩
theorem par_iff (p : ParT) : parOk p = true ↔ (1 ≤ p.2.1.length ∧ p.2.1.length ≤ 3) ∧ p.2.2.1.length = p.2.1.length ∧ (∀ n ∈ p.2.1, 1 ≤ n ∧ n ≤ 1125899906842624) ∧ (1 ≤ p.1 ∧ p.1 ≤ 1125899906842624) ∧ (0 ≤ p.2.2.2.1 ∧ p.2.2.2.1 ≤ 4194304) ∧
    ∀ k, k < p.2.1.length → (p.2.1.take k).contains (p.2.1.getD k 0) = false ∧ 0 ≤ p.2.2.1.getD k 0 ∧ p.2.2.1.getD k 0 ≤ 4194304 := by
  unfold parOk
  split
  · constructor
    · intro h; simp at h
    · intro h; omega
  · split
    · constructor
      · intro h; simp at h
      · intro h; omega
    · split
      · constructor
        · intro h; simp at h
        · intro h; omega
      · rw [Bool.and_eq_true, Bool.and_eq_true, Bool.and_eq_true, in_iff, in_one, in_one, parF_iff]
        constructor
        · rintro ⟨h1, h2, h3, h4⟩
          exact ⟨by omega, by omega, h1, h2, h3, fun k hk => h4 k (Nat.zero_le _) (by omega)⟩
        · rintro ⟨_, _, h1, h2, h3, h4⟩
          exact ⟨h1, h2, h3, fun k _ hk => h4 k (by omega)⟩
theorem ed_iff (e : EdT) : edOk e = true ↔ (0 ≤ e.1 ∧ e.1 ≤ 1125899906842624 ∧ 0 ≤ e.2.1 ∧ e.2.1 ≤ 1125899906842624) ∧ (e.2.2.1.length ≤ 60 ∧ e.2.2.2.1.length ≤ 60 ∧ e.2.2.2.2.1.length ≤ 60 ∧ e.2.2.2.2.2.length ≤ 60) ∧
    (∀ n ∈ e.2.2.2.1, 1 ≤ n ∧ n ≤ 1125899906842624) ∧ (∀ n ∈ e.2.2.2.2.2, 1 ≤ n ∧ n ≤ 1125899906842624) ∧ (∀ s ∈ e.2.2.1, segOk s = true) ∧ ∀ p ∈ e.2.2.2.2.1, parOk p = true := by
  unfold edOk
  simp only [Bool.and_eq_true, in_iff, decide_eq_true_eq, Bool.not_eq_true', List.any_eq_false, segNo, parNo, List.mem_cons, List.not_mem_nil, or_false, forall_eq_or_imp, forall_eq, Bool.not_eq_true, Bool.not_eq_false']
  constructor
  · rintro ⟨h1, h2, h3, h4, h5, h6⟩
    exact ⟨by omega, by omega, h3, h4, fun s hs => by simpa using h5 s hs, fun s hs => by simpa using h6 s hs⟩
  · rintro ⟨h1, h2, h3, h4, h5, h6⟩
    exact ⟨by omega, by omega, h3, h4, fun s hs => by simpa using h5 s hs, fun s hs => by simpa using h6 s hs⟩
def truthN (b : Bool) : Int := if b then 1 else 0
def segN (s : SegT) : List Int := [s.1, truthN s.2.1, s.2.2.1, s.2.2.2.1, s.2.2.2.2.1, s.2.2.2.2.2]
def zipN (ns zs : List Int) : List Int := (ns.zip zs).flatMap (fun x => [x.1, x.2])
def parN (p : ParT) : List Int := (([p.1, (p.2.1.length : Int)]) ++ zipN p.2.1 p.2.2.1) ++ [p.2.2.2.1, p.2.2.2.2]
/-- The numbers that an edit is written as. -/
def edN (e : EdT) : List Int := (((((([e.1, e.2.1, (e.2.2.1.length : Int)] ++ e.2.2.1.flatMap segN) ++ [(e.2.2.2.1.length : Int)]) ++ e.2.2.2.1) ++ [(e.2.2.2.2.1.length : Int)]) ++ e.2.2.2.2.1.flatMap parN) ++ [(e.2.2.2.2.2.length : Int)]) ++ e.2.2.2.2.2
/-- Sums that are sums. -/
def edGood (e : EdT) : Prop := (∀ s ∈ e.2.2.1, 0 ≤ s.2.2.2.2.2 ∧ s.2.2.2.2.2 < 4294967296) ∧ ∀ p ∈ e.2.2.2.2.1, 0 ≤ p.2.2.2.2 ∧ p.2.2.2.2 < 4294967296
theorem nums_app {xs ys : List Int} (h : Nums xs) (k : Nums ys) : Nums (xs ++ ys) := by
  intro n hn
  rcases List.mem_append.1 hn with hn | hn
  · exact h n hn
  · exact k n hn
theorem nums_segN {s : SegT} (h : segOk s = true) (hg : 0 ≤ s.2.2.2.2.2 ∧ s.2.2.2.2.2 < 4294967296) : Nums (segN s) := by
  rw [seg_iff] at h
  intro n hn
  unfold segN truthN at hn
  simp only [List.mem_cons, List.not_mem_nil, or_false] at hn
  rcases hn with rfl | rfl | rfl | rfl | rfl | rfl
  · omega
  · split <;> omega
  · omega
  · omega
  · omega
  · omega
theorem zip_len {ns zs : List Int} (h : zs.length = ns.length) : (zipN ns zs).length = 2 * ns.length := by
  induction ns generalizing zs with
  | nil => simp [zipN]
  | cons n ns ih =>
    cases zs with
    | nil => simp at h
    | cons z zs =>
      have := ih (zs := zs) (by simpa using h)
      unfold zipN at this ⊢
      rw [List.zip_cons_cons, List.flatMap_cons, List.length_append, this]
      simp
      omega
theorem zip_take {ns zs : List Int} (h : zs.length = ns.length) {i : Nat} (hi : i < ns.length) : zipN (ns.take (i + 1)) (zs.take (i + 1)) = zipN (ns.take i) (zs.take i) ++ [ns.getD i 0, zs.getD i 0] := by
  have hz : (ns.take i).length = (zs.take i).length := by rw [List.length_take, List.length_take]; omega
  unfold zipN
  rw [take_getD (d := 0) hi, take_getD (d := 0) (xs := zs) (by omega), List.zip_append hz, List.flatMap_append]
  rfl
theorem nums_zip {ns zs : List Int} (h1 : ∀ n ∈ ns, 0 ≤ n ∧ n < 9223372036854775808) (h2 : ∀ n ∈ zs, 0 ≤ n ∧ n < 9223372036854775808) : Nums (zipN ns zs) := by
  intro n hn
  unfold zipN at hn
  rw [List.mem_flatMap] at hn
  obtain ⟨⟨a, b⟩, hab, hn⟩ := hn
  have ha := List.of_mem_zip hab
  simp only [List.mem_cons, List.not_mem_nil, or_false] at hn
  rcases hn with rfl | rfl
  · exact h1 _ ha.1
  · exact h2 _ ha.2
theorem par_sizes {p : ParT} (h : parOk p = true) : ∀ n ∈ p.2.2.1, 0 ≤ n ∧ n ≤ 4194304 := by
  rw [par_iff] at h
  intro n hn
  obtain ⟨i, hi, rfl⟩ := List.mem_iff_getElem.1 hn
  have := (h.2.2.2.2.2 i (by omega)).2
  rw [List.getD_eq_getElem?_getD, List.getElem?_eq_getElem hi] at this
  exact this
theorem nums_parN {p : ParT} (h : parOk p = true) (hg : 0 ≤ p.2.2.2.2 ∧ p.2.2.2.2 < 4294967296) : Nums (parN p) := by
  have hs := par_sizes h
  rw [par_iff] at h
  refine nums_app (nums_app ?_ (nums_zip (fun n hn => by have := h.2.2.1 n hn; omega) (fun n hn => by have := hs n hn; omega))) ?_
  · intro n hn
    simp only [List.mem_cons, List.not_mem_nil, or_false] at hn
    rcases hn with rfl | rfl <;> omega
  · intro n hn
    simp only [List.mem_cons, List.not_mem_nil, or_false] at hn
    rcases hn with rfl | rfl <;> omega
theorem par_len {p : ParT} (h : parOk p = true) : (parN p).length ≤ 10 := by
  rw [par_iff] at h
  unfold parN
  rw [List.length_append, List.length_append, zip_len h.2.1]
  simp
  omega
theorem segs_len (ss : List SegT) : (ss.flatMap segN).length = 6 * ss.length := by
  induction ss with
  | nil => rfl
  | cons s ss ih => rw [List.flatMap_cons, List.length_append, ih, List.length_cons]; simp [segN]; omega
theorem pars_len {ps : List ParT} (h : ∀ p ∈ ps, parOk p = true) : (ps.flatMap parN).length ≤ 10 * ps.length := by
  induction ps with
  | nil => simp
  | cons p ps ih =>
    have h1 := par_len (h p (by simp))
    have h2 := ih (fun q hq => h q (by simp [hq]))
    rw [List.flatMap_cons, List.length_append, List.length_cons]
    omega
theorem nums_flat {α : Type} {f : α → List Int} {l : List α} (h : ∀ x ∈ l, Nums (f x)) : Nums (l.flatMap f) := by
  intro n hn
  obtain ⟨x, hx, hn⟩ := List.mem_flatMap.1 hn
  exact h x hx n hn
theorem nums_one {n : Int} (h : 0 ≤ n ∧ n < 9223372036854775808) : Nums [n] := by intro m hm; rw [List.mem_singleton.1 hm]; exact h
theorem nums_edN {e : EdT} (h : edOk e = true) (hg : edGood e) : Nums (edN e) ∧ (edN e).length ≤ 1500 := by
  rw [ed_iff] at h
  obtain ⟨h1, h2, h3, h4, h5, h6⟩ := h
  constructor
  · refine nums_app (nums_app (nums_app (nums_app (nums_app (nums_app (nums_app ?_ ?_) ?_) ?_) ?_) ?_) ?_) ?_
    · intro n hn
      simp only [List.mem_cons, List.not_mem_nil, or_false] at hn
      rcases hn with rfl | rfl | rfl <;> omega
    · exact nums_flat (fun s hs => nums_segN (h5 s hs) (hg.1 s hs))
    · exact nums_one (by omega)
    · exact fun n hn => by have := h3 n hn; omega
    · exact nums_one (by omega)
    · exact nums_flat (fun s hs => nums_parN (h6 s hs) (hg.2 s hs))
    · exact nums_one (by omega)
    · exact fun n hn => by have := h4 n hn; omega
  · have a := segs_len e.2.2.1
    have b := pars_len h6
    unfold edN
    simp only [List.length_append, a, List.length_cons, List.length_nil]
    omega
/-- An edit's bytes. -/
def textL (e : EdT) : List Int := encs (edN e)
theorem bys_text {e : EdT} (h : edOk e = true) (hg : edGood e) : Bys (textL e) ∧ (textL e).length ≤ 15000 := by
  have h1 := nums_edN h hg
  have h2 := encs_len h1.1
  exact ⟨bys_encs h1.1, by unfold textL; omega⟩
end Go.Proofs.Ytfojeegepfjbiaa.EdF
