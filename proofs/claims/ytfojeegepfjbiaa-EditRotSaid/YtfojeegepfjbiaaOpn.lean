/- Arguments of many shapes, opened into the kinds of the print's words. -/
import Derived.Test.YtfojeegepfjbiaaProg
import Derived.Test.YtfojeegepfjbiaaWWords
import Derived.Test.YtfojeegepfjbiaaWLast
import Derived.Test.YtfojeegepfjbiaaWMore
import Derived.Deep.Slices
import Derived.ChangeArms
import Derived.ChangeSlices
import Derived.WideShapes
import Derived.KernelRfl
namespace Go.Proofs.Ytfojeegepfjbiaa.Opn
open Go.ChangeShapes Go.WideShapes Go.Deep Go.RowKit Go.Proofs.YtfojeegepfjbiaaW.PrintWords Go.Proofs.YtfojeegepfjbiaaW.PrintLast Go.Proofs.YtfojeegepfjbiaaW.PrintMore
theorem add_two (a : Addr) (x y : Nat) : (a.add x).add y = a.add (x + y) := by
  rcases Nat.eq_zero_or_pos x with rfl | hx
  · rw [Nat.zero_add]
    rfl
  · rcases Nat.eq_zero_or_pos y with rfl | hy
    · rfl
    · rw [add_field a x y hy]
      unfold Addr.add
      rw [if_neg (by omega)]
/-- What lies in cells of a type, read as data, is of a kind. -/
def Opens (P : Program) (t : TypeId) {α : Type} (d : Kd α) (good : α → Prop) : Prop :=
  P.cellsOf t = d.sz ∧ ∀ {H : Type} (enc : TypeId × Value → H) (w : World) (base : Nat) (held : Bool) (fuel : Nat) (cs : List Value) (x : DataW H × List MemPlace), DataW.trod enc P w base (fun _ => true) held fuel t cs = some x → ∃ p, d.K w p cs ∧ good p
variable {P : Program} {t e : TypeId} {α β : Type}
theorem opens_int {k : IntKind} (ht : P.underlying t = some (.int k)) (hc : P.cellsOf t = 1) : Opens P t (Kd.int k) (fun n => (Lit.int k n).wf = true) :=
  ⟨hc, fun enc w base held fuel cs x h => by
    obtain ⟨n, e1, e2, e3⟩ := DataW.trod_int ht h
    exact ⟨n, e1, e3⟩⟩
theorem opens_bool (ht : P.underlying t = some .bool) (hc : P.cellsOf t = 1) : Opens P t Kd.bool (fun _ => True) :=
  ⟨hc, fun enc w base held fuel cs x h => by
    obtain ⟨n, e1, e2⟩ := DataW.trod_bool ht h
    exact ⟨n, e1, trivial⟩⟩
theorem opens_string (ht : P.underlying t = some .string) (hc : P.cellsOf t = 1) : Opens P t Kd.string (fun s => s.size ≤ maxLen) :=
  ⟨hc, fun enc w base held fuel cs x h => by
    obtain ⟨n, e1, e2, e3⟩ := DataW.trod_string ht h
    exact ⟨n, e1, e3⟩⟩
theorem opens_slice [Inhabited α] {d : Kd α} {good : α → Prop} (ht : P.underlying t = some (.slice e)) (hc : P.cellsOf t = 1) (hd : Opens P e d good) (e' : Nat) : Opens P t (Kd.slice e' d) (fun ps => ps.length ≤ maxLen ∧ ∀ p ∈ ps, good p) := by
  refine ⟨hc, fun enc w base held fuel cs x h => ?_⟩
  rcases open_slice ht h with ⟨rfl, _⟩ | ⟨a, len, cap, m, n, D, Pl, rfl, hb, hl, hm, hmm, rfl, hx⟩
  · exact ⟨[], ⟨none, 0, rfl, Nat.le_refl _, ⟨rfl, by simp, fun h => absurd h (Nat.lt_irrefl 0)⟩⟩, by simp, by simp⟩
  · simp only [if_true] at hmm
    subst hmm
    obtain ⟨f, hf⟩ := choose_lt (α := α) (p := fun i p => ∃ cs', w.cells? base (a.add (i * P.cellsOf e)) (P.cellsOf e) = some cs' ∧ d.K w p cs' ∧ good p) (fun i hi => by
      obtain ⟨cs', h1, h2⟩ := hx i hi
      obtain ⟨p, hk, hg⟩ := hd.2 enc w base held n cs' _ h2
      exact ⟨p, cs', h1, hk, hg⟩)
    have hlen : ((List.range len).map f).length = len := by simp
    refine ⟨(List.range len).map f, ⟨some a, m, by rw [hlen], by rw [hlen]; exact hl, ?_⟩, by rw [hlen]; omega, fun p hp => ?_⟩
    · rw [hlen]
      refine ⟨hlen, by unfold maxLen at hm; omega, fun _ => ⟨a, rfl, fun j p hj => ?_⟩⟩
      have hjl : j < len := by rw [← hlen]; exact (List.getElem?_eq_some_iff.1 hj).1
      rw [List.getElem?_map, List.getElem?_range hjl] at hj
      have hj' : f j = p := by simpa using hj
      subst hj'
      obtain ⟨cs', h1, hk, _⟩ := hf j (by omega)
      obtain ⟨_, h3, h4⟩ := World.cells?_some h1
      rw [hd.1] at h1 h3 h4
      refine ⟨cs', h3, hk, fun i u hu => ?_⟩
      have hi : i < d.sz := by rw [← h3]; exact (List.getElem?_eq_some_iff.1 hu).1
      have := h4 i hi
      rw [hu] at this
      rw [← this]
      congr 1
      exact (add_two _ _ _).symm
    · obtain ⟨i, hi, rfl⟩ := List.mem_map.1 hp
      obtain ⟨_, _, _, hg⟩ := hf i (by have := List.mem_range.1 hi; omega)
      exact hg
/-- Fields one behind the other, from an offset on. -/
def OpensF (P : Program) (fs : List Field) (off : Nat) {α : Type} (d : Kd α) (good : α → Prop) : Prop :=
  ∀ (H : Type) (enc : TypeId × Value → H) (w : World) (base : Nat) (held : Bool) (n : Nat) (cs : List Value), cs.length = off + d.sz →
    (∀ f ∈ fs, ∃ y : DataW H × List MemPlace, DataW.trod enc P w base (fun _ => true) held n f.type ((cs.drop f.offset).take (P.cellsOf f.type)) = some y) → ∃ p, d.K w p (cs.drop off) ∧ good p
theorem opensF_one {f : Field} {off : Nat} {d : Kd α} {good : α → Prop} (ho : f.offset = off) (hd : Opens P f.type d good) : OpensF P [f] off d good := by
  intro H enc w base held n cs hl h
  obtain ⟨y, hy⟩ := h f (by simp)
  obtain ⟨p, hk, hg⟩ := hd.2 enc w base held n _ y hy
  rw [ho, hd.1, List.take_of_length_le (by rw [List.length_drop]; omega)] at hk
  exact ⟨p, hk, hg⟩
theorem opensF_cons {f : Field} {fs : List Field} {off : Nat} {a : Kd α} {b : Kd β} {ga : α → Prop} {gb : β → Prop} (ho : f.offset = off) (ha : Opens P f.type a ga) (hb : OpensF P fs (off + a.sz) b gb) : OpensF P (f :: fs) off (Kd.pair a b) (fun p => ga p.1 ∧ gb p.2) := by
  intro H enc w base held n cs hl h
  have hsz : (Kd.pair a b).sz = a.sz + b.sz := rfl
  rw [hsz] at hl
  obtain ⟨y, hy⟩ := h f (by simp)
  obtain ⟨p, hk, hg⟩ := ha.2 enc w base held n _ y hy
  rw [ho, ha.1] at hk
  obtain ⟨q, hk2, hg2⟩ := hb H enc w base held n cs (by omega) (fun f hf => h f (by simp [hf]))
  refine ⟨(p, q), ⟨(cs.drop off).take a.sz, cs.drop (off + a.sz), ?_, hk, hk2⟩, hg, hg2⟩
  rw [← List.drop_drop, List.take_append_drop]
theorem opens_struct {fs : Array Field} {d : Kd α} {good : α → Prop} (ht : P.underlying t = some (.struct fs)) (hc : P.cellsOf t = d.sz) (hf : OpensF P fs.toList 0 d good) : Opens P t d good := by
  refine ⟨hc, fun enc w base held fuel cs x h => ?_⟩
  obtain ⟨xs, n, _, _, h1, h2, h3⟩ := DataW.trod_struct ht h
  obtain ⟨p, hk, hg⟩ := hf _ enc w base held n cs (by omega) (fun f hm => by
    obtain ⟨i, hi, he⟩ := List.getElem_of_mem hm
    have hs : fs[i]? = some f := by rw [Array.getElem?_eq_getElem (by simpa using hi)]; simpa using he
    have := h3 i f hs
    have hx : i < xs.length := by rw [h2]; simpa using hi
    rw [List.getElem?_eq_getElem hx] at this
    exact ⟨_, this⟩)
  exact ⟨p, by simpa using hk, hg⟩
end Go.Proofs.Ytfojeegepfjbiaa.Opn
