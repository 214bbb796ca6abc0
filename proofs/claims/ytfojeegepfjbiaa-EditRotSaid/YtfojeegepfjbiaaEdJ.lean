/- What an edit is read from: plain; frames. -/
import Derived.Test.YtfojeegepfjbiaaProg
import Derived.Below
import Derived.Deep.Draws
import Derived.Deep.AppendLies
import Derived.Maps.AppendAt
import Derived.OwnWalk
import Derived.Laws.BytesArg
import Derived.Laws.MakeOwn
import Derived.Laws.OwnMore
import Derived.Deep.OwnRows
import Derived.Tactics
import Derived.Lib.ConvBytes
import Derived.Laws.Slices
import Derived.WalkKit
import Derived.KernelRfl
import Derived.RowKit3
import Derived.Deep.LoopGhost
import Derived.Deep.QuietTactic
import Derived.BigQuiet
import Derived.WideLaws
import Derived.Deep.DeepCutAuto
import Derived.Deep.CutBlock
import Derived.Deep.RegionHeld3
import Derived.Laws.Rows
import Derived.Lib.AppendStr
import Derived.ArgAppend
import Derived.Laws.IdiomCopy
import Derived.OrdersHeld
import Derived.Laws.BitsLemmas
import Derived.RowKit
import Derived.WalkSpells
import Derived.Outline
import Derived.Test.YtfojeegepfjbiaaWWords
import Derived.Test.YtfojeegepfjbiaaWLast
import Derived.Test.YtfojeegepfjbiaaWMore
import Derived.Test.YtfojeegepfjbiaaWArr
import Derived.Test.YtfojeegepfjbiaaWTab
import Derived.Test.YtfojeegepfjbiaaWZeros
import Derived.Test.YtfojeegepfjbiaaWRepsOne
import Derived.Test.YtfojeegepfjbiaaEdI
namespace Go.Proofs.Ytfojeegepfjbiaa.EdJ
open Go.RowKit Go.Proofs.YtfojeegepfjbiaaW.PrintWords Go.Proofs.YtfojeegepfjbiaaW.PrintLast Go.Proofs.YtfojeegepfjbiaaW.PrintMore Go.Proofs.Ytfojeegepfjbiaa.Mix Go.Proofs.Ytfojeegepfjbiaa.MixB Go.Proofs.Ytfojeegepfjbiaa.MixT Go.Proofs.Ytfojeegepfjbiaa.Nm Go.Proofs.Ytfojeegepfjbiaa.NmA Go.Proofs.Ytfojeegepfjbiaa.NmB Go.Proofs.Ytfojeegepfjbiaa.NmC Go.Proofs.Ytfojeegepfjbiaa.NmH Go.Proofs.Ytfojeegepfjbiaa.CrP Go.Proofs.Ytfojeegepfjbiaa.CrA Go.Proofs.Ytfojeegepfjbiaa.CrB Go.Proofs.Ytfojeegepfjbiaa.EdZ Go.Proofs.Ytfojeegepfjbiaa.EdA Go.Proofs.Ytfojeegepfjbiaa.EdB Go.Proofs.Ytfojeegepfjbiaa.EdC Go.Proofs.Ytfojeegepfjbiaa.EdD Go.Proofs.Ytfojeegepfjbiaa.EdE Go.Proofs.Ytfojeegepfjbiaa.EdF Go.Proofs.Ytfojeegepfjbiaa.EdG Go.Proofs.Ytfojeegepfjbiaa.EdH Go.Proofs.Ytfojeegepfjbiaa.EdI
set_option linter.unusedSimpArgs false
set_option linter.unusedVariables false
attribute [local go_sem] max2_int min2_int max_two min_two

abbrev MX : Int := 1125899906842624
def segS (st : St) : SegT × St :=
  (((numS st 1125899906842624).1, (numS (numS st 1125899906842624).2 1).1 == 1, (numS (numS (numS st 1125899906842624).2 1).2 1125899906842624).1,
    (numS (numS (numS (numS st 1125899906842624).2 1).2 1125899906842624).2 3).1, (numS (numS (numS (numS (numS st 1125899906842624).2 1).2 1125899906842624).2 3).2 4194304).1,
    (numS (numS (numS (numS (numS (numS st 1125899906842624).2 1).2 1125899906842624).2 3).2 4194304).2 4294967295).1),
   (numS (numS (numS (numS (numS (numS st 1125899906842624).2 1).2 1125899906842624).2 3).2 4194304).2 4294967295).2)
theorem segS_eq {st a1 a2 a3 a4 a5 a6 : St} {n b g m z u : Int} (h1 : numS st 1125899906842624 = (n, a1)) (h2 : numS a1 1 = (b, a2)) (h3 : numS a2 1125899906842624 = (g, a3)) (h4 : numS a3 3 = (m, a4)) (h5 : numS a4 4194304 = (z, a5)) (h6 : numS a5 4294967295 = (u, a6)) :
    segS st = ((n, b == 1, g, m, z, u), a6) := by simp only [segS, h1, h2, h3, h4, h5, h6]
def segsF : Nat → St → List SegT × St
  | 0, st => ([], st)
  | q + 1, st => ((segS st).1 :: (segsF q (segS st).2).1, (segsF q (segS st).2).2)
def nzF : Nat → St → (List Int × List Int) × St
  | 0, st => (([], []), st)
  | q + 1, st => (((numS st 1125899906842624).1 :: (nzF q (numS (numS st 1125899906842624).2 4194304).2).1.1, (numS (numS st 1125899906842624).2 4194304).1 :: (nzF q (numS (numS st 1125899906842624).2 4194304).2).1.2), (nzF q (numS (numS st 1125899906842624).2 4194304).2).2)
theorem nzF_eq {st a1 a2 : St} {n z : Int} {q : Nat} (h1 : numS st 1125899906842624 = (n, a1)) (h2 : numS a1 4194304 = (z, a2)) : nzF (q + 1) st = ((n :: (nzF q a2).1.1, z :: (nzF q a2).1.2), (nzF q a2).2) := by simp only [nzF, h1, h2]
def parS (st : St) : ParT × St :=
  let g := numS st 1125899906842624
  let k := numS g.2 3
  let t := nzF k.1.toNat k.2
  let z := numS t.2 4194304
  let u := numS z.2 4294967295
  ((g.1, t.1.1, t.1.2, z.1, u.1), u.2)
theorem parS_eq {st a1 a2 a3 a4 a5 : St} {g k z u : Int} {ns zs : List Int} (h1 : numS st 1125899906842624 = (g, a1)) (h2 : numS a1 3 = (k, a2)) (h3 : nzF k.toNat a2 = ((ns, zs), a3)) (h4 : numS a3 4194304 = (z, a4)) (h5 : numS a4 4294967295 = (u, a5)) :
    parS st = ((g, ns, zs, z, u), a5) := by simp only [parS, h1, h2, h3, h4, h5]
def parsF : Nat → St → List ParT × St
  | 0, st => ([], st)
  | q + 1, st => ((parS st).1 :: (parsF q (parS st).2).1, (parsF q (parS st).2).2)
/-- All that an edit is read from, and what is left. -/
def rawE (st : St) : EdT × St :=
  let nx := numS st 1125899906842624
  let sq := numS nx.2 1125899906842624
  let nA := numS sq.2 60
  let ads := segsF nA.1.toNat nA.2
  let dls := listS ads.2
  let nP := numS dls.2 60
  let prs := parsF nP.1.toNat nP.2
  let drs := listS prs.2
  ((nx.1, sq.1, ads.1, dls.1, prs.1, drs.1), drs.2)
def decE (b : List Int) : EdT × Bool := ((rawE (b, false)).1, (!(rawE (b, false)).2.2 && decide ((rawE (b, false)).2.1.length = 0)) && (edOk (rawE (b, false)).1 && decide (textL (rawE (b, false)).1 = b)))
theorem numS_bys {st : St} {most : Int} (h : Bys st.1) : Bys (numS st most).2.1 := bys_step h _ _
theorem segS_ok {st : St} (h : Bys st.1) : Bys (segS st).2.1 ∧ 0 ≤ (segS st).1.2.2.2.2.2 ∧ (segS st).1.2.2.2.2.2 < 4294967296 := by
  have h5 := numS_bys (most := 4194304) (numS_bys (most := 3) (numS_bys (most := 1125899906842624) (numS_bys (most := 1) (numS_bys (most := 1125899906842624) h))))
  have := num_bd (bad := (numS (numS (numS (numS (numS st 1125899906842624).2 1).2 1125899906842624).2 3).2 4194304).2.2) (most := 4294967295) h5 (by decide)
  refine ⟨numS_bys h5, ?_, ?_⟩
  · exact this.1
  · have h2 := this.2
    have : (segS st).1.2.2.2.2.2 ≤ 4294967295 := h2
    omega
theorem segsF_ok : ∀ (q : Nat) (st : St), Bys st.1 → Bys (segsF q st).2.1 ∧ (segsF q st).1.length = q ∧ ∀ s ∈ (segsF q st).1, 0 ≤ s.2.2.2.2.2 ∧ s.2.2.2.2.2 < 4294967296 := by
  intro q
  induction q with
  | zero => intro st h; exact ⟨h, rfl, fun n hn => by simp [segsF] at hn⟩
  | succ q ih =>
    intro st h
    obtain ⟨g1, g2⟩ := segS_ok h
    obtain ⟨h1, h2, h3⟩ := ih _ g1
    refine ⟨h1, by simp only [segsF, List.length_cons, h2], fun n hn => ?_⟩
    simp only [segsF, List.mem_cons] at hn
    rcases hn with rfl | hn
    · exact g2
    · exact h3 n hn
theorem nzF_ok : ∀ (q : Nat) (st : St), Bys st.1 → Bys (nzF q st).2.1 ∧ (nzF q st).1.1.length = q ∧ (nzF q st).1.2.length = q := by
  intro q
  induction q with
  | zero => intro st h; exact ⟨h, rfl, rfl⟩
  | succ q ih =>
    intro st h
    obtain ⟨h1, h2, h3⟩ := ih _ (numS_bys (most := 4194304) (numS_bys (most := 1125899906842624) h))
    exact ⟨h1, by simp only [nzF, List.length_cons, h2], by simp only [nzF, List.length_cons, h3]⟩
theorem parS_ok {st : St} (h : Bys st.1) : Bys (parS st).2.1 ∧ 0 ≤ (parS st).1.2.2.2.2 ∧ (parS st).1.2.2.2.2 < 4294967296 := by
  have h1 := numS_bys (most := 3) (numS_bys (most := 1125899906842624) h)
  have h2 := (nzF_ok (numS (numS st 1125899906842624).2 3).1.toNat _ h1).1
  have h3 := numS_bys (most := 4194304) h2
  have := num_bd (bad := (numS (nzF (numS (numS st 1125899906842624).2 3).1.toNat (numS (numS st 1125899906842624).2 3).2).2 4194304).2.2) (most := 4294967295) h3 (by decide)
  refine ⟨numS_bys h3, this.1, ?_⟩
  have h2 := this.2
  have : (parS st).1.2.2.2.2 ≤ 4294967295 := h2
  omega
theorem parsF_ok : ∀ (q : Nat) (st : St), Bys st.1 → Bys (parsF q st).2.1 ∧ (parsF q st).1.length = q ∧ ∀ s ∈ (parsF q st).1, 0 ≤ s.2.2.2.2 ∧ s.2.2.2.2 < 4294967296 := by
  intro q
  induction q with
  | zero => intro st h; exact ⟨h, rfl, fun n hn => by simp [parsF] at hn⟩
  | succ q ih =>
    intro st h
    obtain ⟨g1, g2⟩ := parS_ok h
    obtain ⟨h1, h2, h3⟩ := ih _ g1
    refine ⟨h1, by simp only [parsF, List.length_cons, h2], fun n hn => ?_⟩
    simp only [parsF, List.mem_cons] at hn
    rcases hn with rfl | hn
    · exact g2
    · exact h3 n hn
theorem raw_good {b : List Int} (h : Bys b) : edGood (rawE (b, false)).1 := by
  have h1 := numS_bys (most := 60) (numS_bys (most := 1125899906842624) (numS_bys (st := (b, false)) (most := 1125899906842624) h))
  have h2 := segsF_ok (numS (numS (numS (b, false) 1125899906842624).2 1125899906842624).2 60).1.toNat _ h1
  refine ⟨h2.2.2, ?_⟩
  have h3 : Bys (listS (segsF (numS (numS (numS (b, false) 1125899906842624).2 1125899906842624).2 60).1.toNat (numS (numS (numS (b, false) 1125899906842624).2 1125899906842624).2 60).2).2).2.1 := (listF_ok _ _ (numS_bys h2.1)).1
  exact (parsF_ok _ _ (numS_bys (most := 60) h3)).2.2
/-- Blocks under M but p and y are as they were. -/
def Fr (M p y : Nat) (w w' : World) : Prop := w.heap.size ≤ w'.heap.size ∧ ∀ k, k < M → k ≠ p → k ≠ y → w'.heap[k]? = w.heap[k]?
theorem Fr.refl (M p y : Nat) (w : World) : Fr M p y w w := ⟨Nat.le_refl _, fun _ _ _ _ => rfl⟩
theorem Fr.trans {M p y : Nat} {w w1 w2 : World} (h : Fr M p y w w1) (k : Fr M p y w1 w2) : Fr M p y w w2 := ⟨Nat.le_trans h.1 k.1, fun j a b c => (k.2 j a b c).trans (h.2 j a b c)⟩
theorem Fr.below {M N p y : Nat} {w w1 : World} (h : Below N w w1) (hn : M ≤ N) : Fr M p y w w1 := ⟨h.size, fun j a _ _ => h.block j (by omega)⟩
theorem Fr.num {M p y : Nat} {w w1 : World} (h : w.grownBy w1 (some p)) (hm : M ≤ w.heap.size) : Fr M p y w w1 := ⟨h.size, fun j a b _ => h.block j (by omega) (by simpa using b)⟩
theorem Fr.set {M p y : Nat} {w : World} (i : Nat) (v : Value) : Fr M p y w (w.setCell ⟨y, i, none⟩ v) := ⟨by simp [World.setCell], fun j _ _ c => Below.heap_setCell w ⟨y, i, none⟩ v j c⟩
theorem Fr.R {α : Type} {d : Kd α} {e : Nat} {M p y : Nat} {w w1 : World} {base : Nat} {v : Value} {xs : List α} (h : d.R e w base (fun k => k ≠ p ∧ k ≠ y) v xs) (hf : Fr M p y w w1) (hm : w.heap.size ≤ M) : d.R e w1 base (fun k => k ≠ p ∧ k ≠ y) v xs :=
  Kd.R_step h (fun k ho hk => hf.2 k (by omega) ho.1 ho.2)
theorem num_blk {w w' : World} {g p t : Nat} {cs : Array Value} (h : Blk w g cs t) (hg : w.grownBy w' (some p)) (hne : g ≠ p) : Blk w' g cs t := blk_grown h hg (by simpa using hne)
theorem num_R {α : Type} {d : Kd α} {e : Nat} {w w1 : World} {base p : Nat} {ok : Nat → Prop} {v : Value} {xs : List α} (h : d.R e w base ok v xs) (hg : w.grownBy w1 (some p)) (hp : ∀ k, ok k → k ≠ p) : d.R e w1 base ok v xs :=
  Kd.R_grown h hg (fun k hk e_ => hp k hk (by injection e_))
theorem store6 {w : World} {r : Nat} {c0 c1 c2 c3 c4 c5 : Value} {t : TypeId} (h : Blk w r #[c0, c1, c2, c3, c4, c5] t) (a b c d e f : Value) : ∃ wa wb wc wd we wf : World,
    w.setCell ⟨r, 0, none⟩ a = wa ∧ wa.setCell ⟨r, 1, none⟩ b = wb ∧ wb.setCell ⟨r, 2, none⟩ c = wc ∧ wc.setCell ⟨r, 3, none⟩ d = wd ∧ wd.setCell ⟨r, 4, none⟩ e = we ∧ we.setCell ⟨r, 5, none⟩ f = wf ∧
    (w.cell? ⟨r, 0, none⟩ = some c0 ∧ wa.cell? ⟨r, 1, none⟩ = some c1 ∧ wb.cell? ⟨r, 2, none⟩ = some c2 ∧ wc.cell? ⟨r, 3, none⟩ = some c3 ∧ wd.cell? ⟨r, 4, none⟩ = some c4 ∧ we.cell? ⟨r, 5, none⟩ = some c5) ∧
    (w.frozen? ⟨r, 0, none⟩ = false ∧ wa.frozen? ⟨r, 1, none⟩ = false ∧ wb.frozen? ⟨r, 2, none⟩ = false ∧ wc.frozen? ⟨r, 3, none⟩ = false ∧ wd.frozen? ⟨r, 4, none⟩ = false ∧ we.frozen? ⟨r, 5, none⟩ = false) ∧
    Blk wf r #[a, b, c, d, e, f] t ∧ w.grownBy wf (some r) := by
  have ha := blk_set h 0 a
  have hb := blk_set ha 1 b
  have hc := blk_set hb 2 c
  have hd := blk_set hc 3 d
  have he := blk_set hd 4 e
  have hf := blk_set he 5 f
  exact ⟨_, _, _, _, _, _, rfl, rfl, rfl, rfl, rfl, rfl, ⟨blk_cell h 0, blk_cell ha 1, blk_cell hb 2, blk_cell hc 3, blk_cell hd 4, blk_cell he 5⟩, ⟨blk_frozen h 0, blk_frozen ha 1, blk_frozen hb 2, blk_frozen hc 3, blk_frozen hd 4, blk_frozen he 5⟩, hf,
    World.grownBy.trans (World.grownBy.trans (World.grownBy.trans (World.grownBy.trans (World.grownBy.trans grown_set grown_set) grown_set) grown_set) grown_set) grown_set⟩
theorem info77 : (Try.prog.info? 77).map (fun i => (i.zero, i.size, i.bytes)) = some (some (.agg #[.int .i64 0, .bool false, .int .i64 0, .int .i64 0, .int .i64 0, .int .u32 0]), 6, 48) := by kernel_rfl
theorem info90 : (Try.prog.info? 90).map (fun i => (i.zero, i.size, i.bytes)) = some (some (.agg #[.int .i64 0, .slice none 0 0, .slice none 0 0, .int .i64 0, .int .u32 0]), 5, 72) := by kernel_rfl
theorem info66 : (Try.prog.info? 66).map (fun i => (i.zero, i.size, i.bytes)) = some (some (.agg #[.int .i64 0, .int .i64 0, .slice none 0 0, .slice none 0 0, .slice none 0 0, .slice none 0 0]), 6, 112) := by kernel_rfl
theorem info3 : (Try.prog.info? 3).map (fun i => (i.zero, i.size, i.bytes)) = some (some (.int .i64 0), 1, 8) := by kernel_rfl
theorem seg_M (w : World) (base : Nat) (ok : Nat → Prop) (n g m z u : Int) (sl : Bool) : KSeg.M w base ok (n, sl, g, m, z, u) [.int .i64 n, .bool sl, .int .i64 g, .int .i64 m, .int .i64 z, .int .u32 u] :=
  ⟨[.int .i64 n], [.bool sl, .int .i64 g, .int .i64 m, .int .i64 z, .int .u32 u], rfl, rfl, [.bool sl], [.int .i64 g, .int .i64 m, .int .i64 z, .int .u32 u], rfl, rfl, [.int .i64 g], [.int .i64 m, .int .i64 z, .int .u32 u], rfl, rfl, [.int .i64 m], [.int .i64 z, .int .u32 u], rfl, rfl, [.int .i64 z], [.int .u32 u], rfl, rfl, rfl⟩
theorem par_M {w : World} {base : Nat} {ok : Nat → Prop} {g z u : Int} {ns zs : List Int} {vn vz : Value} (h1 : (Kd.int .i64).R 2 w base ok vn ns) (h2 : (Kd.int .i64).R 3 w base ok vz zs) : KPar.M w base ok (g, ns, zs, z, u) [.int .i64 g, vn, vz, .int .i64 z, .int .u32 u] :=
  ⟨[.int .i64 g], [vn, vz, .int .i64 z, .int .u32 u], rfl, rfl, [vn], [vz, .int .i64 z, .int .u32 u], rfl, ⟨vn, rfl, h1⟩, [vz], [.int .i64 z, .int .u32 u], rfl, ⟨vz, rfl, h2⟩, [.int .i64 z], [.int .u32 u], rfl, rfl, rfl⟩
theorem ed_M {w : World} {base : Nat} {ok : Nat → Prop} {nx sq : Int} {ads : List SegT} {dls drs : List Int} {prs : List ParT} {va vd vp vr : Value} (h1 : KSeg.R 77 w base ok va ads) (h2 : (Kd.int .i64).R 2 w base ok vd dls) (h3 : KPar.R 90 w base ok vp prs) (h4 : (Kd.int .i64).R 2 w base ok vr drs) :
    KEd.M w base ok (nx, sq, ads, dls, prs, drs) [.int .i64 nx, .int .i64 sq, va, vd, vp, vr] :=
  ⟨[.int .i64 nx], [.int .i64 sq, va, vd, vp, vr], rfl, rfl, [.int .i64 sq], [va, vd, vp, vr], rfl, rfl, [va], [vd, vp, vr], rfl, ⟨va, rfl, h1⟩, [vd], [vp, vr], rfl, ⟨vd, rfl, h2⟩, [vp], [vr], rfl, ⟨vp, rfl, h3⟩, ⟨vr, rfl, h4⟩⟩
end Go.Proofs.Ytfojeegepfjbiaa.EdJ
