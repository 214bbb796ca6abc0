/- Edits one behind the other are told; contract of begun. -/
import Derived.Test.YtfojeegepfjbiaaProg
import Derived.Below
import Derived.Deep.Draws
import Derived.Deep.AppendLies
import Derived.Maps.AppendAt
import Derived.OwnWalk
import Derived.Laws.BytesArg
import Derived.Laws.MakeOwn
import Derived.Laws.OwnMore
import Derived.Deep.OwnRows
import Derived.Tactics
import Derived.Lib.ConvBytes
import Derived.Laws.Slices
import Derived.WalkKit
import Derived.KernelRfl
import Derived.RowKit3
import Derived.Deep.LoopGhost
import Derived.Deep.QuietTactic
import Derived.BigQuiet
import Derived.WideLaws
import Derived.Deep.DeepCutAuto
import Derived.Deep.CutBlock
import Derived.Deep.RegionHeld3
import Derived.Laws.Rows
import Derived.Lib.AppendStr
import Derived.ArgAppend
import Derived.Laws.IdiomCopy
import Derived.OrdersHeld
import Derived.Laws.BitsLemmas
import Derived.RowKit
import Derived.Deep.RegionWith
import Derived.WalkSpells
import Derived.Outline
import Derived.Test.YtfojeegepfjbiaaWWords
import Derived.Test.YtfojeegepfjbiaaWLast
import Derived.Test.YtfojeegepfjbiaaWMore
import Derived.Test.YtfojeegepfjbiaaWArr
import Derived.Test.YtfojeegepfjbiaaWTab
import Derived.Test.YtfojeegepfjbiaaWZeros
import Derived.Test.YtfojeegepfjbiaaWRepsOne
import Derived.Test.YtfojeegepfjbiaaEdM
namespace Go.Proofs.Ytfojeegepfjbiaa.EdN
open Go.RowKit Go.Proofs.YtfojeegepfjbiaaW.PrintWords Go.Proofs.YtfojeegepfjbiaaW.PrintLast Go.Proofs.YtfojeegepfjbiaaW.PrintMore Go.Proofs.Ytfojeegepfjbiaa.Mix Go.Proofs.Ytfojeegepfjbiaa.MixB Go.Proofs.Ytfojeegepfjbiaa.MixT Go.Proofs.Ytfojeegepfjbiaa.Nm Go.Proofs.Ytfojeegepfjbiaa.NmA Go.Proofs.Ytfojeegepfjbiaa.NmB Go.Proofs.Ytfojeegepfjbiaa.NmC Go.Proofs.Ytfojeegepfjbiaa.NmH Go.Proofs.Ytfojeegepfjbiaa.CrP Go.Proofs.Ytfojeegepfjbiaa.CrA Go.Proofs.Ytfojeegepfjbiaa.CrB Go.Proofs.Ytfojeegepfjbiaa.CrC Go.Proofs.Ytfojeegepfjbiaa.CrD Go.Proofs.Ytfojeegepfjbiaa.CrE Go.Proofs.Ytfojeegepfjbiaa.CrG Go.Proofs.Ytfojeegepfjbiaa.CrH Go.Proofs.Ytfojeegepfjbiaa.CrI Go.Proofs.Ytfojeegepfjbiaa.EdZ Go.Proofs.Ytfojeegepfjbiaa.EdA Go.Proofs.Ytfojeegepfjbiaa.EdB Go.Proofs.Ytfojeegepfjbiaa.EdC Go.Proofs.Ytfojeegepfjbiaa.EdD Go.Proofs.Ytfojeegepfjbiaa.EdE Go.Proofs.Ytfojeegepfjbiaa.EdF Go.Proofs.Ytfojeegepfjbiaa.EdG Go.Proofs.Ytfojeegepfjbiaa.EdH Go.Proofs.Ytfojeegepfjbiaa.EdI Go.Proofs.Ytfojeegepfjbiaa.EdJ Go.Proofs.Ytfojeegepfjbiaa.EdK Go.Proofs.Ytfojeegepfjbiaa.EdL Go.Proofs.Ytfojeegepfjbiaa.EdM
set_option linter.unusedSimpArgs false
set_option linter.unusedVariables false
attribute [local go_sem] max2_int min2_int max_two min_two

/-- An edit that may be written. -/
def EdW (e : EdT) : Prop := edOk e = true ∧ edGood e
theorem okt_eds {es : List EdT} (h : ∀ e ∈ es, EdW e) : Okt (es.map textL) := by
  intro t ht
  obtain ⟨e, he, rfl⟩ := List.mem_map.1 ht
  have := bys_text (h e he).1 (h e he).2
  exact ⟨this.1, by omega⟩
theorem eds_all : ∀ (es : List EdT), (∀ e ∈ es, EdW e) → ∀ (cut : Bool) (at_ : Nat), parsL parseE (es.map textL) cut at_ = (es, at_ + (sealsL (es.map textL)).length, cut) := by
  intro es
  induction es with
  | nil => intro _ cut at_; simp [parsL, sealsL]
  | cons e es ih =>
    intro h cut at_
    have he := h e (by simp)
    rw [List.map_cons, pars_some (parseE_enc he.1 he.2), ih (fun q hq => h q (by simp [hq])), sealsL_cons, List.length_append, sealL_len]
    simp only [Nat.add_assoc]
theorem escan_all {es : List EdT} (h : ∀ e ∈ es, EdW e) : escanL (sealsL (es.map textL)) = (es, (sealsL (es.map textL)).length, true) := by
  unfold escanL
  rw [scan_all (okt_eds h)]
  simp only []
  rw [eds_all es h, Nat.zero_add]
theorem escan_one {e : EdT} (h : EdW e) : escanL (sealL (textL e)) = ([e], (sealL (textL e)).length, true) := by
  have := escan_all (es := [e]) (fun q hq => by rw [List.mem_singleton.1 hq]; exact h)
  simpa [sealsL] using this
def ed0 : EdT := (0, 0, [], [], [], [])
theorem ed_at {w : World} {A : Option Addr} {n : Nat} {os : List EdT} (h : KEd.C w A n os) (i : Nat) (hi : i < n) : ∃ ad A1 c1 A2 c2 A3 c3 A4 c4, A = some ad ∧ w.cell? (ad.add (i * 6)) = some (.int .i64 (os.getD i ed0).1) ∧ w.cell? ⟨(ad.add (i * 6)).block, (ad.add (i * 6)).off + 1, none⟩ = some (.int .i64 (os.getD i ed0).2.1) ∧
    w.cell? ⟨(ad.add (i * 6)).block, (ad.add (i * 6)).off + 2, none⟩ = some (.slice A1 (os.getD i ed0).2.2.1.length c1) ∧ w.cell? ⟨(ad.add (i * 6)).block, (ad.add (i * 6)).off + 3, none⟩ = some (.slice A2 (os.getD i ed0).2.2.2.1.length c2) ∧ w.cell? ⟨(ad.add (i * 6)).block, (ad.add (i * 6)).off + 4, none⟩ = some (.slice A3 (os.getD i ed0).2.2.2.2.1.length c3) ∧ w.cell? ⟨(ad.add (i * 6)).block, (ad.add (i * 6)).off + 5, none⟩ = some (.slice A4 (os.getD i ed0).2.2.2.2.2.length c4) ∧
    EdAt w (.agg #[.int .i64 (os.getD i ed0).1, .int .i64 (os.getD i ed0).2.1, .slice A1 (os.getD i ed0).2.2.1.length c1, .slice A2 (os.getD i ed0).2.2.2.1.length c2, .slice A3 (os.getD i ed0).2.2.2.2.1.length c3, .slice A4 (os.getD i ed0).2.2.2.2.2.length c4]) (os.getD i ed0) ∧ KSeg.C w A1 (os.getD i ed0).2.2.1.length (os.getD i ed0).2.2.1 := by
  obtain ⟨ad, cs, e1, hs, ⟨x0, x1, f0, h0, y0, y1, f1, h1, z0, z1, f2, ⟨A1, c1, h2, l1, r1⟩, t0, t1, f3, ⟨A2, c2, h3, l2, r2⟩, u0, u1, f4, ⟨A3, c3, h4, l3, r3⟩, ⟨A4, c4, h5, l4, r4⟩⟩, hcell⟩ := ReadsRow.get_ h ed0 (i : Int) (by omega) (by omega)
  rw [Int.toNat_natCast] at h0 h1 h2 h3 h4 h5 hcell l1 l2 l3 l4 r1 r2 r3 r4
  have h0' : x0 = [.int .i64 (os.getD i ed0).1] := h0
  have h1' : y0 = [.int .i64 (os.getD i ed0).2.1] := h1
  subst h0' h1' h2 h3 h4 h5 f4 f3 f2 f1 f0
  have hz : KEd.sz = 6 := rfl
  rw [hz] at hcell
  have q1 := hcell 1 _ rfl
  have q2 := hcell 2 _ rfl
  have q3 := hcell 3 _ rfl
  have q4 := hcell 4 _ rfl
  have q5 := hcell 5 _ rfl
  rw [add_field ad (i * 6) 1 (by decide)] at q1
  rw [add_field ad (i * 6) 2 (by decide)] at q2
  rw [add_field ad (i * 6) 3 (by decide)] at q3
  rw [add_field ad (i * 6) 4 (by decide)] at q4
  rw [add_field ad (i * 6) 5 (by decide)] at q5
  exact ⟨ad, A1, c1, A2, c2, A3, c3, A4, c4, e1, hcell 0 _ rfl, q1, q2, q3, q4, q5, ⟨A1, c1, A2, c2, A3, c3, A4, c4, rfl, ⟨l1, l2, l3, l4⟩, r1, r2, r3, r4⟩, r1⟩
theorem seg_lit (w : World) (t : TypeId) (n g m z u : Int) (sl : Bool) : KSeg.C (w.alloc (.cells #[.int .i64 n, .bool sl, .int .i64 g, .int .i64 m, .int .i64 z, .int .u32 u] t (0, 0))) (some ⟨w.heap.size, 0, none⟩) 1 [(n, sl, g, m, z, u)] := by
  have hb := blk_new w (.cells #[.int .i64 n, .bool sl, .int .i64 g, .int .i64 m, .int .i64 z, .int .u32 u] t (0, 0))
  generalize w.alloc (.cells #[.int .i64 n, .bool sl, .int .i64 g, .int .i64 m, .int .i64 z, .int .u32 u] t (0, 0)) = w1 at *
  refine ⟨rfl, by omega, fun _ => ⟨_, rfl, fun j q hj => ?_⟩⟩
  have hj0 : j = 0 := by
    have := (List.getElem?_eq_some_iff.1 hj).1
    simp at this
    exact this
  subst hj0
  obtain rfl : (n, sl, g, m, z, u) = q := by simpa using hj
  refine ⟨[.int .i64 n, .bool sl, .int .i64 g, .int .i64 m, .int .i64 z, .int .u32 u], rfl, KSeg.K_of_M (seg_M w1 0 (fun _ => True) n g m z u sl), fun i v hv => ?_⟩
  rw [Nat.zero_mul, Nat.zero_add, add_plain, blk_cell hb, ← Array.getElem?_toList]
  exact hv
theorem nil_C {α : Type} (d : Kd α) (w : World) : d.C w none 0 [] := ⟨rfl, by omega, fun h => absurd h (Nat.lt_irrefl 0)⟩
def edX : EdT := (5, 0, [(3, true, 0, 0, 9, 0)], [], [], [])
theorem edX_ok : EdW edX := ⟨by decide +kernel, ⟨fun s hs => by have h1 : s = (3, true, 0, 0, 9, 0) := (by simpa [edX] using hs); rw [h1]; decide, fun s hs => by simp [edX] at hs⟩⟩
set_option maxRecDepth 100000 in
theorem begun_calls (w : World) : Calls Try.prog 42 #[] w fun e w' => e = .returned (.bool true) ∧ Below w.heap.size w w' := by
  have hEA : EdAt (w.alloc (.cells #[.int .i64 3, .bool true, .int .i64 0, .int .i64 0, .int .i64 9, .int .u32 0] 77 (0, 0))) (.agg #[.int .i64 5, .int .i64 0, .slice (some ⟨w.heap.size, 0, none⟩) 1 1, .slice none 0 0, .slice none 0 0, .slice none 0 0]) edX :=
    ⟨_, 1, none, 0, none, 0, none, 0, rfl, ⟨Nat.le_refl _, Nat.le_refl _, Nat.le_refl _, Nat.le_refl _⟩, seg_lit w _ 3 0 0 9 0 true, nil_C _ _, nil_C _ _, nil_C _ _⟩
  have HEN := Aside0.mk (EdH.encode_ok edX _ _ hEA edX_ok.1 edX_ok.2)
  have HB0 := Aside0.mk ((Below.refl w.heap.size w).alloc (Nat.le_refl _) (.cells #[.int .i64 3, .bool true, .int .i64 0, .int .i64 0, .int .i64 9, .int .u32 0] 77 (0, 0)))
  have hrs := escan_one edX_ok
  have hby : Bys (sealL (textL edX)) := bys_sealL (bys_text edX_ok.1 edX_ok.2).1
  have hln : (sealL (textL edX)).length ≤ 1000000 := by rw [sealL_len]; have := (bys_text edX_ok.1 edX_ok.2).2; omega
  generalize sealL (textL edX) = b at *
  obtain ⟨nb, hnb⟩ : ∃ n, b.length = n := ⟨_, rfl⟩
  have HSC := Aside0.mk (fun A c w h1 h2 => escan_calls A c b hby w h1 h2 (by omega))
  rw [hrs] at HSC
  rw [hnb] at HSC
  have HNB := Aside0.mk hnb
  clear hrs hby hln hnb hEA
  go_enter Try.func42, Try.ntmps42
  go_wp2_with fail
  refine HEN.out.mono ?_
  rintro e_ w1 ⟨v1, rfl, ho, hb⟩
  obtain ⟨A1, c1, rfl⟩ := Kd.R_slice ho
  obtain ⟨_, h1, h2⟩ := Kd.R_reads' ho
  rw [HNB.out] at h1 h2 ⊢
  have H12 := Aside0.mk (And.intro h2 h1)
  have HB1 := Aside0.mk (below_step HB0.out hb)
  clear ho hb h1 h2
  go_wp2_with fail
  refine (HSC.out A1 c1 w1 H12.out.1 H12.out.2).mono ?_
  rintro e_ w2 ⟨v2, rfl, ho, hb⟩
  obtain ⟨A2, c2, rfl⟩ := Kd.R_slice ho
  obtain ⟨ad, B1, d1, B2, d2, B3, d3, B4, d4, e1, p0, p1, p2, p3, p4, p5, hed, hsg⟩ := ed_at (Kd.R_reads' ho).2.2 0 (by simp)
  subst e1
  obtain ⟨ad2, e2, s0, s1, s2, s3, s4, s5⟩ := seg_at hsg 0 (by simp [edX])
  subst e2
  have HB2 := Aside0.mk (below_step HB1.out hb)
  have q0 : w2.cell? ad = some (.int .i64 5) := by simpa [edX, Addr.add] using p0
  have q2 : w2.cell? ⟨ad.block, ad.off + 2, none⟩ = some (.slice (some ad2) 1 d1) := by simpa [edX, Addr.add] using p2
  have q1 : w2.cell? ⟨ad2.block, ad2.off + 1, none⟩ = some (.bool true) := by simpa [edX, Addr.add] using s1
  clear ho hb p0 p1 p2 p3 p4 p5 hed hsg s0 s1 s2 s3 s4 s5
  go_wp2
  go_ret
  exact ⟨rfl, HB2.out⟩
end Go.Proofs.Ytfojeegepfjbiaa.EdN
