/- Kinds of edits; contracts of in, and of slices.IndexFunc and ContainsFunc with closures. -/
import Derived.Test.YtfojeegepfjbiaaProg
import Derived.Below
import Derived.Deep.Draws
import Derived.Deep.AppendLies
import Derived.Maps.AppendAt
import Derived.OwnWalk
import Derived.Laws.BytesArg
import Derived.Laws.MakeOwn
import Derived.Laws.OwnMore
import Derived.Deep.OwnRows
import Derived.Tactics
import Derived.Lib.ConvBytes
import Derived.Laws.Slices
import Derived.WalkKit
import Derived.KernelRfl
import Derived.RowKit3
import Derived.Deep.LoopGhost
import Derived.Deep.QuietTactic
import Derived.BigQuiet
import Derived.WideLaws
import Derived.Deep.DeepCutAuto
import Derived.Deep.CutBlock
import Derived.Deep.RegionHeld3
import Derived.Laws.Rows
import Derived.Lib.AppendStr
import Derived.ArgAppend
import Derived.Laws.IdiomCopy
import Derived.OrdersHeld
import Derived.Laws.BitsLemmas
import Derived.RowKit
import Derived.WalkSpells
import Derived.Outline
import Derived.Test.YtfojeegepfjbiaaWWords
import Derived.Test.YtfojeegepfjbiaaWLast
import Derived.Test.YtfojeegepfjbiaaWMore
import Derived.Test.YtfojeegepfjbiaaWArr
import Derived.Test.YtfojeegepfjbiaaWTab
import Derived.Test.YtfojeegepfjbiaaWZeros
import Derived.Test.YtfojeegepfjbiaaWRepsOne
import Derived.Test.YtfojeegepfjbiaaMixB
import Derived.Test.YtfojeegepfjbiaaEdZ
namespace Go.Proofs.Ytfojeegepfjbiaa.EdA
open Go.RowKit Go.Proofs.YtfojeegepfjbiaaW.PrintWords Go.Proofs.YtfojeegepfjbiaaW.PrintLast Go.Proofs.YtfojeegepfjbiaaW.PrintMore Go.Proofs.Ytfojeegepfjbiaa.Mix Go.Proofs.Ytfojeegepfjbiaa.MixB Go.Proofs.Ytfojeegepfjbiaa.Nm Go.Proofs.Ytfojeegepfjbiaa.NmA Go.Proofs.Ytfojeegepfjbiaa.CrA Go.Proofs.Ytfojeegepfjbiaa.EdZ
set_option linter.unusedSimpArgs false
set_option linter.unusedVariables false
attribute [local go_sem] max2_int min2_int max_two min_two

abbrev SegT := Int × Bool × Int × Int × Int × Int
abbrev ParT := Int × List Int × List Int × Int × Int
abbrev EdT := Int × Int × List SegT × List Int × List ParT × List Int
abbrev KSeg : Kd SegT := Kd.pair (Kd.int .i64) (Kd.pair Kd.bool (Kd.pair (Kd.int .i64) (Kd.pair (Kd.int .i64) (Kd.pair (Kd.int .i64) (Kd.int .u32)))))
abbrev KPar : Kd ParT := Kd.pair (Kd.int .i64) (Kd.pair (Kd.slice 2 (Kd.int .i64)) (Kd.pair (Kd.slice 3 (Kd.int .i64)) (Kd.pair (Kd.int .i64) (Kd.int .u32))))
abbrev KEd : Kd EdT := Kd.pair (Kd.int .i64) (Kd.pair (Kd.int .i64) (Kd.pair (Kd.slice 77 KSeg) (Kd.pair (Kd.slice 2 (Kd.int .i64)) (Kd.pair (Kd.slice 90 KPar) (Kd.slice 2 (Kd.int .i64))))))
def seg0 : SegT := (0, false, 0, 0, 0, 0)
def par0 : ParT := (0, [], [], 0, 0)
def segV (s : SegT) : Value := .agg #[.int .i64 s.1, .bool s.2.1, .int .i64 s.2.2.1, .int .i64 s.2.2.2.1, .int .i64 s.2.2.2.2.1, .int .u32 s.2.2.2.2.2]
/-- A parity segment's value. -/
def ParAt (w : World) (v : Value) (p : ParT) : Prop := ∃ A1 c1 A2 c2, v = .agg #[.int .i64 p.1, .slice A1 p.2.1.length c1, .slice A2 p.2.2.1.length c2, .int .i64 p.2.2.2.1, .int .u32 p.2.2.2.2] ∧ p.2.1.length ≤ c1 ∧ p.2.2.1.length ≤ c2 ∧ (Kd.int .i64).C w A1 p.2.1.length p.2.1 ∧ (Kd.int .i64).C w A2 p.2.2.1.length p.2.2.1
theorem par_below {w w' : World} {v : Value} {p : ParT} (h : ParAt w v p) (hb : Below w.heap.size w w') : ParAt w' v p := by
  obtain ⟨A1, c1, A2, c2, h1, h2, h3, h4, h5⟩ := h
  exact ⟨A1, c1, A2, c2, h1, h2, h3, Kd.C_below h4 hb, Kd.C_below h5 hb⟩
/-- An edit's value. -/
def EdAt (w : World) (v : Value) (e : EdT) : Prop := ∃ A1 c1 A2 c2 A3 c3 A4 c4, v = .agg #[.int .i64 e.1, .int .i64 e.2.1, .slice A1 e.2.2.1.length c1, .slice A2 e.2.2.2.1.length c2, .slice A3 e.2.2.2.2.1.length c3, .slice A4 e.2.2.2.2.2.length c4]
    ∧ (e.2.2.1.length ≤ c1 ∧ e.2.2.2.1.length ≤ c2 ∧ e.2.2.2.2.1.length ≤ c3 ∧ e.2.2.2.2.2.length ≤ c4) ∧ KSeg.C w A1 e.2.2.1.length e.2.2.1 ∧ (Kd.int .i64).C w A2 e.2.2.2.1.length e.2.2.2.1 ∧ KPar.C w A3 e.2.2.2.2.1.length e.2.2.2.2.1 ∧ (Kd.int .i64).C w A4 e.2.2.2.2.2.length e.2.2.2.2.2
theorem ed_below {w w' : World} {v : Value} {p : EdT} (h : EdAt w v p) (hb : Below w.heap.size w w') : EdAt w' v p := by
  obtain ⟨A1, c1, A2, c2, A3, c3, A4, c4, h1, h2, h3, h4, h5, h6⟩ := h
  exact ⟨A1, c1, A2, c2, A3, c3, A4, c4, h1, h2, Kd.C_below h3 hb, Kd.C_below h4 hb, Kd.C_below h5 hb, Kd.C_below h6 hb⟩
theorem ed_of_K {w : World} {e : EdT} {cs : Array Value} (h : KEd.K w e cs.toList) : EdAt w (.agg cs) e := by
  obtain ⟨x0, x1, e0, h0, y0, y1, e1, h1, z0, z1, e2, ⟨A1, c1, h2, l1, r1⟩, t0, t1, e3, ⟨A2, c2, h3, l2, r2⟩, u0, u1, e4, ⟨A3, c3, h4, l3, r3⟩, ⟨A4, c4, h5, l4, r4⟩⟩ := h
  have h0' : x0 = [.int .i64 e.1] := h0
  have h1' : y0 = [.int .i64 e.2.1] := h1
  subst h0' h1' h2 h3 h4 h5 e4 e3 e2 e1
  refine ⟨A1, c1, A2, c2, A3, c3, A4, c4, ?_, ⟨l1, l2, l3, l4⟩, r1, r2, r3, r4⟩
  congr 1
  exact Array.ext' e0
theorem seg_at {w : World} {A : Option Addr} {n : Nat} {os : List SegT} (h : KSeg.C w A n os) (i : Nat) (hi : i < n) : ∃ ad, A = some ad ∧ w.cell? (ad.add (i * 6)) = some (.int .i64 (os.getD i seg0).1) ∧ w.cell? ⟨(ad.add (i * 6)).block, (ad.add (i * 6)).off + 1, none⟩ = some (.bool (os.getD i seg0).2.1) ∧ w.cell? ⟨(ad.add (i * 6)).block, (ad.add (i * 6)).off + 2, none⟩ = some (.int .i64 (os.getD i seg0).2.2.1) ∧ w.cell? ⟨(ad.add (i * 6)).block, (ad.add (i * 6)).off + 3, none⟩ = some (.int .i64 (os.getD i seg0).2.2.2.1) ∧ w.cell? ⟨(ad.add (i * 6)).block, (ad.add (i * 6)).off + 4, none⟩ = some (.int .i64 (os.getD i seg0).2.2.2.2.1) ∧ w.cell? ⟨(ad.add (i * 6)).block, (ad.add (i * 6)).off + 5, none⟩ = some (.int .u32 (os.getD i seg0).2.2.2.2.2) := by
  obtain ⟨ad, cs, e1, hs, ⟨x0, x1, f0, h0, y0, y1, f1, h1, z0, z1, f2, h2, t0, t1, f3, h3, u0, u1, f4, h4, h5⟩, hcell⟩ := ReadsRow.get_ h seg0 (i : Int) (by omega) (by omega)
  rw [Int.toNat_natCast] at h0 h1 h2 h3 h4 h5 hcell
  have h0' : x0 = [.int .i64 (os.getD i seg0).1] := h0
  have h1' : y0 = [.bool (os.getD i seg0).2.1] := h1
  have h2' : z0 = [.int .i64 (os.getD i seg0).2.2.1] := h2
  have h3' : t0 = [.int .i64 (os.getD i seg0).2.2.2.1] := h3
  have h4' : u0 = [.int .i64 (os.getD i seg0).2.2.2.2.1] := h4
  have h5' : u1 = [.int .u32 (os.getD i seg0).2.2.2.2.2] := h5
  subst h0' h1' h2' h3' h4' h5' f4 f3 f2 f1 f0
  have hz : KSeg.sz = 6 := rfl
  rw [hz] at hcell
  have q1 := hcell 1 _ rfl
  have q2 := hcell 2 _ rfl
  have q3 := hcell 3 _ rfl
  have q4 := hcell 4 _ rfl
  have q5 := hcell 5 _ rfl
  rw [add_field ad (i * 6) 1 (by decide)] at q1
  rw [add_field ad (i * 6) 2 (by decide)] at q2
  rw [add_field ad (i * 6) 3 (by decide)] at q3
  rw [add_field ad (i * 6) 4 (by decide)] at q4
  rw [add_field ad (i * 6) 5 (by decide)] at q5
  exact ⟨ad, e1, hcell 0 _ rfl, q1, q2, q3, q4, q5⟩
theorem par_at {w : World} {A : Option Addr} {n : Nat} {os : List ParT} (h : KPar.C w A n os) (i : Nat) (hi : i < n) : ∃ ad A1 c1 A2 c2, A = some ad ∧ w.cell? (ad.add (i * 5)) = some (.int .i64 (os.getD i par0).1) ∧ w.cell? ⟨(ad.add (i * 5)).block, (ad.add (i * 5)).off + 1, none⟩ = some (.slice A1 (os.getD i par0).2.1.length c1) ∧ w.cell? ⟨(ad.add (i * 5)).block, (ad.add (i * 5)).off + 2, none⟩ = some (.slice A2 (os.getD i par0).2.2.1.length c2) ∧ w.cell? ⟨(ad.add (i * 5)).block, (ad.add (i * 5)).off + 3, none⟩ = some (.int .i64 (os.getD i par0).2.2.2.1) ∧ w.cell? ⟨(ad.add (i * 5)).block, (ad.add (i * 5)).off + 4, none⟩ = some (.int .u32 (os.getD i par0).2.2.2.2) ∧ (os.getD i par0).2.1.length ≤ c1 ∧ (os.getD i par0).2.2.1.length ≤ c2 ∧ (Kd.int .i64).C w A1 (os.getD i par0).2.1.length (os.getD i par0).2.1 ∧ (Kd.int .i64).C w A2 (os.getD i par0).2.2.1.length (os.getD i par0).2.2.1 := by
  obtain ⟨ad, cs, e1, hs, ⟨x0, x1, f0, h0, y0, y1, f1, ⟨A1, c1, h1, l1, r1⟩, z0, z1, f2, ⟨A2, c2, h2, l2, r2⟩, t0, t1, f3, h3, h4⟩, hcell⟩ := ReadsRow.get_ h par0 (i : Int) (by omega) (by omega)
  rw [Int.toNat_natCast] at h0 h1 h2 h3 h4 hcell l1 l2 r1 r2
  have h0' : x0 = [.int .i64 (os.getD i par0).1] := h0
  have h3' : t0 = [.int .i64 (os.getD i par0).2.2.2.1] := h3
  have h4' : t1 = [.int .u32 (os.getD i par0).2.2.2.2] := h4
  subst h0' h1 h2 h3' h4' f3 f2 f1 f0
  have hz : KPar.sz = 5 := rfl
  rw [hz] at hcell
  have q1 := hcell 1 _ rfl
  have q2 := hcell 2 _ rfl
  have q3 := hcell 3 _ rfl
  have q4 := hcell 4 _ rfl
  rw [add_field ad (i * 5) 1 (by decide)] at q1
  rw [add_field ad (i * 5) 2 (by decide)] at q2
  rw [add_field ad (i * 5) 3 (by decide)] at q3
  rw [add_field ad (i * 5) 4 (by decide)] at q4
  exact ⟨ad, A1, c1, A2, c2, e1, hcell 0 _ rfl, q1, q2, q3, q4, l1, l2, r1, r2⟩
theorem i64_at {w : World} {A : Option Addr} {n : Nat} {os : List Int} (h : (Kd.int .i64).C w A n os) (i : Nat) (hi : i < n) : ∃ ad, A = some ad ∧ w.cell? (ad.add i) = some (.int .i64 (os.getD i 0)) := by
  obtain ⟨ad, cs, e1, hs, h0, hcell⟩ := ReadsRow.get_ h 0 (i : Int) (by omega) (by omega)
  rw [Int.toNat_natCast] at h0 hcell
  have h0' : cs = [.int .i64 (os.getD i 0)] := h0
  subst h0'
  have := hcell 0 _ rfl
  have hz : (Kd.int .i64).sz = 1 := rfl
  rw [hz, Nat.mul_one, Nat.add_zero] at this
  exact ⟨ad, e1, this⟩
theorem drop_getD {α : Type} {d : α} {os : List α} {k : Nat} (hk : k < os.length) : os.drop k = os.getD k d :: os.drop (k + 1) := by
  rw [List.drop_eq_getElem_cons hk, List.getD_eq_getElem?_getD, List.getElem?_eq_getElem hk]
  rfl
/-- Out of bounds. -/
def offB (lo hi n : Int) : Bool := decide (n < lo) || decide (hi < n)
theorem inf_calls (n lo hi : Int) (b1 b2 : Nat) (w : World) (h1 : w.cell? ⟨b1, 0, none⟩ = some (.int .i64 lo)) (h2 : w.cell? ⟨b2, 0, none⟩ = some (.int .i64 hi)) :
    Calls Try.prog 84 #[.int .i64 n, .pointer (some ⟨b1, 0, none⟩), .pointer (some ⟨b2, 0, none⟩)] w fun e w' => e = .returned (.bool (offB lo hi n)) ∧ Below w.heap.size w w' := by
  have HB := Aside0.mk (Below.refl w.heap.size w)
  by_cases hlt : n < lo
  · have HE : Aside0 (offB lo hi n = true) := ⟨by unfold offB; rw [decide_eq_true hlt]; rfl⟩
    go_enter Try.func84, Try.ntmps84
    go_wp2
    go_ret
    exact ⟨by rw [HE.out]; rfl, HB.out⟩
  · have HE : Aside0 (offB lo hi n = decide (hi < n)) := ⟨by unfold offB; rw [decide_eq_false hlt]; rfl⟩
    go_enter Try.func84, Try.ntmps84
    go_wp2
    go_ret
    exact ⟨by rw [HE.out]; rfl, HB.out⟩
set_option maxRecDepth 100000 in
theorem index_int (A : Option Addr) (c : Nat) (xs : List Int) (lo hi : Int) (b1 b2 : Nat) (w : World) (hr : (Kd.int .i64).C w A xs.length xs) (h1 : w.cell? ⟨b1, 0, none⟩ = some (.int .i64 lo)) (h2 : w.cell? ⟨b2, 0, none⟩ = some (.int .i64 hi)) :
    Calls Try.prog 92 #[.slice A xs.length c, .func (.func 84) #[] #[.pointer (some ⟨b1, 0, none⟩), .pointer (some ⟨b2, 0, none⟩)]] w fun e w' => ∃ i : Int, e = .returned (.int .i64 i) ∧ decide (0 ≤ i) = xs.any (offB lo hi) ∧ Below w.heap.size w w' := by
  have hln := hr.2.1
  have HR := Aside0.mk hr
  have HB := Aside0.mk (Below.refl w.heap.size w)
  obtain ⟨E, hE⟩ : ∃ E, xs.any (offB lo hi) = E := ⟨_, rfl⟩
  have HE := Aside0.mk hE
  rw [hE]
  have HBC : Aside0 (∀ wx, Below w.heap.size w wx → wx.cell? ⟨b1, 0, none⟩ = some (.int .i64 lo)) := ⟨fun wx h => pw_cell_below h h1⟩
  have HBD : Aside0 (∀ wx, Below w.heap.size w wx → wx.cell? ⟨b2, 0, none⟩ = some (.int .i64 hi)) := ⟨fun wx h => pw_cell_below h h2⟩
  clear h1 h2
  clear hr hE
  go_enter Try.func92, Try.ntmps92
  go_wp2_with fail
  go_loopg [5, 8] xs.length (fun q v5 v8 w' => ∃ i : Nat, v8 = .int .i64 (i : Int) ∧ Aside0 (i + q = xs.length ∧ (xs.drop i).any (offB lo hi) = E) ∧ Aside0 (Below w.heap.size w w'))
  case atStart => exact ⟨0, rfl, ⟨by omega, HE.out⟩, HB⟩
  case round =>
    clear HB HE
    obtain ⟨i, rfl, HI, HB⟩ := hrel
    have hix := HI.out
    by_cases hlt : i < xs.length
    · obtain ⟨f, rfl⟩ : ∃ f, gk = f + 1 := ⟨gk - 1, by omega⟩
      have k0 : ((i : Int) < (xs.length : Int)) = True := eq_true (by omega)
      have kw : IntKind.i64.wrap ((i : Int) + 1) = (i : Int) + 1 := by rw [IntKind.wrap_i64]; omega
      obtain ⟨ad, e_, h0⟩ := i64_at (Kd.C_below HR.out HB.out) i hlt
      subst e_
      have hf := hix.2
      rw [drop_getD (d := 0) hlt, List.any_cons] at hf
      generalize xs.getD i 0 = o at *
      have HF := Aside0.mk hf
      have HCL := Aside0.mk (inf_calls o lo hi b1 b2 wr (HBC.out wr HB.out) (HBD.out wr HB.out))
      clear hf hix
      go_wp2_with fail
      refine HCL.out.mono ?_
      rintro e_ w4 ⟨rfl, hb⟩
      have HB4 := Aside0.mk (below_step HB.out hb)
      clear hb HCL
      cases hw : (offB lo hi) o with
      | true =>
        have HE : Aside0 (E = true) := ⟨by rw [← HF.out, hw]; rfl⟩
        clear hw
        go_wp2
        go_ret
        exact ⟨(i : Int), rfl, by rw [HE.out]; exact decide_eq_true (by omega), HB4.out⟩
      | false =>
        have HE : Aside0 ((xs.drop (i + 1)).any (offB lo hi) = E) := ⟨by rw [← HF.out, hw]; rfl⟩
        clear hw
        go_wp2_with fail
        go_roundg f
        case measure => omega
        case rel => exact ⟨i + 1, by simp, ⟨by have := HI.out; omega, HE.out⟩, HB4⟩
    · have k0 : ((i : Int) < (xs.length : Int)) = False := eq_false (by omega)
      have hf := hix.2
      rw [List.drop_of_length_le (by omega)] at hf
      have HE : Aside0 (E = false) := ⟨hf.symm⟩
      clear hix hf hlt
      go_wp2
      go_ret
      exact ⟨-1, rfl, by rw [HE.out]; rfl, HB.out⟩

set_option maxRecDepth 100000 in
theorem cont_int (A : Option Addr) (c : Nat) (xs : List Int) (lo hi : Int) (b1 b2 : Nat) (w : World) (hr : (Kd.int .i64).C w A xs.length xs) (h1 : w.cell? ⟨b1, 0, none⟩ = some (.int .i64 lo)) (h2 : w.cell? ⟨b2, 0, none⟩ = some (.int .i64 hi)) :
    Calls Try.prog 83 #[.slice A xs.length c, .func (.func 84) #[] #[.pointer (some ⟨b1, 0, none⟩), .pointer (some ⟨b2, 0, none⟩)]] w fun e w' => e = .returned (.bool (xs.any (offB lo hi))) ∧ Below w.heap.size w w' := by
  have HI := Aside0.mk (index_int A c xs lo hi b1 b2 w hr h1 h2)
  clear hr
  go_enter Try.func83, Try.ntmps83
  go_wp2_with fail
  refine HI.out.mono ?_
  rintro e_ w1 ⟨i, rfl, hix, hb⟩
  have HB1 := Aside0.mk hb
  have HI2 := Aside0.mk hix
  clear hb hix
  go_wp2
  go_ret
  exact ⟨by rw [HI2.out]; rfl, HB1.out⟩

/-- All within bounds. -/
def inL (lo hi : Int) (xs : List Int) : Bool := !xs.any (offB lo hi)
set_option maxRecDepth 100000 in
theorem in_calls (lo hi : Int) (A : Option Addr) (c : Nat) (xs : List Int) (w : World) (hr : (Kd.int .i64).C w A xs.length xs) :
    Calls Try.prog 63 #[.int .i64 lo, .int .i64 hi, .slice A xs.length c] w fun e w' => e = .returned (.bool (inL lo hi xs)) ∧ Below w.heap.size w w' := by
  have hb1 := (Below.refl w.heap.size w).alloc (Nat.le_refl _) (.cells #[.int .i64 lo] 2 (0, 0))
  obtain ⟨wa, hwa⟩ : ∃ q, w.alloc (.cells #[.int .i64 lo] 2 (0, 0)) = q := ⟨_, rfl⟩
  have hc1 : wa.cell? ⟨w.heap.size, 0, none⟩ = some (.int .i64 lo) := by rw [← hwa]; exact blk_cell (blk_new w _) 0
  have hb2 : Below w.heap.size w (wa.alloc (.cells #[.int .i64 hi] 2 (0, 0))) := by rw [hwa] at hb1; exact hb1.alloc hb1.size _
  have hc2 : (wa.alloc (.cells #[.int .i64 hi] 2 (0, 0))).cell? ⟨w.heap.size, 0, none⟩ = some (.int .i64 lo) := pw_cell_below ((Below.refl wa.heap.size wa).alloc (Nat.le_refl _) _) hc1
  have HI := Aside0.mk (cont_int A c xs lo hi w.heap.size wa.heap.size _ (Kd.C_below hr hb2) hc2 (blk_cell (blk_new wa _) 0))
  have HB := Aside0.mk hb2
  have hmf : ∀ (fn : Fn) (first cap : Array Value) (w : World), (Instr.makeFunc fn first cap).run Try.prog w = .ok (.func fn first cap) w := fun _ _ _ _ => rfl
  clear hr hb1 hb2 hc1 hc2
  go_enter Try.func63, Try.ntmps63
  go_wp2_with fail
  refine HI.out.mono ?_
  rintro e_ w1 ⟨rfl, hb⟩
  have HB1 := Aside0.mk (below_step HB.out hb)
  clear hb
  go_wp2
  go_ret
  exact ⟨rfl, HB1.out⟩
/-- Over a literal of one number, and of two. -/
theorem lit_C (w : World) (t : TypeId) (xs : List Int) (hl : xs.length ≤ 100) : (Kd.int .i64).C (w.alloc (.cells (nums .i64 xs).toArray t (0, 0))) (some ⟨w.heap.size, 0, none⟩) xs.length xs := by
  obtain ⟨A, c, e, _, h⟩ := Kd.R_reads (Kd.R_of_own (h1 := fun _ => rfl) (own_lit w w.heap.size t .i64 xs (Nat.le_refl _) (by omega)) (ok := fun _ => True) (fun _ _ => trivial))
  obtain ⟨rfl, _, rfl⟩ : A = some ⟨w.heap.size, 0, none⟩ ∧ xs.length = xs.length ∧ c = xs.length := by
    injection e with e1 e2 e3
    exact ⟨e1.symm, rfl, e3.symm⟩
  exact h
theorem in1_calls (lo hi n : Int) (w : World) :
    Calls Try.prog 63 #[.int .i64 lo, .int .i64 hi, .slice (some ⟨w.heap.size, 0, none⟩) 1 1] (w.alloc (.cells #[.int .i64 n] 2 (0, 0))) fun e w' => e = .returned (.bool (inL lo hi [n])) ∧ Below w.heap.size w w' := by
  refine (in_calls lo hi (some ⟨w.heap.size, 0, none⟩) 1 [n] _ (lit_C w 2 [n] (by simp))).mono ?_
  rintro e w' ⟨h1, h2⟩
  exact ⟨h1, below_step ((Below.refl w.heap.size w).alloc (Nat.le_refl _) _) h2⟩
theorem in2_calls (lo hi n m : Int) (w : World) :
    Calls Try.prog 63 #[.int .i64 lo, .int .i64 hi, .slice (some ⟨w.heap.size, 0, none⟩) 2 2] (w.alloc (.cells #[.int .i64 n, .int .i64 m] 2 (0, 0))) fun e w' => e = .returned (.bool (inL lo hi [n, m])) ∧ Below w.heap.size w w' := by
  refine (in_calls lo hi (some ⟨w.heap.size, 0, none⟩) 2 [n, m] _ (lit_C w 2 [n, m] (by simp))).mono ?_
  rintro e w' ⟨h1, h2⟩
  exact ⟨h1, below_step ((Below.refl w.heap.size w).alloc (Nat.le_refl _) _) h2⟩
end Go.Proofs.Ytfojeegepfjbiaa.EdA
