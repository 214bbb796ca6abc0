/- Contract of edit.Check. -/
import Derived.Test.YtfojeegepfjbiaaProg
import Derived.Below
import Derived.Deep.Draws
import Derived.Deep.AppendLies
import Derived.Maps.AppendAt
import Derived.OwnWalk
import Derived.Laws.BytesArg
import Derived.Laws.MakeOwn
import Derived.Laws.OwnMore
import Derived.Deep.OwnRows
import Derived.Tactics
import Derived.Lib.ConvBytes
import Derived.Laws.Slices
import Derived.WalkKit
import Derived.KernelRfl
import Derived.RowKit3
import Derived.Deep.LoopGhost
import Derived.Deep.QuietTactic
import Derived.BigQuiet
import Derived.WideLaws
import Derived.Deep.DeepCutAuto
import Derived.Deep.CutBlock
import Derived.Deep.RegionHeld3
import Derived.Laws.Rows
import Derived.Lib.AppendStr
import Derived.ArgAppend
import Derived.Laws.IdiomCopy
import Derived.OrdersHeld
import Derived.Laws.BitsLemmas
import Derived.RowKit
import Derived.WalkSpells
import Derived.Outline
import Derived.Test.YtfojeegepfjbiaaWWords
import Derived.Test.YtfojeegepfjbiaaWLast
import Derived.Test.YtfojeegepfjbiaaWMore
import Derived.Test.YtfojeegepfjbiaaWArr
import Derived.Test.YtfojeegepfjbiaaWTab
import Derived.Test.YtfojeegepfjbiaaWZeros
import Derived.Test.YtfojeegepfjbiaaWRepsOne
import Derived.Test.YtfojeegepfjbiaaEdC
namespace Go.Proofs.Ytfojeegepfjbiaa.EdD
open Go.RowKit Go.Proofs.YtfojeegepfjbiaaW.PrintWords Go.Proofs.YtfojeegepfjbiaaW.PrintLast Go.Proofs.YtfojeegepfjbiaaW.PrintMore Go.Proofs.Ytfojeegepfjbiaa.Mix Go.Proofs.Ytfojeegepfjbiaa.MixB Go.Proofs.Ytfojeegepfjbiaa.Nm Go.Proofs.Ytfojeegepfjbiaa.NmA Go.Proofs.Ytfojeegepfjbiaa.NmH Go.Proofs.Ytfojeegepfjbiaa.CrA Go.Proofs.Ytfojeegepfjbiaa.EdZ Go.Proofs.Ytfojeegepfjbiaa.EdA Go.Proofs.Ytfojeegepfjbiaa.EdB Go.Proofs.Ytfojeegepfjbiaa.EdC
set_option linter.unusedSimpArgs false
set_option linter.unusedVariables false
attribute [local go_sem] max2_int min2_int max_two min_two

def segNo (s : SegT) : Bool := !segOk s
def parNo (p : ParT) : Bool := !parOk p
set_option maxRecDepth 100000 in
theorem segc_calls (s : SegT) (w : World) :
    Calls Try.prog 65 #[segV s] w fun e w' => e = .returned (.bool (segNo s)) ∧ Below w.heap.size w w' := by
  have HC := Aside0.mk (fun w => seg_calls s w)
  obtain ⟨E, hE⟩ : ∃ E, segOk s = E := ⟨_, rfl⟩
  have HE : Aside0 (segNo s = !E) := ⟨by rw [← hE]; rfl⟩
  rw [hE] at HC
  obtain ⟨n, sl, g, m, z, u⟩ := s
  have HB := Aside0.mk ((Below.refl w.heap.size w).alloc (Nat.le_refl _) (.cells #[.int .i64 n, .bool sl, .int .i64 g, .int .i64 m, .int .i64 z, .int .u32 u] 77 (0, 0)))
  clear hE
  unfold segV at HC ⊢
  go_enter Try.func65, Try.ntmps65
  go_wp2_with fail
  refine (HC.out _).mono ?_
  rintro e_ w1 ⟨rfl, hb⟩
  have HB1 := Aside0.mk (below_step HB.out hb)
  clear hb
  go_wp2
  go_ret
  exact ⟨by rw [HE.out]; rfl, HB1.out⟩
set_option maxRecDepth 100000 in
theorem parc_calls (p : ParT) (v : Value) (w : World) (hp : ParAt w v p) :
    Calls Try.prog 68 #[v] w fun e w' => e = .returned (.bool (parNo p)) ∧ Below w.heap.size w w' := by
  have HC := Aside0.mk (fun v w h => par_calls p v w h)
  obtain ⟨E, hE⟩ : ∃ E, parOk p = E := ⟨_, rfl⟩
  have HE : Aside0 (parNo p = !E) := ⟨by rw [← hE]; rfl⟩
  rw [hE] at HC
  have HPA := Aside0.mk (fun wx h => par_below (w' := wx) hp h)
  obtain ⟨A1, c1, A2, c2, rfl, l1, l2, r1, r2⟩ := hp
  have hb0 := ((Below.refl w.heap.size w).alloc (Nat.le_refl _) (.cells #[.int .i64 p.1, .slice A1 p.2.1.length c1, .slice A2 p.2.2.1.length c2, .int .i64 p.2.2.2.1, .int .u32 p.2.2.2.2] 90 (0, 0)))
  have HCC := Aside0.mk (HC.out _ _ (HPA.out _ hb0))
  have HB := Aside0.mk hb0
  clear hE l1 l2 r1 r2 hb0 HC
  clear HPA
  generalize p.2.1.length = n1 at *
  generalize p.2.2.1.length = n2 at *
  generalize p.1 = g at *
  generalize p.2.2.2.1 = z at *
  generalize p.2.2.2.2 = u at *
  go_enter Try.func68, Try.ntmps68
  go_wp2_with fail
  refine HCC.out.mono ?_
  rintro e_ w1 ⟨rfl, hb⟩
  have HB1 := Aside0.mk (below_step HB.out hb)
  clear hb
  go_wp2
  go_ret
  exact ⟨by rw [HE.out]; rfl, HB1.out⟩
set_option maxRecDepth 100000 in
theorem index_seg (A : Option Addr) (c : Nat) (xs : List SegT)  (w : World) (hr : (KSeg).C w A xs.length xs) :
    Calls Try.prog 85 #[.slice A xs.length c, .func (.func 65) #[] #[]] w fun e w' => ∃ i : Int, e = .returned (.int .i64 i) ∧ decide (0 ≤ i) = xs.any segNo ∧ Below w.heap.size w w' := by
  have hln := hr.2.1
  have HR := Aside0.mk hr
  have HB := Aside0.mk (Below.refl w.heap.size w)
  obtain ⟨E, hE⟩ : ∃ E, xs.any segNo = E := ⟨_, rfl⟩
  have HE := Aside0.mk hE
  rw [hE]
  skip
  clear hr hE
  go_enter Try.func85, Try.ntmps85
  go_wp2_with fail
  go_loopg [5, 8] xs.length (fun q v5 v8 w' => ∃ i : Nat, v8 = .int .i64 (i : Int) ∧ Aside0 (i + q = xs.length ∧ (xs.drop i).any segNo = E) ∧ Aside0 (Below w.heap.size w w'))
  case atStart => exact ⟨0, rfl, ⟨by omega, HE.out⟩, HB⟩
  case round =>
    clear HB HE
    obtain ⟨i, rfl, HI, HB⟩ := hrel
    have hix := HI.out
    by_cases hlt : i < xs.length
    · obtain ⟨f, rfl⟩ : ∃ f, gk = f + 1 := ⟨gk - 1, by omega⟩
      have k0 : ((i : Int) < (xs.length : Int)) = True := eq_true (by omega)
      have kw : IntKind.i64.wrap ((i : Int) + 1) = (i : Int) + 1 := by rw [IntKind.wrap_i64]; omega
      obtain ⟨ad, e_, p0, p1, p2, p3, p4, p5⟩ := seg_at (Kd.C_below HR.out HB.out) i hlt
      subst e_
      have hf := hix.2
      rw [drop_getD (d := seg0) hlt, List.any_cons] at hf
      generalize xs.getD i seg0 = o at *
      have HF := Aside0.mk hf
      have HCL := Aside0.mk (segc_calls o wr)
      unfold segV at HCL
      clear hf hix
      go_wp2_with fail
      refine HCL.out.mono ?_
      rintro e_ w4 ⟨rfl, hb⟩
      have HB4 := Aside0.mk (below_step HB.out hb)
      clear hb HCL
      cases hw : segNo o with
      | true =>
        have HE : Aside0 (E = true) := ⟨by rw [← HF.out, hw]; rfl⟩
        clear hw
        go_wp2
        go_ret
        exact ⟨(i : Int), rfl, by rw [HE.out]; exact decide_eq_true (by omega), HB4.out⟩
      | false =>
        have HE : Aside0 ((xs.drop (i + 1)).any segNo = E) := ⟨by rw [← HF.out, hw]; rfl⟩
        clear hw
        go_wp2_with fail
        go_roundg f
        case measure => omega
        case rel => exact ⟨i + 1, by simp, ⟨by have := HI.out; omega, HE.out⟩, HB4⟩
    · have k0 : ((i : Int) < (xs.length : Int)) = False := eq_false (by omega)
      have hf := hix.2
      rw [List.drop_of_length_le (by omega)] at hf
      have HE : Aside0 (E = false) := ⟨hf.symm⟩
      clear hix hf hlt
      go_wp2
      go_ret
      exact ⟨-1, rfl, by rw [HE.out]; rfl, HB.out⟩

set_option maxRecDepth 100000 in
theorem index_par (A : Option Addr) (c : Nat) (xs : List ParT)  (w : World) (hr : (KPar).C w A xs.length xs) :
    Calls Try.prog 86 #[.slice A xs.length c, .func (.func 68) #[] #[]] w fun e w' => ∃ i : Int, e = .returned (.int .i64 i) ∧ decide (0 ≤ i) = xs.any parNo ∧ Below w.heap.size w w' := by
  have hln := hr.2.1
  have HR := Aside0.mk hr
  have HB := Aside0.mk (Below.refl w.heap.size w)
  obtain ⟨E, hE⟩ : ∃ E, xs.any parNo = E := ⟨_, rfl⟩
  have HE := Aside0.mk hE
  rw [hE]
  skip
  clear hr hE
  go_enter Try.func86, Try.ntmps86
  go_wp2_with fail
  go_loopg [5, 8] xs.length (fun q v5 v8 w' => ∃ i : Nat, v8 = .int .i64 (i : Int) ∧ Aside0 (i + q = xs.length ∧ (xs.drop i).any parNo = E) ∧ Aside0 (Below w.heap.size w w'))
  case atStart => exact ⟨0, rfl, ⟨by omega, HE.out⟩, HB⟩
  case round =>
    clear HB HE
    obtain ⟨i, rfl, HI, HB⟩ := hrel
    have hix := HI.out
    by_cases hlt : i < xs.length
    · obtain ⟨f, rfl⟩ : ∃ f, gk = f + 1 := ⟨gk - 1, by omega⟩
      have k0 : ((i : Int) < (xs.length : Int)) = True := eq_true (by omega)
      have kw : IntKind.i64.wrap ((i : Int) + 1) = (i : Int) + 1 := by rw [IntKind.wrap_i64]; omega
      obtain ⟨ad, A1, c1, A2, c2, e_, p0, p1, p2, p3, p4, l1, l2, r1, r2⟩ := par_at (Kd.C_below HR.out HB.out) i hlt
      subst e_
      have hf := hix.2
      rw [drop_getD (d := par0) hlt, List.any_cons] at hf
      generalize xs.getD i par0 = o at *
      have HF := Aside0.mk hf
      have HCL := Aside0.mk (parc_calls o _ wr ⟨A1, c1, A2, c2, rfl, l1, l2, r1, r2⟩)
      clear l1 l2 r1 r2
      clear hf hix
      go_wp2_with fail
      refine HCL.out.mono ?_
      rintro e_ w4 ⟨rfl, hb⟩
      have HB4 := Aside0.mk (below_step HB.out hb)
      clear hb HCL
      cases hw : parNo o with
      | true =>
        have HE : Aside0 (E = true) := ⟨by rw [← HF.out, hw]; rfl⟩
        clear hw
        go_wp2
        go_ret
        exact ⟨(i : Int), rfl, by rw [HE.out]; exact decide_eq_true (by omega), HB4.out⟩
      | false =>
        have HE : Aside0 ((xs.drop (i + 1)).any parNo = E) := ⟨by rw [← HF.out, hw]; rfl⟩
        clear hw
        go_wp2_with fail
        go_roundg f
        case measure => omega
        case rel => exact ⟨i + 1, by simp, ⟨by have := HI.out; omega, HE.out⟩, HB4⟩
    · have k0 : ((i : Int) < (xs.length : Int)) = False := eq_false (by omega)
      have hf := hix.2
      rw [List.drop_of_length_le (by omega)] at hf
      have HE : Aside0 (E = false) := ⟨hf.symm⟩
      clear hix hf hlt
      go_wp2
      go_ret
      exact ⟨-1, rfl, by rw [HE.out]; rfl, HB.out⟩

set_option maxRecDepth 100000 in
theorem cont_seg (A : Option Addr) (c : Nat) (xs : List SegT)  (w : World) (hr : (KSeg).C w A xs.length xs) :
    Calls Try.prog 64 #[.slice A xs.length c, .func (.func 65) #[] #[]] w fun e w' => e = .returned (.bool (xs.any segNo)) ∧ Below w.heap.size w w' := by
  have HI := Aside0.mk (index_seg A c xs w hr)
  clear hr
  go_enter Try.func64, Try.ntmps64
  go_wp2_with fail
  refine HI.out.mono ?_
  rintro e_ w1 ⟨i, rfl, hix, hb⟩
  have HB1 := Aside0.mk hb
  have HI2 := Aside0.mk hix
  clear hb hix
  go_wp2
  go_ret
  exact ⟨by rw [HI2.out]; rfl, HB1.out⟩

set_option maxRecDepth 100000 in
theorem cont_par (A : Option Addr) (c : Nat) (xs : List ParT)  (w : World) (hr : (KPar).C w A xs.length xs) :
    Calls Try.prog 67 #[.slice A xs.length c, .func (.func 68) #[] #[]] w fun e w' => e = .returned (.bool (xs.any parNo)) ∧ Below w.heap.size w w' := by
  have HI := Aside0.mk (index_par A c xs w hr)
  clear hr
  go_enter Try.func67, Try.ntmps67
  go_wp2_with fail
  refine HI.out.mono ?_
  rintro e_ w1 ⟨i, rfl, hix, hb⟩
  have HB1 := Aside0.mk hb
  have HI2 := Aside0.mk hix
  clear hb hix
  go_wp2
  go_ret
  exact ⟨by rw [HI2.out]; rfl, HB1.out⟩

/-- May an edit be? -/
def edOk (e : EdT) : Bool := inL 0 1125899906842624 [e.1, e.2.1] && (decide (max (max e.2.2.1.length e.2.2.2.1.length) (max e.2.2.2.2.1.length e.2.2.2.2.2.length) ≤ 60) && (inL 1 1125899906842624 e.2.2.2.1 && (inL 1 1125899906842624 e.2.2.2.2.2 && (!e.2.2.1.any segNo && !e.2.2.2.2.1.any parNo))))
def edC (e : EdT) : Int := if edOk e then 0 else 10
theorem max4 (a b c d : Nat) (ats : Array TypeId) (ty : TypeId) : Builtin.max_ ats ty #[.int .i64 (a : Int), .int .i64 (b : Int), .int .i64 (c : Int), .int .i64 (d : Int)] = pure (.int .i64 ((max (max a b) (max c d) : Nat) : Int)) := by
  rw [max_four, max2_int]
  simp only [pure_bind, max2_int]
  congr 2
  repeat' split
  all_goals omega
set_option maxRecDepth 100000 in
set_option maxHeartbeats 2000000 in
theorem check_calls (e : EdT) (v : Value) (w : World) (h : EdAt w v e) :
    Calls Try.prog 46 #[v] w fun x w' => x = .returned (.int .i64 (edC e)) ∧ Below w.heap.size w w' := by
  obtain ⟨A1, c1, A2, c2, A3, c3, A4, c4, rfl, hl, r1, r2, r3, r4⟩ := h
  have HB := Aside0.mk ((Below.refl w.heap.size w).alloc (Nat.le_refl _) (.cells #[.int .i64 e.1, .int .i64 e.2.1, .slice A1 e.2.2.1.length c1, .slice A2 e.2.2.2.1.length c2, .slice A3 e.2.2.2.2.1.length c3, .slice A4 e.2.2.2.2.2.length c4] 66 (0, 0)))
  have HP := Aside0.mk (blk_new w (.cells #[.int .i64 e.1, .int .i64 e.2.1, .slice A1 e.2.2.1.length c1, .slice A2 e.2.2.2.1.length c2, .slice A3 e.2.2.2.2.1.length c3, .slice A4 e.2.2.2.2.2.length c4] 66 (0, 0)))
  obtain ⟨w0, hw0⟩ : ∃ q, w.alloc (.cells #[.int .i64 e.1, .int .i64 e.2.1, .slice A1 e.2.2.1.length c1, .slice A2 e.2.2.2.1.length c2, .slice A3 e.2.2.2.2.1.length c3, .slice A4 e.2.2.2.2.2.length c4] 66 (0, 0)) = q := ⟨_, rfl⟩
  rw [hw0] at HB HP
  have HR := Aside0.mk (And.intro (Kd.C_below r1 HB.out) (And.intro (Kd.C_below r2 HB.out) (And.intro (Kd.C_below r3 HB.out) (Kd.C_below r4 HB.out))))
  have HD2 := Aside0.mk (fun w h => in_calls 1 1125899906842624 A2 c2 e.2.2.2.1 w h)
  have HD4 := Aside0.mk (fun w h => in_calls 1 1125899906842624 A4 c4 e.2.2.2.2.2 w h)
  have HD1 := Aside0.mk (fun w h => cont_seg A1 c1 e.2.2.1 w h)
  have HD3 := Aside0.mk (fun w h => cont_par A3 c3 e.2.2.2.2.1 w h)
  have HC0 := in2_calls 0 1125899906842624 e.1 e.2.1 w0
  have hE : edC e = if (inL 0 1125899906842624 [e.1, e.2.1] && (decide (max (max e.2.2.1.length e.2.2.2.1.length) (max e.2.2.2.2.1.length e.2.2.2.2.2.length) ≤ 60) && (inL 1 1125899906842624 e.2.2.2.1 && (inL 1 1125899906842624 e.2.2.2.2.2 && (!e.2.2.1.any segNo && !e.2.2.2.2.1.any parNo))))) = true then 0 else 10 := rfl
  generalize edC e = E at *
  generalize inL 0 1125899906842624 [e.1, e.2.1] = b0 at *
  generalize inL 1 1125899906842624 e.2.2.2.1 = b1 at *
  generalize inL 1 1125899906842624 e.2.2.2.2.2 = b2 at *
  generalize e.2.2.1.any segNo = b3 at *
  generalize e.2.2.2.2.1.any parNo = b4 at *
  generalize e.2.2.1 = ads at *
  generalize e.2.2.2.1 = dls at *
  generalize e.2.2.2.2.1 = prs at *
  generalize e.2.2.2.2.2 = drs at *
  generalize e.2.1 = sq at *
  generalize e.1 = nx at *
  have HE := Aside0.mk hE
  clear hl r1 r2 r3 r4 hE
  obtain ⟨m1, hm1⟩ : ∃ q, ads.length = q := ⟨_, rfl⟩
  obtain ⟨m2, hm2⟩ : ∃ q, dls.length = q := ⟨_, rfl⟩
  obtain ⟨m3, hm3⟩ : ∃ q, prs.length = q := ⟨_, rfl⟩
  obtain ⟨m4, hm4⟩ : ∃ q, drs.length = q := ⟨_, rfl⟩
  rw [hm1, hm2, hm3, hm4] at HE hw0 HP ⊢
  rw [hm1, hm2, hm3, hm4] at HR
  rw [hm1] at HD1
  rw [hm2] at HD2
  rw [hm3] at HD3
  rw [hm4] at HD4
  clear hm1 hm2 hm3 hm4
  have hmx := max4 m1 m2 m3 m4
  generalize max (max m1 m2) (max m3 m4) = M at *
  have q0 : w0.cell? ⟨w.heap.size, 0, none⟩ = some (.int .i64 nx) := blk_cell HP.out 0
  have q1 : w0.cell? ⟨w.heap.size, 1, none⟩ = some (.int .i64 sq) := blk_cell HP.out 1
  go_enter Try.func46, Try.ntmps46
  go_wp2_with fail
  refine HC0.mono ?_
  rintro e_ w1 ⟨rfl, hb⟩
  have HB1 := Aside0.mk (below_step HB.out hb)
  have HP1 := Aside0.mk (blk_below HP.out hb)
  have HR1 := Aside0.mk (And.intro (Kd.C_below HR.out.1 hb) (And.intro (Kd.C_below HR.out.2.1 hb) (And.intro (Kd.C_below HR.out.2.2.1 hb) (Kd.C_below HR.out.2.2.2 hb))))
  clear hb q0 q1 HB HP HR hw0 HC0
  cases b0 with
  | false =>
    go_wp2
    go_ret
    exact ⟨by rw [HE.out]; rfl, HB1.out⟩
  | true =>
    have q0 : w1.cell? ⟨w.heap.size, 2, none⟩ = some (.slice A1 m1 c1) := blk_cell HP1.out 2
    have q1 : w1.cell? ⟨w.heap.size, 3, none⟩ = some (.slice A2 m2 c2) := blk_cell HP1.out 3
    have q2 : w1.cell? ⟨w.heap.size, 4, none⟩ = some (.slice A3 m3 c3) := blk_cell HP1.out 4
    have q3 : w1.cell? ⟨w.heap.size, 5, none⟩ = some (.slice A4 m4 c4) := blk_cell HP1.out 5
    by_cases hM : M ≤ 60
    · have kM : ((60 : Int) < (M : Int)) = False := eq_false (by omega)
      have kd : decide (M ≤ 60) = true := decide_eq_true hM
      rw [kd] at HE
      clear hM kd
      have hc2 := HD2.out w1 HR1.out.2.1
      go_wp2_with fail
      refine hc2.mono ?_
      rintro e_ w2 ⟨rfl, hb⟩
      have HB2 := Aside0.mk (below_step HB1.out hb)
      have HP2 := Aside0.mk (blk_below HP1.out hb)
      have HR2 := Aside0.mk (And.intro (Kd.C_below HR1.out.1 hb) (And.intro (Kd.C_below HR1.out.2.2.1 hb) (Kd.C_below HR1.out.2.2.2 hb)))
      clear hb q0 q1 q2 q3 hc2
      cases b1 with
      | false =>
        go_wp2
        go_ret
        exact ⟨by rw [HE.out]; rfl, HB2.out⟩
      | true =>
        have q3 : w2.cell? ⟨w.heap.size, 5, none⟩ = some (.slice A4 m4 c4) := blk_cell HP2.out 5
        have hc2 := HD4.out w2 HR2.out.2.2
        go_wp2_with fail
        refine hc2.mono ?_
        rintro e_ w3 ⟨rfl, hb⟩
        have HB3 := Aside0.mk (below_step HB2.out hb)
        have HP3 := Aside0.mk (blk_below HP2.out hb)
        have HR3 := Aside0.mk (And.intro (Kd.C_below HR2.out.1 hb) (Kd.C_below HR2.out.2.1 hb))
        clear hb q3 hc2
        cases b2 with
        | false =>
          go_wp2
          go_ret
          exact ⟨by rw [HE.out]; rfl, HB3.out⟩
        | true =>
          have q0 : w3.cell? ⟨w.heap.size, 2, none⟩ = some (.slice A1 m1 c1) := blk_cell HP3.out 2
          have hc2 := HD1.out w3 HR3.out.1
          go_wp2_with fail
          refine hc2.mono ?_
          rintro e_ w4 ⟨rfl, hb⟩
          have HB4 := Aside0.mk (below_step HB3.out hb)
          have HP4 := Aside0.mk (blk_below HP3.out hb)
          have HR4 := Aside0.mk (Kd.C_below HR3.out.2 hb)
          clear hb q0 hc2
          cases b3 with
          | true =>
            go_wp2
            go_ret
            exact ⟨by rw [HE.out]; rfl, HB4.out⟩
          | false =>
            have q2 : w4.cell? ⟨w.heap.size, 4, none⟩ = some (.slice A3 m3 c3) := blk_cell HP4.out 4
            have hc2 := HD3.out w4 HR4.out
            go_wp2_with fail
            refine hc2.mono ?_
            rintro e_ w5 ⟨rfl, hb⟩
            have HB5 := Aside0.mk (below_step HB4.out hb)
            clear hb q2 hc2
            cases b4 with
            | true =>
              go_wp2
              go_ret
              exact ⟨by rw [HE.out]; rfl, HB5.out⟩
            | false =>
              go_wp2
              go_ret
              exact ⟨by rw [HE.out]; rfl, HB5.out⟩
    · have kM : ((60 : Int) < (M : Int)) = True := eq_true (by omega)
      have kd : decide (M ≤ 60) = false := decide_eq_false hM
      rw [kd] at HE
      clear hM kd
      go_wp2
      go_ret
      exact ⟨by rw [HE.out]; rfl, HB1.out⟩
end Go.Proofs.Ytfojeegepfjbiaa.EdD
