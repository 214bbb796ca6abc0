/- Contract of edit.text. -/
import Derived.Test.YtfojeegepfjbiaaProg
import Derived.Below
import Derived.Deep.Draws
import Derived.Deep.AppendLies
import Derived.Maps.AppendAt
import Derived.OwnWalk
import Derived.Laws.BytesArg
import Derived.Laws.MakeOwn
import Derived.Laws.OwnMore
import Derived.Deep.OwnRows
import Derived.Tactics
import Derived.Lib.ConvBytes
import Derived.Laws.Slices
import Derived.WalkKit
import Derived.KernelRfl
import Derived.RowKit3
import Derived.Deep.LoopGhost
import Derived.Deep.QuietTactic
import Derived.BigQuiet
import Derived.WideLaws
import Derived.Deep.DeepCutAuto
import Derived.Deep.CutBlock
import Derived.Deep.RegionHeld3
import Derived.Laws.Rows
import Derived.Lib.AppendStr
import Derived.ArgAppend
import Derived.Laws.IdiomCopy
import Derived.OrdersHeld
import Derived.Laws.BitsLemmas
import Derived.RowKit
import Derived.Deep.RegionWith
import Derived.WalkSpells
import Derived.Outline
import Derived.Test.YtfojeegepfjbiaaWWords
import Derived.Test.YtfojeegepfjbiaaWLast
import Derived.Test.YtfojeegepfjbiaaWMore
import Derived.Test.YtfojeegepfjbiaaWArr
import Derived.Test.YtfojeegepfjbiaaWTab
import Derived.Test.YtfojeegepfjbiaaWZeros
import Derived.Test.YtfojeegepfjbiaaWRepsOne
import Derived.Test.YtfojeegepfjbiaaEdF
namespace Go.Proofs.Ytfojeegepfjbiaa.EdG
open Go.RowKit Go.Proofs.YtfojeegepfjbiaaW.PrintWords Go.Proofs.YtfojeegepfjbiaaW.PrintLast Go.Proofs.YtfojeegepfjbiaaW.PrintMore Go.Proofs.Ytfojeegepfjbiaa.Mix Go.Proofs.Ytfojeegepfjbiaa.MixB Go.Proofs.Ytfojeegepfjbiaa.MixT Go.Proofs.Ytfojeegepfjbiaa.Nm Go.Proofs.Ytfojeegepfjbiaa.NmA Go.Proofs.Ytfojeegepfjbiaa.NmH Go.Proofs.Ytfojeegepfjbiaa.EdZ Go.Proofs.Ytfojeegepfjbiaa.EdA Go.Proofs.Ytfojeegepfjbiaa.EdB Go.Proofs.Ytfojeegepfjbiaa.EdC Go.Proofs.Ytfojeegepfjbiaa.EdD Go.Proofs.Ytfojeegepfjbiaa.EdE Go.Proofs.Ytfojeegepfjbiaa.EdF
set_option linter.unusedSimpArgs false
set_option linter.unusedVariables false
attribute [local go_sem] max2_int min2_int max_two min_two

/-- A writer that holds numbers. -/
def WrS (w : World) (B p : Nat) (L : List Int) : Prop := WrAt w B p (encs L) ∧ Nums L
theorem wrs_below {w w' : World} {B p : Nat} {L : List Int} (h : WrS w B p L) (hb : Below w.heap.size w w') : WrS w' B p L := by
  obtain ⟨⟨h1, v, h2, h3⟩, h4⟩ := h
  exact ⟨⟨h1, v, blk_below h2 hb, Kd.R_below h3 hb⟩, h4⟩
theorem wrs_size {w : World} {B p : Nat} {L : List Int} (h : WrS w B p L) : B ≤ w.heap.size := by
  obtain ⟨⟨h1, v, h2, h3⟩, h4⟩ := h
  have := blk_lt h2
  omega
theorem nums_wr (B p : Nat) (L : List Int) (A : Option Addr) (c : Nat) (xs : List Int) (w : World) (h : WrS w B p L) (hx : ∀ wx, Kt WT UT w wx → Below B w wx → (Kd.int .i64).C wx A xs.length xs) (hn : Nums xs) (hl : L.length + xs.length ≤ 10000) :
    Calls Try.prog 81 #[.pointer (some ⟨p, 0, none⟩), .slice A xs.length c] w fun e w' => e = .returned (.tuple #[]) ∧ WrS w' B p (L ++ xs) ∧ Kt WT UT w w' ∧ Below B w w' := by
  refine (nums_calls B p (encs L) A c xs w h.1 hx hn (by have := encs_len h.2; omega)).mono ?_
  rintro e w' ⟨h1, h2, h3, h4⟩
  exact ⟨h1, ⟨by rw [encs_app]; exact h2, nums_app h.2 hn⟩, h3, h4⟩
theorem lnums (B p : Nat) (L xs : List Int) (w : World) (h : WrS w B p L) (hn : Nums xs) (hl : L.length + xs.length ≤ 10000) (hx : xs.length ≤ 100) :
    Calls Try.prog 81 #[.pointer (some ⟨p, 0, none⟩), .slice (some ⟨w.heap.size, 0, none⟩) xs.length xs.length] (w.alloc (.cells (nums .i64 xs).toArray 2 (0, 0))) fun e w' => e = .returned (.tuple #[]) ∧ WrS w' B p (L ++ xs) ∧ Kt WT UT w w' ∧ Below B w w' := by
  have hb := (Below.refl w.heap.size w).alloc (Nat.le_refl _) (.cells (nums .i64 xs).toArray 2 (0, 0))
  have hc := lit_C w 2 xs hx
  have hblk := blk_new w (.cells (nums .i64 xs).toArray 2 (0, 0))
  generalize w.alloc (.cells (nums .i64 xs).toArray 2 (0, 0)) = w1 at *
  have hsz := wrs_size h
  refine Calls.mono (nums_wr B p L (some ⟨w.heap.size, 0, none⟩) xs.length xs w1 (wrs_below h hb) (fun wx hk _ => ?_) hn hl) (fun e w' h' => ⟨h'.1, h'.2.1, (Kt.below hb).trans h'.2.2.1, (hb.mono hsz).trans h'.2.2.2⟩)
  have hblk' := hk.blk hblk (by decide) (by decide)
  refine ⟨hc.1, hc.2.1, fun hp => ?_⟩
  obtain ⟨ad, e1, hcc⟩ := hc.2.2 hp
  refine ⟨ad, e1, fun j q hj => ?_⟩
  obtain ⟨cc, h1, h2, h3⟩ := hcc j q hj
  refine ⟨cc, h1, h2, fun i u hu => ?_⟩
  have h4 := h3 i u hu
  injection e1 with e1
  subst e1
  rw [add_plain] at h4 ⊢
  rw [blk_cell hblk] at h4
  rw [blk_cell hblk']
  exact h4
theorem anums (B p : Nat) (L : List Int) (A : Option Addr) (c : Nat) (xs : List Int) (w : World) (h : WrS w B p L) (hx : ∀ wx, Below B w wx → (Kd.int .i64).C wx A xs.length xs) (hn : Nums xs) (hl : L.length + xs.length ≤ 10000) :
    Calls Try.prog 81 #[.pointer (some ⟨p, 0, none⟩), .slice A xs.length c] w fun e w' => e = .returned (.tuple #[]) ∧ WrS w' B p (L ++ xs) ∧ Kt WT UT w w' ∧ Below B w w' := nums_wr B p L A c xs w h (fun wx _ hb => hx wx hb) hn hl
theorem cell_up {B : Nat} {w wx : World} (hB : w.heap.size = B) (h : Below B w wx) {a : Addr} {v : Value} (hc : w.cell? a = some v) : wx.cell? a = some v := by subst hB; exact pw_cell_below h hc
theorem C_up {α : Type} {d : Kd α} {B : Nat} {w wx : World} (hB : w.heap.size = B) (h : Below B w wx) {A : Option Addr} {n : Nat} {xs : List α} (hc : d.C w A n xs) : d.C wx A n xs := by subst hB; exact Kd.C_below hc h
theorem getD_mem {α : Type} {d : α} {xs : List α} {i : Nat} (h : i < xs.length) : xs.getD i d ∈ xs := by rw [List.getD_eq_getElem?_getD, List.getElem?_eq_getElem h]; exact List.getElem_mem h
theorem truth_calls (b : Bool) (w : World) : Calls Try.prog 82 #[.bool b] w fun e w' => e = .returned (.int .i64 (truthN b)) ∧ Below w.heap.size w w' := by
  have HB := Aside0.mk (Below.refl w.heap.size w)
  cases b with
  | true =>
    go_enter Try.func82, Try.ntmps82
    go_wp2
    go_ret
    exact ⟨rfl, HB.out⟩
  | false =>
    go_enter Try.func82, Try.ntmps82
    go_wp2
    go_ret
    exact ⟨rfl, HB.out⟩
set_option maxRecDepth 100000 in
set_option maxHeartbeats 4000000 in
theorem text_calls (e : EdT) (v : Value) (w : World) (h : EdAt w v e) (hok : edOk e = true) (hg : edGood e) :
    Calls Try.prog 60 #[v] w fun x w' => ∃ y : Value, x = .returned y ∧ Kd.R (Kd.int .u8) 5 w' w.heap.size (fun _ => True) y (textL e) ∧ Below w.heap.size w w' := by
  obtain ⟨A1, c1, A2, c2, A3, c3, A4, c4, rfl, hl, r1, r2, r3, r4⟩ := h
  obtain ⟨nx, sq, ads, dls, prs, drs⟩ := e
  have hT : textL (nx, sq, ads, dls, prs, drs) = encs ((((((([nx, sq, (ads.length : Int)] ++ ads.flatMap segN) ++ [(dls.length : Int)]) ++ dls) ++ [(prs.length : Int)]) ++ prs.flatMap parN) ++ [(drs.length : Int)]) ++ drs) := rfl
  generalize textL (nx, sq, ads, dls, prs, drs) = TX at *
  obtain ⟨f1, f2, f3, f4, f5, f6⟩ := (ed_iff _).1 hok
  have HF := Aside0.mk (And.intro f1 (And.intro f2 (And.intro f3 (And.intro f4 (And.intro f5 (And.intro f6 hg))))))
  dsimp only at HF
  have hf2 := HF.out.2.1
  dsimp only at r1 r2 r3 r4
  have hb0 := (Below.refl w.heap.size w).alloc (Nat.le_refl _) (.cells #[.int .i64 nx, .int .i64 sq, .slice A1 ads.length c1, .slice A2 dls.length c2, .slice A3 prs.length c3, .slice A4 drs.length c4] 66 (0, 0))
  have hp0 := blk_new w (.cells #[.int .i64 nx, .int .i64 sq, .slice A1 ads.length c1, .slice A2 dls.length c2, .slice A3 prs.length c3, .slice A4 drs.length c4] 66 (0, 0))
  obtain ⟨w0, hw0⟩ : ∃ q, w.alloc (.cells #[.int .i64 nx, .int .i64 sq, .slice A1 ads.length c1, .slice A2 dls.length c2, .slice A3 prs.length c3, .slice A4 drs.length c4] 66 (0, 0)) = q := ⟨_, rfl⟩
  rw [hw0] at hb0 hp0
  have hb1 := (Below.refl w0.heap.size w0).alloc (Nat.le_refl _) (.cells #[.slice none 0 0] 116 (0, 0))
  have hp1 := blk_new w0 (.cells #[.slice none 0 0] 116 (0, 0))
  obtain ⟨w1, hw1⟩ : ∃ q, w0.alloc (.cells #[.slice none 0 0] 116 (0, 0)) = q := ⟨_, rfl⟩
  rw [hw1] at hb1 hp1
  obtain ⟨p, hp⟩ : ∃ q, w0.heap.size = q := ⟨_, rfl⟩
  obtain ⟨B, hB⟩ : ∃ q, w.heap.size = q := ⟨_, rfl⟩
  have HB1 : Aside0 (Below B w w1) := ⟨by rw [← hB]; exact below_step hb0 hb1⟩
  have HP1 := Aside0.mk (blk_below hp0 hb1)
  have HW1 : Aside0 (WrS w1 B p []) := ⟨⟨⟨by have := hb0.size; omega, _, (by rw [hp] at hp1; exact hp1), Kd.R_nil _ _ _ _ _⟩, fun n hn => by simp at hn⟩⟩
  have HRD : Aside0 (∀ wx, Below B w wx → KSeg.C wx A1 ads.length ads ∧ (Kd.int .i64).C wx A2 dls.length dls ∧ KPar.C wx A3 prs.length prs ∧ (Kd.int .i64).C wx A4 drs.length drs) := ⟨fun wx hb => by rw [← hB] at hb; exact ⟨Kd.C_below r1 hb, Kd.C_below r2 hb, Kd.C_below r3 hb, Kd.C_below r4 hb⟩⟩
  rw [hB] at HP1 ⊢
  have HK1 : Aside0 (Kt WT UT w1 w1) := ⟨Kt.refl _ _ _⟩
  obtain ⟨m1, hm1⟩ : ∃ q, ads.length = q := ⟨_, rfl⟩
  obtain ⟨m2, hm2⟩ : ∃ q, dls.length = q := ⟨_, rfl⟩
  obtain ⟨m3, hm3⟩ : ∃ q, prs.length = q := ⟨_, rfl⟩
  obtain ⟨m4, hm4⟩ : ∃ q, drs.length = q := ⟨_, rfl⟩
  rw [hm1, hm2, hm3, hm4] at hT hw0 HP1 hf2 ⊢
  rw [hm1, hm2, hm3, hm4] at HRD
  have HT := Aside0.mk hT
  have HM := Aside0.mk (And.intro hm1 (And.intro hm2 (And.intro hm3 hm4)))
  have HM60 := Aside0.mk hf2
  have q0 : w1.cell? ⟨B, 0, none⟩ = some (.int .i64 nx) := blk_cell HP1.out 0
  have q1 : w1.cell? ⟨B, 1, none⟩ = some (.int .i64 sq) := blk_cell HP1.out 1
  have q2 : w1.cell? ⟨B, 2, none⟩ = some (.slice A1 m1 c1) := blk_cell HP1.out 2
  have HC_ := Aside0.mk (lnums B p [] [nx, sq, (m1 : Int)] w1 HW1.out (fun n hn => by have := HF.out.1; simp only [List.mem_cons, List.not_mem_nil, or_false] at hn; rcases hn with rfl | rfl | rfl <;> omega) (by simp) (by simp))
  rw [List.nil_append] at HC_
  clear hl r1 r2 r3 r4 hok hg f1 f2 f3 f4 f5 f6 hT hm1 hm2 hm3 hm4 hf2 hb0 hb1 hp0 hp1
  go_enter Try.func60, Try.ntmps60
  go_wp2_with fail
  refine HC_.out.mono ?_
  rintro e_ w2 ⟨rfl, hw_, hk_, hb_⟩
  have HW2 := Aside0.mk hw_
  have HK2 := Aside0.mk (HK1.out.trans hk_)
  have HB2 := Aside0.mk (HB1.out.trans hb_)
  clear hw_ hk_ hb_ HC_ HW1 HB1 HK1
  clear q0 q1 q2 hw0 hw1 hp
  obtain ⟨L1, hL1⟩ : ∃ q, [nx, sq, (m1 : Int)] = q := ⟨_, rfl⟩
  have HL1 : Aside0 (L1.length ≤ 3) := ⟨by rw [← hL1]; simp⟩
  rw [hL1] at HW2
  have hT := HT.out
  rw [hL1] at hT
  have HT := Aside0.mk hT
  clear hT hL1
  have q2 : w2.cell? ⟨B, 2, none⟩ = some (.slice A1 m1 c1) := blk_cell (HK2.out.blk HP1.out (by decide) (by decide)) 2
  go_wp2_with fail
  go_loopg [5, 25] m1 (fun q v5 v25 w' => ∃ i : Nat, v25 = .int .i64 (i : Int) ∧ Aside0 (i + q = m1) ∧ Aside0 (WrS w' B p (L1 ++ (ads.take i).flatMap segN)) ∧ Aside0 (Kt WT UT w1 w') ∧ Aside0 (Below B w w'))
  case atStart => exact ⟨0, rfl, ⟨by omega⟩, ⟨by rw [List.take_zero, List.flatMap_nil, List.append_nil]; exact HW2.out⟩, HK2, HB2⟩
  case round =>
    clear q2 HW2 HK2 HB2
    obtain ⟨i, rfl, HI, HW, HK, HB⟩ := hrel
    by_cases hlt : i < m1
    · obtain ⟨f, rfl⟩ : ∃ f, gk = f + 1 := ⟨gk - 1, by have := HI.out; omega⟩
      have k0 : ((i : Int) < (m1 : Int)) = True := eq_true (by omega)
      have kw : IntKind.i64.wrap ((i : Int) + 1) = (i : Int) + 1 := by have := HM60.out; rw [IntKind.wrap_i64]; omega
      obtain ⟨ad, e_, y0, y1, y2, y3, y4, y5⟩ := seg_at (HRD.out wr HB.out).1 i hlt
      subst e_
      have hil : i < ads.length := by rw [HM.out.1]; exact hlt
      have hsk := HF.out.2.2.2.2.1 _ (getD_mem (d := seg0) hil)
      have hsg := HF.out.2.2.2.2.2.2.1 _ (getD_mem (d := seg0) hil)
      have hns := nums_segN hsk hsg
      have hto : L1 ++ (ads.take (i + 1)).flatMap segN = (L1 ++ (ads.take i).flatMap segN) ++ segN (ads.getD i seg0) := by rw [take_getD (d := seg0) hil, List.flatMap_append, List.append_assoc]; simp
      have hla : (L1 ++ (ads.take i).flatMap segN).length ≤ 363 := by rw [List.length_append, segs_len, List.length_take]; have := HL1.out; have := HM60.out; omega
      generalize ads.getD i seg0 = s at *
      obtain ⟨n, sl, g, m, z, u⟩ := s
      have hto' : L1 ++ (ads.take (i + 1)).flatMap segN = (L1 ++ (ads.take i).flatMap segN) ++ [n, truthN sl, g, m, z, u] := hto
      have HTO := Aside0.mk hto'
      have HNS : Aside0 (Nums [n, truthN sl, g, m, z, u]) := ⟨hns⟩
      have HLA := Aside0.mk hla
      have ku : IntKind.i64.wrap u = u := by rw [IntKind.wrap_i64]; have := hsg; dsimp only at this; omega
      generalize L1 ++ (ads.take i).flatMap segN = acc at *
      dsimp only at y0 y1 y2 y3 y4 y5
      have hx3 := blk_new wr (.cells #[.int .i64 n, .bool sl, .int .i64 g, .int .i64 m, .int .i64 z, .int .u32 u] 77 (0, 0))
      have hbx := (Below.refl wr.heap.size wr).alloc (Nat.le_refl _) (.cells #[.int .i64 n, .bool sl, .int .i64 g, .int .i64 m, .int .i64 z, .int .u32 u] 77 (0, 0))
      obtain ⟨wx, hwx⟩ : ∃ q, wr.alloc (.cells #[.int .i64 n, .bool sl, .int .i64 g, .int .i64 m, .int .i64 z, .int .u32 u] 77 (0, 0)) = q := ⟨_, rfl⟩
      obtain ⟨x, hx⟩ : ∃ q, wr.heap.size = q := ⟨_, rfl⟩
      rw [hwx] at hx3 hbx
      have HWx := Aside0.mk (wrs_below HW.out hbx)
      have HKx : Aside0 (Kt WT UT w1 wx) := ⟨HK.out.trans (Kt.below hbx)⟩
      have HBx : Aside0 (Below B w wx) := ⟨HB.out.trans (hbx.mono (wrs_size HW.out))⟩
      rw [hx] at hx3
      have HX := Aside0.mk hx3
      have x0 : wx.cell? ⟨x, 0, none⟩ = some (.int .i64 n) := blk_cell hx3 0
      have x1 : wx.cell? ⟨x, 1, none⟩ = some (.bool sl) := blk_cell hx3 1
      have x2 : wx.cell? ⟨x, 2, none⟩ = some (.int .i64 g) := blk_cell hx3 2
      have x3 : wx.cell? ⟨x, 3, none⟩ = some (.int .i64 m) := blk_cell hx3 3
      have x4 : wx.cell? ⟨x, 4, none⟩ = some (.int .i64 z) := blk_cell hx3 4
      have x5 : wx.cell? ⟨x, 5, none⟩ = some (.int .u32 u) := blk_cell hx3 5
      have fx := blk_frozen hx3 5
      have hws : wx.setCell ⟨x, 5, none⟩ (.int .u32 u) = wx := setCell_same hx3 rfl
      clear hil hsk hsg hns hto hto' hla hx3 hbx HW HK HB
      go_wp2_with fail
      refine wp_region_mix (fun w_ w1_ => w1_.heap[x]? = w_.heap[x]?) [(false, 0), (false, 1), (false, 2), (false, 3), (false, 4), (false, 6), (false, 7), (false, 8), (false, 9), (false, 10), (false, 11), (false, 12), (false, 13), (false, 14), (true, 5), (true, 15), (true, 16)] (by kernel_rfl) (by kernel_rfl) (fun _ => rfl) (fun h h' => h'.trans h) (fun wd hhp_ hbw_ => ?_)
      have HXd := Aside0.mk (blk_below HX.out hbw_)
      have HWd := Aside0.mk (wrs_below HWx.out hbw_)
      have HKd := Aside0.mk (HKx.out.trans (Kt.below hbw_))
      have HBd := Aside0.mk (HBx.out.trans (hbw_.mono (wrs_size HWx.out)))
      clear hhp_ hbw_ HX HWx HKx HBx x0 x1 x2 x3 x4 x5 fx hws
      (refine mix_read (o := { dst := some 29, op := Op.move (Operand.tmp 3), type := 114, pos := "edit.go:76", after := #[], guard := none }) rfl (by first | rfl | (simp [Region.wanted, yielded]; done)) (by intro w_ hE_; (try dsimp only at hE_); first | (go_simp; done) | (go_simp; rfl)) ?_)
      (try simp only [Act.put, List.setIfInBounds_toArray, List.set_cons_zero, List.set_cons_succ])
      (refine mix_read (o := { dst := some 30, op := Op.fieldAddr 77 (Operand.tmp 5) 0, type := 0, pos := "edit.go:76", after := #[], guard := none }) rfl (by first | rfl | (simp [Region.wanted, yielded]; done)) (by intro w_ hE_; (try dsimp only at hE_); first | (go_simp; done) | (go_simp; rfl)) ?_)
      (try simp only [Act.put, List.setIfInBounds_toArray, List.set_cons_zero, List.set_cons_succ])
      (refine mix_read (o := { dst := some 31, op := Op.load 2 (Operand.tmp 30), type := 2, pos := "edit.go:76", after := #[{ on := 1, ground := Ground.data }], guard := none }) rfl (by first | rfl | (simp [Region.wanted, yielded]; done)) (by intro w_ hE_; (try dsimp only at hE_); have z0_ : w_.cell? ⟨x, 0, none⟩ = some (.int .i64 n) := blk_cell (hE_.trans HXd.out) 0; first | (go_simp; done) | (go_simp; rfl)) ?_)
      (try simp only [Act.put, List.setIfInBounds_toArray, List.set_cons_zero, List.set_cons_succ])
      (refine mix_read (o := { dst := some 32, op := Op.fieldAddr 77 (Operand.tmp 5) 1, type := 0, pos := "edit.go:76", after := #[], guard := none }) rfl (by first | rfl | (simp [Region.wanted, yielded]; done)) (by intro w_ hE_; (try dsimp only at hE_); first | (go_simp; done) | (go_simp; rfl)) ?_)
      (try simp only [Act.put, List.setIfInBounds_toArray, List.set_cons_zero, List.set_cons_succ])
      (refine mix_read (o := { dst := some 33, op := Op.load 4 (Operand.tmp 32), type := 4, pos := "edit.go:76", after := #[{ on := 3, ground := Ground.data }], guard := none }) rfl (by first | rfl | (simp [Region.wanted, yielded]; done)) (by intro w_ hE_; (try dsimp only at hE_); have z0_ : w_.cell? ⟨x, 1, none⟩ = some (.bool sl) := blk_cell (hE_.trans HXd.out) 1; first | (go_simp; done) | (go_simp; rfl)) ?_)
      (try simp only [Act.put, List.setIfInBounds_toArray, List.set_cons_zero, List.set_cons_succ])
      (refine mix_read (o := { dst := some 35, op := Op.fieldAddr 77 (Operand.tmp 5) 2, type := 0, pos := "edit.go:76", after := #[], guard := none }) rfl (by first | rfl | (simp [Region.wanted, yielded]; done)) (by intro w_ hE_; (try dsimp only at hE_); first | (go_simp; done) | (go_simp; rfl)) ?_)
      (try simp only [Act.put, List.setIfInBounds_toArray, List.set_cons_zero, List.set_cons_succ])
      (refine mix_read (o := { dst := some 36, op := Op.load 2 (Operand.tmp 35), type := 2, pos := "edit.go:76", after := #[{ on := 6, ground := Ground.data }], guard := none }) rfl (by first | rfl | (simp [Region.wanted, yielded]; done)) (by intro w_ hE_; (try dsimp only at hE_); have z0_ : w_.cell? ⟨x, 2, none⟩ = some (.int .i64 g) := blk_cell (hE_.trans HXd.out) 2; first | (go_simp; done) | (go_simp; rfl)) ?_)
      (try simp only [Act.put, List.setIfInBounds_toArray, List.set_cons_zero, List.set_cons_succ])
      (refine mix_read (o := { dst := some 37, op := Op.fieldAddr 77 (Operand.tmp 5) 3, type := 0, pos := "edit.go:76", after := #[], guard := none }) rfl (by first | rfl | (simp [Region.wanted, yielded]; done)) (by intro w_ hE_; (try dsimp only at hE_); first | (go_simp; done) | (go_simp; rfl)) ?_)
      (try simp only [Act.put, List.setIfInBounds_toArray, List.set_cons_zero, List.set_cons_succ])
      (refine mix_read (o := { dst := some 38, op := Op.load 3 (Operand.tmp 37), type := 3, pos := "edit.go:76", after := #[{ on := 8, ground := Ground.data }], guard := none }) rfl (by first | rfl | (simp [Region.wanted, yielded]; done)) (by intro w_ hE_; (try dsimp only at hE_); have z0_ : w_.cell? ⟨x, 3, none⟩ = some (.int .i64 m) := blk_cell (hE_.trans HXd.out) 3; first | (go_simp; done) | (go_simp; rfl)) ?_)
      (try simp only [Act.put, List.setIfInBounds_toArray, List.set_cons_zero, List.set_cons_succ])
      (refine mix_read (o := { dst := some 39, op := Op.fieldAddr 77 (Operand.tmp 5) 4, type := 0, pos := "edit.go:76", after := #[], guard := none }) rfl (by first | rfl | (simp [Region.wanted, yielded]; done)) (by intro w_ hE_; (try dsimp only at hE_); first | (go_simp; done) | (go_simp; rfl)) ?_)
      (try simp only [Act.put, List.setIfInBounds_toArray, List.set_cons_zero, List.set_cons_succ])
      (refine mix_read (o := { dst := some 40, op := Op.load 3 (Operand.tmp 39), type := 3, pos := "edit.go:76", after := #[{ on := 10, ground := Ground.data }], guard := none }) rfl (by first | rfl | (simp [Region.wanted, yielded]; done)) (by intro w_ hE_; (try dsimp only at hE_); have z0_ : w_.cell? ⟨x, 4, none⟩ = some (.int .i64 z) := blk_cell (hE_.trans HXd.out) 4; first | (go_simp; done) | (go_simp; rfl)) ?_)
      (try simp only [Act.put, List.setIfInBounds_toArray, List.set_cons_zero, List.set_cons_succ])
      (refine mix_read (o := { dst := some 41, op := Op.fieldAddr 77 (Operand.tmp 5) 5, type := 0, pos := "edit.go:76", after := #[], guard := none }) rfl (by first | rfl | (simp [Region.wanted, yielded]; done)) (by intro w_ hE_; (try dsimp only at hE_); first | (go_simp; done) | (go_simp; rfl)) ?_)
      (try simp only [Act.put, List.setIfInBounds_toArray, List.set_cons_zero, List.set_cons_succ])
      (refine mix_read (o := { dst := some 42, op := Op.load 25 (Operand.tmp 41), type := 25, pos := "edit.go:76", after := #[{ on := 12, ground := Ground.data }], guard := none }) rfl (by first | rfl | (simp [Region.wanted, yielded]; done)) (by intro w_ hE_; (try dsimp only at hE_); have z0_ : w_.cell? ⟨x, 5, none⟩ = some (.int .u32 u) := blk_cell (hE_.trans HXd.out) 5; first | (go_simp; done) | (go_simp; rfl)) ?_)
      (try simp only [Act.put, List.setIfInBounds_toArray, List.set_cons_zero, List.set_cons_succ])
      (refine mix_read (o := { dst := some 43, op := Op.convert 25 2 (Operand.tmp 42), type := 2, pos := "edit.go:76", after := #[{ on := 13, ground := Ground.data }], guard := none }) rfl (by first | rfl | (simp [Region.wanted, yielded]; done)) (by intro w_ hE_; (try dsimp only at hE_); first | (go_simp; done) | (go_simp; rfl)) ?_)
      (try simp only [Act.put, List.setIfInBounds_toArray, List.set_cons_zero, List.set_cons_succ])
      refine mix_call (o := { dst := some 34, op := Op.call { callee := Callee.value (Operand.func 82), args := #[Operand.tmp 33], argTypes := #[4] }, type := 2, pos := "edit.go:76", after := #[{ on := 4, ground := Ground.data }], guard := none }) rfl (by first | rfl | (simp [Region.wanted, yielded]; done)) (by first | (go_simp; done) | (go_simp; exact ⟨rfl, rfl⟩) | (go_simp; rfl)) ?_
      refine (truth_calls sl _).mono ?_
      rintro e_ wt ⟨rfl, hb⟩
      refine ⟨_, rfl, (blk_below HXd.out hb).trans HXd.out.symm, ?_⟩
      have HXt := Aside0.mk (blk_below HXd.out hb)
      have HWt := Aside0.mk (wrs_below HWd.out hb)
      have HKt := Aside0.mk (HKd.out.trans (Kt.below hb))
      have HBt := Aside0.mk (HBd.out.trans (hb.mono (wrs_size HWd.out)))
      clear hb
      (try simp only [Act.put, List.setIfInBounds_toArray, List.set_cons_zero, List.set_cons_succ])
      refine mix_val (o := { dst := some 44, op := Op.buildSlice 63 6 #[(0, Operand.tmp 31), (1, Operand.tmp 34), (2, Operand.tmp 36), (3, Operand.tmp 38), (4, Operand.tmp 40), (5, Operand.tmp 43)], type := 63, pos := "edit.go:76", after := #[{ on := 2, ground := Ground.data }, { on := 5, ground := Ground.data }, { on := 7, ground := Ground.data }, { on := 9, ground := Ground.data }, { on := 11, ground := Ground.data }, { on := 14, ground := Ground.data }], guard := none }) (w1 := (wt.alloc (.cells #[.int .i64 n, .int .i64 (truthN sl), .int .i64 g, .int .i64 m, .int .i64 z, .int .i64 u] 2 (0, 0)))) rfl (by first | rfl | (simp [Region.wanted, yielded]; done)) (by first | (go_simp; done) | (go_simp; rfl)) ((blk_below HXt.out ((Below.refl wt.heap.size wt).alloc (Nat.le_refl _) (.cells #[.int .i64 n, .int .i64 (truthN sl), .int .i64 g, .int .i64 m, .int .i64 z, .int .i64 u] 2 (0, 0)))).trans HXt.out.symm) ?_
      (try simp only [Act.put, List.setIfInBounds_toArray, List.set_cons_zero, List.set_cons_succ])
      refine mix_call (o := { dst := some 45, op := Op.call { callee := Callee.value (Operand.func 81), args := #[Operand.tmp 29, Operand.tmp 44], argTypes := #[114, 63] }, type := 0, pos := "edit.go:76", after := #[{ on := 0, ground := Ground.data }, { on := 15, ground := Ground.data }, { on := 5, ground := Ground.chain }], guard := none }) rfl (by first | rfl | (simp [Region.wanted, yielded]; done)) (by first | (go_simp; done) | (go_simp; exact ⟨rfl, rfl⟩) | (go_simp; rfl)) ?_
      refine (lnums B p acc [n, truthN sl, g, m, z, u] wt HWt.out HNS.out (by have := HLA.out; simp only [List.length_cons, List.length_nil]; omega) (by simp)).mono ?_
      rintro e_ wu ⟨rfl, hw_, hk_, hb_⟩
      refine ⟨_, rfl, (hk_.blk HXt.out (by decide) (by decide)).trans (blk_below HXt.out ((Below.refl wt.heap.size wt).alloc (Nat.le_refl _) _)).symm, ?_⟩
      have HWu := Aside0.mk hw_
      have HKu := Aside0.mk (HKt.out.trans hk_)
      have HBu := Aside0.mk (HBt.out.trans hb_)
      clear hw_ hk_ hb_ HXt HWt HKt HBt HXd HWd HKd HBd
      (try simp only [Act.put, List.setIfInBounds_toArray, List.set_cons_zero, List.set_cons_succ])
      refine mix_nil ?_
      go_wp2_with fail
      go_roundg f
      case measure => omega
      case rel => exact ⟨i + 1, by simp, ⟨by have := HI.out; omega⟩, ⟨by rw [HTO.out]; exact HWu.out⟩, HKu, HBu⟩
    · have hii := HI.out
      have k0 : ((i : Int) < (m1 : Int)) = False := eq_false (by omega)
      rw [List.take_of_length_le (by rw [HM.out.1]; omega)] at HW
      have hla : (L1 ++ ads.flatMap segN).length ≤ 363 := by rw [List.length_append, segs_len]; have := HL1.out; have := HM60.out; have := HM.out.1; omega
      have hT := HT.out
      generalize L1 ++ ads.flatMap segN = L2 at *
      have HL2 := Aside0.mk hla
      have HT2 := Aside0.mk hT
      have HW3 := HW
      have HK3 := HK
      have HB3 := HB
      clear hT hla hii hlt HW HK HB HT HL1 HI
      have q2 : wr.cell? ⟨B, 3, none⟩ = some (.slice A2 m2 c2) := blk_cell (HK3.out.blk HP1.out (by decide) (by decide)) 3
      have HC_ := Aside0.mk (lnums B p L2 [(m2 : Int)] wr HW3.out (nums_one (by have := HM60.out; omega)) (by have := HL2.out; simp; omega) (by simp))
      go_wp2_with fail
      refine HC_.out.mono ?_
      rintro e_ w4 ⟨rfl, hw_, hk_, hb_⟩
      have HW4 := Aside0.mk hw_
      have HK4 := Aside0.mk (HK3.out.trans hk_)
      have HB4 := Aside0.mk (HB3.out.trans hb_)
      clear hw_ hk_ hb_ HC_ HW3 HB3 HK3
      clear q2
      have q2 : w4.cell? ⟨B, 3, none⟩ = some (.slice A2 m2 c2) := blk_cell (HK4.out.blk HP1.out (by decide) (by decide)) 3
      have hla : (L2 ++ [(m2 : Int)]).length ≤ 364 := by rw [List.length_append]; have := HL2.out; simp; omega
      have hT := HT2.out
      generalize L2 ++ [(m2 : Int)] = L3 at *
      have HL3 := Aside0.mk hla
      have HT3 := Aside0.mk hT
      have hn2 : dls.length = m2 := HM.out.2.1
      have HC_ := Aside0.mk (anums B p L3 A2 c2 dls w4 HW4.out (fun wx hb => by rw [hn2]; exact (HRD.out wx (HB4.out.trans hb)).2.1) (fun n hn => by have := HF.out.2.2.1 n hn; omega) (by have := HL3.out; have := HM60.out; omega))
      rw [hn2] at HC_
      clear hT hla hn2 HL2 HT2
      go_wp2_with fail
      refine HC_.out.mono ?_
      rintro e_ w5 ⟨rfl, hw_, hk_, hb_⟩
      have HW5 := Aside0.mk hw_
      have HK5 := Aside0.mk (HK4.out.trans hk_)
      have HB5 := Aside0.mk (HB4.out.trans hb_)
      clear hw_ hk_ hb_ HC_ HW4 HB4 HK4
      clear q2
      have q2 : w5.cell? ⟨B, 4, none⟩ = some (.slice A3 m3 c3) := blk_cell (HK5.out.blk HP1.out (by decide) (by decide)) 4
      have hla : (L3 ++ dls).length ≤ 424 := by rw [List.length_append]; have := HL3.out; have := HM.out.2.1; have := HM60.out; omega
      have hT := HT3.out
      generalize L3 ++ dls = L4 at *
      have HL4 := Aside0.mk hla
      have HT4 := Aside0.mk hT
      have HC_ := Aside0.mk (lnums B p L4 [(m3 : Int)] w5 HW5.out (nums_one (by have := HM60.out; omega)) (by have := HL4.out; simp; omega) (by simp))
      clear hT hla HL3 HT3
      go_wp2_with fail
      refine HC_.out.mono ?_
      rintro e_ w6 ⟨rfl, hw_, hk_, hb_⟩
      have HW6 := Aside0.mk hw_
      have HK6 := Aside0.mk (HK5.out.trans hk_)
      have HB6 := Aside0.mk (HB5.out.trans hb_)
      clear hw_ hk_ hb_ HC_ HW5 HB5 HK5
      clear q2
      have q2 : w6.cell? ⟨B, 4, none⟩ = some (.slice A3 m3 c3) := blk_cell (HK6.out.blk HP1.out (by decide) (by decide)) 4
      have hla : (L4 ++ [(m3 : Int)]).length ≤ 425 := by rw [List.length_append]; have := HL4.out; simp; omega
      have hT := HT4.out
      generalize L4 ++ [(m3 : Int)] = L5 at *
      have HL5 := Aside0.mk hla
      have HT5 := Aside0.mk hT
      clear hT hla HL4 HT4
      go_wp2_with fail
      go_loopg [7, 8, 9, 66] m3 (fun q v7 v8 v9 v66 w' => ∃ i : Nat, v66 = .int .i64 (i : Int) ∧ Aside0 (i + q = m3) ∧ Aside0 (WrS w' B p (L5 ++ (prs.take i).flatMap parN)) ∧ Aside0 (Kt WT UT w1 w') ∧ Aside0 (Below B w w'))
      case atStart => exact ⟨0, rfl, ⟨by omega⟩, ⟨by rw [List.take_zero, List.flatMap_nil, List.append_nil]; exact HW6.out⟩, HK6, HB6⟩
      case round =>
        clear q2 HW6 HK6 HB6
        obtain ⟨i, rfl, HI, HW, HK, HB⟩ := hrel
        by_cases hlt : i < m3
        · obtain ⟨f, rfl⟩ : ∃ f, gk = f + 1 := ⟨gk - 1, by have := HI.out; omega⟩
          have k1 : ((i : Int) < (m3 : Int)) = True := eq_true (by omega)
          have kw : IntKind.i64.wrap ((i : Int) + 1) = (i : Int) + 1 := by have := HM60.out; rw [IntKind.wrap_i64]; omega
          obtain ⟨ad, P1, d1, P2, d2, e_, y0, y1, y2, y3, y4, l1, l2, s1, s2⟩ := par_at (HRD.out w (Below.refl _ _)).2.2.1 i hlt
          subst e_
          have hil : i < prs.length := by rw [HM.out.2.2.1]; exact hlt
          have hpk := HF.out.2.2.2.2.2.1 _ (getD_mem (d := par0) hil)
          have hpg := HF.out.2.2.2.2.2.2.2 _ (getD_mem (d := par0) hil)
          have hto : L5 ++ (prs.take (i + 1)).flatMap parN = (L5 ++ (prs.take i).flatMap parN) ++ parN (prs.getD i par0) := by rw [take_getD (d := par0) hil, List.flatMap_append, List.append_assoc]; simp
          have hla : (L5 ++ (prs.take i).flatMap parN).length ≤ 1025 := by
            have h1 := pars_len (ps := prs.take i) (fun p hp => HF.out.2.2.2.2.2.1 p (List.mem_of_mem_take hp))
            rw [List.length_take] at h1
            rw [List.length_append]; have := HL5.out; have := HM60.out; omega
          have hsz := par_sizes hpk
          have hpi := (par_iff _).1 hpk
          generalize prs.getD i par0 = pp at *
          obtain ⟨g, ns, zs, z, u⟩ := pp
          dsimp only at y0 y1 y2 y3 y4 l1 l2 s1 s2 hpg hsz hpi
          have hto' : L5 ++ (prs.take (i + 1)).flatMap parN = (((L5 ++ (prs.take i).flatMap parN) ++ [g, (ns.length : Int)]) ++ zipN ns zs) ++ [z, u] := by rw [hto]; unfold parN; simp only [List.append_assoc]
          have HTO := Aside0.mk hto'
          have HLA := Aside0.mk hla
          generalize L5 ++ (prs.take i).flatMap parN = acc at *
          have HS1 : Aside0 (∀ wx, Below B w wx → (Kd.int .i64).C wx P1 ns.length ns) := ⟨fun wx hb => C_up hB hb s1⟩
          have HS2 : Aside0 (∀ wx, Below B w wx → (Kd.int .i64).C wx P2 zs.length zs) := ⟨fun wx hb => C_up hB hb s2⟩
          have HSZ := Aside0.mk hsz
          have HPI := Aside0.mk hpi
          have ku : IntKind.i64.wrap u = u := by rw [IntKind.wrap_i64]; omega
          have HUU := Aside0.mk hpg
          have y0 := cell_up hB HB.out y0
          have y1 := cell_up hB HB.out y1
          have y2 := cell_up hB HB.out y2
          have y3 := cell_up hB HB.out y3
          have y4 := cell_up hB HB.out y4
          obtain ⟨n1, hn1⟩ : ∃ q, ns.length = q := ⟨_, rfl⟩
          have hn2 : zs.length = n1 := by rw [hpi.2.1, hn1]
          rw [hn1] at y1 HTO HS1
          rw [hn2] at y2 HS2
          have HN1 := Aside0.mk (And.intro hn1 hn2)
          have hx3 := blk_new wr (.cells #[.int .i64 g, .slice P1 n1 d1, .slice P2 n1 d2, .int .i64 z, .int .u32 u] 90 (0, 0))
          have hbx := (Below.refl wr.heap.size wr).alloc (Nat.le_refl _) (.cells #[.int .i64 g, .slice P1 n1 d1, .slice P2 n1 d2, .int .i64 z, .int .u32 u] 90 (0, 0))
          obtain ⟨wx, hwx⟩ : ∃ q, wr.alloc (.cells #[.int .i64 g, .slice P1 n1 d1, .slice P2 n1 d2, .int .i64 z, .int .u32 u] 90 (0, 0)) = q := ⟨_, rfl⟩
          obtain ⟨x, hx⟩ : ∃ q, wr.heap.size = q := ⟨_, rfl⟩
          rw [hwx] at hx3 hbx
          have HWx := Aside0.mk (wrs_below HW.out hbx)
          have HKx : Aside0 (Kt WT UT wx wx) := ⟨Kt.refl _ _ _⟩
          have HKy : Aside0 (Kt WT UT w1 wx) := ⟨HK.out.trans (Kt.below hbx)⟩
          have HBx : Aside0 (Below B w wx) := ⟨HB.out.trans (hbx.mono (wrs_size HW.out))⟩
          rw [hx] at hx3
          have HX := Aside0.mk hx3
          have x0 : wx.cell? ⟨x, 0, none⟩ = some (.int .i64 g) := blk_cell hx3 0
          have x1 : wx.cell? ⟨x, 1, none⟩ = some (.slice P1 n1 d1) := blk_cell hx3 1
          have x2 : wx.cell? ⟨x, 2, none⟩ = some (.slice P2 n1 d2) := blk_cell hx3 2
          have x3 : wx.cell? ⟨x, 3, none⟩ = some (.int .i64 z) := blk_cell hx3 3
          have x4 : wx.cell? ⟨x, 4, none⟩ = some (.int .u32 u) := blk_cell hx3 4
          have fx := blk_frozen hx3 4
          have hws : wx.setCell ⟨x, 4, none⟩ (.int .u32 u) = wx := setCell_same hx3 rfl
          have HC_ := Aside0.mk (lnums B p acc [g, (n1 : Int)] wx HWx.out (fun n hn => by have := HPI.out; simp only [List.mem_cons, List.not_mem_nil, or_false] at hn; rcases hn with rfl | rfl <;> omega) (by have := HLA.out; simp; omega) (by simp))
          clear hil hpk hpg hto hto' hla hx3 hbx HW HK HB l1 l2 s1 s2 hsz hpi hn1 hn2 k0
          go_wp2_with fail
          refine HC_.out.mono ?_
          rintro e_ w7 ⟨rfl, hw_, hk_, hb_⟩
          have HW7 := Aside0.mk hw_
          have HK7 := Aside0.mk (hk_)
          have HB7 := Aside0.mk (HBx.out.trans hb_)
          clear hw_ hk_ hb_ HC_ HWx HBx HKx x0 x1 x2 x3 x4 fx hws
          have hla : (acc ++ [g, (n1 : Int)]).length ≤ 1027 := by rw [List.length_append]; have := HLA.out; simp; omega
          have hto := HTO.out
          generalize acc ++ [g, (n1 : Int)] = ac2 at *
          have HLA2 := Aside0.mk hla
          have HTO2 := Aside0.mk hto
          have x1 : w7.cell? ⟨x, 1, none⟩ = some (.slice P1 n1 d1) := blk_cell (HK7.out.blk HX.out (by decide) (by decide)) 1
          clear hla hto y0 y1 y2 y3 y4 HLA HTO
          go_wp2_with fail
          go_loopg [8, 9, 81] n1 (fun q v8 v9 v81 w' => ∃ j : Nat, v81 = .int .i64 (j : Int) ∧ Aside0 (j + q = n1) ∧ Aside0 (WrS w' B p (ac2 ++ zipN (ns.take j) (zs.take j))) ∧ Aside0 (Kt WT UT wx w') ∧ Aside0 (Below B w w'))
          case atStart => exact ⟨0, rfl, ⟨by omega⟩, ⟨by simpa [zipN] using HW7.out⟩, HK7, HB7⟩
          case round =>
            clear x1 HW7 HK7 HB7
            obtain ⟨j, rfl, HJ, HW, HK, HB⟩ := hrel
            by_cases hjt : j < n1
            · obtain ⟨fj, rfl⟩ : ∃ f, gk = f + 1 := ⟨gk - 1, by have := HJ.out; omega⟩
              have k2 : ((j : Int) < (n1 : Int)) = True := eq_true (by omega)
              have kj : IntKind.i64.wrap ((j : Int) + 1) = (j : Int) + 1 := by have := HPI.out.1; have := HN1.out; rw [IntKind.wrap_i64]; omega
              obtain ⟨ad1, e_, h01⟩ := i64_at (HS1.out wr HB.out) j hjt
              subst e_
              obtain ⟨ad2, e_, h02⟩ := i64_at (HS2.out wr HB.out) j hjt
              subst e_
              have hjl : j < ns.length := by rw [HN1.out.1]; exact hjt
              have hto : ac2 ++ zipN (ns.take (j + 1)) (zs.take (j + 1)) = (ac2 ++ zipN (ns.take j) (zs.take j)) ++ [ns.getD j 0, zs.getD j 0] := by rw [zip_take (by rw [HN1.out.1, HN1.out.2]) hjl, List.append_assoc]
              have ha := HPI.out.2.2.1 _ (getD_mem (d := 0) hjl)
              have hbz := HSZ.out _ (getD_mem (d := 0) (show j < zs.length by rw [HN1.out.2]; exact hjt))
              have hla : (ac2 ++ zipN (ns.take j) (zs.take j)).length ≤ 1040 := by rw [List.length_append, zip_len (by rw [List.length_take, List.length_take, HN1.out.1, HN1.out.2]), List.length_take]; have := HLA2.out; have := HPI.out.1; omega
              generalize ns.getD j 0 = a at *
              generalize zs.getD j 0 = b at *
              have HTO3 := Aside0.mk hto
              generalize ac2 ++ zipN (ns.take j) (zs.take j) = ac3 at *
              have HC_ := Aside0.mk (lnums B p ac3 [a, b] wr HW.out (fun n hn => by simp only [List.mem_cons, List.not_mem_nil, or_false] at hn; rcases hn with rfl | rfl <;> omega) (by simp; omega) (by simp))
              have x1 : wr.cell? ⟨x, 2, none⟩ = some (.slice (some ad2) n1 d2) := blk_cell (HK.out.blk HX.out (by decide) (by decide)) 2
              have HW8 := HW
              have HK8 := HK
              have HB8 := HB
              clear hjl hto ha hbz hla HW HK HB
              go_wp2_with fail
              refine HC_.out.mono ?_
              rintro e_ w9 ⟨rfl, hw_, hk_, hb_⟩
              have HW9 := Aside0.mk hw_
              have HK9 := Aside0.mk (HK8.out.trans hk_)
              have HB9 := Aside0.mk (HB8.out.trans hb_)
              clear hw_ hk_ hb_ HC_ HW8 HB8 HK8
              go_wp2_with fail
              go_roundg fj
              case measure => omega
              case rel => exact ⟨j + 1, by simp, ⟨by have := HJ.out; omega⟩, ⟨by rw [HTO3.out]; exact HW9.out⟩, HK9, HB9⟩
            · have k2 : ((j : Int) < (n1 : Int)) = False := eq_false (by omega)
              have hjj := HJ.out
              rw [List.take_of_length_le (by rw [HN1.out.1]; omega), List.take_of_length_le (by rw [HN1.out.2]; omega)] at HW
              have hla : (ac2 ++ zipN ns zs).length ≤ 1040 := by rw [List.length_append, zip_len (by rw [HN1.out.1, HN1.out.2])]; have := HLA2.out; have := HPI.out.1; omega
              have hto := HTO2.out
              generalize ac2 ++ zipN ns zs = ac4 at *
              have HTO4 := Aside0.mk hto
              have HC_ := Aside0.mk (lnums B p ac4 [z, u] wr HW.out (fun n hn => by have := HPI.out; have := HUU.out; simp only [List.mem_cons, List.not_mem_nil, or_false] at hn; rcases hn with rfl | rfl <;> omega) (by simp; omega) (by simp))
              have HXr := Aside0.mk (HK.out.blk HX.out (by decide) (by decide))
              have x1 : wr.cell? ⟨x, 3, none⟩ = some (.int .i64 z) := blk_cell HXr.out 3
              have x2 : wr.cell? ⟨x, 4, none⟩ = some (.int .u32 u) := blk_cell HXr.out 4
              have HW8 := HW
              have HK8 : Aside0 (Kt WT UT w1 wr) := ⟨HKy.out.trans HK.out⟩
              have HB8 := HB
              clear hjj hto hla HW HK HB HJ hjt
              go_wp2_with fail
              refine HC_.out.mono ?_
              rintro e_ w9 ⟨rfl, hw_, hk_, hb_⟩
              have HW9 := Aside0.mk hw_
              have HK9 := Aside0.mk (HK8.out.trans hk_)
              have HB9 := Aside0.mk (HB8.out.trans hb_)
              clear hw_ hk_ hb_ HC_ HW8 HB8 HK8
              clear x1 x2
              go_wp2_with fail
              go_roundg f
              case measure => omega
              case rel => exact ⟨i + 1, by simp, ⟨by have := HI.out; omega⟩, ⟨by rw [HTO4.out]; exact HW9.out⟩, HK9, HB9⟩
        · have hii := HI.out
          have k1 : ((i : Int) < (m3 : Int)) = False := eq_false (by omega)
          rw [List.take_of_length_le (by rw [HM.out.2.2.1]; omega)] at HW
          have hla : (L5 ++ prs.flatMap parN).length ≤ 1025 := by rw [List.length_append]; have := pars_len (ps := prs) HF.out.2.2.2.2.2.1; have := HL5.out; have := HM60.out; have := HM.out.2.2.1; omega
          have hT := HT5.out
          generalize L5 ++ prs.flatMap parN = L6 at *
          have HL6 := Aside0.mk hla
          have HT6 := Aside0.mk hT
          have HW7 := HW
          have HK7 := HK
          have HB7 := HB
          clear hT hla hii hlt HW HK HB HL5 HI k0
          have q2 : wr.cell? ⟨B, 5, none⟩ = some (.slice A4 m4 c4) := blk_cell (HK7.out.blk HP1.out (by decide) (by decide)) 5
          have HC_ := Aside0.mk (lnums B p L6 [(m4 : Int)] wr HW7.out (nums_one (by have := HM60.out; omega)) (by have := HL6.out; simp; omega) (by simp))
          go_wp2_with fail
          refine HC_.out.mono ?_
          rintro e_ w8 ⟨rfl, hw_, hk_, hb_⟩
          have HW8 := Aside0.mk hw_
          have HK8 := Aside0.mk (HK7.out.trans hk_)
          have HB8 := Aside0.mk (HB7.out.trans hb_)
          clear hw_ hk_ hb_ HC_ HW7 HB7 HK7
          clear q2
          have q2 : w8.cell? ⟨B, 5, none⟩ = some (.slice A4 m4 c4) := blk_cell (HK8.out.blk HP1.out (by decide) (by decide)) 5
          have hla : (L6 ++ [(m4 : Int)]).length ≤ 1026 := by rw [List.length_append]; have := HL6.out; simp; omega
          have hT := HT6.out
          generalize L6 ++ [(m4 : Int)] = L7 at *
          have HL7 := Aside0.mk hla
          have HT7 := Aside0.mk hT
          have hn2 : drs.length = m4 := HM.out.2.2.2
          have HC_ := Aside0.mk (anums B p L7 A4 c4 drs w8 HW8.out (fun wx hb => by rw [hn2]; exact (HRD.out wx (HB8.out.trans hb)).2.2.2) (fun n hn => by have := HF.out.2.2.2.1 n hn; omega) (by have := HL7.out; have := HM60.out; omega))
          rw [hn2] at HC_
          clear hT hla hn2 HL6 HT6
          go_wp2_with fail
          refine HC_.out.mono ?_
          rintro e_ w9 ⟨rfl, hw_, hk_, hb_⟩
          have HW9 := Aside0.mk hw_
          have HK9 := Aside0.mk (HK8.out.trans hk_)
          have HB9 := Aside0.mk (HB8.out.trans hb_)
          clear hw_ hk_ hb_ HC_ HW8 HB8 HK8
          clear q2
          have HWW := HW9.out.1
          rw [← HT7.out] at HWW
          obtain ⟨_, y, hbk, ho⟩ := HWW
          have HO := Aside0.mk ho
          have q2 : w9.cell? ⟨p, 0, none⟩ = some y := blk_cell hbk 0
          clear hbk ho
          go_wp2
          go_ret
          exact ⟨y, rfl, HO.out, HB9.out⟩
end Go.Proofs.Ytfojeegepfjbiaa.EdG
