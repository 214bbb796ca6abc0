/- Contract of the reference one. -/
import Derived.Test.YtfojeegepfjbiaaProg
import Derived.Below
import Derived.Deep.Draws
import Derived.Deep.AppendLies
import Derived.Maps.AppendAt
import Derived.OwnWalk
import Derived.Laws.BytesArg
import Derived.Laws.MakeOwn
import Derived.Laws.OwnMore
import Derived.Deep.OwnRows
import Derived.Tactics
import Derived.Lib.ConvBytes
import Derived.Laws.Slices
import Derived.WalkKit
import Derived.KernelRfl
import Derived.RowKit3
import Derived.Deep.LoopGhost
import Derived.Deep.QuietTactic
import Derived.BigQuiet
import Derived.WideLaws
import Derived.Deep.DeepCutAuto
import Derived.Deep.CutBlock
import Derived.Deep.RegionHeld3
import Derived.Laws.Rows
import Derived.Lib.AppendStr
import Derived.ArgAppend
import Derived.Laws.IdiomCopy
import Derived.OrdersHeld
import Derived.Laws.BitsLemmas
import Derived.RowKit
import Derived.WalkSpells
import Derived.Outline
import Derived.Test.YtfojeegepfjbiaaWWords
import Derived.Test.YtfojeegepfjbiaaWLast
import Derived.Test.YtfojeegepfjbiaaWMore
import Derived.Test.YtfojeegepfjbiaaWArr
import Derived.Test.YtfojeegepfjbiaaWTab
import Derived.Test.YtfojeegepfjbiaaWZeros
import Derived.Test.YtfojeegepfjbiaaWRepsOne
import Derived.Test.YtfojeegepfjbiaaRdG
namespace Go.Proofs.Ytfojeegepfjbiaa.RdH
open Go.RowKit Go.Proofs.YtfojeegepfjbiaaW.PrintWords Go.Proofs.YtfojeegepfjbiaaW.PrintLast Go.Proofs.YtfojeegepfjbiaaW.PrintMore Go.Proofs.Ytfojeegepfjbiaa.Nm Go.Proofs.Ytfojeegepfjbiaa.NmA Go.Proofs.Ytfojeegepfjbiaa.NmB Go.Proofs.Ytfojeegepfjbiaa.NmC Go.Proofs.Ytfojeegepfjbiaa.NmD Go.Proofs.Ytfojeegepfjbiaa.NmE Go.Proofs.Ytfojeegepfjbiaa.NmI Go.Proofs.Ytfojeegepfjbiaa.CrP Go.Proofs.Ytfojeegepfjbiaa.CrA Go.Proofs.Ytfojeegepfjbiaa.CrB Go.Proofs.Ytfojeegepfjbiaa.CrC Go.Proofs.Ytfojeegepfjbiaa.CrD Go.Proofs.Ytfojeegepfjbiaa.CrE Go.Proofs.Ytfojeegepfjbiaa.CrG Go.Proofs.Ytfojeegepfjbiaa.CrH Go.Proofs.Ytfojeegepfjbiaa.Mix Go.Proofs.Ytfojeegepfjbiaa.RdA Go.Proofs.Ytfojeegepfjbiaa.RdB Go.Proofs.Ytfojeegepfjbiaa.RdC Go.Proofs.Ytfojeegepfjbiaa.RdD Go.Proofs.Ytfojeegepfjbiaa.RdE Go.Proofs.Ytfojeegepfjbiaa.RdF Go.Proofs.Ytfojeegepfjbiaa.RdG
set_option linter.unusedSimpArgs false
set_option linter.unusedVariables false
attribute [local go_sem] max2_int min2_int max_two min_two

set_option maxRecDepth 100000 in
set_option maxHeartbeats 1000000 in
theorem one_calls (A : Option Addr) (c : Nat) (b : List Int) (hby : Bys b) (w : World) (hr : (Kd.int .u8).C w A b.length b) (hc : b.length ≤ c) (hl : b.length ≤ 1000000000) :
    Calls Try.prog 59 #[.slice A b.length c] w fun e w' => ∃ (r : Rec) (ok : Bool), e = .returned (.tuple #[recV r.1 r.2.1 r.2.2.1 r.2.2.2, .bool ok]) ∧ oneL b = (if ok then some r else none) ∧ Below w.heap.size w w' := by
  have HL := Aside0.mk (oneL.eq_1 b)
  have hb0 := blk_new w (.cells #[.int .i64 0, .int .i64 0, .string ⟨#[]⟩, .string ⟨#[]⟩] 45 (0, 0))
  have hbel := (Below.refl w.heap.size w).alloc (Nat.le_refl _) (.cells #[.int .i64 0, .int .i64 0, .string ⟨#[]⟩, .string ⟨#[]⟩] 45 (0, 0))
  obtain ⟨W0, hW0⟩ : ∃ x, w.alloc (.cells #[.int .i64 0, .int .i64 0, .string ⟨#[]⟩, .string ⟨#[]⟩] 45 (0, 0)) = x := ⟨_, rfl⟩
  rw [hW0] at hb0 hbel
  have HR0 := Aside0.mk hb0
  have HB0 := Aside0.mk hbel
  have HCR := Aside0.mk (Kd.C_below hr hbel)
  have HY := Aside0.mk hby
  by_cases h0 : b.length = 0
  · have HN : Aside0 (oneL b = none) := ⟨HL.out.trans (if_pos (Or.inl h0))⟩
    have k0 : ((b.length : Int) == 0) = true := by simp [h0]
    clear HL hr hby hb0 hbel h0
    clear hc hl
    generalize b.length = nb at *
    go_enter Try.func59, Try.ntmps59
    obtain ⟨ya, yb, yc, ye, e1, e2, e3, e4, z1, z2, z3, z4, f1, f2, f3, f4, hzb, hzg⟩ := store4 (HR0.out) (.int .i64 0) (.int .i64 0) (.string ⟨#[]⟩) (.string ⟨#[]⟩)
    go_wp2
    (try simp only [Exit.inBlock, Exit.then])
    refine bodyPost_ret (results_ct rfl _ _ w.heap.size 45 #[.int .i64 0, .int .i64 0, .string ⟨#[]⟩, .string ⟨#[]⟩] (0, 0) _ rfl hzb Try.underlying45 rfl (by kernel_rfl)) rfl ?_
    exact ⟨(0, 0, ⟨#[]⟩, ⟨#[]⟩), false, rfl, HN.out, pw_below_grown (HB0.out) (some w.heap.size) (HB0.out).size hzg (fun q hq => by injection hq with hq; omega)⟩
  · have hA : ∃ ad, A = some ad := by
      obtain ⟨ad, e, _⟩ := hr.2.2 (by omega)
      exact ⟨ad, e⟩
    obtain ⟨ad, rfl⟩ := hA
    have hcell : W0.cell? (ad.add 0) = some (.int .u8 (rd b ((0 : Nat) : Int))) := cell_at (HCR.out) (Below.refl _ _) 0 (by omega)
    rw [Int.natCast_zero] at hcell
    have hcell0 : W0.cell? ad = some (.int .u8 (rd b 0)) := by rw [← hcell]; congr 1
    clear hcell
    have hcell := hcell0
    clear hcell0
    have hbd := rd_bys hby (i := 0) (by omega)
    rw [Int.natCast_zero] at hbd
    have k0 : ((b.length : Int) == 0) = false := beq_eq_false_iff_ne.2 (by omega)
    have kl : (0 : Int) < (b.length : Int) := by omega
    have kl2 : 0 < b.length := by omega
    have HKL := Aside0.mk kl2
    obtain ⟨k, hk⟩ : ∃ k, rd b 0 = k := ⟨_, rfl⟩
    rw [hk] at hbd hcell HL
    clear hk hr hby hb0 hbel
    by_cases h1 : k > 1
    · have HN : Aside0 (oneL b = none) := ⟨HL.out.trans (if_pos (Or.inr h1))⟩
      clear HL
      go_enter Try.func59, Try.ntmps59
      obtain ⟨ya, yb, yc, ye, e1, e2, e3, e4, z1, z2, z3, z4, f1, f2, f3, f4, hzb, hzg⟩ := store4 (HR0.out) (.int .i64 0) (.int .i64 0) (.string ⟨#[]⟩) (.string ⟨#[]⟩)
      go_wp2
      (try simp only [Exit.inBlock, Exit.then])
      refine bodyPost_ret (results_ct rfl _ _ w.heap.size 45 #[.int .i64 0, .int .i64 0, .string ⟨#[]⟩, .string ⟨#[]⟩] (0, 0) _ rfl hzb Try.underlying45 rfl (by kernel_rfl)) rfl ?_
      exact ⟨(0, 0, ⟨#[]⟩, ⟨#[]⟩), false, rfl, HN.out, pw_below_grown (HB0.out) (some w.heap.size) (HB0.out).size hzg (fun q hq => by injection hq with hq; omega)⟩
    · have HL1 := Aside0.mk (HL.out.trans (if_neg (by omega)))
      clear HL
      obtain ⟨A1, hs1, hc1⟩ := from_of (some ad) c b 1 (by omega) hc
      obtain ⟨d1, hd1⟩ : ∃ d, b.drop 1 = d := ⟨_, rfl⟩
      have hn1 : d1.length = b.length - 1 := by rw [← hd1]; exact List.length_drop
      have y1 : Bys d1 := by rw [← hd1]; exact bys_drop HY.out 1
      have g := getS_bd y1
      obtain ⟨gn, hgn⟩ : ∃ x, (getS d1).1 = x := ⟨_, rfl⟩
      obtain ⟨kk, hkk⟩ : ∃ x : Nat, (getS d1).2 = x := ⟨(getS d1).2.toNat, by omega⟩
      rw [hgn, hkk] at g
      obtain ⟨A2, hs2, hc2⟩ := from_of (some ad) c b (1 + kk) (by omega) hc
      obtain ⟨b1, hb1⟩ : ∃ d, b.drop (1 + kk) = d := ⟨_, rfl⟩
      have hn2 : b1.length = b.length - (1 + kk) := by rw [← hb1]; exact List.length_drop
      have y2 : Bys b1 := by rw [← hb1]; exact bys_drop HY.out _
      have g2 := textV_bd y2
      obtain ⟨key, hkey⟩ : ∃ x, (textV b1).1 = x := ⟨_, rfl⟩
      obtain ⟨tk, htk⟩ : ∃ x : Nat, (textV b1).2 = x := ⟨(textV b1).2.toNat, by omega⟩
      rw [htk] at g2
      rw [hb1] at hs2 hc2
      obtain ⟨A3, hs3, hc3⟩ := from_of A2 (c - (1 + kk)) b1 tk (by omega) (by omega)
      obtain ⟨b2, hb2⟩ : ∃ d, b1.drop tk = d := ⟨_, rfl⟩
      have hn3 : b2.length = b1.length - tk := by rw [← hb2]; exact List.length_drop
      have y3 : Bys b2 := by rw [← hb2]; exact bys_drop y2 _
      have g3 := textV_bd y3
      obtain ⟨v, hv⟩ : ∃ x, (textV b2).1 = x := ⟨_, rfl⟩
      obtain ⟨tv, htv⟩ : ∃ x : Nat, (textV b2).2 = x := ⟨(textV b2).2.toNat, by omega⟩
      rw [htv] at g3
      rw [hb2] at hs3 hc3
      obtain ⟨A4, hs4, hc4⟩ := from_of A3 (c - (1 + kk) - tk) b2 tv (by omega) (by omega)
      obtain ⟨b3, hb3⟩ : ∃ d, b2.drop tv = d := ⟨_, rfl⟩
      rw [hb3] at hs4 hc4
      rw [hd1] at hs1 hc1
      have HLX : Aside0 (oneL b = if (kk : Int) = 0 ∨ gn > 1125899906842624 then none else if (tk : Int) = 0 then none else if k = 1 then if (tv : Int) = 0 then none else if b3.length > 0 ∨ checkL 1 gn key v ≠ 0 then none else some (1, gn, key, v) else if b2.length > 0 ∨ checkL k gn key ⟨#[]⟩ ≠ 0 then none else some (k, gn, key, ⟨#[]⟩)) := ⟨by
        rw [HL1.out]
        simp only [hd1, hgn, hkk, Int.toNat_natCast, hb1, hkey, htk, hb2, hv, htv, hb3]⟩
      clear HL1
      rw [show ((1 : Nat) : Int) = 1 from rfl] at hs1
      rw [Int.natCast_add, show ((1 : Nat) : Int) = 1 from rfl] at hs2
      have HC1 := Aside0.mk (hc1 W0 HCR.out)
      have HC2 := Aside0.mk (hc2 W0 HCR.out)
      have HC3 := Aside0.mk (hc3 W0 HC2.out)
      have HG := Aside0.mk (fun w h => rget_calls A1 (c - 1) d1 y1 w h (by omega) (by omega))
      have HT := Aside0.mk (fun w h => rgettext_calls A2 (c - (1 + kk)) b1 y2 w h (by omega) (by omega))
      have HU := Aside0.mk (fun w h => rgettext_calls A3 (c - (1 + kk) - tk) b2 y3 w h (by omega) (by omega))
      rw [hgn, hkk] at HG
      rw [hkey, htk] at HT
      rw [hv, htv] at HU
      have kw : IntKind.i64.wrap (1 + (kk : Int)) = 1 + (kk : Int) := by rw [IntKind.wrap_i64]; omega
      have HGB : Aside0 (0 ≤ gn) := ⟨g.1⟩
      have HKB : Aside0 (kk ≤ b.length) := ⟨by omega⟩
      clear hd1 hgn hkk hb1 hkey htk hb2 hv htv hb3 hc1 hc2 hc3 hc4 y1 y2 y3 g2 g3 hn1 hn2 hn3 hc hl h0 g HY kl2
      have hbx := blk_new W0 (.cells #[.int .i64 k, .int .i64 0, .string ⟨#[]⟩, .string ⟨#[]⟩] 45 (0, 0))
      have hbl := (Below.refl W0.heap.size W0).alloc (Nat.le_refl _) (.cells #[.int .i64 k, .int .i64 0, .string ⟨#[]⟩, .string ⟨#[]⟩] 45 (0, 0))
      obtain ⟨wx, hwx⟩ : ∃ z, W0.alloc (.cells #[.int .i64 k, .int .i64 0, .string ⟨#[]⟩, .string ⟨#[]⟩] 45 (0, 0)) = z := ⟨_, rfl⟩
      obtain ⟨x, hx⟩ : ∃ z, W0.heap.size = z := ⟨_, rfl⟩
      have hlt := blk_lt HR0.out
      have hbl' := hbl
      rw [hwx] at hbx hbl hbl'
      have HXX := Aside0.mk hx
      rw [hx] at hbx hlt
      have HLT := Aside0.mk hlt
      have HX1 := Aside0.mk hbx
      have HB1 := Aside0.mk hbl
      have HBX := Aside0.mk (below_step HB0.out hbl')
      have z1 : wx.cell? ⟨x, 1, none⟩ = some (.int .i64 0) := blk_cell hbx 1
      have z2 : wx.cell? ⟨x, 2, none⟩ = some (.string ⟨#[]⟩) := blk_cell hbx 2
      have z3 : wx.cell? ⟨x, 3, none⟩ = some (.string ⟨#[]⟩) := blk_cell hbx 3
      have f1 := blk_frozen hbx 1
      have f2 := blk_frozen hbx 2
      have f3 := blk_frozen hbx 3
      have s1 : wx.setCell ⟨x, 1, none⟩ (.int .i64 0) = wx := setCell_same hbx rfl
      have s2 : wx.setCell ⟨x, 2, none⟩ (.string ⟨#[]⟩) = wx := setCell_same hbx rfl
      have s3 : wx.setCell ⟨x, 3, none⟩ (.string ⟨#[]⟩) = wx := setCell_same hbx rfl
      clear hbx hbl hlt
      go_enter Try.func59, Try.ntmps59
      go_wp2_with fail
      refine (HG.out wx (Kd.C_below HC1.out HB1.out)).mono ?_
      rintro e_ w1 ⟨rfl, hb⟩
      have HR1 := Aside0.mk (blk_below (blk_below HR0.out HB1.out) hb)
      have HX2 := Aside0.mk (blk_below HX1.out hb)
      have HBA := Aside0.mk (below_step HBX.out hb)
      have HBW := Aside0.mk (below_step HB1.out hb)
      clear hb z1 z2 z3 f1 f2 f3 s1 s2 s3
      have hkb := HKB.out
      by_cases hF : kk = 0
      · have HN : Aside0 (oneL b = none) := ⟨HLX.out.trans (if_pos (Or.inl (by omega)))⟩
        have b0 : ((kk : Int) == 0) = true := by simp [hF]
        clear hF hkb
        obtain ⟨ya, yb, yc, ye, e1, e2, e3, e4, z1, z2, z3, z4, f1, f2, f3, f4, hzb, hzg⟩ := store4 (HR1.out) (.int .i64 0) (.int .i64 0) (.string ⟨#[]⟩) (.string ⟨#[]⟩)
        go_wp2
        (try simp only [Exit.inBlock, Exit.then])
        refine bodyPost_ret (results_ct rfl _ _ w.heap.size 45 #[.int .i64 0, .int .i64 0, .string ⟨#[]⟩, .string ⟨#[]⟩] (0, 0) _ rfl hzb Try.underlying45 rfl (by kernel_rfl)) rfl ?_
        exact ⟨(0, 0, ⟨#[]⟩, ⟨#[]⟩), false, rfl, HN.out, pw_below_grown (HBA.out) (some w.heap.size) (HBA.out).size hzg (fun q hq => by injection hq with hq; omega)⟩
      have b0 : ((kk : Int) == 0) = false := beq_eq_false_iff_ne.2 (by omega)
      by_cases hM : 1125899906842624 < gn
      · have HN : Aside0 (oneL b = none) := ⟨HLX.out.trans (if_pos (Or.inr hM))⟩
        clear hF hkb
        obtain ⟨ya, yb, yc, ye, e1, e2, e3, e4, z1, z2, z3, z4, f1, f2, f3, f4, hzb, hzg⟩ := store4 (HR1.out) (.int .i64 0) (.int .i64 0) (.string ⟨#[]⟩) (.string ⟨#[]⟩)
        go_wp2
        (try simp only [Exit.inBlock, Exit.then])
        refine bodyPost_ret (results_ct rfl _ _ w.heap.size 45 #[.int .i64 0, .int .i64 0, .string ⟨#[]⟩, .string ⟨#[]⟩] (0, 0) _ rfl hzb Try.underlying45 rfl (by kernel_rfl)) rfl ?_
        exact ⟨(0, 0, ⟨#[]⟩, ⟨#[]⟩), false, rfl, HN.out, pw_below_grown (HBA.out) (some w.heap.size) (HBA.out).size hzg (fun q hq => by injection hq with hq; omega)⟩
      have HL2 := Aside0.mk (HLX.out.trans (if_neg (by omega)))
      have kg : IntKind.i64.wrap gn = gn := by have := HGB.out; rw [IntKind.wrap_i64]; omega
      obtain ⟨w2, hw2⟩ : ∃ z, w1.setCell ⟨x, 1, none⟩ (.int .i64 gn) = z := ⟨_, rfl⟩
      have z1 : w1.cell? ⟨x, 1, none⟩ = some (.int .i64 0) := blk_cell HX2.out 1
      have f1 := blk_frozen HX2.out 1
      have hg : w1.grownBy w2 (some x) := by rw [← hw2]; exact grown_set
      have HX3 : Aside0 (Blk w2 x #[.int .i64 k, .int .i64 gn, .string ⟨#[]⟩, .string ⟨#[]⟩] 45) := ⟨by rw [← hw2]; exact blk_set HX2.out 1 _⟩
      have HR2 := Aside0.mk (blk_grown HR1.out hg (by have := HLT.out; intro e; injection e with e; omega))
      have HBB := Aside0.mk (pw_below_grown HBA.out (some x) HBA.out.size hg (fun q hq => by injection hq with hq; have := HLT.out; omega))
      have HBC := Aside0.mk (pw_below_grown HBW.out (some x) HBW.out.size hg (fun q hq => by injection hq with hq; have := HXX.out; omega))
      clear hg hF hkb HX2 HR1 HBA HBW
      go_wp2_with fail
      refine (HT.out w2 (Kd.C_below HC2.out HBC.out)).mono ?_
      rintro e_ w3 ⟨rfl, hb⟩
      have HR3 := Aside0.mk (blk_below HR2.out hb)
      have HX4 := Aside0.mk (blk_below HX3.out hb)
      have HBD := Aside0.mk (below_step HBB.out hb)
      have HBE := Aside0.mk (below_step HBC.out hb)
      clear hb HR2 HX3 HBB HBC hw2 z1 f1
      by_cases hF : tk = 0
      · have HN : Aside0 (oneL b = none) := ⟨HL2.out.trans (if_pos (by omega))⟩
        have b1 : ((tk : Int) == 0) = true := by simp [hF]
        clear hF
        obtain ⟨ya, yb, yc, ye, e1, e2, e3, e4, z1, z2, z3, z4, f1, f2, f3, f4, hzb, hzg⟩ := store4 (HR3.out) (.int .i64 0) (.int .i64 0) (.string ⟨#[]⟩) (.string ⟨#[]⟩)
        go_wp2
        (try simp only [Exit.inBlock, Exit.then])
        refine bodyPost_ret (results_ct rfl _ _ w.heap.size 45 #[.int .i64 0, .int .i64 0, .string ⟨#[]⟩, .string ⟨#[]⟩] (0, 0) _ rfl hzb Try.underlying45 rfl (by kernel_rfl)) rfl ?_
        exact ⟨(0, 0, ⟨#[]⟩, ⟨#[]⟩), false, rfl, HN.out, pw_below_grown (HBD.out) (some w.heap.size) (HBD.out).size hzg (fun q hq => by injection hq with hq; omega)⟩
      have b1 : ((tk : Int) == 0) = false := beq_eq_false_iff_ne.2 (by omega)
      have HL3 := Aside0.mk (HL2.out.trans (if_neg (by omega)))
      obtain ⟨w4, hw4⟩ : ∃ z, w3.setCell ⟨x, 2, none⟩ (.string key) = z := ⟨_, rfl⟩
      have z2 : w3.cell? ⟨x, 2, none⟩ = some (.string ⟨#[]⟩) := blk_cell HX4.out 2
      have f2 := blk_frozen HX4.out 2
      have hg : w3.grownBy w4 (some x) := by rw [← hw4]; exact grown_set
      have HX5 : Aside0 (Blk w4 x #[.int .i64 k, .int .i64 gn, .string key, .string ⟨#[]⟩] 45) := ⟨by rw [← hw4]; exact blk_set HX4.out 2 _⟩
      have HR4 := Aside0.mk (blk_grown HR3.out hg (by have := HLT.out; intro e; injection e with e; omega))
      have HBF := Aside0.mk (pw_below_grown HBD.out (some x) HBD.out.size hg (fun q hq => by injection hq with hq; have := HLT.out; omega))
      have HBG := Aside0.mk (pw_below_grown HBE.out (some x) HBE.out.size hg (fun q hq => by injection hq with hq; have := HXX.out; omega))
      clear hg hF HX4 HR3 HBD HBE
      have x0 : w4.cell? ⟨x, 0, none⟩ = some (.int .i64 k) := blk_cell HX5.out 0
      by_cases hk1 : k = 1
      · subst hk1
        have HL4 := Aside0.mk (HL3.out.trans (if_pos rfl))
        go_wp2_with fail
        refine (HU.out w4 (Kd.C_below HC3.out HBG.out)).mono ?_
        rintro e_ w5 ⟨rfl, hb⟩
        have HR5 := Aside0.mk (blk_below HR4.out hb)
        have HX6 := Aside0.mk (blk_below HX5.out hb)
        have HBH := Aside0.mk (below_step HBF.out hb)
        clear hb HR4 HX5 HBF hw4 z2 f2 x0
        by_cases hF : tv = 0
        · have HN : Aside0 (oneL b = none) := ⟨HL4.out.trans (if_pos (by omega))⟩
          have b2 : ((tv : Int) == 0) = true := by simp [hF]
          clear hF
          obtain ⟨ya, yb, yc, ye, e1, e2, e3, e4, z1, z2, z3, z4, f1, f2, f3, f4, hzb, hzg⟩ := store4 (HR5.out) (.int .i64 0) (.int .i64 0) (.string ⟨#[]⟩) (.string ⟨#[]⟩)
          go_wp2
          (try simp only [Exit.inBlock, Exit.then])
          refine bodyPost_ret (results_ct rfl _ _ w.heap.size 45 #[.int .i64 0, .int .i64 0, .string ⟨#[]⟩, .string ⟨#[]⟩] (0, 0) _ rfl hzb Try.underlying45 rfl (by kernel_rfl)) rfl ?_
          exact ⟨(0, 0, ⟨#[]⟩, ⟨#[]⟩), false, rfl, HN.out, pw_below_grown (HBH.out) (some w.heap.size) (HBH.out).size hzg (fun q hq => by injection hq with hq; omega)⟩
        have b2' : ((tv : Int) == 0) = false := beq_eq_false_iff_ne.2 (by omega)
        have HL5 := Aside0.mk (HL4.out.trans (if_neg (by omega)))
        obtain ⟨w6, hw6⟩ : ∃ z, w5.setCell ⟨x, 3, none⟩ (.string v) = z := ⟨_, rfl⟩
        have z3 : w5.cell? ⟨x, 3, none⟩ = some (.string ⟨#[]⟩) := blk_cell HX6.out 3
        have f3 := blk_frozen HX6.out 3
        have hg : w5.grownBy w6 (some x) := by rw [← hw6]; exact grown_set
        have HX7 : Aside0 (Blk w6 x #[.int .i64 1, .int .i64 gn, .string key, .string v] 45) := ⟨by rw [← hw6]; exact blk_set HX6.out 3 _⟩
        have HR6 := Aside0.mk (blk_grown HR5.out hg (by have := HLT.out; intro e; injection e with e; omega))
        have HBI := Aside0.mk (pw_below_grown HBH.out (some x) HBH.out.size hg (fun q hq => by injection hq with hq; have := HLT.out; omega))
        clear hg hF HX6 HR5 HBH
        have HCK := Aside0.mk (fun w => rcheck_calls 1 gn key v w)
        unfold recV at HCK
        have y0 : w6.cell? ⟨x, 0, none⟩ = some (.int .i64 1) := blk_cell HX7.out 0
        have y1 : w6.cell? ⟨x, 1, none⟩ = some (.int .i64 gn) := blk_cell HX7.out 1
        have y2 : w6.cell? ⟨x, 2, none⟩ = some (.string key) := blk_cell HX7.out 2
        have y3 : w6.cell? ⟨x, 3, none⟩ = some (.string v) := blk_cell HX7.out 3
        by_cases hn : 0 < b3.length
        · have HN : Aside0 (oneL b = none) := ⟨HL5.out.trans (if_pos (Or.inl hn))⟩
          obtain ⟨ya, yb, yc, ye, e1, e2, e3, e4, z1, z2, z3, z4, f1, f2, f3, f4, hzb, hzg⟩ := store4 (HR6.out) (.int .i64 0) (.int .i64 0) (.string ⟨#[]⟩) (.string ⟨#[]⟩)
          go_wp2
          (try simp only [Exit.inBlock, Exit.then])
          refine bodyPost_ret (results_ct rfl _ _ w.heap.size 45 #[.int .i64 0, .int .i64 0, .string ⟨#[]⟩, .string ⟨#[]⟩] (0, 0) _ rfl hzb Try.underlying45 rfl (by kernel_rfl)) rfl ?_
          exact ⟨(0, 0, ⟨#[]⟩, ⟨#[]⟩), false, rfl, HN.out, pw_below_grown (HBI.out) (some w.heap.size) (HBI.out).size hzg (fun q hq => by injection hq with hq; omega)⟩
        · have hn0 : b3.length = 0 := by omega
          have HNE := Aside0.mk hn
          go_wp2_with fail
          refine (HCK.out w6).mono ?_
          rintro e_ w7 ⟨rfl, hb⟩
          have HR7 := Aside0.mk (blk_below HR6.out hb)
          have HX8 := Aside0.mk (blk_below HX7.out hb)
          have HBJ := Aside0.mk (below_step HBI.out hb)
          clear hb y0 y1 y2 y3
          have y0 : w7.cell? ⟨x, 0, none⟩ = some (.int .i64 1) := blk_cell HX8.out 0
          have y1 : w7.cell? ⟨x, 1, none⟩ = some (.int .i64 gn) := blk_cell HX8.out 1
          have y2 : w7.cell? ⟨x, 2, none⟩ = some (.string key) := blk_cell HX8.out 2
          have y3 : w7.cell? ⟨x, 3, none⟩ = some (.string v) := blk_cell HX8.out 3
          by_cases hck : checkL 1 gn key v = 0
          · have HN : Aside0 (oneL b = some (1, gn, key, v)) := ⟨HL5.out.trans (if_neg (fun h => h.elim HNE.out (fun h => h hck)))⟩
            rw [hck]
            clear hck
            obtain ⟨ya, yb, yc, ye, e1, e2, e3, e4, q1, q2, q3, q4, f1, f2, f3, f4, hzb, hzg⟩ := store4 HR7.out (.int .i64 1) (.int .i64 gn) (.string key) (.string v)
            go_wp2
            (try simp only [Exit.inBlock, Exit.then])
            refine bodyPost_ret (results_ct rfl _ _ w.heap.size 45 #[.int .i64 1, .int .i64 gn, .string key, .string v] (0, 0) _ rfl hzb Try.underlying45 rfl (by kernel_rfl)) rfl ?_
            exact ⟨(1, gn, key, v), true, rfl, HN.out, pw_below_grown HBJ.out (some w.heap.size) HBJ.out.size hzg (fun q hq => by injection hq with hq; omega)⟩
          · have HN : Aside0 (oneL b = none) := ⟨HL5.out.trans (if_pos (Or.inr hck))⟩
            generalize checkL 1 gn key v = ck at *
            have bn : (ck != 0) = true := bne_iff_ne.2 hck
            clear hck
            obtain ⟨ya, yb, yc, ye, e1, e2, e3, e4, z1, z2, z3, z4, f1, f2, f3, f4, hzb, hzg⟩ := store4 (HR7.out) (.int .i64 0) (.int .i64 0) (.string ⟨#[]⟩) (.string ⟨#[]⟩)
            go_wp2
            (try simp only [Exit.inBlock, Exit.then])
            refine bodyPost_ret (results_ct rfl _ _ w.heap.size 45 #[.int .i64 0, .int .i64 0, .string ⟨#[]⟩, .string ⟨#[]⟩] (0, 0) _ rfl hzb Try.underlying45 rfl (by kernel_rfl)) rfl ?_
            exact ⟨(0, 0, ⟨#[]⟩, ⟨#[]⟩), false, rfl, HN.out, pw_below_grown (HBJ.out) (some w.heap.size) (HBJ.out).size hzg (fun q hq => by injection hq with hq; omega)⟩
      · have bk : (k == 1) = false := beq_eq_false_iff_ne.2 hk1
        have HL4 := Aside0.mk (HL3.out.trans (if_neg hk1))
        clear hk1
        have HCK := Aside0.mk (fun w => rcheck_calls k gn key ⟨#[]⟩ w)
        unfold recV at HCK
        have y0 : w4.cell? ⟨x, 0, none⟩ = some (.int .i64 k) := blk_cell HX5.out 0
        have y1 : w4.cell? ⟨x, 1, none⟩ = some (.int .i64 gn) := blk_cell HX5.out 1
        have y2 : w4.cell? ⟨x, 2, none⟩ = some (.string key) := blk_cell HX5.out 2
        have y3 : w4.cell? ⟨x, 3, none⟩ = some (.string ⟨#[]⟩) := blk_cell HX5.out 3
        by_cases hn : 0 < b2.length
        · have HN : Aside0 (oneL b = none) := ⟨HL4.out.trans (if_pos (Or.inl hn))⟩
          obtain ⟨ya, yb, yc, ye, e1, e2, e3, e4, z1, z2, z3, z4, f1, f2, f3, f4, hzb, hzg⟩ := store4 (HR4.out) (.int .i64 0) (.int .i64 0) (.string ⟨#[]⟩) (.string ⟨#[]⟩)
          go_wp2
          (try simp only [Exit.inBlock, Exit.then])
          refine bodyPost_ret (results_ct rfl _ _ w.heap.size 45 #[.int .i64 0, .int .i64 0, .string ⟨#[]⟩, .string ⟨#[]⟩] (0, 0) _ rfl hzb Try.underlying45 rfl (by kernel_rfl)) rfl ?_
          exact ⟨(0, 0, ⟨#[]⟩, ⟨#[]⟩), false, rfl, HN.out, pw_below_grown (HBF.out) (some w.heap.size) (HBF.out).size hzg (fun q hq => by injection hq with hq; omega)⟩
        · have hn0 : b2.length = 0 := by omega
          have HNE := Aside0.mk hn
          go_wp2_with fail
          refine (HCK.out w4).mono ?_
          rintro e_ w7 ⟨rfl, hb⟩
          have HR7 := Aside0.mk (blk_below HR4.out hb)
          have HX8 := Aside0.mk (blk_below HX5.out hb)
          have HBJ := Aside0.mk (below_step HBF.out hb)
          clear hb y0 y1 y2 y3
          have y0 : w7.cell? ⟨x, 0, none⟩ = some (.int .i64 k) := blk_cell HX8.out 0
          have y1 : w7.cell? ⟨x, 1, none⟩ = some (.int .i64 gn) := blk_cell HX8.out 1
          have y2 : w7.cell? ⟨x, 2, none⟩ = some (.string key) := blk_cell HX8.out 2
          have y3 : w7.cell? ⟨x, 3, none⟩ = some (.string ⟨#[]⟩) := blk_cell HX8.out 3
          by_cases hck : checkL k gn key ⟨#[]⟩ = 0
          · have HN : Aside0 (oneL b = some (k, gn, key, ⟨#[]⟩)) := ⟨HL4.out.trans (if_neg (fun h => h.elim HNE.out (fun h => h hck)))⟩
            rw [hck]
            clear hck
            obtain ⟨ya, yb, yc, ye, e1, e2, e3, e4, q1, q2, q3, q4, f1, f2, f3, f4, hzb, hzg⟩ := store4 HR7.out (.int .i64 k) (.int .i64 gn) (.string key) (.string ⟨#[]⟩)
            go_wp2
            (try simp only [Exit.inBlock, Exit.then])
            refine bodyPost_ret (results_ct rfl _ _ w.heap.size 45 #[.int .i64 k, .int .i64 gn, .string key, .string ⟨#[]⟩] (0, 0) _ rfl hzb Try.underlying45 rfl (by kernel_rfl)) rfl ?_
            exact ⟨(k, gn, key, ⟨#[]⟩), true, rfl, HN.out, pw_below_grown HBJ.out (some w.heap.size) HBJ.out.size hzg (fun q hq => by injection hq with hq; omega)⟩
          · have HN : Aside0 (oneL b = none) := ⟨HL4.out.trans (if_pos (Or.inr hck))⟩
            generalize checkL k gn key ⟨#[]⟩ = ck at *
            have bn : (ck != 0) = true := bne_iff_ne.2 hck
            clear hck
            obtain ⟨ya, yb, yc, ye, e1, e2, e3, e4, z1, z2, z3, z4, f1, f2, f3, f4, hzb, hzg⟩ := store4 (HR7.out) (.int .i64 0) (.int .i64 0) (.string ⟨#[]⟩) (.string ⟨#[]⟩)
            go_wp2
            (try simp only [Exit.inBlock, Exit.then])
            refine bodyPost_ret (results_ct rfl _ _ w.heap.size 45 #[.int .i64 0, .int .i64 0, .string ⟨#[]⟩, .string ⟨#[]⟩] (0, 0) _ rfl hzb Try.underlying45 rfl (by kernel_rfl)) rfl ?_
            exact ⟨(0, 0, ⟨#[]⟩, ⟨#[]⟩), false, rfl, HN.out, pw_below_grown (HBJ.out) (some w.heap.size) (HBJ.out).size hzg (fun q hq => by injection hq with hq; omega)⟩
end Go.Proofs.Ytfojeegepfjbiaa.RdH
