/- Contract of edit.decode. -/
import Derived.Test.YtfojeegepfjbiaaProg
import Derived.Below
import Derived.Deep.Draws
import Derived.Deep.AppendLies
import Derived.Maps.AppendAt
import Derived.OwnWalk
import Derived.Laws.BytesArg
import Derived.Laws.MakeOwn
import Derived.Laws.OwnMore
import Derived.Deep.OwnRows
import Derived.Tactics
import Derived.Lib.ConvBytes
import Derived.Laws.Slices
import Derived.WalkKit
import Derived.KernelRfl
import Derived.RowKit3
import Derived.Deep.LoopGhost
import Derived.Deep.QuietTactic
import Derived.BigQuiet
import Derived.WideLaws
import Derived.Deep.DeepCutAuto
import Derived.Deep.CutBlock
import Derived.Deep.RegionHeld3
import Derived.Laws.Rows
import Derived.Lib.AppendStr
import Derived.ArgAppend
import Derived.Laws.IdiomCopy
import Derived.OrdersHeld
import Derived.Laws.BitsLemmas
import Derived.RowKit
import Derived.Deep.RegionWith
import Derived.WalkSpells
import Derived.Outline
import Derived.Test.YtfojeegepfjbiaaWWords
import Derived.Test.YtfojeegepfjbiaaWLast
import Derived.Test.YtfojeegepfjbiaaWMore
import Derived.Test.YtfojeegepfjbiaaWArr
import Derived.Test.YtfojeegepfjbiaaWTab
import Derived.Test.YtfojeegepfjbiaaWZeros
import Derived.Test.YtfojeegepfjbiaaWRepsOne
import Derived.Test.YtfojeegepfjbiaaEdJ
namespace Go.Proofs.Ytfojeegepfjbiaa.EdK
open Go.RowKit Go.Proofs.YtfojeegepfjbiaaW.PrintWords Go.Proofs.YtfojeegepfjbiaaW.PrintLast Go.Proofs.YtfojeegepfjbiaaW.PrintMore Go.Proofs.Ytfojeegepfjbiaa.Mix Go.Proofs.Ytfojeegepfjbiaa.MixB Go.Proofs.Ytfojeegepfjbiaa.MixT Go.Proofs.Ytfojeegepfjbiaa.Nm Go.Proofs.Ytfojeegepfjbiaa.NmA Go.Proofs.Ytfojeegepfjbiaa.NmB Go.Proofs.Ytfojeegepfjbiaa.NmC Go.Proofs.Ytfojeegepfjbiaa.NmH Go.Proofs.Ytfojeegepfjbiaa.CrP Go.Proofs.Ytfojeegepfjbiaa.CrA Go.Proofs.Ytfojeegepfjbiaa.CrB Go.Proofs.Ytfojeegepfjbiaa.EdZ Go.Proofs.Ytfojeegepfjbiaa.EdA Go.Proofs.Ytfojeegepfjbiaa.EdB Go.Proofs.Ytfojeegepfjbiaa.EdC Go.Proofs.Ytfojeegepfjbiaa.EdD Go.Proofs.Ytfojeegepfjbiaa.EdE Go.Proofs.Ytfojeegepfjbiaa.EdF Go.Proofs.Ytfojeegepfjbiaa.EdG Go.Proofs.Ytfojeegepfjbiaa.EdH Go.Proofs.Ytfojeegepfjbiaa.EdI Go.Proofs.Ytfojeegepfjbiaa.EdJ
set_option linter.unusedSimpArgs false
set_option linter.unusedVariables false
attribute [local go_sem] max2_int min2_int max_two min_two

abbrev okpx (p x : Nat) : Nat → Prop := fun k => k ≠ p ∧ k ≠ x
theorem segsF_eq {st st' : St} {s : SegT} {q : Nat} (h : segS st = (s, st')) : segsF (q + 1) st = (s :: (segsF q st').1, (segsF q st').2) := by simp only [segsF, h]
theorem parsF_eq {st st' : St} {s : ParT} {q : Nat} (h : parS st = (s, st')) : parsF (q + 1) st = (s :: (parsF q st').1, (parsF q st').2) := by simp only [parsF, h]
/-- What stands while an edit is read. -/
structure DS (w : World) (B p : Nat) (w' : World) (st : St) : Prop where
  rdr : RdrS w' p st
  bel : Below B w w'
  blk : Blk w' B #[.int .i64 0, .int .i64 0, .slice none 0 0, .slice none 0 0, .slice none 0 0, .slice none 0 0] 66
theorem ds_num {w w' w'' : World} {B p : Nat} {st st' : St} (hp : B < p) (h : DS w B p w' st) (hr : RdrS w'' p st') (hg : w'.grownBy w'' (some p)) : DS w B p w'' st' :=
  ⟨hr, pw_below_grown h.bel (some p) (by have := blk_lt h.blk; omega) hg (fun q hq => by injection hq with hq; omega), num_blk h.blk hg (by omega)⟩
theorem ds_low {w w' w'' : World} {B p : Nat} {st : St} (hp : B + 1 = p) (h : DS w B p w' st) (hb : Below (p + 1) w' w'') : DS w B p w'' st :=
  ⟨rdrs_low h.rdr hb (by omega), h.bel.trans (hb.mono (by omega)), (hb.block B (by omega)).trans h.blk⟩
theorem ds_size {w w' : World} {B p : Nat} {st : St} (h : DS w B p w' st) : p + 1 ≤ w'.heap.size := rdrs_lt h.rdr
theorem ds_new {w w' w'' : World} {B p : Nat} {st : St} (hp : B + 1 = p) (h : DS w B p w' st) (hb : Below w'.heap.size w' w'') : DS w B p w'' st := ds_low hp h (hb.mono (ds_size h))
theorem Fr.up {M N p x y : Nat} {w w' : World} (h : Fr M p y w w') (h1 : N ≤ M) (h2 : N ≤ y) : Fr N p x w w' := ⟨h.1, fun k a b _ => h.2 k (by omega) b (by omega)⟩
set_option maxRecDepth 100000 in
set_option maxHeartbeats 16000000 in
theorem decode_calls (A : Option Addr) (c : Nat) (b : List Int) (hby : Bys b) (w : World) (hr : (Kd.int .u8).C w A b.length b) (hc : b.length ≤ c) (hl : b.length ≤ 1000000000) :
    Calls Try.prog 70 #[.slice A b.length c] w fun e w' => ∃ va vd vp vr : Value, e = .returned (.tuple #[.agg #[.int .i64 (decE b).1.1, .int .i64 (decE b).1.2.1, va, vd, vp, vr], .bool (decE b).2]) ∧
      KEd.M w' w.heap.size (fun _ => True) (decE b).1 [.int .i64 (decE b).1.1, .int .i64 (decE b).1.2.1, va, vd, vp, vr] ∧ Below w.heap.size w w' := by
  have hrd := rdr_new hr hc (.cells #[.int .i64 0, .int .i64 0, .slice none 0 0, .slice none 0 0, .slice none 0 0, .slice none 0 0] 66 (0, 0))
  obtain ⟨hb0, _, hbel⟩ := alloc2 w (.cells #[.int .i64 0, .int .i64 0, .slice none 0 0, .slice none 0 0, .slice none 0 0, .slice none 0 0] 66 (0, 0)) (.cells #[.slice A b.length c, .bool false] 106 (0, 0))
  have hsz1 : ((w.alloc (.cells #[.int .i64 0, .int .i64 0, .slice none 0 0, .slice none 0 0, .slice none 0 0, .slice none 0 0] 66 (0, 0))).alloc (.cells #[.slice A b.length c, .bool false] 106 (0, 0))).heap.size = w.heap.size + 1 + 1 := by simp
  obtain ⟨w1, hw1⟩ : ∃ q, (w.alloc (.cells #[.int .i64 0, .int .i64 0, .slice none 0 0, .slice none 0 0, .slice none 0 0, .slice none 0 0] 66 (0, 0))).alloc (.cells #[.slice A b.length c, .bool false] 106 (0, 0)) = q := ⟨_, rfl⟩
  rw [hw1] at hrd hb0 hbel hsz1
  obtain ⟨B, hB⟩ : ∃ q, w.heap.size = q := ⟨_, rfl⟩
  rw [hB] at hrd hb0 hbel hsz1 ⊢
  obtain ⟨p, hp⟩ : ∃ q, B + 1 = q := ⟨_, rfl⟩
  rw [hp] at hrd hsz1
  have DS1 : Aside0 (DS w B p w1 (b, false)) := ⟨⟨hrd, hby⟩, hbel, hb0⟩
  have HPB : Aside0 (B < p ∧ B + 1 = p) := ⟨by omega, hp⟩
  have HCB : Aside0 (∀ wx, Below B w wx → (Kd.int .u8).C wx A b.length b) := ⟨fun wx h => C_up hB h hr⟩
  have HY := Aside0.mk (And.intro hby (And.intro hc hl))
  obtain ⟨nx, s1, h1⟩ : ∃ a s, numS (b, false) 1125899906842624 = (a, s) := ⟨_, _, rfl⟩
  obtain ⟨sq, s2, h2⟩ : ∃ a s, numS s1 1125899906842624 = (a, s) := ⟨_, _, rfl⟩
  obtain ⟨nA, s3, h3⟩ : ∃ a s, numS s2 60 = (a, s) := ⟨_, _, rfl⟩
  have y1 : Bys s1.1 := by have := numS_bys (most := 1125899906842624) (st := (b, false)) hby; rw [h1] at this; exact this
  have y2 : Bys s2.1 := by have := numS_bys (most := 1125899906842624) y1; rw [h2] at this; exact this
  have y3 : Bys s3.1 := by have := numS_bys (most := 60) y2; rw [h3] at this; exact this
  have b3 := numS_bd h3 y2 (by decide)
  obtain ⟨mA, rfl⟩ := Int.eq_ofNat_of_zero_le b3.1
  obtain ⟨ads, s4, h4⟩ : ∃ a s, segsF mA s3 = (a, s) := ⟨_, _, rfl⟩
  obtain ⟨dls, s5, h5⟩ : ∃ a s, listS s4 = (a, s) := ⟨_, _, rfl⟩
  obtain ⟨nP, s6, h6⟩ : ∃ a s, numS s5 60 = (a, s) := ⟨_, _, rfl⟩
  have y4 : Bys s4.1 := by have := (segsF_ok mA s3 y3).1; rw [h4] at this; exact this
  have y5 : Bys s5.1 := by have := (listF_ok (numS s4 60).1.toNat (numS s4 60).2 (numS_bys y4)).1; have h5' : listF (numS s4 60).1.toNat (numS s4 60).2 = (dls, s5) := h5; rw [h5'] at this; exact this
  have b6 := numS_bd h6 y5 (by decide)
  obtain ⟨mP, rfl⟩ := Int.eq_ofNat_of_zero_le b6.1
  obtain ⟨prs, s7, h7⟩ : ∃ a s, parsF mP s6 = (a, s) := ⟨_, _, rfl⟩
  obtain ⟨drs, s8, h8⟩ : ∃ a s, listS s7 = (a, s) := ⟨_, _, rfl⟩
  have hraw : rawE (b, false) = ((nx, sq, ads, dls, prs, drs), s8) := by
    simp only [rawE, h1, h2, h3, Int.toNat_natCast, h4, h5, h6, h7, h8]
  have hgood : edGood (nx, sq, ads, dls, prs, drs) := by have := raw_good hby; rw [hraw] at this; exact this
  have HD : Aside0 (decE b = ((nx, sq, ads, dls, prs, drs), (!s8.2 && decide (s8.1.length = 0)) && (edOk (nx, sq, ads, dls, prs, drs) && decide (textL (nx, sq, ads, dls, prs, drs) = b)))) := ⟨by unfold decE; rw [hraw]⟩
  have HGD := Aside0.mk hgood
  have H1 := Aside0.mk h1
  have H2 := Aside0.mk h2
  have H3 := Aside0.mk h3
  have H4 := Aside0.mk h4
  have H5 := Aside0.mk h5
  have H6 := Aside0.mk h6
  have H7 := Aside0.mk h7
  have H8 := Aside0.mk h8
  have HMA : Aside0 (mA ≤ 60 ∧ mP ≤ 60) := ⟨by omega⟩
  generalize decE b = DE at *
  clear hrd hb0 hbel hsz1 hby hr hc hl h1 h2 h3 h4 h5 h6 h7 h8 y1 y2 y3 y4 y5 b3 b6 hraw hgood
  go_enter Try.func70, Try.ntmps70
  go_wp2_with fail
  refine (numS_calls DS1.out.rdr H1.out (by decide) (by decide)).mono ?_
  rintro e_ w2 ⟨rfl, hr_, hg_⟩
  have DS2 := Aside0.mk (ds_num HPB.out.1 DS1.out hr_ hg_)
  clear hr_ hg_ DS1
  clear hw1 hp
  go_wp2_with fail
  refine (numS_calls DS2.out.rdr H2.out (by decide) (by decide)).mono ?_
  rintro e_ w3 ⟨rfl, hr_, hg_⟩
  have DS3 := Aside0.mk (ds_num HPB.out.1 DS2.out hr_ hg_)
  clear hr_ hg_ DS2
  have hx3 := blk_new w3 (.cells #[.int .i64 nx, .int .i64 sq, .slice none 0 0, .slice none 0 0, .slice none 0 0, .slice none 0 0] 66 (0, 0))
  have hbx := (Below.refl w3.heap.size w3).alloc (Nat.le_refl _) (.cells #[.int .i64 nx, .int .i64 sq, .slice none 0 0, .slice none 0 0, .slice none 0 0, .slice none 0 0] 66 (0, 0))
  obtain ⟨wx, hwx⟩ : ∃ q, w3.alloc (.cells #[.int .i64 nx, .int .i64 sq, .slice none 0 0, .slice none 0 0, .slice none 0 0, .slice none 0 0] 66 (0, 0)) = q := ⟨_, rfl⟩
  obtain ⟨x, hx⟩ : ∃ q, w3.heap.size = q := ⟨_, rfl⟩
  rw [hwx] at hx3 hbx
  have DSx := Aside0.mk (ds_new HPB.out.2 DS3.out hbx)
  have HXP : Aside0 (p < x) := ⟨by have := ds_size DS3.out; omega⟩
  rw [hx] at hx3
  have HXx := Aside0.mk hx3
  have hf1_ := blk_frozen hx3 1
  have hw1_ : wx.setCell ⟨x, 1, none⟩ (.int .i64 sq) = wx := setCell_same hx3 rfl
  have hf2_ := blk_frozen hx3 2
  have hw2_ : wx.setCell ⟨x, 2, none⟩ (.slice none 0 0) = wx := setCell_same hx3 rfl
  have hf3_ := blk_frozen hx3 3
  have hw3_ : wx.setCell ⟨x, 3, none⟩ (.slice none 0 0) = wx := setCell_same hx3 rfl
  have hf4_ := blk_frozen hx3 4
  have hw4_ : wx.setCell ⟨x, 4, none⟩ (.slice none 0 0) = wx := setCell_same hx3 rfl
  have hf5_ := blk_frozen hx3 5
  have hw5_ : wx.setCell ⟨x, 5, none⟩ (.slice none 0 0) = wx := setCell_same hx3 rfl
  have x0 : wx.cell? ⟨x, 0, none⟩ = some (.int .i64 nx) := blk_cell hx3 0
  have x1 : wx.cell? ⟨x, 1, none⟩ = some (.int .i64 sq) := blk_cell hx3 1
  have x2 : wx.cell? ⟨x, 2, none⟩ = some (.slice none 0 0) := blk_cell hx3 2
  have x3 : wx.cell? ⟨x, 3, none⟩ = some (.slice none 0 0) := blk_cell hx3 3
  have x4 : wx.cell? ⟨x, 4, none⟩ = some (.slice none 0 0) := blk_cell hx3 4
  have x5 : wx.cell? ⟨x, 5, none⟩ = some (.slice none 0 0) := blk_cell hx3 5
  clear hx3 hbx DS3
  go_wp2_with fail
  refine (numS_calls DSx.out.rdr H3.out (by decide) (by decide)).mono ?_
  rintro e_ w4 ⟨rfl, hr_, hg_⟩
  have DS4 := Aside0.mk (ds_num HPB.out.1 DSx.out hr_ hg_)
  have HX4 := Aside0.mk (num_blk HXx.out hg_ (by have := HXP.out; omega))
  clear hr_ hg_ DSx
  clear hf1_ hw1_ hf2_ hw2_ hf3_ hw3_ hf4_ hw4_ hf5_ hw5_ x0 x1 x2 x3 x4 x5 HXx hwx hx
  go_wp2_with fail
  go_loopg [6, 18] mA (fun q v6 v18 w' => ∃ (i : Nat) (acc : List SegT) (st : St) (va : Value), v18 = .int .i64 (i : Int) ∧ Aside0 (i + q = mA ∧ acc.length = i ∧ ads = acc ++ (segsF q st).1 ∧ s4 = (segsF q st).2) ∧ Aside0 (Blk w' x #[.int .i64 nx, .int .i64 sq, va, .slice none 0 0, .slice none 0 0, .slice none 0 0] 66) ∧ Aside0 (KSeg.R 77 w' (p + 1) (okpx p x) va acc) ∧ Aside0 (DS w B p w' st))
  case atStart => exact ⟨0, [], s3, .slice none 0 0, rfl, ⟨by omega, rfl, by rw [H4.out]; rfl, by rw [H4.out]⟩, HX4, ⟨Kd.R_nil _ _ _ _ _⟩, DS4⟩
  case round =>
    clear HX4 DS4
    obtain ⟨i, acc, st, va, rfl, HI, HX, HO, DSr⟩ := hrel
    have hix := HI.out
    by_cases hlt : i < mA
    · skip
      obtain ⟨f, rfl⟩ : ∃ f, gk = f + 1 := ⟨gk - 1, by omega⟩
      have k0 : ((i : Int) < (mA : Int)) = True := eq_true (by omega)
      have kw : IntKind.i64.wrap ((i : Int) + 1) = (i : Int) + 1 := by have := HMA.out; rw [IntKind.wrap_i64]; omega
      obtain ⟨n, t1, g1⟩ : ∃ a s, numS st 1125899906842624 = (a, s) := ⟨_, _, rfl⟩
      obtain ⟨bb, t2, g2⟩ : ∃ a s, numS t1 1 = (a, s) := ⟨_, _, rfl⟩
      obtain ⟨g, t3, g3⟩ : ∃ a s, numS t2 1125899906842624 = (a, s) := ⟨_, _, rfl⟩
      obtain ⟨m, t4, g4⟩ : ∃ a s, numS t3 3 = (a, s) := ⟨_, _, rfl⟩
      obtain ⟨z, t5, g5⟩ : ∃ a s, numS t4 4194304 = (a, s) := ⟨_, _, rfl⟩
      obtain ⟨u, t6, g6⟩ : ∃ a s, numS t5 4294967295 = (a, s) := ⟨_, _, rfl⟩
      rw [segsF_eq (segS_eq g1 g2 g3 g4 g5 g6)] at hix
      have HI2 := Aside0.mk hix
      have G1 := Aside0.mk g1
      have G2 := Aside0.mk g2
      have G3 := Aside0.mk g3
      have G4 := Aside0.mk g4
      have G5 := Aside0.mk g5
      have G6 := Aside0.mk g6
      clear hix g1 g2 g3 g4 g5 g6
      go_wp2_with fail
      refine (numS_calls DSr.out.rdr G1.out (by decide) (by decide)).mono ?_
      rintro e_ wa ⟨rfl, hr_, hg_⟩
      have DSa := Aside0.mk (ds_num HPB.out.1 DSr.out hr_ hg_)
      have HXa := Aside0.mk (num_blk HX.out hg_ (by have := HXP.out; omega))
      have HOa := Aside0.mk (num_R HO.out hg_ (fun k hk => hk.1))
      clear HX HO
      clear hr_ hg_ DSr
      go_wp2_with fail
      refine (numS_calls DSa.out.rdr G2.out (by decide) (by decide)).mono ?_
      rintro e_ wb ⟨rfl, hr_, hg_⟩
      have DSb := Aside0.mk (ds_num HPB.out.1 DSa.out hr_ hg_)
      have HXb := Aside0.mk (num_blk HXa.out hg_ (by have := HXP.out; omega))
      have HOb := Aside0.mk (num_R HOa.out hg_ (fun k hk => hk.1))
      clear HXa HOa
      clear hr_ hg_ DSa
      go_wp2_with fail
      refine (numS_calls DSb.out.rdr G3.out (by decide) (by decide)).mono ?_
      rintro e_ wc ⟨rfl, hr_, hg_⟩
      have DSc := Aside0.mk (ds_num HPB.out.1 DSb.out hr_ hg_)
      have HXc := Aside0.mk (num_blk HXb.out hg_ (by have := HXP.out; omega))
      have HOc := Aside0.mk (num_R HOb.out hg_ (fun k hk => hk.1))
      clear HXb HOb
      clear hr_ hg_ DSb
      go_wp2_with fail
      refine (numS_calls DSc.out.rdr G4.out (by decide) (by decide)).mono ?_
      rintro e_ wd ⟨rfl, hr_, hg_⟩
      have DSd := Aside0.mk (ds_num HPB.out.1 DSc.out hr_ hg_)
      have HXd := Aside0.mk (num_blk HXc.out hg_ (by have := HXP.out; omega))
      have HOd := Aside0.mk (num_R HOc.out hg_ (fun k hk => hk.1))
      clear HXc HOc
      clear hr_ hg_ DSc
      go_wp2_with fail
      refine (numS_calls DSd.out.rdr G5.out (by decide) (by decide)).mono ?_
      rintro e_ we ⟨rfl, hr_, hg_⟩
      have DSe := Aside0.mk (ds_num HPB.out.1 DSd.out hr_ hg_)
      have HXe := Aside0.mk (num_blk HXd.out hg_ (by have := HXP.out; omega))
      have HOe := Aside0.mk (num_R HOd.out hg_ (fun k hk => hk.1))
      clear HXd HOd
      clear hr_ hg_ DSd
      have hu := numS_bd G6.out DSe.out.rdr.2 (by decide)
      have ku : IntKind.u32.wrap u = u := by rw [IntKind.wrap_u32]; omega
      have hs3 := blk_new we (.cells #[.int .i64 n, .bool (bb == 1), .int .i64 g, .int .i64 m, .int .i64 z, .int .u32 0] 77 (0, 0))
      have hbs := (Below.refl we.heap.size we).alloc (Nat.le_refl _) (.cells #[.int .i64 n, .bool (bb == 1), .int .i64 g, .int .i64 m, .int .i64 z, .int .u32 0] 77 (0, 0))
      obtain ⟨ws, hwq⟩ : ∃ q, we.alloc (.cells #[.int .i64 n, .bool (bb == 1), .int .i64 g, .int .i64 m, .int .i64 z, .int .u32 0] 77 (0, 0)) = q := ⟨_, rfl⟩
      obtain ⟨s, hs⟩ : ∃ q, we.heap.size = q := ⟨_, rfl⟩
      rw [hwq] at hs3 hbs
      have DSs := Aside0.mk (ds_new HPB.out.2 DSe.out hbs)
      have HXs := Aside0.mk (blk_below HXe.out hbs)
      have HOs := Aside0.mk (Kd.R_mono (Kd.R_below (Kd.R_mono (Kd.R_bound HOe.out) (ok' := fun k => (k ≠ p ∧ k ≠ x) ∧ k < s) (fun k hk => ⟨hk.1, by rw [← hs]; exact hk.2.2.1⟩)) hbs) (fun k hk => hk))
      have HSX : Aside0 (p + 1 ≤ s ∧ s ≠ x) := ⟨by have := ds_size DSe.out; omega, by have := blk_lt HXe.out; omega⟩
      rw [hs] at hs3
      have HSs := Aside0.mk hs3
      have hf4_ := blk_frozen hs3 4
      have hw4_ : ws.setCell ⟨s, 4, none⟩ (.int .i64 z) = ws := setCell_same hs3 rfl
      have hf5_ := blk_frozen hs3 5
      have hw5_ : ws.setCell ⟨s, 5, none⟩ (.int .u32 0) = ws := setCell_same hs3 rfl
      have x0 : ws.cell? ⟨s, 0, none⟩ = some (.int .i64 n) := blk_cell hs3 0
      have x1 : ws.cell? ⟨s, 1, none⟩ = some (.bool (bb == 1)) := blk_cell hs3 1
      have x2 : ws.cell? ⟨s, 2, none⟩ = some (.int .i64 g) := blk_cell hs3 2
      have x3 : ws.cell? ⟨s, 3, none⟩ = some (.int .i64 m) := blk_cell hs3 3
      have x4 : ws.cell? ⟨s, 4, none⟩ = some (.int .i64 z) := blk_cell hs3 4
      have x5 : ws.cell? ⟨s, 5, none⟩ = some (.int .u32 0) := blk_cell hs3 5
      clear hs3 hbs hu DSe HXe HOe
      go_wp2_with fail
      refine (numS_calls DSs.out.rdr G6.out (by decide) (by decide)).mono ?_
      rintro e_ wt ⟨rfl, hr_, hg_⟩
      have DSt := Aside0.mk (ds_num HPB.out.1 DSs.out hr_ hg_)
      have HXt := Aside0.mk (num_blk HXs.out hg_ (by have := HXP.out; omega))
      have hst := num_blk HSs.out hg_ (by have := HSX.out; omega)
      have HOt := Aside0.mk (num_R HOs.out hg_ (fun k hk => hk.1.1))
      clear HXs HOs HSs
      clear hr_ hg_ DSs
      have fu := blk_frozen hst 5
      have cu : wt.cell? ⟨s, 5, none⟩ = some (.int .u32 0) := blk_cell hst 5
      have hsu : Blk (wt.setCell ⟨s, 5, none⟩ (.int .u32 u)) s #[.int .i64 n, .bool (bb == 1), .int .i64 g, .int .i64 m, .int .i64 z, .int .u32 u] 77 := blk_set hst 5 _
      obtain ⟨wu, hwu⟩ : ∃ q, wt.setCell ⟨s, 5, none⟩ (.int .u32 u) = q := ⟨_, rfl⟩
      have hbu : Below s wt wu := by rw [← hwu]; exact (Below.refl s wt).setCell (Nat.le_refl _) _
      have DSu := Aside0.mk (ds_low HPB.out.2 DSt.out (hbu.mono HSX.out.1))
      have HXu : Aside0 (Blk wu x #[.int .i64 nx, .int .i64 sq, va, .slice none 0 0, .slice none 0 0, .slice none 0 0] 66) := ⟨by rw [← hwu]; exact blk_far HXt.out (by have := HSX.out; exact fun e => this.2 e.symm) _⟩
      have HOu : Aside0 (KSeg.R 77 wu (p + 1) (okpx p x) va acc) := ⟨by rw [← hwu]; exact Kd.R_mono (Kd.R_far (p := ⟨s, 5, none⟩) HOt.out (fun k hk => by show k ≠ s; omega) _) (fun k hk => hk.1)⟩
      have HQu := Aside0.mk (ds_size DSu.out)
      have HFR : Aside0 (∀ k, wu.heap.size ≤ k → okpx p x k) := ⟨fun k hk => by have := ds_size DSu.out; have := blk_lt HXu.out; exact ⟨by omega, by omega⟩⟩
      rw [hwu] at hsu
      have x0 : wu.cell? ⟨s, 0, none⟩ = some (.int .i64 n) := blk_cell hsu 0
      have x1 : wu.cell? ⟨s, 1, none⟩ = some (.bool (bb == 1)) := blk_cell hsu 1
      have x2 : wu.cell? ⟨s, 2, none⟩ = some (.int .i64 g) := blk_cell hsu 2
      have x3 : wu.cell? ⟨s, 3, none⟩ = some (.int .i64 m) := blk_cell hsu 3
      have x4 : wu.cell? ⟨s, 4, none⟩ = some (.int .i64 z) := blk_cell hsu 4
      have x5 : wu.cell? ⟨s, 5, none⟩ = some (.int .u32 u) := blk_cell hsu 5
      have x6 : wu.cell? ⟨x, 2, none⟩ = some va := blk_cell HXu.out 2
      clear hf4_ hw4_ hf5_ hw5_ hst hsu hbu DSt HXt HOt hwq hs
      go_wp2_with ((with_reducible refine gate_builtin (b := .append) (xs := #[.tmp 37, .tmp 39]) rfl ?_); at_builtin; go_must (refine Kd.R_append KSeg (w0 := wu) (p + 1) rfl (.tmp 37) (.tmp 39) 62 77 (.agg #[.int .i64 0, .bool false, .int .i64 0, .int .i64 0, .int .i64 0, .int .u32 0]) 48 rfl Try.underlying62 info77 rfl (by decide) (by decide) va acc (n, bb == 1, g, m, z, u) [.int .i64 n, .bool (bb == 1), .int .i64 g, .int .i64 m, .int .i64 z, .int .u32 u] (okpx p x) (fun _ => False) ?hs_ ?hx_ (seg_M _ _ _ n g m z u (bb == 1)) (fun _ hk => hk.elim) (fun k hk => HFR.out k hk) HOu.out (Below.refl _ _) HQu.out (by have := HI.out; have := HMA.out; omega) ?_; (case hs_ => rfl); (case hx_ => rfl); intro v5 w5 ho hb hg hat; obtain ⟨acc2, ha2⟩ : ∃ q, acc ++ [(n, bb == 1, g, m, z, u)] = q := ⟨_, rfl⟩; rw [ha2] at ho; have HA2 := Aside0.mk ha2; obtain ⟨A5, c5, e5⟩ := Kd.R_slice ho; subst e5; have HO5 := Aside0.mk ho; have DS5 := Aside0.mk (ds_low HPB.out.2 DSu.out hb); have hx5 := blk_grown HXu.out hg (Kd.R_ne HOu.out HXu.out (by decide)); have HX5 := Aside0.mk hx5; have z2 : w5.cell? ⟨x, 2, none⟩ = some va := blk_cell hx5 2; have zf := blk_frozen hx5 2; clear ho hb hg hat hx5 ha2))
      go_roundg f
      case measure => omega
      case rel => exact ⟨i + 1, acc2, t6, .slice A5 acc2.length c5, by simp, ⟨by have := HI.out; omega, by rw [← HA2.out, List.length_append]; have := HI.out; simp; omega, by rw [← HA2.out, HI2.out.2.2.1]; simp, HI2.out.2.2.2⟩, ⟨blk_set HX5.out 2 _⟩, ⟨Kd.R_set HO5.out HX5.out (by decide) 2 _⟩, ⟨ds_low HPB.out.2 DS5.out ((Below.refl _ _).setCell (by have := HXP.out; show p + 1 ≤ x; omega) _)⟩⟩
    · have k0 : ((i : Int) < (mA : Int)) = False := eq_false (by omega)
      obtain rfl : gk = 0 := by omega
      have hA : ads = acc := by rw [hix.2.2.1]; simp [segsF]
      have hS : s4 = st := hix.2.2.2
      subst hA
      subst hS
      have hxq := HX.out
      obtain ⟨Aa, ca, e_⟩ := Kd.R_slice HO.out
      subst e_
      clear hix hlt HI
      go_wp2_with fail
      refine (list_calls DSr.out.rdr).mono ?_
      rintro e_ wa ⟨vd, rfl, ho, hr, hg⟩
      rw [H5.out] at ho hr
      have DSa := Aside0.mk (ds_num HPB.out.1 DSr.out hr hg)
      have hxa := num_blk HX.out hg (by have := HXP.out; omega)
      have HXa := Aside0.mk hxa
      have HOa := Aside0.mk (num_R HO.out hg (fun k hk => hk.1))
      have HDa := Aside0.mk (Kd.R_lower (Kd.R_mono (Kd.R_bound ho) (ok' := okpx p x) (fun k hk => ⟨by have := ds_size DSr.out; have := hk.2.1; omega, by have := blk_lt HX.out; have := hk.2.1; omega⟩)) (ds_size DSr.out))
      obtain ⟨Ad, cd, e_⟩ := Kd.R_slice ho
      subst e_
      have z2 : wa.cell? ⟨x, 3, none⟩ = some (.slice none 0 0) := blk_cell hxa 3
      have zf := blk_frozen hxa 3
      have hxb := blk_set hxa 3 (.slice Ad dls.length cd)
      obtain ⟨wb, hwb⟩ : ∃ q, wa.setCell ⟨x, 3, none⟩ (.slice Ad dls.length cd) = q := ⟨_, rfl⟩
      have DSb : Aside0 (DS w B p wb s5) := ⟨by rw [← hwb]; exact ds_low HPB.out.2 DSa.out ((Below.refl _ _).setCell (by have := HXP.out; show p + 1 ≤ x; omega) _)⟩
      have HOb : Aside0 (KSeg.R 77 wb (p + 1) (okpx p x) (.slice Aa ads.length ca) ads) := ⟨by rw [← hwb]; exact Kd.R_set HOa.out hxa (by decide) 3 _⟩
      have HDb : Aside0 ((Kd.int .i64).R 2 wb (p + 1) (okpx p x) (.slice Ad dls.length cd) dls) := ⟨by rw [← hwb]; exact Kd.R_set HDa.out hxa (by decide) 3 _⟩
      rw [hwb] at hxb
      have HXb : Aside0 (Blk wb x #[.int .i64 nx, .int .i64 sq, .slice Aa ads.length ca, .slice Ad dls.length cd, .slice none 0 0, .slice none 0 0] 66) := ⟨hxb⟩
      clear ho hr hg hxa hxb hxq HXa HOa HDa DSa DSr HX HO
      go_wp2_with fail
      refine (numS_calls DSb.out.rdr H6.out (by decide) (by decide)).mono ?_
      rintro e_ wc ⟨rfl, hr_, hg_⟩
      have DSc := Aside0.mk (ds_num HPB.out.1 DSb.out hr_ hg_)
      have HXc := Aside0.mk (num_blk HXb.out hg_ (by have := HXP.out; omega))
      have HOc := Aside0.mk (num_R HOb.out hg_ (fun k hk => hk.1))
      have HDc := Aside0.mk (num_R HDb.out hg_ (fun k hk => hk.1))
      clear HXb HOb HDb
      clear hr_ hg_ DSb
      clear z2 zf hwb
      obtain ⟨N, hN⟩ : ∃ q, wc.heap.size = q := ⟨_, rfl⟩
      have HNP : Aside0 (p + 1 ≤ N ∧ x < N ∧ wc.heap.size = N) := ⟨by rw [← hN]; exact ds_size DSc.out, by rw [← hN]; exact blk_lt HXc.out, hN⟩
      clear hN
      go_wp2_with fail
      go_loopg [7, 48] mP (fun q v7 v48 w' => ∃ (i : Nat) (acc : List ParT) (st : St) (vp : Value), v48 = .int .i64 (i : Int) ∧ Aside0 (i + q = mP ∧ acc.length = i ∧ prs = acc ++ (parsF q st).1 ∧ s7 = (parsF q st).2) ∧ Aside0 (Blk w' x #[.int .i64 nx, .int .i64 sq, .slice Aa ads.length ca, .slice Ad dls.length cd, vp, .slice none 0 0] 66) ∧ Aside0 (KPar.R 90 w' N (okpx p x) vp acc) ∧ Aside0 (DS w B p w' st) ∧ Aside0 (Fr N p x wc w'))
      case atStart => exact ⟨0, [], s6, .slice none 0 0, rfl, ⟨by omega, rfl, by rw [H7.out]; rfl, by rw [H7.out]⟩, HXc, ⟨Kd.R_nil _ _ _ _ _⟩, DSc, ⟨Fr.refl _ _ _ _⟩⟩
      case round =>
        clear HXc DSc k0
        obtain ⟨i, acc, st, vp, rfl, HI, HX, HO, DSr, FRr⟩ := hrel
        have hix := HI.out
        by_cases hlt : i < mP
        · obtain ⟨f, rfl⟩ : ∃ f, gk = f + 1 := ⟨gk - 1, by omega⟩
          have k0 : ((i : Int) < (mP : Int)) = True := eq_true (by omega)
          have kw : IntKind.i64.wrap ((i : Int) + 1) = (i : Int) + 1 := by have := HMA.out; rw [IntKind.wrap_i64]; omega
          obtain ⟨g, t1, g1⟩ : ∃ a s, numS st 1125899906842624 = (a, s) := ⟨_, _, rfl⟩
          obtain ⟨kk, t2, g2⟩ : ∃ a s, numS t1 3 = (a, s) := ⟨_, _, rfl⟩
          have y0 := numS_bys (most := 1125899906842624) DSr.out.rdr.2
          rw [g1] at y0
          have y1 := numS_bd g2 y0 (by decide)
          obtain ⟨kn, rfl⟩ := Int.eq_ofNat_of_zero_le y1.1
          obtain ⟨nz, t3, g3⟩ : ∃ a s, nzF kn t2 = (a, s) := ⟨_, _, rfl⟩
          obtain ⟨ns, zs⟩ := nz
          obtain ⟨z, t4, g4⟩ : ∃ a s, numS t3 4194304 = (a, s) := ⟨_, _, rfl⟩
          obtain ⟨u, t5, g5⟩ : ∃ a s, numS t4 4294967295 = (a, s) := ⟨_, _, rfl⟩
          rw [parsF_eq (parS_eq g1 g2 (by rw [Int.toNat_natCast]; exact g3) g4 g5)] at hix
          have HI2 := Aside0.mk hix
          have HK3 : Aside0 (kn ≤ 3) := ⟨by omega⟩
          have G1 := Aside0.mk g1
          have G2 := Aside0.mk g2
          have G3 := Aside0.mk g3
          have G4 := Aside0.mk g4
          have G5 := Aside0.mk g5
          clear hix g1 g2 g3 g4 g5 y0 y1
          go_wp2_with fail
          refine (numS_calls DSr.out.rdr G1.out (by decide) (by decide)).mono ?_
          rintro e_ wa ⟨rfl, hr_, hg_⟩
          have DSa := Aside0.mk (ds_num HPB.out.1 DSr.out hr_ hg_)
          have HXa := Aside0.mk (num_blk HX.out hg_ (by have := HXP.out; omega))
          have HOa := Aside0.mk (num_R HO.out hg_ (fun k hk => hk.1))
          have FRa := Aside0.mk (FRr.out.trans (Fr.num hg_ (by have := FRr.out.1; have := HNP.out; omega)))
          clear HX HO FRr
          clear hr_ hg_ DSr
          have hy3 := blk_new wa (.cells #[.int .i64 g, .slice none 0 0, .slice none 0 0, .int .i64 0, .int .u32 0] 90 (0, 0))
          have hby := (Below.refl wa.heap.size wa).alloc (Nat.le_refl _) (.cells #[.int .i64 g, .slice none 0 0, .slice none 0 0, .int .i64 0, .int .u32 0] 90 (0, 0))
          obtain ⟨ws, hwq⟩ : ∃ q, wa.alloc (.cells #[.int .i64 g, .slice none 0 0, .slice none 0 0, .int .i64 0, .int .u32 0] 90 (0, 0)) = q := ⟨_, rfl⟩
          obtain ⟨y, hy⟩ : ∃ q, wa.heap.size = q := ⟨_, rfl⟩
          rw [hwq] at hy3 hby
          have DSs := Aside0.mk (ds_new HPB.out.2 DSa.out hby)
          have HXs := Aside0.mk (blk_below HXa.out hby)
          have HOs := Aside0.mk (Kd.R_below (Kd.R_mono (Kd.R_bound HOa.out) (ok' := fun k => (k ≠ p ∧ k ≠ x) ∧ k < y) (fun k hk => ⟨hk.1, by rw [← hy]; exact hk.2.2.1⟩)) hby)
          have HYN : Aside0 (N ≤ y ∧ p + 1 ≤ y ∧ y ≠ x) := ⟨by have := FRa.out.1; have := HNP.out; omega, by have := ds_size DSa.out; omega, by have := blk_lt HXa.out; omega⟩
          have FRs := Aside0.mk (FRa.out.trans (Fr.below (M := N) (p := p) (y := x) hby (by rw [hy]; exact HYN.out.1)))
          rw [hy] at hy3
          have HYs := Aside0.mk hy3
          have hf0_ := blk_frozen hy3 0
          have hw0_ : ws.setCell ⟨y, 0, none⟩ (.int .i64 g) = ws := setCell_same hy3 rfl
          have hf1_ := blk_frozen hy3 1
          have hw1_ : ws.setCell ⟨y, 1, none⟩ (.slice none 0 0) = ws := setCell_same hy3 rfl
          have hf2_ := blk_frozen hy3 2
          have hw2_ : ws.setCell ⟨y, 2, none⟩ (.slice none 0 0) = ws := setCell_same hy3 rfl
          have hf3_ := blk_frozen hy3 3
          have hw3_ : ws.setCell ⟨y, 3, none⟩ (.int .i64 0) = ws := setCell_same hy3 rfl
          have hf4_ := blk_frozen hy3 4
          have hw4_ : ws.setCell ⟨y, 4, none⟩ (.int .u32 0) = ws := setCell_same hy3 rfl
          have x0 : ws.cell? ⟨y, 0, none⟩ = some (.int .i64 g) := blk_cell hy3 0
          have x1 : ws.cell? ⟨y, 1, none⟩ = some (.slice none 0 0) := blk_cell hy3 1
          have x2 : ws.cell? ⟨y, 2, none⟩ = some (.slice none 0 0) := blk_cell hy3 2
          have x3 : ws.cell? ⟨y, 3, none⟩ = some (.int .i64 0) := blk_cell hy3 3
          have x4 : ws.cell? ⟨y, 4, none⟩ = some (.int .u32 0) := blk_cell hy3 4
          clear hy3 hby DSa HXa HOa FRa
          go_wp2_with fail
          refine (numS_calls DSs.out.rdr G2.out (by decide) (by decide)).mono ?_
          rintro e_ wt ⟨rfl, hr_, hg_⟩
          have DSt := Aside0.mk (ds_num HPB.out.1 DSs.out hr_ hg_)
          have HXt := Aside0.mk (num_blk HXs.out hg_ (by have := HXP.out; omega))
          have HYt := Aside0.mk (num_blk HYs.out hg_ (by have := HYN.out; omega))
          have HOt := Aside0.mk (num_R HOs.out hg_ (fun k hk => hk.1.1))
          have FRt := Aside0.mk (FRs.out.trans (Fr.num hg_ (by have := FRs.out.1; have := HNP.out; omega)))
          clear HXs HYs HOs FRs
          clear hr_ hg_ DSs
          clear hf0_ hw0_ hf1_ hw1_ hf2_ hw2_ hf3_ hw3_ hf4_ hw4_ x0 x1 x2 x3 x4 hwq hy
          obtain ⟨M, hM⟩ : ∃ q, wt.heap.size = q := ⟨_, rfl⟩
          have HYP : Aside0 (p + 1 ≤ M ∧ y < M ∧ p + 1 ≤ y ∧ y ≠ p ∧ x < M ∧ y ≠ x ∧ N ≤ y) := ⟨by have := HYN.out; have := blk_lt HYt.out; have := blk_lt HXt.out; have := ds_size DSt.out; omega⟩
          have HMM := Aside0.mk hM
          clear hM
          go_wp2_with fail
          go_loopg [55] kn (fun q v55 w' => ∃ (j : Nat) (na za : List Int) (st : St) (An Az : Option Addr) (cn cz : Nat), v55 = .int .i64 (j : Int) ∧ Aside0 (j + q = kn ∧ na.length = j ∧ za.length = j ∧ ns = na ++ (nzF q st).1.1 ∧ zs = za ++ (nzF q st).1.2 ∧ t3 = (nzF q st).2) ∧ Aside0 (Blk w' y #[.int .i64 g, .slice An na.length cn, .slice Az za.length cz, .int .i64 0, .int .u32 0] 90) ∧ Aside0 ((Kd.int .i64).R 2 w' M (okpx p y) (.slice An na.length cn) na) ∧ Aside0 ((Kd.int .i64).R 3 w' M (okpx p y) (.slice Az za.length cz) za) ∧ Aside0 (DS w B p w' st) ∧ Aside0 (Fr M p y wt w') ∧ Aside0 (M ≤ w'.heap.size))
          case atStart => exact ⟨0, [], [], t2, none, none, 0, 0, rfl, ⟨by omega, rfl, rfl, by rw [G3.out]; rfl, by rw [G3.out]; rfl, by rw [G3.out]⟩, HYt, ⟨Kd.R_nil _ _ _ _ _⟩, ⟨Kd.R_nil _ _ _ _ _⟩, DSt, ⟨Fr.refl _ _ _ _⟩, ⟨Nat.le_of_eq HMM.out.symm⟩⟩
          case round =>
            clear HYt DSt
            obtain ⟨j, na, za, st2, An, Az, cn, cz, rfl, HJ, HYr, HNr, HZr, DSr, FRr, FSr⟩ := hrel
            have hjx := HJ.out
            by_cases hjt : j < kn
            · skip
              obtain ⟨fj, rfl⟩ : ∃ f, gk = f + 1 := ⟨gk - 1, by omega⟩
              have k1 : ((j : Int) < (kn : Int)) = True := eq_true (by omega)
              have kj : IntKind.i64.wrap ((j : Int) + 1) = (j : Int) + 1 := by have := HK3.out; rw [IntKind.wrap_i64]; omega
              obtain ⟨n, r1, i1⟩ : ∃ a s, numS st2 1125899906842624 = (a, s) := ⟨_, _, rfl⟩
              obtain ⟨sz, r2, i2⟩ : ∃ a s, numS r1 4194304 = (a, s) := ⟨_, _, rfl⟩
              rw [nzF_eq i1 i2] at hjx
              have HJ2 := Aside0.mk hjx
              have I1 := Aside0.mk i1
              have I2 := Aside0.mk i2
              obtain ⟨ln, hln⟩ : ∃ q, na.length = q := ⟨_, rfl⟩
              obtain ⟨lz, hlz⟩ : ∃ q, za.length = q := ⟨_, rfl⟩
              rw [hln] at HYr HNr
              rw [hlz] at HYr HZr
              clear hjx i1 i2 hln hlz
              go_wp2_with fail
              refine wp_region_tree (fun _ _ => True) (.rd 0 (.rd 2 (.two 1 3 (.ef 3 (.ef 4 (.ef 5 (.rd 6 (.ef 7 .nil))))) (.two 1 4 (.ef 4 (.ef 5 (.rd 6 (.ef 7 .nil)))) (.ef 1 (.ef 5 (.rd 6 (.ef 7 .nil)))))))) (by kernel_rfl) (by kernel_rfl) (fun _ => trivial) (fun _ _ => trivial) (fun wd hhp_ hbw_ => ?_)
              have DSd := Aside0.mk (ds_new HPB.out.2 DSr.out hbw_)
              have hyd := blk_below HYr.out hbw_
              have HYd := Aside0.mk hyd
              have HNd := Aside0.mk (Kd.R_below HNr.out hbw_)
              have HZd := Aside0.mk (Kd.R_below HZr.out hbw_)
              have FRd := Aside0.mk (FRr.out.trans (Fr.below hbw_ FSr.out))
              have FSd : Aside0 (M ≤ wd.heap.size) := ⟨Nat.le_trans FSr.out hbw_.size⟩
              have c_d : wd.cell? ⟨y, 1, none⟩ = some (.slice An ln cn) := blk_cell hyd 1
              clear hhp_ hbw_ hyd HYr HNr HZr FRr FSr DSr
              (refine t_read (o := { dst := some 57, op := Op.fieldAddr 90 (Operand.tmp 7) 1, type := 0, pos := "edit.go:123", after := #[], guard := none }) rfl (by first | rfl | (simp [Region.wanted, yielded]; done)) (by intro w_ hE_; (try dsimp only at hE_); first | (go_simp; done) | (go_simp; rfl)) ?_)
              (try simp only [Act.put, List.setIfInBounds_toArray, List.set_cons_zero, List.set_cons_succ])
              (refine t_read (o := { dst := some 59, op := Op.move (Operand.tmp 4), type := 104, pos := "edit.go:123", after := #[], guard := none }) rfl (by first | rfl | (simp [Region.wanted, yielded]; done)) (by intro w_ hE_; (try dsimp only at hE_); first | (go_simp; done) | (go_simp; rfl)) ?_)
              (try simp only [Act.put, List.setIfInBounds_toArray, List.set_cons_zero, List.set_cons_succ])
              refine t_two ?_ ?_
              · refine s_val (o := { dst := some 58, op := Op.load 63 (Operand.tmp 57), type := 63, pos := "edit.go:123", after := #[{ on := 0, ground := Ground.data }], guard := none }) (w1 := wd) rfl (by first | rfl | (simp [Region.wanted, yielded]; done)) (by first | (go_simp; done) | (go_simp; rfl)) (trivial) ?_
                (try simp only [Act.put, List.setIfInBounds_toArray, List.set_cons_zero, List.set_cons_succ])
                refine t_ef ?_
                refine s_call (o := { dst := some 60, op := Op.call { callee := Callee.value (Operand.func 75), args := #[Operand.tmp 59, Operand.const (Value.int IntKind.i64 1125899906842624)], argTypes := #[104, 2] }, type := 2, pos := "edit.go:123", after := #[{ on := 2, ground := Ground.data }], guard := none }) rfl (by first | rfl | (simp [Region.wanted, yielded]; done)) (by first | (go_simp; done) | (go_simp; exact ⟨rfl, rfl⟩) | (go_simp; rfl)) ?_
                refine (numS_calls DSd.out.rdr I1.out (by decide) (by decide)).mono ?_
                rintro e_ x1 ⟨rfl, hr_, hg_⟩
                have DSx := Aside0.mk (ds_num HPB.out.1 DSd.out hr_ hg_)
                have hy1 := num_blk HYd.out hg_ (by have := HYP.out; omega)
                have HYx := Aside0.mk hy1
                have HNx := Aside0.mk (num_R HNd.out hg_ (fun k hk => hk.1))
                have HZx := Aside0.mk (num_R HZd.out hg_ (fun k hk => hk.1))
                have FRx := Aside0.mk (FRd.out.trans (Fr.num hg_ FSd.out))
                have FSx : Aside0 (M ≤ x1.heap.size) := ⟨Nat.le_trans FSd.out hg_.size⟩
                have c_x : x1.cell? ⟨y, 1, none⟩ = some (.slice An ln cn) := blk_cell hy1 1
                have c_a : (x1.alloc (.cells #[.int .i64 n] 2 (0, 0))).cell? ⟨y, 1, none⟩ = some (.slice An ln cn) := blk_cell (blk_below hy1 ((Below.refl x1.heap.size x1).alloc (Nat.le_refl _) (.cells #[.int .i64 n] 2 (0, 0)))) 1
                refine ⟨_, rfl, trivial, ?_⟩
                clear hr_ hg_ hy1 c_d
                (try simp only [Act.put, List.setIfInBounds_toArray, List.set_cons_zero, List.set_cons_succ])
                refine t_ef ?_
                refine s_val (o := { dst := some 61, op := Op.buildSlice 63 1 #[(0, Operand.tmp 60)], type := 63, pos := "edit.go:123", after := #[{ on := 3, ground := Ground.data }], guard := none }) (w1 := (x1.alloc (.cells #[.int .i64 n] 2 (0, 0)))) rfl (by first | rfl | (simp [Region.wanted, yielded]; done)) (by first | (go_simp; done) | (go_simp; rfl)) (trivial) ?_
                (try simp only [Act.put, List.setIfInBounds_toArray, List.set_cons_zero, List.set_cons_succ])
                refine t_ef ?_
                refine s_list (o := { dst := some 62, op := Op.call { callee := Callee.builtin Builtin.append, args := #[Operand.tmp 58, Operand.tmp 61], argTypes := #[63, 63] }, type := 63, pos := "edit.go:123", after := #[{ on := 1, ground := Ground.data }, { on := 4, ground := Ground.data }, { on := 3, ground := Ground.chain }], guard := none }) rfl (by first | rfl | (simp [Region.wanted, yielded]; done)) ?_
                refine Kd.R_append (Kd.int .i64) (w0 := x1) M rfl (.tmp 58) (.tmp 61) 63 2 (.int .i64 0) 8 rfl Try.underlying63 info2 rfl (by decide) (by decide) (.slice An ln cn) na n [.int .i64 n] (okpx p y) (fun _ => False) rfl rfl rfl (fun _ hk => hk.elim) (fun k hk => ⟨by have := HYP.out; have := FSx.out; omega, by have := HYP.out; have := FSx.out; omega⟩) HNx.out (Below.refl _ _) FSx.out (by have := HJ.out; have := HK3.out; omega) ?_
                intro v5 w5 ho hb hg hat
                refine ⟨trivial, ?_⟩
                obtain ⟨na2, hns2⟩ : ∃ q, na ++ [n] = q := ⟨_, rfl⟩
                rw [hns2] at ho
                have HEna2 := Aside0.mk hns2
                obtain ⟨Ana2, cna2, e5⟩ := Kd.R_slice ho
                subst e5
                have hy5 := blk_grown HYx.out hg (Kd.R_ne HNx.out HYx.out (by decide))
                have HY5 := Aside0.mk hy5
                have HN5 := Aside0.mk ho
                have HZ5 := Aside0.mk (Kd.R_over HZx.out HNx.out (by decide) hg)
                have DS5 := Aside0.mk (ds_low HPB.out.2 DSx.out (hb.mono (by have := HYP.out; omega)))
                have FR5 := Aside0.mk (FRx.out.trans (Fr.below hb (Nat.le_refl _)))
                have FS5 : Aside0 (M ≤ w5.heap.size) := ⟨Nat.le_trans FSx.out hb.size⟩
                have c_5 : w5.cell? ⟨y, 1, none⟩ = some (.slice An ln cn) := blk_cell hy5 1
                have f_5 := blk_frozen hy5 1
                clear ho hb hg hat hns2 hy5 c_x c_a DSx HYx HNx HZx FRx FSx
                (try simp only [Act.put, List.setIfInBounds_toArray, List.set_cons_zero, List.set_cons_succ])
                (refine t_read (o := { dst := some 63, op := Op.fieldAddr 90 (Operand.tmp 7) 1, type := 0, pos := "edit.go:123", after := #[{ on := 0, ground := Ground.phase }, { on := 1, ground := Ground.phase }, { on := 2, ground := Ground.phase }, { on := 3, ground := Ground.phase }, { on := 4, ground := Ground.phase }, { on := 5, ground := Ground.phase }], guard := none }) rfl (by first | rfl | (simp [Region.wanted, yielded]; done)) (by intro w_ hE_; (try dsimp only at hE_); first | (go_simp; done) | (go_simp; rfl)) ?_)
                (try simp only [Act.put, List.setIfInBounds_toArray, List.set_cons_zero, List.set_cons_succ])
                refine t_ef ?_
                refine s_store (o := { dst := none, op := Op.store 63 (Operand.tmp 63) (Operand.tmp 62), type := 0, pos := "edit.go:123", after := #[{ on := 6, ground := Ground.data }, { on := 5, ground := Ground.data }, { on := 5, ground := Ground.chain }, { on := 0, ground := Ground.phase }, { on := 1, ground := Ground.phase }, { on := 2, ground := Ground.phase }, { on := 3, ground := Ground.phase }, { on := 4, ground := Ground.phase }, { on := 5, ground := Ground.phase }], guard := none }) (w1 := w5.setCell ⟨y, 1, none⟩ (.slice Ana2 na2.length cna2)) rfl (by first | rfl | (simp [Region.wanted, yielded]; done)) (by first | (go_simp; done) | (go_simp; rfl)) (trivial) ?_
                (try simp only [Act.put, List.setIfInBounds_toArray, List.set_cons_zero, List.set_cons_succ])
                refine t_nil ?_
                have HY6 := Aside0.mk (blk_set HY5.out 1 (.slice Ana2 na2.length cna2))
                have HN6 := Aside0.mk (Kd.R_set HN5.out HY5.out (by decide) 1 (.slice Ana2 na2.length cna2))
                have HZ6 := Aside0.mk (Kd.R_set HZ5.out HY5.out (by decide) 1 (.slice Ana2 na2.length cna2))
                have DS6 := Aside0.mk (ds_low HPB.out.2 DS5.out ((Below.refl _ _).setCell (p := ⟨y, 1, none⟩) (by have := HYP.out; show p + 1 ≤ y; omega) (.slice Ana2 na2.length cna2)))
                have FR6 := Aside0.mk (FR5.out.trans (Fr.set (M := M) (p := p) (y := y) (w := w5) 1 (.slice Ana2 na2.length cna2)))
                have FS6 : Aside0 (M ≤ (w5.setCell ⟨y, 1, none⟩ (.slice Ana2 na2.length cna2)).heap.size) := ⟨by have := FS5.out; simpa [World.setCell] using this⟩
                clear c_5 f_5 HY5 HN5 HZ5 DS5 FR5 FS5
                generalize w5.setCell ⟨y, 1, none⟩ (.slice Ana2 na2.length cna2) = w6 at *
                have HN7 := HZ6
                have HZ7 := HN6
                have HY7 := HY6
                have DS7 := DS6
                have FR7 := FR6
                have FS7 := FS6
                clear HN6 HZ6 HY6 DS6 FR6 FS6
                go_wp2_with fail
                refine wp_region_tree (fun _ _ => True) (.rd 0 (.rd 2 (.two 1 3 (.ef 3 (.ef 4 (.ef 5 (.rd 6 (.ef 7 .nil))))) (.two 1 4 (.ef 4 (.ef 5 (.rd 6 (.ef 7 .nil)))) (.ef 1 (.ef 5 (.rd 6 (.ef 7 .nil)))))))) (by kernel_rfl) (by kernel_rfl) (fun _ => trivial) (fun _ _ => trivial) (fun wd hhp_ hbw_ => ?_)
                have DSd := Aside0.mk (ds_new HPB.out.2 DS7.out hbw_)
                have hyd := blk_below HY7.out hbw_
                have HYd := Aside0.mk hyd
                have HNd := Aside0.mk (Kd.R_below HN7.out hbw_)
                have HZd := Aside0.mk (Kd.R_below HZ7.out hbw_)
                have FRd := Aside0.mk (FR7.out.trans (Fr.below hbw_ FS7.out))
                have FSd : Aside0 (M ≤ wd.heap.size) := ⟨Nat.le_trans FS7.out hbw_.size⟩
                have c_d : wd.cell? ⟨y, 2, none⟩ = some (.slice Az lz cz) := blk_cell hyd 2
                clear hhp_ hbw_ hyd HY7 HN7 HZ7 FR7 FS7 DS7
                (refine t_read (o := { dst := some 64, op := Op.fieldAddr 90 (Operand.tmp 7) 2, type := 0, pos := "edit.go:124", after := #[], guard := none }) rfl (by first | rfl | (simp [Region.wanted, yielded]; done)) (by intro w_ hE_; (try dsimp only at hE_); first | (go_simp; done) | (go_simp; rfl)) ?_)
                (try simp only [Act.put, List.setIfInBounds_toArray, List.set_cons_zero, List.set_cons_succ])
                (refine t_read (o := { dst := some 66, op := Op.move (Operand.tmp 4), type := 104, pos := "edit.go:124", after := #[], guard := none }) rfl (by first | rfl | (simp [Region.wanted, yielded]; done)) (by intro w_ hE_; (try dsimp only at hE_); first | (go_simp; done) | (go_simp; rfl)) ?_)
                (try simp only [Act.put, List.setIfInBounds_toArray, List.set_cons_zero, List.set_cons_succ])
                refine t_two ?_ ?_
                · refine s_val (o := { dst := some 65, op := Op.load 60 (Operand.tmp 64), type := 60, pos := "edit.go:124", after := #[{ on := 0, ground := Ground.data }], guard := none }) (w1 := wd) rfl (by first | rfl | (simp [Region.wanted, yielded]; done)) (by first | (go_simp; done) | (go_simp; rfl)) (trivial) ?_
                  (try simp only [Act.put, List.setIfInBounds_toArray, List.set_cons_zero, List.set_cons_succ])
                  refine t_ef ?_
                  refine s_call (o := { dst := some 67, op := Op.call { callee := Callee.value (Operand.func 75), args := #[Operand.tmp 66, Operand.const (Value.int IntKind.i64 4194304)], argTypes := #[104, 2] }, type := 2, pos := "edit.go:124", after := #[{ on := 2, ground := Ground.data }], guard := none }) rfl (by first | rfl | (simp [Region.wanted, yielded]; done)) (by first | (go_simp; done) | (go_simp; exact ⟨rfl, rfl⟩) | (go_simp; rfl)) ?_
                  refine (numS_calls DSd.out.rdr I2.out (by decide) (by decide)).mono ?_
                  rintro e_ x2 ⟨rfl, hr_, hg_⟩
                  have DSx := Aside0.mk (ds_num HPB.out.1 DSd.out hr_ hg_)
                  have hy1 := num_blk HYd.out hg_ (by have := HYP.out; omega)
                  have HYx := Aside0.mk hy1
                  have HNx := Aside0.mk (num_R HNd.out hg_ (fun k hk => hk.1))
                  have HZx := Aside0.mk (num_R HZd.out hg_ (fun k hk => hk.1))
                  have FRx := Aside0.mk (FRd.out.trans (Fr.num hg_ FSd.out))
                  have FSx : Aside0 (M ≤ x2.heap.size) := ⟨Nat.le_trans FSd.out hg_.size⟩
                  have c_x : x2.cell? ⟨y, 2, none⟩ = some (.slice Az lz cz) := blk_cell hy1 2
                  have c_a : (x2.alloc (.cells #[.int .i64 sz] 3 (0, 0))).cell? ⟨y, 2, none⟩ = some (.slice Az lz cz) := blk_cell (blk_below hy1 ((Below.refl x2.heap.size x2).alloc (Nat.le_refl _) (.cells #[.int .i64 sz] 3 (0, 0)))) 2
                  refine ⟨_, rfl, trivial, ?_⟩
                  clear hr_ hg_ hy1 c_d
                  (try simp only [Act.put, List.setIfInBounds_toArray, List.set_cons_zero, List.set_cons_succ])
                  refine t_ef ?_
                  refine s_val (o := { dst := some 68, op := Op.buildSlice 60 1 #[(0, Operand.tmp 67)], type := 60, pos := "edit.go:124", after := #[{ on := 3, ground := Ground.data }], guard := none }) (w1 := (x2.alloc (.cells #[.int .i64 sz] 3 (0, 0)))) rfl (by first | rfl | (simp [Region.wanted, yielded]; done)) (by first | (go_simp; done) | (go_simp; rfl)) (trivial) ?_
                  (try simp only [Act.put, List.setIfInBounds_toArray, List.set_cons_zero, List.set_cons_succ])
                  refine t_ef ?_
                  refine s_list (o := { dst := some 69, op := Op.call { callee := Callee.builtin Builtin.append, args := #[Operand.tmp 65, Operand.tmp 68], argTypes := #[60, 60] }, type := 60, pos := "edit.go:124", after := #[{ on := 1, ground := Ground.data }, { on := 4, ground := Ground.data }, { on := 3, ground := Ground.chain }], guard := none }) rfl (by first | rfl | (simp [Region.wanted, yielded]; done)) ?_
                  refine Kd.R_append (Kd.int .i64) (w0 := x2) M rfl (.tmp 65) (.tmp 68) 60 3 (.int .i64 0) 8 rfl Try.underlying60 info3 rfl (by decide) (by decide) (.slice Az lz cz) za sz [.int .i64 sz] (okpx p y) (fun _ => False) rfl rfl rfl (fun _ hk => hk.elim) (fun k hk => ⟨by have := HYP.out; have := FSx.out; omega, by have := HYP.out; have := FSx.out; omega⟩) HNx.out (Below.refl _ _) FSx.out (by have := HJ.out; have := HK3.out; omega) ?_
                  intro v5 w5 ho hb hg hat
                  refine ⟨trivial, ?_⟩
                  obtain ⟨za2, hns2⟩ : ∃ q, za ++ [sz] = q := ⟨_, rfl⟩
                  rw [hns2] at ho
                  have HEza2 := Aside0.mk hns2
                  obtain ⟨Aza2, cza2, e5⟩ := Kd.R_slice ho
                  subst e5
                  have hy5 := blk_grown HYx.out hg (Kd.R_ne HNx.out HYx.out (by decide))
                  have HY5 := Aside0.mk hy5
                  have HN5 := Aside0.mk ho
                  have HZ5 := Aside0.mk (Kd.R_over HZx.out HNx.out (by decide) hg)
                  have DS5 := Aside0.mk (ds_low HPB.out.2 DSx.out (hb.mono (by have := HYP.out; omega)))
                  have FR5 := Aside0.mk (FRx.out.trans (Fr.below hb (Nat.le_refl _)))
                  have FS5 : Aside0 (M ≤ w5.heap.size) := ⟨Nat.le_trans FSx.out hb.size⟩
                  have c_5 : w5.cell? ⟨y, 2, none⟩ = some (.slice Az lz cz) := blk_cell hy5 2
                  have f_5 := blk_frozen hy5 2
                  clear ho hb hg hat hns2 hy5 c_x c_a DSx HYx HNx HZx FRx FSx
                  (try simp only [Act.put, List.setIfInBounds_toArray, List.set_cons_zero, List.set_cons_succ])
                  (refine t_read (o := { dst := some 70, op := Op.fieldAddr 90 (Operand.tmp 7) 2, type := 0, pos := "edit.go:124", after := #[{ on := 0, ground := Ground.phase }, { on := 1, ground := Ground.phase }, { on := 2, ground := Ground.phase }, { on := 3, ground := Ground.phase }, { on := 4, ground := Ground.phase }, { on := 5, ground := Ground.phase }], guard := none }) rfl (by first | rfl | (simp [Region.wanted, yielded]; done)) (by intro w_ hE_; (try dsimp only at hE_); first | (go_simp; done) | (go_simp; rfl)) ?_)
                  (try simp only [Act.put, List.setIfInBounds_toArray, List.set_cons_zero, List.set_cons_succ])
                  refine t_ef ?_
                  refine s_store (o := { dst := none, op := Op.store 60 (Operand.tmp 70) (Operand.tmp 69), type := 0, pos := "edit.go:124", after := #[{ on := 6, ground := Ground.data }, { on := 5, ground := Ground.data }, { on := 5, ground := Ground.chain }, { on := 0, ground := Ground.phase }, { on := 1, ground := Ground.phase }, { on := 2, ground := Ground.phase }, { on := 3, ground := Ground.phase }, { on := 4, ground := Ground.phase }, { on := 5, ground := Ground.phase }], guard := none }) (w1 := w5.setCell ⟨y, 2, none⟩ (.slice Aza2 za2.length cza2)) rfl (by first | rfl | (simp [Region.wanted, yielded]; done)) (by first | (go_simp; done) | (go_simp; rfl)) (trivial) ?_
                  (try simp only [Act.put, List.setIfInBounds_toArray, List.set_cons_zero, List.set_cons_succ])
                  refine t_nil ?_
                  have HY9 := Aside0.mk (blk_set HY5.out 2 (.slice Aza2 za2.length cza2))
                  have HN9 := Aside0.mk (Kd.R_set HN5.out HY5.out (by decide) 2 (.slice Aza2 za2.length cza2))
                  have HZ9 := Aside0.mk (Kd.R_set HZ5.out HY5.out (by decide) 2 (.slice Aza2 za2.length cza2))
                  have DS9 := Aside0.mk (ds_low HPB.out.2 DS5.out ((Below.refl _ _).setCell (p := ⟨y, 2, none⟩) (by have := HYP.out; show p + 1 ≤ y; omega) (.slice Aza2 za2.length cza2)))
                  have FR9 := Aside0.mk (FR5.out.trans (Fr.set (M := M) (p := p) (y := y) (w := w5) 2 (.slice Aza2 za2.length cza2)))
                  have FS9 : Aside0 (M ≤ (w5.setCell ⟨y, 2, none⟩ (.slice Aza2 za2.length cza2)).heap.size) := ⟨by have := FS5.out; simpa [World.setCell] using this⟩
                  clear c_5 f_5 HY5 HN5 HZ5 DS5 FR5 FS5
                  generalize w5.setCell ⟨y, 2, none⟩ (.slice Aza2 za2.length cza2) = w9 at *
                  go_wp2_with fail
                  go_roundg fj
                  case measure => omega
                  case rel => exact ⟨j + 1, na2, za2, r2, Ana2, Aza2, cna2, cza2, by simp, ⟨by have := HJ2.out; omega, by rw [← HEna2.out, List.length_append]; have := HJ2.out; simp; omega, by rw [← HEza2.out, List.length_append]; have := HJ2.out; simp; omega, by rw [← HEna2.out, HJ2.out.2.2.2.1]; simp, by rw [← HEza2.out, HJ2.out.2.2.2.2.1]; simp, HJ2.out.2.2.2.2.2⟩, HY9, HZ9, HN9, DS9, FR9, FS9⟩
                · refine s_call (o := { dst := some 67, op := Op.call { callee := Callee.value (Operand.func 75), args := #[Operand.tmp 66, Operand.const (Value.int IntKind.i64 4194304)], argTypes := #[104, 2] }, type := 2, pos := "edit.go:124", after := #[{ on := 2, ground := Ground.data }], guard := none }) rfl (by first | rfl | (simp [Region.wanted, yielded]; done)) (by first | (go_simp; done) | (go_simp; exact ⟨rfl, rfl⟩) | (go_simp; rfl)) ?_
                  refine (numS_calls DSd.out.rdr I2.out (by decide) (by decide)).mono ?_
                  rintro e_ x2 ⟨rfl, hr_, hg_⟩
                  have DSx := Aside0.mk (ds_num HPB.out.1 DSd.out hr_ hg_)
                  have hy1 := num_blk HYd.out hg_ (by have := HYP.out; omega)
                  have HYx := Aside0.mk hy1
                  have HNx := Aside0.mk (num_R HNd.out hg_ (fun k hk => hk.1))
                  have HZx := Aside0.mk (num_R HZd.out hg_ (fun k hk => hk.1))
                  have FRx := Aside0.mk (FRd.out.trans (Fr.num hg_ FSd.out))
                  have FSx : Aside0 (M ≤ x2.heap.size) := ⟨Nat.le_trans FSd.out hg_.size⟩
                  have c_x : x2.cell? ⟨y, 2, none⟩ = some (.slice Az lz cz) := blk_cell hy1 2
                  have c_a : (x2.alloc (.cells #[.int .i64 sz] 3 (0, 0))).cell? ⟨y, 2, none⟩ = some (.slice Az lz cz) := blk_cell (blk_below hy1 ((Below.refl x2.heap.size x2).alloc (Nat.le_refl _) (.cells #[.int .i64 sz] 3 (0, 0)))) 2
                  refine ⟨_, rfl, trivial, ?_⟩
                  clear hr_ hg_ hy1 c_d
                  (try simp only [Act.put, List.setIfInBounds_toArray, List.set_cons_zero, List.set_cons_succ])
                  refine t_two ?_ ?_
                  · refine s_val (o := { dst := some 65, op := Op.load 60 (Operand.tmp 64), type := 60, pos := "edit.go:124", after := #[{ on := 0, ground := Ground.data }], guard := none }) (w1 := x2) rfl (by first | rfl | (simp [Region.wanted, yielded]; done)) (by first | (go_simp; done) | (go_simp; rfl)) (trivial) ?_
                    (try simp only [Act.put, List.setIfInBounds_toArray, List.set_cons_zero, List.set_cons_succ])
                    refine t_ef ?_
                    refine s_val (o := { dst := some 68, op := Op.buildSlice 60 1 #[(0, Operand.tmp 67)], type := 60, pos := "edit.go:124", after := #[{ on := 3, ground := Ground.data }], guard := none }) (w1 := (x2.alloc (.cells #[.int .i64 sz] 3 (0, 0)))) rfl (by first | rfl | (simp [Region.wanted, yielded]; done)) (by first | (go_simp; done) | (go_simp; rfl)) (trivial) ?_
                    (try simp only [Act.put, List.setIfInBounds_toArray, List.set_cons_zero, List.set_cons_succ])
                    refine t_ef ?_
                    refine s_list (o := { dst := some 69, op := Op.call { callee := Callee.builtin Builtin.append, args := #[Operand.tmp 65, Operand.tmp 68], argTypes := #[60, 60] }, type := 60, pos := "edit.go:124", after := #[{ on := 1, ground := Ground.data }, { on := 4, ground := Ground.data }, { on := 3, ground := Ground.chain }], guard := none }) rfl (by first | rfl | (simp [Region.wanted, yielded]; done)) ?_
                    refine Kd.R_append (Kd.int .i64) (w0 := x2) M rfl (.tmp 65) (.tmp 68) 60 3 (.int .i64 0) 8 rfl Try.underlying60 info3 rfl (by decide) (by decide) (.slice Az lz cz) za sz [.int .i64 sz] (okpx p y) (fun _ => False) rfl rfl rfl (fun _ hk => hk.elim) (fun k hk => ⟨by have := HYP.out; have := FSx.out; omega, by have := HYP.out; have := FSx.out; omega⟩) HNx.out (Below.refl _ _) FSx.out (by have := HJ.out; have := HK3.out; omega) ?_
                    intro v5 w5 ho hb hg hat
                    refine ⟨trivial, ?_⟩
                    obtain ⟨za2, hns2⟩ : ∃ q, za ++ [sz] = q := ⟨_, rfl⟩
                    rw [hns2] at ho
                    have HEza2 := Aside0.mk hns2
                    obtain ⟨Aza2, cza2, e5⟩ := Kd.R_slice ho
                    subst e5
                    have hy5 := blk_grown HYx.out hg (Kd.R_ne HNx.out HYx.out (by decide))
                    have HY5 := Aside0.mk hy5
                    have HN5 := Aside0.mk ho
                    have HZ5 := Aside0.mk (Kd.R_over HZx.out HNx.out (by decide) hg)
                    have DS5 := Aside0.mk (ds_low HPB.out.2 DSx.out (hb.mono (by have := HYP.out; omega)))
                    have FR5 := Aside0.mk (FRx.out.trans (Fr.below hb (Nat.le_refl _)))
                    have FS5 : Aside0 (M ≤ w5.heap.size) := ⟨Nat.le_trans FSx.out hb.size⟩
                    have c_5 : w5.cell? ⟨y, 2, none⟩ = some (.slice Az lz cz) := blk_cell hy5 2
                    have f_5 := blk_frozen hy5 2
                    clear ho hb hg hat hns2 hy5 c_x c_a DSx HYx HNx HZx FRx FSx
                    (try simp only [Act.put, List.setIfInBounds_toArray, List.set_cons_zero, List.set_cons_succ])
                    (refine t_read (o := { dst := some 70, op := Op.fieldAddr 90 (Operand.tmp 7) 2, type := 0, pos := "edit.go:124", after := #[{ on := 0, ground := Ground.phase }, { on := 1, ground := Ground.phase }, { on := 2, ground := Ground.phase }, { on := 3, ground := Ground.phase }, { on := 4, ground := Ground.phase }, { on := 5, ground := Ground.phase }], guard := none }) rfl (by first | rfl | (simp [Region.wanted, yielded]; done)) (by intro w_ hE_; (try dsimp only at hE_); first | (go_simp; done) | (go_simp; rfl)) ?_)
                    (try simp only [Act.put, List.setIfInBounds_toArray, List.set_cons_zero, List.set_cons_succ])
                    refine t_ef ?_
                    refine s_store (o := { dst := none, op := Op.store 60 (Operand.tmp 70) (Operand.tmp 69), type := 0, pos := "edit.go:124", after := #[{ on := 6, ground := Ground.data }, { on := 5, ground := Ground.data }, { on := 5, ground := Ground.chain }, { on := 0, ground := Ground.phase }, { on := 1, ground := Ground.phase }, { on := 2, ground := Ground.phase }, { on := 3, ground := Ground.phase }, { on := 4, ground := Ground.phase }, { on := 5, ground := Ground.phase }], guard := none }) (w1 := w5.setCell ⟨y, 2, none⟩ (.slice Aza2 za2.length cza2)) rfl (by first | rfl | (simp [Region.wanted, yielded]; done)) (by first | (go_simp; done) | (go_simp; rfl)) (trivial) ?_
                    (try simp only [Act.put, List.setIfInBounds_toArray, List.set_cons_zero, List.set_cons_succ])
                    refine t_nil ?_
                    have HY9 := Aside0.mk (blk_set HY5.out 2 (.slice Aza2 za2.length cza2))
                    have HN9 := Aside0.mk (Kd.R_set HN5.out HY5.out (by decide) 2 (.slice Aza2 za2.length cza2))
                    have HZ9 := Aside0.mk (Kd.R_set HZ5.out HY5.out (by decide) 2 (.slice Aza2 za2.length cza2))
                    have DS9 := Aside0.mk (ds_low HPB.out.2 DS5.out ((Below.refl _ _).setCell (p := ⟨y, 2, none⟩) (by have := HYP.out; show p + 1 ≤ y; omega) (.slice Aza2 za2.length cza2)))
                    have FR9 := Aside0.mk (FR5.out.trans (Fr.set (M := M) (p := p) (y := y) (w := w5) 2 (.slice Aza2 za2.length cza2)))
                    have FS9 : Aside0 (M ≤ (w5.setCell ⟨y, 2, none⟩ (.slice Aza2 za2.length cza2)).heap.size) := ⟨by have := FS5.out; simpa [World.setCell] using this⟩
                    clear c_5 f_5 HY5 HN5 HZ5 DS5 FR5 FS5
                    generalize w5.setCell ⟨y, 2, none⟩ (.slice Aza2 za2.length cza2) = w9 at *
                    go_wp2_with fail
                    go_roundg fj
                    case measure => omega
                    case rel => exact ⟨j + 1, na2, za2, r2, Ana2, Aza2, cna2, cza2, by simp, ⟨by have := HJ2.out; omega, by rw [← HEna2.out, List.length_append]; have := HJ2.out; simp; omega, by rw [← HEza2.out, List.length_append]; have := HJ2.out; simp; omega, by rw [← HEna2.out, HJ2.out.2.2.2.1]; simp, by rw [← HEza2.out, HJ2.out.2.2.2.2.1]; simp, HJ2.out.2.2.2.2.2⟩, HY9, HZ9, HN9, DS9, FR9, FS9⟩
                  · refine s_val (o := { dst := some 68, op := Op.buildSlice 60 1 #[(0, Operand.tmp 67)], type := 60, pos := "edit.go:124", after := #[{ on := 3, ground := Ground.data }], guard := none }) (w1 := (x2.alloc (.cells #[.int .i64 sz] 3 (0, 0)))) rfl (by first | rfl | (simp [Region.wanted, yielded]; done)) (by first | (go_simp; done) | (go_simp; rfl)) (trivial) ?_
                    (try simp only [Act.put, List.setIfInBounds_toArray, List.set_cons_zero, List.set_cons_succ])
                    refine t_ef ?_
                    refine s_val (o := { dst := some 65, op := Op.load 60 (Operand.tmp 64), type := 60, pos := "edit.go:124", after := #[{ on := 0, ground := Ground.data }], guard := none }) (w1 := (x2.alloc (.cells #[.int .i64 sz] 3 (0, 0)))) rfl (by first | rfl | (simp [Region.wanted, yielded]; done)) (by first | (go_simp; done) | (go_simp; rfl)) (trivial) ?_
                    (try simp only [Act.put, List.setIfInBounds_toArray, List.set_cons_zero, List.set_cons_succ])
                    refine t_ef ?_
                    refine s_list (o := { dst := some 69, op := Op.call { callee := Callee.builtin Builtin.append, args := #[Operand.tmp 65, Operand.tmp 68], argTypes := #[60, 60] }, type := 60, pos := "edit.go:124", after := #[{ on := 1, ground := Ground.data }, { on := 4, ground := Ground.data }, { on := 3, ground := Ground.chain }], guard := none }) rfl (by first | rfl | (simp [Region.wanted, yielded]; done)) ?_
                    refine Kd.R_append (Kd.int .i64) (w0 := x2) M rfl (.tmp 65) (.tmp 68) 60 3 (.int .i64 0) 8 rfl Try.underlying60 info3 rfl (by decide) (by decide) (.slice Az lz cz) za sz [.int .i64 sz] (okpx p y) (fun _ => False) rfl rfl rfl (fun _ hk => hk.elim) (fun k hk => ⟨by have := HYP.out; have := FSx.out; omega, by have := HYP.out; have := FSx.out; omega⟩) HNx.out (Below.refl _ _) FSx.out (by have := HJ.out; have := HK3.out; omega) ?_
                    intro v5 w5 ho hb hg hat
                    refine ⟨trivial, ?_⟩
                    obtain ⟨za2, hns2⟩ : ∃ q, za ++ [sz] = q := ⟨_, rfl⟩
                    rw [hns2] at ho
                    have HEza2 := Aside0.mk hns2
                    obtain ⟨Aza2, cza2, e5⟩ := Kd.R_slice ho
                    subst e5
                    have hy5 := blk_grown HYx.out hg (Kd.R_ne HNx.out HYx.out (by decide))
                    have HY5 := Aside0.mk hy5
                    have HN5 := Aside0.mk ho
                    have HZ5 := Aside0.mk (Kd.R_over HZx.out HNx.out (by decide) hg)
                    have DS5 := Aside0.mk (ds_low HPB.out.2 DSx.out (hb.mono (by have := HYP.out; omega)))
                    have FR5 := Aside0.mk (FRx.out.trans (Fr.below hb (Nat.le_refl _)))
                    have FS5 : Aside0 (M ≤ w5.heap.size) := ⟨Nat.le_trans FSx.out hb.size⟩
                    have c_5 : w5.cell? ⟨y, 2, none⟩ = some (.slice Az lz cz) := blk_cell hy5 2
                    have f_5 := blk_frozen hy5 2
                    clear ho hb hg hat hns2 hy5 c_x c_a DSx HYx HNx HZx FRx FSx
                    (try simp only [Act.put, List.setIfInBounds_toArray, List.set_cons_zero, List.set_cons_succ])
                    (refine t_read (o := { dst := some 70, op := Op.fieldAddr 90 (Operand.tmp 7) 2, type := 0, pos := "edit.go:124", after := #[{ on := 0, ground := Ground.phase }, { on := 1, ground := Ground.phase }, { on := 2, ground := Ground.phase }, { on := 3, ground := Ground.phase }, { on := 4, ground := Ground.phase }, { on := 5, ground := Ground.phase }], guard := none }) rfl (by first | rfl | (simp [Region.wanted, yielded]; done)) (by intro w_ hE_; (try dsimp only at hE_); first | (go_simp; done) | (go_simp; rfl)) ?_)
                    (try simp only [Act.put, List.setIfInBounds_toArray, List.set_cons_zero, List.set_cons_succ])
                    refine t_ef ?_
                    refine s_store (o := { dst := none, op := Op.store 60 (Operand.tmp 70) (Operand.tmp 69), type := 0, pos := "edit.go:124", after := #[{ on := 6, ground := Ground.data }, { on := 5, ground := Ground.data }, { on := 5, ground := Ground.chain }, { on := 0, ground := Ground.phase }, { on := 1, ground := Ground.phase }, { on := 2, ground := Ground.phase }, { on := 3, ground := Ground.phase }, { on := 4, ground := Ground.phase }, { on := 5, ground := Ground.phase }], guard := none }) (w1 := w5.setCell ⟨y, 2, none⟩ (.slice Aza2 za2.length cza2)) rfl (by first | rfl | (simp [Region.wanted, yielded]; done)) (by first | (go_simp; done) | (go_simp; rfl)) (trivial) ?_
                    (try simp only [Act.put, List.setIfInBounds_toArray, List.set_cons_zero, List.set_cons_succ])
                    refine t_nil ?_
                    have HY9 := Aside0.mk (blk_set HY5.out 2 (.slice Aza2 za2.length cza2))
                    have HN9 := Aside0.mk (Kd.R_set HN5.out HY5.out (by decide) 2 (.slice Aza2 za2.length cza2))
                    have HZ9 := Aside0.mk (Kd.R_set HZ5.out HY5.out (by decide) 2 (.slice Aza2 za2.length cza2))
                    have DS9 := Aside0.mk (ds_low HPB.out.2 DS5.out ((Below.refl _ _).setCell (p := ⟨y, 2, none⟩) (by have := HYP.out; show p + 1 ≤ y; omega) (.slice Aza2 za2.length cza2)))
                    have FR9 := Aside0.mk (FR5.out.trans (Fr.set (M := M) (p := p) (y := y) (w := w5) 2 (.slice Aza2 za2.length cza2)))
                    have FS9 : Aside0 (M ≤ (w5.setCell ⟨y, 2, none⟩ (.slice Aza2 za2.length cza2)).heap.size) := ⟨by have := FS5.out; simpa [World.setCell] using this⟩
                    clear c_5 f_5 HY5 HN5 HZ5 DS5 FR5 FS5
                    generalize w5.setCell ⟨y, 2, none⟩ (.slice Aza2 za2.length cza2) = w9 at *
                    go_wp2_with fail
                    go_roundg fj
                    case measure => omega
                    case rel => exact ⟨j + 1, na2, za2, r2, Ana2, Aza2, cna2, cza2, by simp, ⟨by have := HJ2.out; omega, by rw [← HEna2.out, List.length_append]; have := HJ2.out; simp; omega, by rw [← HEza2.out, List.length_append]; have := HJ2.out; simp; omega, by rw [← HEna2.out, HJ2.out.2.2.2.1]; simp, by rw [← HEza2.out, HJ2.out.2.2.2.2.1]; simp, HJ2.out.2.2.2.2.2⟩, HY9, HZ9, HN9, DS9, FR9, FS9⟩
              · refine s_call (o := { dst := some 60, op := Op.call { callee := Callee.value (Operand.func 75), args := #[Operand.tmp 59, Operand.const (Value.int IntKind.i64 1125899906842624)], argTypes := #[104, 2] }, type := 2, pos := "edit.go:123", after := #[{ on := 2, ground := Ground.data }], guard := none }) rfl (by first | rfl | (simp [Region.wanted, yielded]; done)) (by first | (go_simp; done) | (go_simp; exact ⟨rfl, rfl⟩) | (go_simp; rfl)) ?_
                refine (numS_calls DSd.out.rdr I1.out (by decide) (by decide)).mono ?_
                rintro e_ x1 ⟨rfl, hr_, hg_⟩
                have DSx := Aside0.mk (ds_num HPB.out.1 DSd.out hr_ hg_)
                have hy1 := num_blk HYd.out hg_ (by have := HYP.out; omega)
                have HYx := Aside0.mk hy1
                have HNx := Aside0.mk (num_R HNd.out hg_ (fun k hk => hk.1))
                have HZx := Aside0.mk (num_R HZd.out hg_ (fun k hk => hk.1))
                have FRx := Aside0.mk (FRd.out.trans (Fr.num hg_ FSd.out))
                have FSx : Aside0 (M ≤ x1.heap.size) := ⟨Nat.le_trans FSd.out hg_.size⟩
                have c_x : x1.cell? ⟨y, 1, none⟩ = some (.slice An ln cn) := blk_cell hy1 1
                have c_a : (x1.alloc (.cells #[.int .i64 n] 2 (0, 0))).cell? ⟨y, 1, none⟩ = some (.slice An ln cn) := blk_cell (blk_below hy1 ((Below.refl x1.heap.size x1).alloc (Nat.le_refl _) (.cells #[.int .i64 n] 2 (0, 0)))) 1
                refine ⟨_, rfl, trivial, ?_⟩
                clear hr_ hg_ hy1 c_d
                (try simp only [Act.put, List.setIfInBounds_toArray, List.set_cons_zero, List.set_cons_succ])
                refine t_two ?_ ?_
                · refine s_val (o := { dst := some 58, op := Op.load 63 (Operand.tmp 57), type := 63, pos := "edit.go:123", after := #[{ on := 0, ground := Ground.data }], guard := none }) (w1 := x1) rfl (by first | rfl | (simp [Region.wanted, yielded]; done)) (by first | (go_simp; done) | (go_simp; rfl)) (trivial) ?_
                  (try simp only [Act.put, List.setIfInBounds_toArray, List.set_cons_zero, List.set_cons_succ])
                  refine t_ef ?_
                  refine s_val (o := { dst := some 61, op := Op.buildSlice 63 1 #[(0, Operand.tmp 60)], type := 63, pos := "edit.go:123", after := #[{ on := 3, ground := Ground.data }], guard := none }) (w1 := (x1.alloc (.cells #[.int .i64 n] 2 (0, 0)))) rfl (by first | rfl | (simp [Region.wanted, yielded]; done)) (by first | (go_simp; done) | (go_simp; rfl)) (trivial) ?_
                  (try simp only [Act.put, List.setIfInBounds_toArray, List.set_cons_zero, List.set_cons_succ])
                  refine t_ef ?_
                  refine s_list (o := { dst := some 62, op := Op.call { callee := Callee.builtin Builtin.append, args := #[Operand.tmp 58, Operand.tmp 61], argTypes := #[63, 63] }, type := 63, pos := "edit.go:123", after := #[{ on := 1, ground := Ground.data }, { on := 4, ground := Ground.data }, { on := 3, ground := Ground.chain }], guard := none }) rfl (by first | rfl | (simp [Region.wanted, yielded]; done)) ?_
                  refine Kd.R_append (Kd.int .i64) (w0 := x1) M rfl (.tmp 58) (.tmp 61) 63 2 (.int .i64 0) 8 rfl Try.underlying63 info2 rfl (by decide) (by decide) (.slice An ln cn) na n [.int .i64 n] (okpx p y) (fun _ => False) rfl rfl rfl (fun _ hk => hk.elim) (fun k hk => ⟨by have := HYP.out; have := FSx.out; omega, by have := HYP.out; have := FSx.out; omega⟩) HNx.out (Below.refl _ _) FSx.out (by have := HJ.out; have := HK3.out; omega) ?_
                  intro v5 w5 ho hb hg hat
                  refine ⟨trivial, ?_⟩
                  obtain ⟨na2, hns2⟩ : ∃ q, na ++ [n] = q := ⟨_, rfl⟩
                  rw [hns2] at ho
                  have HEna2 := Aside0.mk hns2
                  obtain ⟨Ana2, cna2, e5⟩ := Kd.R_slice ho
                  subst e5
                  have hy5 := blk_grown HYx.out hg (Kd.R_ne HNx.out HYx.out (by decide))
                  have HY5 := Aside0.mk hy5
                  have HN5 := Aside0.mk ho
                  have HZ5 := Aside0.mk (Kd.R_over HZx.out HNx.out (by decide) hg)
                  have DS5 := Aside0.mk (ds_low HPB.out.2 DSx.out (hb.mono (by have := HYP.out; omega)))
                  have FR5 := Aside0.mk (FRx.out.trans (Fr.below hb (Nat.le_refl _)))
                  have FS5 : Aside0 (M ≤ w5.heap.size) := ⟨Nat.le_trans FSx.out hb.size⟩
                  have c_5 : w5.cell? ⟨y, 1, none⟩ = some (.slice An ln cn) := blk_cell hy5 1
                  have f_5 := blk_frozen hy5 1
                  clear ho hb hg hat hns2 hy5 c_x c_a DSx HYx HNx HZx FRx FSx
                  (try simp only [Act.put, List.setIfInBounds_toArray, List.set_cons_zero, List.set_cons_succ])
                  (refine t_read (o := { dst := some 63, op := Op.fieldAddr 90 (Operand.tmp 7) 1, type := 0, pos := "edit.go:123", after := #[{ on := 0, ground := Ground.phase }, { on := 1, ground := Ground.phase }, { on := 2, ground := Ground.phase }, { on := 3, ground := Ground.phase }, { on := 4, ground := Ground.phase }, { on := 5, ground := Ground.phase }], guard := none }) rfl (by first | rfl | (simp [Region.wanted, yielded]; done)) (by intro w_ hE_; (try dsimp only at hE_); first | (go_simp; done) | (go_simp; rfl)) ?_)
                  (try simp only [Act.put, List.setIfInBounds_toArray, List.set_cons_zero, List.set_cons_succ])
                  refine t_ef ?_
                  refine s_store (o := { dst := none, op := Op.store 63 (Operand.tmp 63) (Operand.tmp 62), type := 0, pos := "edit.go:123", after := #[{ on := 6, ground := Ground.data }, { on := 5, ground := Ground.data }, { on := 5, ground := Ground.chain }, { on := 0, ground := Ground.phase }, { on := 1, ground := Ground.phase }, { on := 2, ground := Ground.phase }, { on := 3, ground := Ground.phase }, { on := 4, ground := Ground.phase }, { on := 5, ground := Ground.phase }], guard := none }) (w1 := w5.setCell ⟨y, 1, none⟩ (.slice Ana2 na2.length cna2)) rfl (by first | rfl | (simp [Region.wanted, yielded]; done)) (by first | (go_simp; done) | (go_simp; rfl)) (trivial) ?_
                  (try simp only [Act.put, List.setIfInBounds_toArray, List.set_cons_zero, List.set_cons_succ])
                  refine t_nil ?_
                  have HY6 := Aside0.mk (blk_set HY5.out 1 (.slice Ana2 na2.length cna2))
                  have HN6 := Aside0.mk (Kd.R_set HN5.out HY5.out (by decide) 1 (.slice Ana2 na2.length cna2))
                  have HZ6 := Aside0.mk (Kd.R_set HZ5.out HY5.out (by decide) 1 (.slice Ana2 na2.length cna2))
                  have DS6 := Aside0.mk (ds_low HPB.out.2 DS5.out ((Below.refl _ _).setCell (p := ⟨y, 1, none⟩) (by have := HYP.out; show p + 1 ≤ y; omega) (.slice Ana2 na2.length cna2)))
                  have FR6 := Aside0.mk (FR5.out.trans (Fr.set (M := M) (p := p) (y := y) (w := w5) 1 (.slice Ana2 na2.length cna2)))
                  have FS6 : Aside0 (M ≤ (w5.setCell ⟨y, 1, none⟩ (.slice Ana2 na2.length cna2)).heap.size) := ⟨by have := FS5.out; simpa [World.setCell] using this⟩
                  clear c_5 f_5 HY5 HN5 HZ5 DS5 FR5 FS5
                  generalize w5.setCell ⟨y, 1, none⟩ (.slice Ana2 na2.length cna2) = w6 at *
                  have HN7 := HZ6
                  have HZ7 := HN6
                  have HY7 := HY6
                  have DS7 := DS6
                  have FR7 := FR6
                  have FS7 := FS6
                  clear HN6 HZ6 HY6 DS6 FR6 FS6
                  go_wp2_with fail
                  refine wp_region_tree (fun _ _ => True) (.rd 0 (.rd 2 (.two 1 3 (.ef 3 (.ef 4 (.ef 5 (.rd 6 (.ef 7 .nil))))) (.two 1 4 (.ef 4 (.ef 5 (.rd 6 (.ef 7 .nil)))) (.ef 1 (.ef 5 (.rd 6 (.ef 7 .nil)))))))) (by kernel_rfl) (by kernel_rfl) (fun _ => trivial) (fun _ _ => trivial) (fun wd hhp_ hbw_ => ?_)
                  have DSd := Aside0.mk (ds_new HPB.out.2 DS7.out hbw_)
                  have hyd := blk_below HY7.out hbw_
                  have HYd := Aside0.mk hyd
                  have HNd := Aside0.mk (Kd.R_below HN7.out hbw_)
                  have HZd := Aside0.mk (Kd.R_below HZ7.out hbw_)
                  have FRd := Aside0.mk (FR7.out.trans (Fr.below hbw_ FS7.out))
                  have FSd : Aside0 (M ≤ wd.heap.size) := ⟨Nat.le_trans FS7.out hbw_.size⟩
                  have c_d : wd.cell? ⟨y, 2, none⟩ = some (.slice Az lz cz) := blk_cell hyd 2
                  clear hhp_ hbw_ hyd HY7 HN7 HZ7 FR7 FS7 DS7
                  (refine t_read (o := { dst := some 64, op := Op.fieldAddr 90 (Operand.tmp 7) 2, type := 0, pos := "edit.go:124", after := #[], guard := none }) rfl (by first | rfl | (simp [Region.wanted, yielded]; done)) (by intro w_ hE_; (try dsimp only at hE_); first | (go_simp; done) | (go_simp; rfl)) ?_)
                  (try simp only [Act.put, List.setIfInBounds_toArray, List.set_cons_zero, List.set_cons_succ])
                  (refine t_read (o := { dst := some 66, op := Op.move (Operand.tmp 4), type := 104, pos := "edit.go:124", after := #[], guard := none }) rfl (by first | rfl | (simp [Region.wanted, yielded]; done)) (by intro w_ hE_; (try dsimp only at hE_); first | (go_simp; done) | (go_simp; rfl)) ?_)
                  (try simp only [Act.put, List.setIfInBounds_toArray, List.set_cons_zero, List.set_cons_succ])
                  refine t_two ?_ ?_
                  · refine s_val (o := { dst := some 65, op := Op.load 60 (Operand.tmp 64), type := 60, pos := "edit.go:124", after := #[{ on := 0, ground := Ground.data }], guard := none }) (w1 := wd) rfl (by first | rfl | (simp [Region.wanted, yielded]; done)) (by first | (go_simp; done) | (go_simp; rfl)) (trivial) ?_
                    (try simp only [Act.put, List.setIfInBounds_toArray, List.set_cons_zero, List.set_cons_succ])
                    refine t_ef ?_
                    refine s_call (o := { dst := some 67, op := Op.call { callee := Callee.value (Operand.func 75), args := #[Operand.tmp 66, Operand.const (Value.int IntKind.i64 4194304)], argTypes := #[104, 2] }, type := 2, pos := "edit.go:124", after := #[{ on := 2, ground := Ground.data }], guard := none }) rfl (by first | rfl | (simp [Region.wanted, yielded]; done)) (by first | (go_simp; done) | (go_simp; exact ⟨rfl, rfl⟩) | (go_simp; rfl)) ?_
                    refine (numS_calls DSd.out.rdr I2.out (by decide) (by decide)).mono ?_
                    rintro e_ x2 ⟨rfl, hr_, hg_⟩
                    have DSx := Aside0.mk (ds_num HPB.out.1 DSd.out hr_ hg_)
                    have hy1 := num_blk HYd.out hg_ (by have := HYP.out; omega)
                    have HYx := Aside0.mk hy1
                    have HNx := Aside0.mk (num_R HNd.out hg_ (fun k hk => hk.1))
                    have HZx := Aside0.mk (num_R HZd.out hg_ (fun k hk => hk.1))
                    have FRx := Aside0.mk (FRd.out.trans (Fr.num hg_ FSd.out))
                    have FSx : Aside0 (M ≤ x2.heap.size) := ⟨Nat.le_trans FSd.out hg_.size⟩
                    have c_x : x2.cell? ⟨y, 2, none⟩ = some (.slice Az lz cz) := blk_cell hy1 2
                    have c_a : (x2.alloc (.cells #[.int .i64 sz] 3 (0, 0))).cell? ⟨y, 2, none⟩ = some (.slice Az lz cz) := blk_cell (blk_below hy1 ((Below.refl x2.heap.size x2).alloc (Nat.le_refl _) (.cells #[.int .i64 sz] 3 (0, 0)))) 2
                    refine ⟨_, rfl, trivial, ?_⟩
                    clear hr_ hg_ hy1 c_d
                    (try simp only [Act.put, List.setIfInBounds_toArray, List.set_cons_zero, List.set_cons_succ])
                    refine t_ef ?_
                    refine s_val (o := { dst := some 68, op := Op.buildSlice 60 1 #[(0, Operand.tmp 67)], type := 60, pos := "edit.go:124", after := #[{ on := 3, ground := Ground.data }], guard := none }) (w1 := (x2.alloc (.cells #[.int .i64 sz] 3 (0, 0)))) rfl (by first | rfl | (simp [Region.wanted, yielded]; done)) (by first | (go_simp; done) | (go_simp; rfl)) (trivial) ?_
                    (try simp only [Act.put, List.setIfInBounds_toArray, List.set_cons_zero, List.set_cons_succ])
                    refine t_ef ?_
                    refine s_list (o := { dst := some 69, op := Op.call { callee := Callee.builtin Builtin.append, args := #[Operand.tmp 65, Operand.tmp 68], argTypes := #[60, 60] }, type := 60, pos := "edit.go:124", after := #[{ on := 1, ground := Ground.data }, { on := 4, ground := Ground.data }, { on := 3, ground := Ground.chain }], guard := none }) rfl (by first | rfl | (simp [Region.wanted, yielded]; done)) ?_
                    refine Kd.R_append (Kd.int .i64) (w0 := x2) M rfl (.tmp 65) (.tmp 68) 60 3 (.int .i64 0) 8 rfl Try.underlying60 info3 rfl (by decide) (by decide) (.slice Az lz cz) za sz [.int .i64 sz] (okpx p y) (fun _ => False) rfl rfl rfl (fun _ hk => hk.elim) (fun k hk => ⟨by have := HYP.out; have := FSx.out; omega, by have := HYP.out; have := FSx.out; omega⟩) HNx.out (Below.refl _ _) FSx.out (by have := HJ.out; have := HK3.out; omega) ?_
                    intro v5 w5 ho hb hg hat
                    refine ⟨trivial, ?_⟩
                    obtain ⟨za2, hns2⟩ : ∃ q, za ++ [sz] = q := ⟨_, rfl⟩
                    rw [hns2] at ho
                    have HEza2 := Aside0.mk hns2
                    obtain ⟨Aza2, cza2, e5⟩ := Kd.R_slice ho
                    subst e5
                    have hy5 := blk_grown HYx.out hg (Kd.R_ne HNx.out HYx.out (by decide))
                    have HY5 := Aside0.mk hy5
                    have HN5 := Aside0.mk ho
                    have HZ5 := Aside0.mk (Kd.R_over HZx.out HNx.out (by decide) hg)
                    have DS5 := Aside0.mk (ds_low HPB.out.2 DSx.out (hb.mono (by have := HYP.out; omega)))
                    have FR5 := Aside0.mk (FRx.out.trans (Fr.below hb (Nat.le_refl _)))
                    have FS5 : Aside0 (M ≤ w5.heap.size) := ⟨Nat.le_trans FSx.out hb.size⟩
                    have c_5 : w5.cell? ⟨y, 2, none⟩ = some (.slice Az lz cz) := blk_cell hy5 2
                    have f_5 := blk_frozen hy5 2
                    clear ho hb hg hat hns2 hy5 c_x c_a DSx HYx HNx HZx FRx FSx
                    (try simp only [Act.put, List.setIfInBounds_toArray, List.set_cons_zero, List.set_cons_succ])
                    (refine t_read (o := { dst := some 70, op := Op.fieldAddr 90 (Operand.tmp 7) 2, type := 0, pos := "edit.go:124", after := #[{ on := 0, ground := Ground.phase }, { on := 1, ground := Ground.phase }, { on := 2, ground := Ground.phase }, { on := 3, ground := Ground.phase }, { on := 4, ground := Ground.phase }, { on := 5, ground := Ground.phase }], guard := none }) rfl (by first | rfl | (simp [Region.wanted, yielded]; done)) (by intro w_ hE_; (try dsimp only at hE_); first | (go_simp; done) | (go_simp; rfl)) ?_)
                    (try simp only [Act.put, List.setIfInBounds_toArray, List.set_cons_zero, List.set_cons_succ])
                    refine t_ef ?_
                    refine s_store (o := { dst := none, op := Op.store 60 (Operand.tmp 70) (Operand.tmp 69), type := 0, pos := "edit.go:124", after := #[{ on := 6, ground := Ground.data }, { on := 5, ground := Ground.data }, { on := 5, ground := Ground.chain }, { on := 0, ground := Ground.phase }, { on := 1, ground := Ground.phase }, { on := 2, ground := Ground.phase }, { on := 3, ground := Ground.phase }, { on := 4, ground := Ground.phase }, { on := 5, ground := Ground.phase }], guard := none }) (w1 := w5.setCell ⟨y, 2, none⟩ (.slice Aza2 za2.length cza2)) rfl (by first | rfl | (simp [Region.wanted, yielded]; done)) (by first | (go_simp; done) | (go_simp; rfl)) (trivial) ?_
                    (try simp only [Act.put, List.setIfInBounds_toArray, List.set_cons_zero, List.set_cons_succ])
                    refine t_nil ?_
                    have HY9 := Aside0.mk (blk_set HY5.out 2 (.slice Aza2 za2.length cza2))
                    have HN9 := Aside0.mk (Kd.R_set HN5.out HY5.out (by decide) 2 (.slice Aza2 za2.length cza2))
                    have HZ9 := Aside0.mk (Kd.R_set HZ5.out HY5.out (by decide) 2 (.slice Aza2 za2.length cza2))
                    have DS9 := Aside0.mk (ds_low HPB.out.2 DS5.out ((Below.refl _ _).setCell (p := ⟨y, 2, none⟩) (by have := HYP.out; show p + 1 ≤ y; omega) (.slice Aza2 za2.length cza2)))
                    have FR9 := Aside0.mk (FR5.out.trans (Fr.set (M := M) (p := p) (y := y) (w := w5) 2 (.slice Aza2 za2.length cza2)))
                    have FS9 : Aside0 (M ≤ (w5.setCell ⟨y, 2, none⟩ (.slice Aza2 za2.length cza2)).heap.size) := ⟨by have := FS5.out; simpa [World.setCell] using this⟩
                    clear c_5 f_5 HY5 HN5 HZ5 DS5 FR5 FS5
                    generalize w5.setCell ⟨y, 2, none⟩ (.slice Aza2 za2.length cza2) = w9 at *
                    go_wp2_with fail
                    go_roundg fj
                    case measure => omega
                    case rel => exact ⟨j + 1, na2, za2, r2, Ana2, Aza2, cna2, cza2, by simp, ⟨by have := HJ2.out; omega, by rw [← HEna2.out, List.length_append]; have := HJ2.out; simp; omega, by rw [← HEza2.out, List.length_append]; have := HJ2.out; simp; omega, by rw [← HEna2.out, HJ2.out.2.2.2.1]; simp, by rw [← HEza2.out, HJ2.out.2.2.2.2.1]; simp, HJ2.out.2.2.2.2.2⟩, HY9, HZ9, HN9, DS9, FR9, FS9⟩
                  · refine s_call (o := { dst := some 67, op := Op.call { callee := Callee.value (Operand.func 75), args := #[Operand.tmp 66, Operand.const (Value.int IntKind.i64 4194304)], argTypes := #[104, 2] }, type := 2, pos := "edit.go:124", after := #[{ on := 2, ground := Ground.data }], guard := none }) rfl (by first | rfl | (simp [Region.wanted, yielded]; done)) (by first | (go_simp; done) | (go_simp; exact ⟨rfl, rfl⟩) | (go_simp; rfl)) ?_
                    refine (numS_calls DSd.out.rdr I2.out (by decide) (by decide)).mono ?_
                    rintro e_ x2 ⟨rfl, hr_, hg_⟩
                    have DSx := Aside0.mk (ds_num HPB.out.1 DSd.out hr_ hg_)
                    have hy1 := num_blk HYd.out hg_ (by have := HYP.out; omega)
                    have HYx := Aside0.mk hy1
                    have HNx := Aside0.mk (num_R HNd.out hg_ (fun k hk => hk.1))
                    have HZx := Aside0.mk (num_R HZd.out hg_ (fun k hk => hk.1))
                    have FRx := Aside0.mk (FRd.out.trans (Fr.num hg_ FSd.out))
                    have FSx : Aside0 (M ≤ x2.heap.size) := ⟨Nat.le_trans FSd.out hg_.size⟩
                    have c_x : x2.cell? ⟨y, 2, none⟩ = some (.slice Az lz cz) := blk_cell hy1 2
                    have c_a : (x2.alloc (.cells #[.int .i64 sz] 3 (0, 0))).cell? ⟨y, 2, none⟩ = some (.slice Az lz cz) := blk_cell (blk_below hy1 ((Below.refl x2.heap.size x2).alloc (Nat.le_refl _) (.cells #[.int .i64 sz] 3 (0, 0)))) 2
                    refine ⟨_, rfl, trivial, ?_⟩
                    clear hr_ hg_ hy1 c_d
                    (try simp only [Act.put, List.setIfInBounds_toArray, List.set_cons_zero, List.set_cons_succ])
                    refine t_two ?_ ?_
                    · refine s_val (o := { dst := some 65, op := Op.load 60 (Operand.tmp 64), type := 60, pos := "edit.go:124", after := #[{ on := 0, ground := Ground.data }], guard := none }) (w1 := x2) rfl (by first | rfl | (simp [Region.wanted, yielded]; done)) (by first | (go_simp; done) | (go_simp; rfl)) (trivial) ?_
                      (try simp only [Act.put, List.setIfInBounds_toArray, List.set_cons_zero, List.set_cons_succ])
                      refine t_ef ?_
                      refine s_val (o := { dst := some 68, op := Op.buildSlice 60 1 #[(0, Operand.tmp 67)], type := 60, pos := "edit.go:124", after := #[{ on := 3, ground := Ground.data }], guard := none }) (w1 := (x2.alloc (.cells #[.int .i64 sz] 3 (0, 0)))) rfl (by first | rfl | (simp [Region.wanted, yielded]; done)) (by first | (go_simp; done) | (go_simp; rfl)) (trivial) ?_
                      (try simp only [Act.put, List.setIfInBounds_toArray, List.set_cons_zero, List.set_cons_succ])
                      refine t_ef ?_
                      refine s_list (o := { dst := some 69, op := Op.call { callee := Callee.builtin Builtin.append, args := #[Operand.tmp 65, Operand.tmp 68], argTypes := #[60, 60] }, type := 60, pos := "edit.go:124", after := #[{ on := 1, ground := Ground.data }, { on := 4, ground := Ground.data }, { on := 3, ground := Ground.chain }], guard := none }) rfl (by first | rfl | (simp [Region.wanted, yielded]; done)) ?_
                      refine Kd.R_append (Kd.int .i64) (w0 := x2) M rfl (.tmp 65) (.tmp 68) 60 3 (.int .i64 0) 8 rfl Try.underlying60 info3 rfl (by decide) (by decide) (.slice Az lz cz) za sz [.int .i64 sz] (okpx p y) (fun _ => False) rfl rfl rfl (fun _ hk => hk.elim) (fun k hk => ⟨by have := HYP.out; have := FSx.out; omega, by have := HYP.out; have := FSx.out; omega⟩) HNx.out (Below.refl _ _) FSx.out (by have := HJ.out; have := HK3.out; omega) ?_
                      intro v5 w5 ho hb hg hat
                      refine ⟨trivial, ?_⟩
                      obtain ⟨za2, hns2⟩ : ∃ q, za ++ [sz] = q := ⟨_, rfl⟩
                      rw [hns2] at ho
                      have HEza2 := Aside0.mk hns2
                      obtain ⟨Aza2, cza2, e5⟩ := Kd.R_slice ho
                      subst e5
                      have hy5 := blk_grown HYx.out hg (Kd.R_ne HNx.out HYx.out (by decide))
                      have HY5 := Aside0.mk hy5
                      have HN5 := Aside0.mk ho
                      have HZ5 := Aside0.mk (Kd.R_over HZx.out HNx.out (by decide) hg)
                      have DS5 := Aside0.mk (ds_low HPB.out.2 DSx.out (hb.mono (by have := HYP.out; omega)))
                      have FR5 := Aside0.mk (FRx.out.trans (Fr.below hb (Nat.le_refl _)))
                      have FS5 : Aside0 (M ≤ w5.heap.size) := ⟨Nat.le_trans FSx.out hb.size⟩
                      have c_5 : w5.cell? ⟨y, 2, none⟩ = some (.slice Az lz cz) := blk_cell hy5 2
                      have f_5 := blk_frozen hy5 2
                      clear ho hb hg hat hns2 hy5 c_x c_a DSx HYx HNx HZx FRx FSx
                      (try simp only [Act.put, List.setIfInBounds_toArray, List.set_cons_zero, List.set_cons_succ])
                      (refine t_read (o := { dst := some 70, op := Op.fieldAddr 90 (Operand.tmp 7) 2, type := 0, pos := "edit.go:124", after := #[{ on := 0, ground := Ground.phase }, { on := 1, ground := Ground.phase }, { on := 2, ground := Ground.phase }, { on := 3, ground := Ground.phase }, { on := 4, ground := Ground.phase }, { on := 5, ground := Ground.phase }], guard := none }) rfl (by first | rfl | (simp [Region.wanted, yielded]; done)) (by intro w_ hE_; (try dsimp only at hE_); first | (go_simp; done) | (go_simp; rfl)) ?_)
                      (try simp only [Act.put, List.setIfInBounds_toArray, List.set_cons_zero, List.set_cons_succ])
                      refine t_ef ?_
                      refine s_store (o := { dst := none, op := Op.store 60 (Operand.tmp 70) (Operand.tmp 69), type := 0, pos := "edit.go:124", after := #[{ on := 6, ground := Ground.data }, { on := 5, ground := Ground.data }, { on := 5, ground := Ground.chain }, { on := 0, ground := Ground.phase }, { on := 1, ground := Ground.phase }, { on := 2, ground := Ground.phase }, { on := 3, ground := Ground.phase }, { on := 4, ground := Ground.phase }, { on := 5, ground := Ground.phase }], guard := none }) (w1 := w5.setCell ⟨y, 2, none⟩ (.slice Aza2 za2.length cza2)) rfl (by first | rfl | (simp [Region.wanted, yielded]; done)) (by first | (go_simp; done) | (go_simp; rfl)) (trivial) ?_
                      (try simp only [Act.put, List.setIfInBounds_toArray, List.set_cons_zero, List.set_cons_succ])
                      refine t_nil ?_
                      have HY9 := Aside0.mk (blk_set HY5.out 2 (.slice Aza2 za2.length cza2))
                      have HN9 := Aside0.mk (Kd.R_set HN5.out HY5.out (by decide) 2 (.slice Aza2 za2.length cza2))
                      have HZ9 := Aside0.mk (Kd.R_set HZ5.out HY5.out (by decide) 2 (.slice Aza2 za2.length cza2))
                      have DS9 := Aside0.mk (ds_low HPB.out.2 DS5.out ((Below.refl _ _).setCell (p := ⟨y, 2, none⟩) (by have := HYP.out; show p + 1 ≤ y; omega) (.slice Aza2 za2.length cza2)))
                      have FR9 := Aside0.mk (FR5.out.trans (Fr.set (M := M) (p := p) (y := y) (w := w5) 2 (.slice Aza2 za2.length cza2)))
                      have FS9 : Aside0 (M ≤ (w5.setCell ⟨y, 2, none⟩ (.slice Aza2 za2.length cza2)).heap.size) := ⟨by have := FS5.out; simpa [World.setCell] using this⟩
                      clear c_5 f_5 HY5 HN5 HZ5 DS5 FR5 FS5
                      generalize w5.setCell ⟨y, 2, none⟩ (.slice Aza2 za2.length cza2) = w9 at *
                      go_wp2_with fail
                      go_roundg fj
                      case measure => omega
                      case rel => exact ⟨j + 1, na2, za2, r2, Ana2, Aza2, cna2, cza2, by simp, ⟨by have := HJ2.out; omega, by rw [← HEna2.out, List.length_append]; have := HJ2.out; simp; omega, by rw [← HEza2.out, List.length_append]; have := HJ2.out; simp; omega, by rw [← HEna2.out, HJ2.out.2.2.2.1]; simp, by rw [← HEza2.out, HJ2.out.2.2.2.2.1]; simp, HJ2.out.2.2.2.2.2⟩, HY9, HZ9, HN9, DS9, FR9, FS9⟩
                    · refine s_val (o := { dst := some 68, op := Op.buildSlice 60 1 #[(0, Operand.tmp 67)], type := 60, pos := "edit.go:124", after := #[{ on := 3, ground := Ground.data }], guard := none }) (w1 := (x2.alloc (.cells #[.int .i64 sz] 3 (0, 0)))) rfl (by first | rfl | (simp [Region.wanted, yielded]; done)) (by first | (go_simp; done) | (go_simp; rfl)) (trivial) ?_
                      (try simp only [Act.put, List.setIfInBounds_toArray, List.set_cons_zero, List.set_cons_succ])
                      refine t_ef ?_
                      refine s_val (o := { dst := some 65, op := Op.load 60 (Operand.tmp 64), type := 60, pos := "edit.go:124", after := #[{ on := 0, ground := Ground.data }], guard := none }) (w1 := (x2.alloc (.cells #[.int .i64 sz] 3 (0, 0)))) rfl (by first | rfl | (simp [Region.wanted, yielded]; done)) (by first | (go_simp; done) | (go_simp; rfl)) (trivial) ?_
                      (try simp only [Act.put, List.setIfInBounds_toArray, List.set_cons_zero, List.set_cons_succ])
                      refine t_ef ?_
                      refine s_list (o := { dst := some 69, op := Op.call { callee := Callee.builtin Builtin.append, args := #[Operand.tmp 65, Operand.tmp 68], argTypes := #[60, 60] }, type := 60, pos := "edit.go:124", after := #[{ on := 1, ground := Ground.data }, { on := 4, ground := Ground.data }, { on := 3, ground := Ground.chain }], guard := none }) rfl (by first | rfl | (simp [Region.wanted, yielded]; done)) ?_
                      refine Kd.R_append (Kd.int .i64) (w0 := x2) M rfl (.tmp 65) (.tmp 68) 60 3 (.int .i64 0) 8 rfl Try.underlying60 info3 rfl (by decide) (by decide) (.slice Az lz cz) za sz [.int .i64 sz] (okpx p y) (fun _ => False) rfl rfl rfl (fun _ hk => hk.elim) (fun k hk => ⟨by have := HYP.out; have := FSx.out; omega, by have := HYP.out; have := FSx.out; omega⟩) HNx.out (Below.refl _ _) FSx.out (by have := HJ.out; have := HK3.out; omega) ?_
                      intro v5 w5 ho hb hg hat
                      refine ⟨trivial, ?_⟩
                      obtain ⟨za2, hns2⟩ : ∃ q, za ++ [sz] = q := ⟨_, rfl⟩
                      rw [hns2] at ho
                      have HEza2 := Aside0.mk hns2
                      obtain ⟨Aza2, cza2, e5⟩ := Kd.R_slice ho
                      subst e5
                      have hy5 := blk_grown HYx.out hg (Kd.R_ne HNx.out HYx.out (by decide))
                      have HY5 := Aside0.mk hy5
                      have HN5 := Aside0.mk ho
                      have HZ5 := Aside0.mk (Kd.R_over HZx.out HNx.out (by decide) hg)
                      have DS5 := Aside0.mk (ds_low HPB.out.2 DSx.out (hb.mono (by have := HYP.out; omega)))
                      have FR5 := Aside0.mk (FRx.out.trans (Fr.below hb (Nat.le_refl _)))
                      have FS5 : Aside0 (M ≤ w5.heap.size) := ⟨Nat.le_trans FSx.out hb.size⟩
                      have c_5 : w5.cell? ⟨y, 2, none⟩ = some (.slice Az lz cz) := blk_cell hy5 2
                      have f_5 := blk_frozen hy5 2
                      clear ho hb hg hat hns2 hy5 c_x c_a DSx HYx HNx HZx FRx FSx
                      (try simp only [Act.put, List.setIfInBounds_toArray, List.set_cons_zero, List.set_cons_succ])
                      (refine t_read (o := { dst := some 70, op := Op.fieldAddr 90 (Operand.tmp 7) 2, type := 0, pos := "edit.go:124", after := #[{ on := 0, ground := Ground.phase }, { on := 1, ground := Ground.phase }, { on := 2, ground := Ground.phase }, { on := 3, ground := Ground.phase }, { on := 4, ground := Ground.phase }, { on := 5, ground := Ground.phase }], guard := none }) rfl (by first | rfl | (simp [Region.wanted, yielded]; done)) (by intro w_ hE_; (try dsimp only at hE_); first | (go_simp; done) | (go_simp; rfl)) ?_)
                      (try simp only [Act.put, List.setIfInBounds_toArray, List.set_cons_zero, List.set_cons_succ])
                      refine t_ef ?_
                      refine s_store (o := { dst := none, op := Op.store 60 (Operand.tmp 70) (Operand.tmp 69), type := 0, pos := "edit.go:124", after := #[{ on := 6, ground := Ground.data }, { on := 5, ground := Ground.data }, { on := 5, ground := Ground.chain }, { on := 0, ground := Ground.phase }, { on := 1, ground := Ground.phase }, { on := 2, ground := Ground.phase }, { on := 3, ground := Ground.phase }, { on := 4, ground := Ground.phase }, { on := 5, ground := Ground.phase }], guard := none }) (w1 := w5.setCell ⟨y, 2, none⟩ (.slice Aza2 za2.length cza2)) rfl (by first | rfl | (simp [Region.wanted, yielded]; done)) (by first | (go_simp; done) | (go_simp; rfl)) (trivial) ?_
                      (try simp only [Act.put, List.setIfInBounds_toArray, List.set_cons_zero, List.set_cons_succ])
                      refine t_nil ?_
                      have HY9 := Aside0.mk (blk_set HY5.out 2 (.slice Aza2 za2.length cza2))
                      have HN9 := Aside0.mk (Kd.R_set HN5.out HY5.out (by decide) 2 (.slice Aza2 za2.length cza2))
                      have HZ9 := Aside0.mk (Kd.R_set HZ5.out HY5.out (by decide) 2 (.slice Aza2 za2.length cza2))
                      have DS9 := Aside0.mk (ds_low HPB.out.2 DS5.out ((Below.refl _ _).setCell (p := ⟨y, 2, none⟩) (by have := HYP.out; show p + 1 ≤ y; omega) (.slice Aza2 za2.length cza2)))
                      have FR9 := Aside0.mk (FR5.out.trans (Fr.set (M := M) (p := p) (y := y) (w := w5) 2 (.slice Aza2 za2.length cza2)))
                      have FS9 : Aside0 (M ≤ (w5.setCell ⟨y, 2, none⟩ (.slice Aza2 za2.length cza2)).heap.size) := ⟨by have := FS5.out; simpa [World.setCell] using this⟩
                      clear c_5 f_5 HY5 HN5 HZ5 DS5 FR5 FS5
                      generalize w5.setCell ⟨y, 2, none⟩ (.slice Aza2 za2.length cza2) = w9 at *
                      go_wp2_with fail
                      go_roundg fj
                      case measure => omega
                      case rel => exact ⟨j + 1, na2, za2, r2, Ana2, Aza2, cna2, cza2, by simp, ⟨by have := HJ2.out; omega, by rw [← HEna2.out, List.length_append]; have := HJ2.out; simp; omega, by rw [← HEza2.out, List.length_append]; have := HJ2.out; simp; omega, by rw [← HEna2.out, HJ2.out.2.2.2.1]; simp, by rw [← HEza2.out, HJ2.out.2.2.2.2.1]; simp, HJ2.out.2.2.2.2.2⟩, HY9, HZ9, HN9, DS9, FR9, FS9⟩
                · refine s_val (o := { dst := some 61, op := Op.buildSlice 63 1 #[(0, Operand.tmp 60)], type := 63, pos := "edit.go:123", after := #[{ on := 3, ground := Ground.data }], guard := none }) (w1 := (x1.alloc (.cells #[.int .i64 n] 2 (0, 0)))) rfl (by first | rfl | (simp [Region.wanted, yielded]; done)) (by first | (go_simp; done) | (go_simp; rfl)) (trivial) ?_
                  (try simp only [Act.put, List.setIfInBounds_toArray, List.set_cons_zero, List.set_cons_succ])
                  refine t_ef ?_
                  refine s_val (o := { dst := some 58, op := Op.load 63 (Operand.tmp 57), type := 63, pos := "edit.go:123", after := #[{ on := 0, ground := Ground.data }], guard := none }) (w1 := (x1.alloc (.cells #[.int .i64 n] 2 (0, 0)))) rfl (by first | rfl | (simp [Region.wanted, yielded]; done)) (by first | (go_simp; done) | (go_simp; rfl)) (trivial) ?_
                  (try simp only [Act.put, List.setIfInBounds_toArray, List.set_cons_zero, List.set_cons_succ])
                  refine t_ef ?_
                  refine s_list (o := { dst := some 62, op := Op.call { callee := Callee.builtin Builtin.append, args := #[Operand.tmp 58, Operand.tmp 61], argTypes := #[63, 63] }, type := 63, pos := "edit.go:123", after := #[{ on := 1, ground := Ground.data }, { on := 4, ground := Ground.data }, { on := 3, ground := Ground.chain }], guard := none }) rfl (by first | rfl | (simp [Region.wanted, yielded]; done)) ?_
                  refine Kd.R_append (Kd.int .i64) (w0 := x1) M rfl (.tmp 58) (.tmp 61) 63 2 (.int .i64 0) 8 rfl Try.underlying63 info2 rfl (by decide) (by decide) (.slice An ln cn) na n [.int .i64 n] (okpx p y) (fun _ => False) rfl rfl rfl (fun _ hk => hk.elim) (fun k hk => ⟨by have := HYP.out; have := FSx.out; omega, by have := HYP.out; have := FSx.out; omega⟩) HNx.out (Below.refl _ _) FSx.out (by have := HJ.out; have := HK3.out; omega) ?_
                  intro v5 w5 ho hb hg hat
                  refine ⟨trivial, ?_⟩
                  obtain ⟨na2, hns2⟩ : ∃ q, na ++ [n] = q := ⟨_, rfl⟩
                  rw [hns2] at ho
                  have HEna2 := Aside0.mk hns2
                  obtain ⟨Ana2, cna2, e5⟩ := Kd.R_slice ho
                  subst e5
                  have hy5 := blk_grown HYx.out hg (Kd.R_ne HNx.out HYx.out (by decide))
                  have HY5 := Aside0.mk hy5
                  have HN5 := Aside0.mk ho
                  have HZ5 := Aside0.mk (Kd.R_over HZx.out HNx.out (by decide) hg)
                  have DS5 := Aside0.mk (ds_low HPB.out.2 DSx.out (hb.mono (by have := HYP.out; omega)))
                  have FR5 := Aside0.mk (FRx.out.trans (Fr.below hb (Nat.le_refl _)))
                  have FS5 : Aside0 (M ≤ w5.heap.size) := ⟨Nat.le_trans FSx.out hb.size⟩
                  have c_5 : w5.cell? ⟨y, 1, none⟩ = some (.slice An ln cn) := blk_cell hy5 1
                  have f_5 := blk_frozen hy5 1
                  clear ho hb hg hat hns2 hy5 c_x c_a DSx HYx HNx HZx FRx FSx
                  (try simp only [Act.put, List.setIfInBounds_toArray, List.set_cons_zero, List.set_cons_succ])
                  (refine t_read (o := { dst := some 63, op := Op.fieldAddr 90 (Operand.tmp 7) 1, type := 0, pos := "edit.go:123", after := #[{ on := 0, ground := Ground.phase }, { on := 1, ground := Ground.phase }, { on := 2, ground := Ground.phase }, { on := 3, ground := Ground.phase }, { on := 4, ground := Ground.phase }, { on := 5, ground := Ground.phase }], guard := none }) rfl (by first | rfl | (simp [Region.wanted, yielded]; done)) (by intro w_ hE_; (try dsimp only at hE_); first | (go_simp; done) | (go_simp; rfl)) ?_)
                  (try simp only [Act.put, List.setIfInBounds_toArray, List.set_cons_zero, List.set_cons_succ])
                  refine t_ef ?_
                  refine s_store (o := { dst := none, op := Op.store 63 (Operand.tmp 63) (Operand.tmp 62), type := 0, pos := "edit.go:123", after := #[{ on := 6, ground := Ground.data }, { on := 5, ground := Ground.data }, { on := 5, ground := Ground.chain }, { on := 0, ground := Ground.phase }, { on := 1, ground := Ground.phase }, { on := 2, ground := Ground.phase }, { on := 3, ground := Ground.phase }, { on := 4, ground := Ground.phase }, { on := 5, ground := Ground.phase }], guard := none }) (w1 := w5.setCell ⟨y, 1, none⟩ (.slice Ana2 na2.length cna2)) rfl (by first | rfl | (simp [Region.wanted, yielded]; done)) (by first | (go_simp; done) | (go_simp; rfl)) (trivial) ?_
                  (try simp only [Act.put, List.setIfInBounds_toArray, List.set_cons_zero, List.set_cons_succ])
                  refine t_nil ?_
                  have HY6 := Aside0.mk (blk_set HY5.out 1 (.slice Ana2 na2.length cna2))
                  have HN6 := Aside0.mk (Kd.R_set HN5.out HY5.out (by decide) 1 (.slice Ana2 na2.length cna2))
                  have HZ6 := Aside0.mk (Kd.R_set HZ5.out HY5.out (by decide) 1 (.slice Ana2 na2.length cna2))
                  have DS6 := Aside0.mk (ds_low HPB.out.2 DS5.out ((Below.refl _ _).setCell (p := ⟨y, 1, none⟩) (by have := HYP.out; show p + 1 ≤ y; omega) (.slice Ana2 na2.length cna2)))
                  have FR6 := Aside0.mk (FR5.out.trans (Fr.set (M := M) (p := p) (y := y) (w := w5) 1 (.slice Ana2 na2.length cna2)))
                  have FS6 : Aside0 (M ≤ (w5.setCell ⟨y, 1, none⟩ (.slice Ana2 na2.length cna2)).heap.size) := ⟨by have := FS5.out; simpa [World.setCell] using this⟩
                  clear c_5 f_5 HY5 HN5 HZ5 DS5 FR5 FS5
                  generalize w5.setCell ⟨y, 1, none⟩ (.slice Ana2 na2.length cna2) = w6 at *
                  have HN7 := HZ6
                  have HZ7 := HN6
                  have HY7 := HY6
                  have DS7 := DS6
                  have FR7 := FR6
                  have FS7 := FS6
                  clear HN6 HZ6 HY6 DS6 FR6 FS6
                  go_wp2_with fail
                  refine wp_region_tree (fun _ _ => True) (.rd 0 (.rd 2 (.two 1 3 (.ef 3 (.ef 4 (.ef 5 (.rd 6 (.ef 7 .nil))))) (.two 1 4 (.ef 4 (.ef 5 (.rd 6 (.ef 7 .nil)))) (.ef 1 (.ef 5 (.rd 6 (.ef 7 .nil)))))))) (by kernel_rfl) (by kernel_rfl) (fun _ => trivial) (fun _ _ => trivial) (fun wd hhp_ hbw_ => ?_)
                  have DSd := Aside0.mk (ds_new HPB.out.2 DS7.out hbw_)
                  have hyd := blk_below HY7.out hbw_
                  have HYd := Aside0.mk hyd
                  have HNd := Aside0.mk (Kd.R_below HN7.out hbw_)
                  have HZd := Aside0.mk (Kd.R_below HZ7.out hbw_)
                  have FRd := Aside0.mk (FR7.out.trans (Fr.below hbw_ FS7.out))
                  have FSd : Aside0 (M ≤ wd.heap.size) := ⟨Nat.le_trans FS7.out hbw_.size⟩
                  have c_d : wd.cell? ⟨y, 2, none⟩ = some (.slice Az lz cz) := blk_cell hyd 2
                  clear hhp_ hbw_ hyd HY7 HN7 HZ7 FR7 FS7 DS7
                  (refine t_read (o := { dst := some 64, op := Op.fieldAddr 90 (Operand.tmp 7) 2, type := 0, pos := "edit.go:124", after := #[], guard := none }) rfl (by first | rfl | (simp [Region.wanted, yielded]; done)) (by intro w_ hE_; (try dsimp only at hE_); first | (go_simp; done) | (go_simp; rfl)) ?_)
                  (try simp only [Act.put, List.setIfInBounds_toArray, List.set_cons_zero, List.set_cons_succ])
                  (refine t_read (o := { dst := some 66, op := Op.move (Operand.tmp 4), type := 104, pos := "edit.go:124", after := #[], guard := none }) rfl (by first | rfl | (simp [Region.wanted, yielded]; done)) (by intro w_ hE_; (try dsimp only at hE_); first | (go_simp; done) | (go_simp; rfl)) ?_)
                  (try simp only [Act.put, List.setIfInBounds_toArray, List.set_cons_zero, List.set_cons_succ])
                  refine t_two ?_ ?_
                  · refine s_val (o := { dst := some 65, op := Op.load 60 (Operand.tmp 64), type := 60, pos := "edit.go:124", after := #[{ on := 0, ground := Ground.data }], guard := none }) (w1 := wd) rfl (by first | rfl | (simp [Region.wanted, yielded]; done)) (by first | (go_simp; done) | (go_simp; rfl)) (trivial) ?_
                    (try simp only [Act.put, List.setIfInBounds_toArray, List.set_cons_zero, List.set_cons_succ])
                    refine t_ef ?_
                    refine s_call (o := { dst := some 67, op := Op.call { callee := Callee.value (Operand.func 75), args := #[Operand.tmp 66, Operand.const (Value.int IntKind.i64 4194304)], argTypes := #[104, 2] }, type := 2, pos := "edit.go:124", after := #[{ on := 2, ground := Ground.data }], guard := none }) rfl (by first | rfl | (simp [Region.wanted, yielded]; done)) (by first | (go_simp; done) | (go_simp; exact ⟨rfl, rfl⟩) | (go_simp; rfl)) ?_
                    refine (numS_calls DSd.out.rdr I2.out (by decide) (by decide)).mono ?_
                    rintro e_ x2 ⟨rfl, hr_, hg_⟩
                    have DSx := Aside0.mk (ds_num HPB.out.1 DSd.out hr_ hg_)
                    have hy1 := num_blk HYd.out hg_ (by have := HYP.out; omega)
                    have HYx := Aside0.mk hy1
                    have HNx := Aside0.mk (num_R HNd.out hg_ (fun k hk => hk.1))
                    have HZx := Aside0.mk (num_R HZd.out hg_ (fun k hk => hk.1))
                    have FRx := Aside0.mk (FRd.out.trans (Fr.num hg_ FSd.out))
                    have FSx : Aside0 (M ≤ x2.heap.size) := ⟨Nat.le_trans FSd.out hg_.size⟩
                    have c_x : x2.cell? ⟨y, 2, none⟩ = some (.slice Az lz cz) := blk_cell hy1 2
                    have c_a : (x2.alloc (.cells #[.int .i64 sz] 3 (0, 0))).cell? ⟨y, 2, none⟩ = some (.slice Az lz cz) := blk_cell (blk_below hy1 ((Below.refl x2.heap.size x2).alloc (Nat.le_refl _) (.cells #[.int .i64 sz] 3 (0, 0)))) 2
                    refine ⟨_, rfl, trivial, ?_⟩
                    clear hr_ hg_ hy1 c_d
                    (try simp only [Act.put, List.setIfInBounds_toArray, List.set_cons_zero, List.set_cons_succ])
                    refine t_ef ?_
                    refine s_val (o := { dst := some 68, op := Op.buildSlice 60 1 #[(0, Operand.tmp 67)], type := 60, pos := "edit.go:124", after := #[{ on := 3, ground := Ground.data }], guard := none }) (w1 := (x2.alloc (.cells #[.int .i64 sz] 3 (0, 0)))) rfl (by first | rfl | (simp [Region.wanted, yielded]; done)) (by first | (go_simp; done) | (go_simp; rfl)) (trivial) ?_
                    (try simp only [Act.put, List.setIfInBounds_toArray, List.set_cons_zero, List.set_cons_succ])
                    refine t_ef ?_
                    refine s_list (o := { dst := some 69, op := Op.call { callee := Callee.builtin Builtin.append, args := #[Operand.tmp 65, Operand.tmp 68], argTypes := #[60, 60] }, type := 60, pos := "edit.go:124", after := #[{ on := 1, ground := Ground.data }, { on := 4, ground := Ground.data }, { on := 3, ground := Ground.chain }], guard := none }) rfl (by first | rfl | (simp [Region.wanted, yielded]; done)) ?_
                    refine Kd.R_append (Kd.int .i64) (w0 := x2) M rfl (.tmp 65) (.tmp 68) 60 3 (.int .i64 0) 8 rfl Try.underlying60 info3 rfl (by decide) (by decide) (.slice Az lz cz) za sz [.int .i64 sz] (okpx p y) (fun _ => False) rfl rfl rfl (fun _ hk => hk.elim) (fun k hk => ⟨by have := HYP.out; have := FSx.out; omega, by have := HYP.out; have := FSx.out; omega⟩) HNx.out (Below.refl _ _) FSx.out (by have := HJ.out; have := HK3.out; omega) ?_
                    intro v5 w5 ho hb hg hat
                    refine ⟨trivial, ?_⟩
                    obtain ⟨za2, hns2⟩ : ∃ q, za ++ [sz] = q := ⟨_, rfl⟩
                    rw [hns2] at ho
                    have HEza2 := Aside0.mk hns2
                    obtain ⟨Aza2, cza2, e5⟩ := Kd.R_slice ho
                    subst e5
                    have hy5 := blk_grown HYx.out hg (Kd.R_ne HNx.out HYx.out (by decide))
                    have HY5 := Aside0.mk hy5
                    have HN5 := Aside0.mk ho
                    have HZ5 := Aside0.mk (Kd.R_over HZx.out HNx.out (by decide) hg)
                    have DS5 := Aside0.mk (ds_low HPB.out.2 DSx.out (hb.mono (by have := HYP.out; omega)))
                    have FR5 := Aside0.mk (FRx.out.trans (Fr.below hb (Nat.le_refl _)))
                    have FS5 : Aside0 (M ≤ w5.heap.size) := ⟨Nat.le_trans FSx.out hb.size⟩
                    have c_5 : w5.cell? ⟨y, 2, none⟩ = some (.slice Az lz cz) := blk_cell hy5 2
                    have f_5 := blk_frozen hy5 2
                    clear ho hb hg hat hns2 hy5 c_x c_a DSx HYx HNx HZx FRx FSx
                    (try simp only [Act.put, List.setIfInBounds_toArray, List.set_cons_zero, List.set_cons_succ])
                    (refine t_read (o := { dst := some 70, op := Op.fieldAddr 90 (Operand.tmp 7) 2, type := 0, pos := "edit.go:124", after := #[{ on := 0, ground := Ground.phase }, { on := 1, ground := Ground.phase }, { on := 2, ground := Ground.phase }, { on := 3, ground := Ground.phase }, { on := 4, ground := Ground.phase }, { on := 5, ground := Ground.phase }], guard := none }) rfl (by first | rfl | (simp [Region.wanted, yielded]; done)) (by intro w_ hE_; (try dsimp only at hE_); first | (go_simp; done) | (go_simp; rfl)) ?_)
                    (try simp only [Act.put, List.setIfInBounds_toArray, List.set_cons_zero, List.set_cons_succ])
                    refine t_ef ?_
                    refine s_store (o := { dst := none, op := Op.store 60 (Operand.tmp 70) (Operand.tmp 69), type := 0, pos := "edit.go:124", after := #[{ on := 6, ground := Ground.data }, { on := 5, ground := Ground.data }, { on := 5, ground := Ground.chain }, { on := 0, ground := Ground.phase }, { on := 1, ground := Ground.phase }, { on := 2, ground := Ground.phase }, { on := 3, ground := Ground.phase }, { on := 4, ground := Ground.phase }, { on := 5, ground := Ground.phase }], guard := none }) (w1 := w5.setCell ⟨y, 2, none⟩ (.slice Aza2 za2.length cza2)) rfl (by first | rfl | (simp [Region.wanted, yielded]; done)) (by first | (go_simp; done) | (go_simp; rfl)) (trivial) ?_
                    (try simp only [Act.put, List.setIfInBounds_toArray, List.set_cons_zero, List.set_cons_succ])
                    refine t_nil ?_
                    have HY9 := Aside0.mk (blk_set HY5.out 2 (.slice Aza2 za2.length cza2))
                    have HN9 := Aside0.mk (Kd.R_set HN5.out HY5.out (by decide) 2 (.slice Aza2 za2.length cza2))
                    have HZ9 := Aside0.mk (Kd.R_set HZ5.out HY5.out (by decide) 2 (.slice Aza2 za2.length cza2))
                    have DS9 := Aside0.mk (ds_low HPB.out.2 DS5.out ((Below.refl _ _).setCell (p := ⟨y, 2, none⟩) (by have := HYP.out; show p + 1 ≤ y; omega) (.slice Aza2 za2.length cza2)))
                    have FR9 := Aside0.mk (FR5.out.trans (Fr.set (M := M) (p := p) (y := y) (w := w5) 2 (.slice Aza2 za2.length cza2)))
                    have FS9 : Aside0 (M ≤ (w5.setCell ⟨y, 2, none⟩ (.slice Aza2 za2.length cza2)).heap.size) := ⟨by have := FS5.out; simpa [World.setCell] using this⟩
                    clear c_5 f_5 HY5 HN5 HZ5 DS5 FR5 FS5
                    generalize w5.setCell ⟨y, 2, none⟩ (.slice Aza2 za2.length cza2) = w9 at *
                    go_wp2_with fail
                    go_roundg fj
                    case measure => omega
                    case rel => exact ⟨j + 1, na2, za2, r2, Ana2, Aza2, cna2, cza2, by simp, ⟨by have := HJ2.out; omega, by rw [← HEna2.out, List.length_append]; have := HJ2.out; simp; omega, by rw [← HEza2.out, List.length_append]; have := HJ2.out; simp; omega, by rw [← HEna2.out, HJ2.out.2.2.2.1]; simp, by rw [← HEza2.out, HJ2.out.2.2.2.2.1]; simp, HJ2.out.2.2.2.2.2⟩, HY9, HZ9, HN9, DS9, FR9, FS9⟩
                  · refine s_call (o := { dst := some 67, op := Op.call { callee := Callee.value (Operand.func 75), args := #[Operand.tmp 66, Operand.const (Value.int IntKind.i64 4194304)], argTypes := #[104, 2] }, type := 2, pos := "edit.go:124", after := #[{ on := 2, ground := Ground.data }], guard := none }) rfl (by first | rfl | (simp [Region.wanted, yielded]; done)) (by first | (go_simp; done) | (go_simp; exact ⟨rfl, rfl⟩) | (go_simp; rfl)) ?_
                    refine (numS_calls DSd.out.rdr I2.out (by decide) (by decide)).mono ?_
                    rintro e_ x2 ⟨rfl, hr_, hg_⟩
                    have DSx := Aside0.mk (ds_num HPB.out.1 DSd.out hr_ hg_)
                    have hy1 := num_blk HYd.out hg_ (by have := HYP.out; omega)
                    have HYx := Aside0.mk hy1
                    have HNx := Aside0.mk (num_R HNd.out hg_ (fun k hk => hk.1))
                    have HZx := Aside0.mk (num_R HZd.out hg_ (fun k hk => hk.1))
                    have FRx := Aside0.mk (FRd.out.trans (Fr.num hg_ FSd.out))
                    have FSx : Aside0 (M ≤ x2.heap.size) := ⟨Nat.le_trans FSd.out hg_.size⟩
                    have c_x : x2.cell? ⟨y, 2, none⟩ = some (.slice Az lz cz) := blk_cell hy1 2
                    have c_a : (x2.alloc (.cells #[.int .i64 sz] 3 (0, 0))).cell? ⟨y, 2, none⟩ = some (.slice Az lz cz) := blk_cell (blk_below hy1 ((Below.refl x2.heap.size x2).alloc (Nat.le_refl _) (.cells #[.int .i64 sz] 3 (0, 0)))) 2
                    refine ⟨_, rfl, trivial, ?_⟩
                    clear hr_ hg_ hy1 c_d
                    (try simp only [Act.put, List.setIfInBounds_toArray, List.set_cons_zero, List.set_cons_succ])
                    refine t_two ?_ ?_
                    · refine s_val (o := { dst := some 65, op := Op.load 60 (Operand.tmp 64), type := 60, pos := "edit.go:124", after := #[{ on := 0, ground := Ground.data }], guard := none }) (w1 := x2) rfl (by first | rfl | (simp [Region.wanted, yielded]; done)) (by first | (go_simp; done) | (go_simp; rfl)) (trivial) ?_
                      (try simp only [Act.put, List.setIfInBounds_toArray, List.set_cons_zero, List.set_cons_succ])
                      refine t_ef ?_
                      refine s_val (o := { dst := some 68, op := Op.buildSlice 60 1 #[(0, Operand.tmp 67)], type := 60, pos := "edit.go:124", after := #[{ on := 3, ground := Ground.data }], guard := none }) (w1 := (x2.alloc (.cells #[.int .i64 sz] 3 (0, 0)))) rfl (by first | rfl | (simp [Region.wanted, yielded]; done)) (by first | (go_simp; done) | (go_simp; rfl)) (trivial) ?_
                      (try simp only [Act.put, List.setIfInBounds_toArray, List.set_cons_zero, List.set_cons_succ])
                      refine t_ef ?_
                      refine s_list (o := { dst := some 69, op := Op.call { callee := Callee.builtin Builtin.append, args := #[Operand.tmp 65, Operand.tmp 68], argTypes := #[60, 60] }, type := 60, pos := "edit.go:124", after := #[{ on := 1, ground := Ground.data }, { on := 4, ground := Ground.data }, { on := 3, ground := Ground.chain }], guard := none }) rfl (by first | rfl | (simp [Region.wanted, yielded]; done)) ?_
                      refine Kd.R_append (Kd.int .i64) (w0 := x2) M rfl (.tmp 65) (.tmp 68) 60 3 (.int .i64 0) 8 rfl Try.underlying60 info3 rfl (by decide) (by decide) (.slice Az lz cz) za sz [.int .i64 sz] (okpx p y) (fun _ => False) rfl rfl rfl (fun _ hk => hk.elim) (fun k hk => ⟨by have := HYP.out; have := FSx.out; omega, by have := HYP.out; have := FSx.out; omega⟩) HNx.out (Below.refl _ _) FSx.out (by have := HJ.out; have := HK3.out; omega) ?_
                      intro v5 w5 ho hb hg hat
                      refine ⟨trivial, ?_⟩
                      obtain ⟨za2, hns2⟩ : ∃ q, za ++ [sz] = q := ⟨_, rfl⟩
                      rw [hns2] at ho
                      have HEza2 := Aside0.mk hns2
                      obtain ⟨Aza2, cza2, e5⟩ := Kd.R_slice ho
                      subst e5
                      have hy5 := blk_grown HYx.out hg (Kd.R_ne HNx.out HYx.out (by decide))
                      have HY5 := Aside0.mk hy5
                      have HN5 := Aside0.mk ho
                      have HZ5 := Aside0.mk (Kd.R_over HZx.out HNx.out (by decide) hg)
                      have DS5 := Aside0.mk (ds_low HPB.out.2 DSx.out (hb.mono (by have := HYP.out; omega)))
                      have FR5 := Aside0.mk (FRx.out.trans (Fr.below hb (Nat.le_refl _)))
                      have FS5 : Aside0 (M ≤ w5.heap.size) := ⟨Nat.le_trans FSx.out hb.size⟩
                      have c_5 : w5.cell? ⟨y, 2, none⟩ = some (.slice Az lz cz) := blk_cell hy5 2
                      have f_5 := blk_frozen hy5 2
                      clear ho hb hg hat hns2 hy5 c_x c_a DSx HYx HNx HZx FRx FSx
                      (try simp only [Act.put, List.setIfInBounds_toArray, List.set_cons_zero, List.set_cons_succ])
                      (refine t_read (o := { dst := some 70, op := Op.fieldAddr 90 (Operand.tmp 7) 2, type := 0, pos := "edit.go:124", after := #[{ on := 0, ground := Ground.phase }, { on := 1, ground := Ground.phase }, { on := 2, ground := Ground.phase }, { on := 3, ground := Ground.phase }, { on := 4, ground := Ground.phase }, { on := 5, ground := Ground.phase }], guard := none }) rfl (by first | rfl | (simp [Region.wanted, yielded]; done)) (by intro w_ hE_; (try dsimp only at hE_); first | (go_simp; done) | (go_simp; rfl)) ?_)
                      (try simp only [Act.put, List.setIfInBounds_toArray, List.set_cons_zero, List.set_cons_succ])
                      refine t_ef ?_
                      refine s_store (o := { dst := none, op := Op.store 60 (Operand.tmp 70) (Operand.tmp 69), type := 0, pos := "edit.go:124", after := #[{ on := 6, ground := Ground.data }, { on := 5, ground := Ground.data }, { on := 5, ground := Ground.chain }, { on := 0, ground := Ground.phase }, { on := 1, ground := Ground.phase }, { on := 2, ground := Ground.phase }, { on := 3, ground := Ground.phase }, { on := 4, ground := Ground.phase }, { on := 5, ground := Ground.phase }], guard := none }) (w1 := w5.setCell ⟨y, 2, none⟩ (.slice Aza2 za2.length cza2)) rfl (by first | rfl | (simp [Region.wanted, yielded]; done)) (by first | (go_simp; done) | (go_simp; rfl)) (trivial) ?_
                      (try simp only [Act.put, List.setIfInBounds_toArray, List.set_cons_zero, List.set_cons_succ])
                      refine t_nil ?_
                      have HY9 := Aside0.mk (blk_set HY5.out 2 (.slice Aza2 za2.length cza2))
                      have HN9 := Aside0.mk (Kd.R_set HN5.out HY5.out (by decide) 2 (.slice Aza2 za2.length cza2))
                      have HZ9 := Aside0.mk (Kd.R_set HZ5.out HY5.out (by decide) 2 (.slice Aza2 za2.length cza2))
                      have DS9 := Aside0.mk (ds_low HPB.out.2 DS5.out ((Below.refl _ _).setCell (p := ⟨y, 2, none⟩) (by have := HYP.out; show p + 1 ≤ y; omega) (.slice Aza2 za2.length cza2)))
                      have FR9 := Aside0.mk (FR5.out.trans (Fr.set (M := M) (p := p) (y := y) (w := w5) 2 (.slice Aza2 za2.length cza2)))
                      have FS9 : Aside0 (M ≤ (w5.setCell ⟨y, 2, none⟩ (.slice Aza2 za2.length cza2)).heap.size) := ⟨by have := FS5.out; simpa [World.setCell] using this⟩
                      clear c_5 f_5 HY5 HN5 HZ5 DS5 FR5 FS5
                      generalize w5.setCell ⟨y, 2, none⟩ (.slice Aza2 za2.length cza2) = w9 at *
                      go_wp2_with fail
                      go_roundg fj
                      case measure => omega
                      case rel => exact ⟨j + 1, na2, za2, r2, Ana2, Aza2, cna2, cza2, by simp, ⟨by have := HJ2.out; omega, by rw [← HEna2.out, List.length_append]; have := HJ2.out; simp; omega, by rw [← HEza2.out, List.length_append]; have := HJ2.out; simp; omega, by rw [← HEna2.out, HJ2.out.2.2.2.1]; simp, by rw [← HEza2.out, HJ2.out.2.2.2.2.1]; simp, HJ2.out.2.2.2.2.2⟩, HY9, HZ9, HN9, DS9, FR9, FS9⟩
                    · refine s_val (o := { dst := some 68, op := Op.buildSlice 60 1 #[(0, Operand.tmp 67)], type := 60, pos := "edit.go:124", after := #[{ on := 3, ground := Ground.data }], guard := none }) (w1 := (x2.alloc (.cells #[.int .i64 sz] 3 (0, 0)))) rfl (by first | rfl | (simp [Region.wanted, yielded]; done)) (by first | (go_simp; done) | (go_simp; rfl)) (trivial) ?_
                      (try simp only [Act.put, List.setIfInBounds_toArray, List.set_cons_zero, List.set_cons_succ])
                      refine t_ef ?_
                      refine s_val (o := { dst := some 65, op := Op.load 60 (Operand.tmp 64), type := 60, pos := "edit.go:124", after := #[{ on := 0, ground := Ground.data }], guard := none }) (w1 := (x2.alloc (.cells #[.int .i64 sz] 3 (0, 0)))) rfl (by first | rfl | (simp [Region.wanted, yielded]; done)) (by first | (go_simp; done) | (go_simp; rfl)) (trivial) ?_
                      (try simp only [Act.put, List.setIfInBounds_toArray, List.set_cons_zero, List.set_cons_succ])
                      refine t_ef ?_
                      refine s_list (o := { dst := some 69, op := Op.call { callee := Callee.builtin Builtin.append, args := #[Operand.tmp 65, Operand.tmp 68], argTypes := #[60, 60] }, type := 60, pos := "edit.go:124", after := #[{ on := 1, ground := Ground.data }, { on := 4, ground := Ground.data }, { on := 3, ground := Ground.chain }], guard := none }) rfl (by first | rfl | (simp [Region.wanted, yielded]; done)) ?_
                      refine Kd.R_append (Kd.int .i64) (w0 := x2) M rfl (.tmp 65) (.tmp 68) 60 3 (.int .i64 0) 8 rfl Try.underlying60 info3 rfl (by decide) (by decide) (.slice Az lz cz) za sz [.int .i64 sz] (okpx p y) (fun _ => False) rfl rfl rfl (fun _ hk => hk.elim) (fun k hk => ⟨by have := HYP.out; have := FSx.out; omega, by have := HYP.out; have := FSx.out; omega⟩) HNx.out (Below.refl _ _) FSx.out (by have := HJ.out; have := HK3.out; omega) ?_
                      intro v5 w5 ho hb hg hat
                      refine ⟨trivial, ?_⟩
                      obtain ⟨za2, hns2⟩ : ∃ q, za ++ [sz] = q := ⟨_, rfl⟩
                      rw [hns2] at ho
                      have HEza2 := Aside0.mk hns2
                      obtain ⟨Aza2, cza2, e5⟩ := Kd.R_slice ho
                      subst e5
                      have hy5 := blk_grown HYx.out hg (Kd.R_ne HNx.out HYx.out (by decide))
                      have HY5 := Aside0.mk hy5
                      have HN5 := Aside0.mk ho
                      have HZ5 := Aside0.mk (Kd.R_over HZx.out HNx.out (by decide) hg)
                      have DS5 := Aside0.mk (ds_low HPB.out.2 DSx.out (hb.mono (by have := HYP.out; omega)))
                      have FR5 := Aside0.mk (FRx.out.trans (Fr.below hb (Nat.le_refl _)))
                      have FS5 : Aside0 (M ≤ w5.heap.size) := ⟨Nat.le_trans FSx.out hb.size⟩
                      have c_5 : w5.cell? ⟨y, 2, none⟩ = some (.slice Az lz cz) := blk_cell hy5 2
                      have f_5 := blk_frozen hy5 2
                      clear ho hb hg hat hns2 hy5 c_x c_a DSx HYx HNx HZx FRx FSx
                      (try simp only [Act.put, List.setIfInBounds_toArray, List.set_cons_zero, List.set_cons_succ])
                      (refine t_read (o := { dst := some 70, op := Op.fieldAddr 90 (Operand.tmp 7) 2, type := 0, pos := "edit.go:124", after := #[{ on := 0, ground := Ground.phase }, { on := 1, ground := Ground.phase }, { on := 2, ground := Ground.phase }, { on := 3, ground := Ground.phase }, { on := 4, ground := Ground.phase }, { on := 5, ground := Ground.phase }], guard := none }) rfl (by first | rfl | (simp [Region.wanted, yielded]; done)) (by intro w_ hE_; (try dsimp only at hE_); first | (go_simp; done) | (go_simp; rfl)) ?_)
                      (try simp only [Act.put, List.setIfInBounds_toArray, List.set_cons_zero, List.set_cons_succ])
                      refine t_ef ?_
                      refine s_store (o := { dst := none, op := Op.store 60 (Operand.tmp 70) (Operand.tmp 69), type := 0, pos := "edit.go:124", after := #[{ on := 6, ground := Ground.data }, { on := 5, ground := Ground.data }, { on := 5, ground := Ground.chain }, { on := 0, ground := Ground.phase }, { on := 1, ground := Ground.phase }, { on := 2, ground := Ground.phase }, { on := 3, ground := Ground.phase }, { on := 4, ground := Ground.phase }, { on := 5, ground := Ground.phase }], guard := none }) (w1 := w5.setCell ⟨y, 2, none⟩ (.slice Aza2 za2.length cza2)) rfl (by first | rfl | (simp [Region.wanted, yielded]; done)) (by first | (go_simp; done) | (go_simp; rfl)) (trivial) ?_
                      (try simp only [Act.put, List.setIfInBounds_toArray, List.set_cons_zero, List.set_cons_succ])
                      refine t_nil ?_
                      have HY9 := Aside0.mk (blk_set HY5.out 2 (.slice Aza2 za2.length cza2))
                      have HN9 := Aside0.mk (Kd.R_set HN5.out HY5.out (by decide) 2 (.slice Aza2 za2.length cza2))
                      have HZ9 := Aside0.mk (Kd.R_set HZ5.out HY5.out (by decide) 2 (.slice Aza2 za2.length cza2))
                      have DS9 := Aside0.mk (ds_low HPB.out.2 DS5.out ((Below.refl _ _).setCell (p := ⟨y, 2, none⟩) (by have := HYP.out; show p + 1 ≤ y; omega) (.slice Aza2 za2.length cza2)))
                      have FR9 := Aside0.mk (FR5.out.trans (Fr.set (M := M) (p := p) (y := y) (w := w5) 2 (.slice Aza2 za2.length cza2)))
                      have FS9 : Aside0 (M ≤ (w5.setCell ⟨y, 2, none⟩ (.slice Aza2 za2.length cza2)).heap.size) := ⟨by have := FS5.out; simpa [World.setCell] using this⟩
                      clear c_5 f_5 HY5 HN5 HZ5 DS5 FR5 FS5
                      generalize w5.setCell ⟨y, 2, none⟩ (.slice Aza2 za2.length cza2) = w9 at *
                      go_wp2_with fail
                      go_roundg fj
                      case measure => omega
                      case rel => exact ⟨j + 1, na2, za2, r2, Ana2, Aza2, cna2, cza2, by simp, ⟨by have := HJ2.out; omega, by rw [← HEna2.out, List.length_append]; have := HJ2.out; simp; omega, by rw [← HEza2.out, List.length_append]; have := HJ2.out; simp; omega, by rw [← HEna2.out, HJ2.out.2.2.2.1]; simp, by rw [← HEza2.out, HJ2.out.2.2.2.2.1]; simp, HJ2.out.2.2.2.2.2⟩, HY9, HZ9, HN9, DS9, FR9, FS9⟩
            · skip
              have k1 : ((j : Int) < (kn : Int)) = False := eq_false (by omega)
              obtain rfl : gk = 0 := by omega
              have hA : ns = na := by rw [hjx.2.2.2.1]; simp [nzF]
              have hZ : zs = za := by rw [hjx.2.2.2.2.1]; simp [nzF]
              have hS : t3 = st2 := hjx.2.2.2.2.2
              subst hA
              subst hZ
              subst hS
              clear hjx hjt HJ
              have HNv : Aside0 (∀ k, vp.ownBlock = some k → k < y) := ⟨fun k hk => (HOt.out.1 k hk).2⟩
              go_wp2_with fail
              refine (numS_calls DSr.out.rdr G4.out (by decide) (by decide)).mono ?_
              rintro e_ wk ⟨rfl, hr_, hg_⟩
              have DSk := Aside0.mk (ds_num HPB.out.1 DSr.out hr_ hg_)
              have HYk := Aside0.mk (num_blk HYr.out hg_ (by have := HYP.out; omega))
              have HNk := Aside0.mk (num_R HNr.out hg_ (fun k hk => hk.1))
              have HZk := Aside0.mk (num_R HZr.out hg_ (fun k hk => hk.1))
              have FMk := Aside0.mk (FRr.out.trans (Fr.num hg_ FSr.out))
              have FSk : Aside0 (M ≤ wk.heap.size) := ⟨Nat.le_trans FSr.out hg_.size⟩
              clear HYr HNr HZr FRr FSr
              clear hr_ hg_ DSr
              go_wp2_with fail
              have hu := numS_bd G5.out DSk.out.rdr.2 (by decide)
              have ku : IntKind.u32.wrap u = u := by rw [IntKind.wrap_u32]; omega
              refine (numS_calls DSk.out.rdr G5.out (by decide) (by decide)).mono ?_
              rintro e_ wl ⟨rfl, hr_, hg_⟩
              have DSl := Aside0.mk (ds_num HPB.out.1 DSk.out hr_ hg_)
              have hyl := num_blk HYk.out hg_ (by have := HYP.out; omega)
              have HNl := Aside0.mk (num_R HNk.out hg_ (fun k hk => hk.1))
              have HZl := Aside0.mk (num_R HZk.out hg_ (fun k hk => hk.1))
              have FMl := Aside0.mk (FMk.out.trans (Fr.num hg_ FSk.out))
              have FSl : Aside0 (M ≤ wl.heap.size) := ⟨Nat.le_trans FSk.out hg_.size⟩
              clear HYk HNk HZk FMk FSk
              clear hr_ hg_ DSk
              have c3 : wl.cell? ⟨y, 3, none⟩ = some (.int .i64 0) := blk_cell hyl 3
              have f3 := blk_frozen hyl 3
              have hym := blk_set hyl 3 (.int .i64 z)
              obtain ⟨wm, hwm⟩ : ∃ q, wl.setCell ⟨y, 3, none⟩ (.int .i64 z) = q := ⟨_, rfl⟩
              rw [hwm] at hym
              have c4 : wm.cell? ⟨y, 4, none⟩ = some (.int .u32 0) := blk_cell hym 4
              have f4 := blk_frozen hym 4
              have hyn := blk_set hym 4 (.int .u32 u)
              obtain ⟨wn, hwn⟩ : ∃ q, wm.setCell ⟨y, 4, none⟩ (.int .u32 u) = q := ⟨_, rfl⟩
              rw [hwn] at hyn
              have hbm : Below y wl wm := by rw [← hwm]; exact (Below.refl y wl).setCell (Nat.le_refl _) _
              have hbn : Below y wm wn := by rw [← hwn]; exact (Below.refl y wm).setCell (Nat.le_refl _) _
              have DSn := Aside0.mk (ds_low HPB.out.2 DSl.out ((hbm.trans hbn).mono HYP.out.2.2.1))
              have hfm : Fr M p y wl wm := by rw [← hwm]; exact Fr.set _ _
              have hfn : Fr M p y wm wn := by rw [← hwn]; exact Fr.set _ _
              have FMn := Aside0.mk ((Fr.trans FMl.out hfm).trans hfn)
              have FRn := Aside0.mk (FRt.out.trans (Fr.up (x := x) (N := N) FMn.out (by have := HYP.out; omega) (by have := HYP.out; omega)))
              have HXn : Aside0 (Blk wn x #[.int .i64 nx, .int .i64 sq, .slice Aa ads.length ca, .slice Ad dls.length cd, vp, .slice none 0 0] 66) := ⟨(FMn.out.2 x HYP.out.2.2.2.2.1 (by have := HXP.out; omega) (by have := HYP.out; omega)).trans HXt.out⟩
              have HOn : Aside0 (KPar.R 90 wn N (okpx p x) vp acc) := ⟨Kd.R_mono (Kd.R_step HOt.out (fun k ho hk => FMn.out.2 k (by have := HMM.out; omega) ho.1.1 (by have := ho.2; omega))) (fun k hk => hk.1)⟩
              have HVP : Aside0 (∀ k, M ≤ k → okpx p x k ∧ some k ≠ vp.ownBlock) := ⟨fun k hk => ⟨⟨by have := HYP.out; omega, by have := HYP.out; omega⟩, fun e_ => by have := HNv.out k e_.symm; have := HYP.out; omega⟩⟩
              have hsm : (Kd.int .i64).R 2 wn M (okpx p y) (.slice An ns.length cn) ns := by rw [← hwn]; refine Kd.R_set ?_ hym (by decide) 4 _; rw [← hwm]; exact Kd.R_set HNl.out hyl (by decide) 3 _
              have hsz : (Kd.int .i64).R 3 wn M (okpx p y) (.slice Az zs.length cz) zs := by rw [← hwn]; refine Kd.R_set ?_ hym (by decide) 4 _; rw [← hwm]; exact Kd.R_set HZl.out hyl (by decide) 3 _
              have HNn := Aside0.mk (Kd.R_lower (Kd.R_mono (Kd.R_bound hsm) (ok' := fun k => M ≤ k) (fun k hk => hk.2.1)) (show N ≤ M by have := HYP.out; omega))
              have HZn := Aside0.mk (Kd.R_lower (Kd.R_mono (Kd.R_bound hsz) (ok' := fun k => M ≤ k) (fun k hk => hk.2.1)) (show N ≤ M by have := HYP.out; omega))
              have HNS : Aside0 (N ≤ wn.heap.size) := ⟨by have := FMn.out.1; have := HMM.out; have := HYP.out; omega⟩
              have HFR : Aside0 (∀ k, wn.heap.size ≤ k → okpx p x k) := ⟨fun k hk => by have := ds_size DSn.out; have := blk_lt HXn.out; exact ⟨by omega, by omega⟩⟩
              have x0 : wn.cell? ⟨y, 0, none⟩ = some (.int .i64 g) := blk_cell hyn 0
              have x1 : wn.cell? ⟨y, 1, none⟩ = some (.slice An ns.length cn) := blk_cell hyn 1
              have x2 : wn.cell? ⟨y, 2, none⟩ = some (.slice Az zs.length cz) := blk_cell hyn 2
              have x3 : wn.cell? ⟨y, 3, none⟩ = some (.int .i64 z) := blk_cell hyn 3
              have x4 : wn.cell? ⟨y, 4, none⟩ = some (.int .u32 u) := blk_cell hyn 4
              have x5 : wn.cell? ⟨x, 4, none⟩ = some vp := blk_cell HXn.out 4
              clear hfm hfn hu hyl hym hyn hbm hbn hsm hsz HNl HZl FMl FSl HXt HOt FRt DSl
              go_wp2_with ((with_reducible refine gate_builtin (b := .append) (xs := #[.tmp 80, .tmp 82]) rfl ?_); at_builtin; go_must (refine Kd.R_append KPar (w0 := wn) N rfl (.tmp 80) (.tmp 82) 64 90 (.agg #[.int .i64 0, .slice none 0 0, .slice none 0 0, .int .i64 0, .int .u32 0]) 72 rfl Try.underlying64 info90 rfl (by decide) (by decide) vp acc (g, ns, zs, z, u) [.int .i64 g, .slice An ns.length cn, .slice Az zs.length cz, .int .i64 z, .int .u32 u] (okpx p x) (fun k => M ≤ k) ?hs_ ?hx_ (par_M HNn.out HZn.out) HVP.out (fun k hk => HFR.out k hk) HOn.out (Below.refl _ _) HNS.out (by have := HI.out; have := HMA.out; omega) ?_; (case hs_ => rfl); (case hx_ => rfl); intro v5 w5 ho hb hg hat; obtain ⟨acc2, ha2⟩ : ∃ q, acc ++ [(g, ns, zs, z, u)] = q := ⟨_, rfl⟩; rw [ha2] at ho; have HA2 := Aside0.mk ha2; obtain ⟨A5, c5, e5⟩ := Kd.R_slice ho; subst e5; have HO5 := Aside0.mk ho; have DS5 := Aside0.mk (ds_low HPB.out.2 DSn.out (hb.mono HNP.out.1)); have FR5 := Aside0.mk (FRn.out.trans (Fr.below hb (Nat.le_refl _))); have hx5 := blk_grown HXn.out hg (Kd.R_ne HOn.out HXn.out (by decide)); have HX5 := Aside0.mk hx5; have z2 : w5.cell? ⟨x, 4, none⟩ = some vp := blk_cell hx5 4; have zf := blk_frozen hx5 4; clear ho hb hg hat hx5 ha2))
              go_roundg f
              case measure => omega
              case rel => exact ⟨i + 1, acc2, t5, .slice A5 acc2.length c5, by simp, ⟨by have := HI.out; omega, by rw [← HA2.out, List.length_append]; have := HI.out; simp; omega, by rw [← HA2.out, HI2.out.2.2.1]; simp, HI2.out.2.2.2⟩, ⟨blk_set HX5.out 4 _⟩, ⟨Kd.R_set HO5.out HX5.out (by decide) 4 _⟩, ⟨ds_low HPB.out.2 DS5.out ((Below.refl _ _).setCell (by have := HXP.out; show p + 1 ≤ x; omega) _)⟩, ⟨FR5.out.trans (Fr.set _ _)⟩⟩
        · have k0 : ((i : Int) < (mP : Int)) = False := eq_false (by omega)
          obtain rfl : gk = 0 := by omega
          have hA : prs = acc := by rw [hix.2.2.1]; simp [parsF]
          have hS : s7 = st := hix.2.2.2
          subst hA
          subst hS
          obtain ⟨Ap, cp, e_⟩ := Kd.R_slice HO.out
          subst e_
          have HOe := Aside0.mk (Fr.R HOc.out FRr.out (Nat.le_of_eq HNP.out.2.2))
          have HDe := Aside0.mk (Fr.R HDc.out FRr.out (Nat.le_of_eq HNP.out.2.2))
          have HOp := Aside0.mk (Kd.R_lower HO.out HNP.out.1)
          clear hix hlt HI HOc HDc FRr HO
          go_wp2_with fail
          refine (list_calls DSr.out.rdr).mono ?_
          rintro e_ wa ⟨vr, rfl, ho, hr, hg⟩
          rw [H8.out] at ho hr
          have DSa := Aside0.mk (ds_num HPB.out.1 DSr.out hr hg)
          have hxa := num_blk HX.out hg (by have := HXP.out; omega)
          have HOa := Aside0.mk (num_R HOe.out hg (fun k hk => hk.1))
          have HDa := Aside0.mk (num_R HDe.out hg (fun k hk => hk.1))
          have HPa := Aside0.mk (num_R HOp.out hg (fun k hk => hk.1))
          have HRa := Aside0.mk (Kd.R_lower (Kd.R_mono (Kd.R_bound ho) (ok' := okpx p x) (fun k hk => ⟨by have := ds_size DSr.out; have := hk.2.1; omega, by have := blk_lt HX.out; have := hk.2.1; omega⟩)) (ds_size DSr.out))
          obtain ⟨Ar, cr, e_⟩ := Kd.R_slice ho
          subst e_
          have z2 : wa.cell? ⟨x, 5, none⟩ = some (.slice none 0 0) := blk_cell hxa 5
          have zf := blk_frozen hxa 5
          have hxf := blk_set hxa 5 (.slice Ar drs.length cr)
          obtain ⟨wf, hwf⟩ : ∃ q, wa.setCell ⟨x, 5, none⟩ (.slice Ar drs.length cr) = q := ⟨_, rfl⟩
          have DSf : Aside0 (DS w B p wf s8) := ⟨by rw [← hwf]; exact ds_low HPB.out.2 DSa.out ((Below.refl _ _).setCell (by have := HXP.out; show p + 1 ≤ x; omega) _)⟩
          have HMf : Aside0 (KEd.M wf (p + 1) (okpx p x) (nx, sq, ads, dls, prs, drs) [.int .i64 nx, .int .i64 sq, .slice Aa ads.length ca, .slice Ad dls.length cd, .slice Ap prs.length cp, .slice Ar drs.length cr]) := ⟨by rw [← hwf]; exact ed_M (Kd.R_set HOa.out hxa (by decide) 5 _) (Kd.R_set HDa.out hxa (by decide) 5 _) (Kd.R_set HPa.out hxa (by decide) 5 _) (Kd.R_set HRa.out hxa (by decide) 5 _)⟩
          rw [hwf] at hxf
          have HXf : Aside0 (Blk wf x #[.int .i64 nx, .int .i64 sq, .slice Aa ads.length ca, .slice Ad dls.length cd, .slice Ap prs.length cp, .slice Ar drs.length cr] 66) := ⟨hxf⟩
          clear ho hr hg hxa hxf HOa HDa HPa HRa DSa DSr HX HOe HDe HOp
          go_wp2_with fail
          clear z2 zf hwf
          have HDN := Aside0.mk (fun w' h => done_calls (w := w') (p := p) (l := s8.1) (bad := s8.2) h)
          have HDE := HD.out
          obtain ⟨dn, hdn⟩ : ∃ q, (!s8.2 && decide (s8.1.length = 0)) = q := ⟨_, rfl⟩
          rw [hdn] at HDN HDE
          clear hdn
          cases dn with
          | false =>
            have HDE : Aside0 (DE = ((nx, sq, ads, dls, prs, drs), false)) := ⟨HDE⟩
            refine wp_region_mix (fun w_ w1_ => w1_.heap[x]? = w_.heap[x]?) [(false, 0), (false, 1), (true, 2), (false, 3), (false, 4), (true, 5), (false, 6), (false, 7), (false, 8), (false, 9), (false, 11), (true, 10), (true, 12), (false, 13), (true, 14), (false, 15)] (by kernel_rfl) (by kernel_rfl) (fun _ => rfl) (fun h h' => h'.trans h) (fun wd hhp_ hbw_ => ?_)
            have DSd := Aside0.mk (ds_new HPB.out.2 DSf.out hbw_)
            have HXd := Aside0.mk (blk_below HXf.out hbw_)
            have HMd := Aside0.mk (Kd.M_below HMf.out hbw_)
            clear hhp_ hbw_
            (refine mix_read (o := { dst := some 89, op := Op.load 66 (Operand.tmp 5), type := 66, pos := "edit.go:130", after := #[], guard := none }) rfl (by first | rfl | (simp [Region.wanted, yielded]; done)) (by intro w_ hE_; (try dsimp only at hE_); have hx_ := hE_.trans HXd.out; have z0_ : w_.cell? ⟨x, 0, none⟩ = some (.int .i64 nx) := blk_cell hx_ 0; have z1_ : w_.cell? ⟨x, 1, none⟩ = some (.int .i64 sq) := blk_cell hx_ 1; have z2_ : w_.cell? ⟨x, 2, none⟩ = some (.slice Aa ads.length ca) := blk_cell hx_ 2; have z3_ : w_.cell? ⟨x, 3, none⟩ = some (.slice Ad dls.length cd) := blk_cell hx_ 3; have z4_ : w_.cell? ⟨x, 4, none⟩ = some (.slice Ap prs.length cp) := blk_cell hx_ 4; have z5_ : w_.cell? ⟨x, 5, none⟩ = some (.slice Ar drs.length cr) := blk_cell hx_ 5; first | (go_simp; done) | (go_simp; rfl)) ?_)
            (try simp only [Act.put, List.setIfInBounds_toArray, List.set_cons_zero, List.set_cons_succ])
            (refine mix_read (o := { dst := some 90, op := Op.move (Operand.tmp 4), type := 104, pos := "edit.go:130", after := #[], guard := none }) rfl (by first | rfl | (simp [Region.wanted, yielded]; done)) (by intro w_ hE_; (try dsimp only at hE_); first | (go_simp; done) | (go_simp; rfl)) ?_)
            (try simp only [Act.put, List.setIfInBounds_toArray, List.set_cons_zero, List.set_cons_succ])
            refine mix_call (o := { dst := some 91, op := Op.call { callee := Callee.value (Operand.func 77), args := #[Operand.tmp 90], argTypes := #[104] }, type := 4, pos := "edit.go:130", after := #[{ on := 1, ground := Ground.data }], guard := none }) rfl (by first | rfl | (simp [Region.wanted, yielded]; done)) (by first | (go_simp; done) | (go_simp; exact ⟨rfl, rfl⟩) | (go_simp; rfl)) ?_
            refine (HDN.out _ DSd.out.rdr.1).mono ?_
            rintro e_ x1 ⟨rfl, rfl⟩
            refine ⟨_, rfl, rfl, ?_⟩
            obtain ⟨ya, yb, yc, yd, ye, yf, e1, e2, e3, e4, e5, e6, ⟨z1, z2, z3, z4, z5, z6⟩, ⟨f1, f2, f3, f4, f5, f6⟩, hzb, hzg⟩ := store6 DSd.out.blk (.int .i64 nx) (.int .i64 sq) (.slice Aa ads.length ca) (.slice Ad dls.length cd) (.slice Ap prs.length cp) (.slice Ar drs.length cr)
            have hzx : yf.heap[x]? = wd.heap[x]? := hzg.block x (blk_lt HXd.out) (by have := HXP.out; have := HPB.out; intro e_; injection e_; omega)
            (try simp only [Act.put, List.setIfInBounds_toArray, List.set_cons_zero, List.set_cons_succ])
            (refine mix_read (o := { dst := some 92, op := Op.move (Operand.tmp 91), type := 4, pos := "edit.go:130", after := #[{ on := 2, ground := Ground.data }, { on := 2, ground := Ground.chain }], guard := none }) rfl (by first | rfl | (simp [Region.wanted, yielded]; done)) (by intro w_ hE_; (try dsimp only at hE_); first | (go_simp; done) | (go_simp; rfl)) ?_)
            (try simp only [Act.put, List.setIfInBounds_toArray, List.set_cons_zero, List.set_cons_succ])
            refine mix_skip (o := { dst := some 93, op := Op.load 66 (Operand.tmp 5), type := 66, pos := "edit.go:130", after := #[{ on := 3, ground := Ground.guard }], guard := some (3, true) }) rfl (by first | rfl | (simp [Region.wanted, yielded]; done)) ?_
            (try simp only [Act.put, List.setIfInBounds_toArray, List.set_cons_zero, List.set_cons_succ])
            refine mix_skip (o := { dst := some 94, op := Op.call { callee := Callee.value (Operand.func 46), args := #[Operand.tmp 93], argTypes := #[66] }, type := 47, pos := "edit.go:130", after := #[{ on := 4, ground := Ground.data }, { on := 3, ground := Ground.chain }, { on := 3, ground := Ground.guard }], guard := some (3, true) }) rfl (by first | rfl | (simp [Region.wanted, yielded]; done)) ?_
            (try simp only [Act.put, List.setIfInBounds_toArray, List.set_cons_zero, List.set_cons_succ])
            refine mix_skip (o := { dst := some 95, op := Op.binOp BinOp.eql 47 (Operand.tmp 94) (Operand.const (Value.int IntKind.i64 0)) 47, type := 4, pos := "edit.go:130", after := #[{ on := 5, ground := Ground.data }, { on := 3, ground := Ground.guard }], guard := some (3, true) }) rfl (by first | rfl | (simp [Region.wanted, yielded]; done)) ?_
            (try simp only [Act.put, List.setIfInBounds_toArray, List.set_cons_zero, List.set_cons_succ])
            (refine mix_read (o := { dst := some 96, op := Op.pick (Operand.tmp 92) (Operand.tmp 95) (Operand.const (Value.bool false)), type := 4, pos := "edit.go:130", after := #[{ on := 3, ground := Ground.data }, { on := 6, ground := Ground.data }], guard := none }) rfl (by first | rfl | (simp [Region.wanted, yielded]; done)) (by intro w_ hE_; (try dsimp only at hE_); first | (go_simp; done) | (go_simp; rfl)) ?_)
            (try simp only [Act.put, List.setIfInBounds_toArray, List.set_cons_zero, List.set_cons_succ])
            (refine mix_read (o := { dst := some 97, op := Op.move (Operand.tmp 96), type := 4, pos := "edit.go:130", after := #[{ on := 7, ground := Ground.data }, { on := 5, ground := Ground.chain }], guard := none }) rfl (by first | rfl | (simp [Region.wanted, yielded]; done)) (by intro w_ hE_; (try dsimp only at hE_); first | (go_simp; done) | (go_simp; rfl)) ?_)
            (try simp only [Act.put, List.setIfInBounds_toArray, List.set_cons_zero, List.set_cons_succ])
            refine mix_skip (o := { dst := some 98, op := Op.load 66 (Operand.tmp 5), type := 66, pos := "edit.go:130", after := #[{ on := 8, ground := Ground.guard }], guard := some (8, true) }) rfl (by first | rfl | (simp [Region.wanted, yielded]; done)) ?_
            (try simp only [Act.put, List.setIfInBounds_toArray, List.set_cons_zero, List.set_cons_succ])
            refine mix_skip (o := { dst := some 100, op := Op.move (Operand.tmp 0), type := 22, pos := "edit.go:130", after := #[{ on := 8, ground := Ground.guard }], guard := some (8, true) }) rfl (by first | rfl | (simp [Region.wanted, yielded]; done)) ?_
            (try simp only [Act.put, List.setIfInBounds_toArray, List.set_cons_zero, List.set_cons_succ])
            refine mix_skip (o := { dst := some 99, op := Op.call { callee := Callee.value (Operand.func 60), args := #[Operand.tmp 98], argTypes := #[66] }, type := 22, pos := "edit.go:130", after := #[{ on := 9, ground := Ground.data }, { on := 8, ground := Ground.chain }, { on := 8, ground := Ground.guard }], guard := some (8, true) }) rfl (by first | rfl | (simp [Region.wanted, yielded]; done)) ?_
            (try simp only [Act.put, List.setIfInBounds_toArray, List.set_cons_zero, List.set_cons_succ])
            refine mix_skip (o := { dst := some 101, op := Op.call { callee := Callee.value (Operand.func 78), args := #[Operand.tmp 99, Operand.tmp 100], argTypes := #[22, 22] }, type := 4, pos := "edit.go:130", after := #[{ on := 10, ground := Ground.data }, { on := 11, ground := Ground.data }, { on := 10, ground := Ground.chain }, { on := 8, ground := Ground.guard }], guard := some (8, true) }) rfl (by first | rfl | (simp [Region.wanted, yielded]; done)) ?_
            (try simp only [Act.put, List.setIfInBounds_toArray, List.set_cons_zero, List.set_cons_succ])
            (refine mix_read (o := { dst := some 102, op := Op.pick (Operand.tmp 97) (Operand.tmp 101) (Operand.const (Value.bool false)), type := 4, pos := "edit.go:130", after := #[{ on := 8, ground := Ground.data }, { on := 12, ground := Ground.data }, { on := 14, ground := Ground.gcOnly Departure.lateStores }], guard := none }) rfl (by first | rfl | (simp [Region.wanted, yielded]; done)) (by intro w_ hE_; (try dsimp only at hE_); first | (go_simp; done) | (go_simp; rfl)) ?_)
            (try simp only [Act.put, List.setIfInBounds_toArray, List.set_cons_zero, List.set_cons_succ])
            refine mix_store (o := { dst := none, op := Op.store 66 (Operand.tmp 2) (Operand.tmp 89), type := 0, pos := "edit.go:130", after := #[{ on := 0, ground := Ground.data }, { on := 12, ground := Ground.chain }, { on := 0, ground := Ground.phase }, { on := 1, ground := Ground.textOnly Departure.lateStores }, { on := 2, ground := Ground.textOnly Departure.lateStoresUnsure }, { on := 3, ground := Ground.textOnly Departure.lateStores }, { on := 4, ground := Ground.textOnly Departure.lateStores }, { on := 5, ground := Ground.textOnly Departure.lateStoresUnsure }, { on := 6, ground := Ground.textOnly Departure.lateStores }, { on := 7, ground := Ground.textOnly Departure.lateStores }, { on := 8, ground := Ground.textOnly Departure.lateStores }, { on := 9, ground := Ground.textOnly Departure.lateStores }, { on := 10, ground := Ground.textOnly Departure.lateStoresUnsure }, { on := 11, ground := Ground.textOnly Departure.lateStores }, { on := 12, ground := Ground.textOnly Departure.lateStoresUnsure }, { on := 13, ground := Ground.textOnly Departure.lateStores }], guard := none }) (w1 := yf) rfl (by first | rfl | (simp [Region.wanted, yielded]; done)) (by first | (go_simp; done) | (go_simp; rfl)) (hzx) ?_
            (try simp only [Act.put, List.setIfInBounds_toArray, List.set_cons_zero, List.set_cons_succ])
            (refine mix_read (o := { dst := some 3, op := Op.assign (Operand.tmp 102), type := 4, pos := "edit.go:130", after := #[{ on := 13, ground := Ground.data }, { on := 14, ground := Ground.chain }, { on := 0, ground := Ground.phase }, { on := 1, ground := Ground.phase }, { on := 2, ground := Ground.phase }, { on := 3, ground := Ground.phase }, { on := 4, ground := Ground.phase }, { on := 5, ground := Ground.phase }, { on := 6, ground := Ground.phase }, { on := 7, ground := Ground.phase }, { on := 8, ground := Ground.phase }, { on := 9, ground := Ground.phase }, { on := 10, ground := Ground.phase }, { on := 11, ground := Ground.phase }, { on := 12, ground := Ground.phase }, { on := 13, ground := Ground.phase }, { on := 14, ground := Ground.phase }], guard := none }) rfl (by first | rfl | (simp [Region.wanted, yielded]; done)) (by intro w_ hE_; (try dsimp only at hE_); first | (go_simp; done) | (go_simp; rfl)) ?_)
            (try simp only [Act.put, List.setIfInBounds_toArray, List.set_cons_zero, List.set_cons_succ])
            refine mix_nil ?_
            (try simp only [Exit.then])
            go_wp2
            (try simp only [Exit.inBlock, Exit.then])
            refine bodyPost_ret (results_ct rfl _ _ B 66 #[.int .i64 nx, .int .i64 sq, .slice Aa ads.length ca, .slice Ad dls.length cd, .slice Ap prs.length cp, .slice Ar drs.length cr] (0, 0) _ rfl hzb Try.underlying66 rfl (by kernel_rfl)) rfl ?_
            refine ⟨.slice Aa ads.length ca, .slice Ad dls.length cd, .slice Ap prs.length cp, .slice Ar drs.length cr, by rw [HDE.out]; rfl, ?_, pw_below_grown DSd.out.bel (some B) (by have := blk_lt DSd.out.blk; omega) hzg (fun q hq => by injection hq with hq; omega)⟩
            rw [HDE.out]
            exact KEd.M_lower (by have := HPB.out; omega) (KEd.M_mono (fun _ _ => trivial) (Kd.M_step (KEd.M_mono (ok' := fun k => p + 1 ≤ k) (fun k hk => hk.2.1) (KEd.M_bound HMd.out)) (fun k hk hlt => hzg.block k hlt (by intro e_; injection e_ with e_; have := HPB.out; omega))))
          | true =>
            have HCK := Aside0.mk (fun w h => check_calls (nx, sq, ads, dls, prs, drs) (.agg #[.int .i64 nx, .int .i64 sq, .slice Aa ads.length ca, .slice Ad dls.length cd, .slice Ap prs.length cp, .slice Ar drs.length cr]) w h)
            cases hok : edOk (nx, sq, ads, dls, prs, drs) with
            | false =>
              rw [edC_bad hok] at HCK
              rw [hok] at HDE
              have HDE : Aside0 (DE = ((nx, sq, ads, dls, prs, drs), false)) := ⟨HDE⟩
              clear hok
              refine wp_region_mix (fun w_ w1_ => w1_.heap[x]? = w_.heap[x]?) [(false, 0), (false, 1), (true, 2), (false, 3), (false, 4), (true, 5), (false, 6), (false, 7), (false, 8), (false, 9), (false, 11), (true, 10), (true, 12), (false, 13), (true, 14), (false, 15)] (by kernel_rfl) (by kernel_rfl) (fun _ => rfl) (fun h h' => h'.trans h) (fun wd hhp_ hbw_ => ?_)
              have DSd := Aside0.mk (ds_new HPB.out.2 DSf.out hbw_)
              have HXd := Aside0.mk (blk_below HXf.out hbw_)
              have HMd := Aside0.mk (Kd.M_below HMf.out hbw_)
              clear hhp_ hbw_
              (refine mix_read (o := { dst := some 89, op := Op.load 66 (Operand.tmp 5), type := 66, pos := "edit.go:130", after := #[], guard := none }) rfl (by first | rfl | (simp [Region.wanted, yielded]; done)) (by intro w_ hE_; (try dsimp only at hE_); have hx_ := hE_.trans HXd.out; have z0_ : w_.cell? ⟨x, 0, none⟩ = some (.int .i64 nx) := blk_cell hx_ 0; have z1_ : w_.cell? ⟨x, 1, none⟩ = some (.int .i64 sq) := blk_cell hx_ 1; have z2_ : w_.cell? ⟨x, 2, none⟩ = some (.slice Aa ads.length ca) := blk_cell hx_ 2; have z3_ : w_.cell? ⟨x, 3, none⟩ = some (.slice Ad dls.length cd) := blk_cell hx_ 3; have z4_ : w_.cell? ⟨x, 4, none⟩ = some (.slice Ap prs.length cp) := blk_cell hx_ 4; have z5_ : w_.cell? ⟨x, 5, none⟩ = some (.slice Ar drs.length cr) := blk_cell hx_ 5; first | (go_simp; done) | (go_simp; rfl)) ?_)
              (try simp only [Act.put, List.setIfInBounds_toArray, List.set_cons_zero, List.set_cons_succ])
              (refine mix_read (o := { dst := some 90, op := Op.move (Operand.tmp 4), type := 104, pos := "edit.go:130", after := #[], guard := none }) rfl (by first | rfl | (simp [Region.wanted, yielded]; done)) (by intro w_ hE_; (try dsimp only at hE_); first | (go_simp; done) | (go_simp; rfl)) ?_)
              (try simp only [Act.put, List.setIfInBounds_toArray, List.set_cons_zero, List.set_cons_succ])
              refine mix_call (o := { dst := some 91, op := Op.call { callee := Callee.value (Operand.func 77), args := #[Operand.tmp 90], argTypes := #[104] }, type := 4, pos := "edit.go:130", after := #[{ on := 1, ground := Ground.data }], guard := none }) rfl (by first | rfl | (simp [Region.wanted, yielded]; done)) (by first | (go_simp; done) | (go_simp; exact ⟨rfl, rfl⟩) | (go_simp; rfl)) ?_
              refine (HDN.out _ DSd.out.rdr.1).mono ?_
              rintro e_ x1 ⟨rfl, rfl⟩
              refine ⟨_, rfl, rfl, ?_⟩
              (try simp only [Act.put, List.setIfInBounds_toArray, List.set_cons_zero, List.set_cons_succ])
              (refine mix_read (o := { dst := some 92, op := Op.move (Operand.tmp 91), type := 4, pos := "edit.go:130", after := #[{ on := 2, ground := Ground.data }, { on := 2, ground := Ground.chain }], guard := none }) rfl (by first | rfl | (simp [Region.wanted, yielded]; done)) (by intro w_ hE_; (try dsimp only at hE_); first | (go_simp; done) | (go_simp; rfl)) ?_)
              (try simp only [Act.put, List.setIfInBounds_toArray, List.set_cons_zero, List.set_cons_succ])
              first | (refine mix_read (o := { dst := some 93, op := Op.load 66 (Operand.tmp 5), type := 66, pos := "edit.go:130", after := #[{ on := 3, ground := Ground.guard }], guard := some (3, true) }) rfl (by first | rfl | (simp [Region.wanted, yielded]; done)) (by intro w_ hE_; (try dsimp only at hE_); have hx_ := hE_.trans HXd.out; have z0_ : w_.cell? ⟨x, 0, none⟩ = some (.int .i64 nx) := blk_cell hx_ 0; have z1_ : w_.cell? ⟨x, 1, none⟩ = some (.int .i64 sq) := blk_cell hx_ 1; have z2_ : w_.cell? ⟨x, 2, none⟩ = some (.slice Aa ads.length ca) := blk_cell hx_ 2; have z3_ : w_.cell? ⟨x, 3, none⟩ = some (.slice Ad dls.length cd) := blk_cell hx_ 3; have z4_ : w_.cell? ⟨x, 4, none⟩ = some (.slice Ap prs.length cp) := blk_cell hx_ 4; have z5_ : w_.cell? ⟨x, 5, none⟩ = some (.slice Ar drs.length cr) := blk_cell hx_ 5; first | (go_simp; done) | (go_simp; rfl)) ?_) | (refine mix_skip (o := { dst := some 93, op := Op.load 66 (Operand.tmp 5), type := 66, pos := "edit.go:130", after := #[{ on := 3, ground := Ground.guard }], guard := some (3, true) }) rfl (by first | rfl | (simp [Region.wanted, yielded]; done)) ?_)
              (try simp only [Act.put, List.setIfInBounds_toArray, List.set_cons_zero, List.set_cons_succ])
              refine mix_call (o := { dst := some 94, op := Op.call { callee := Callee.value (Operand.func 46), args := #[Operand.tmp 93], argTypes := #[66] }, type := 47, pos := "edit.go:130", after := #[{ on := 4, ground := Ground.data }, { on := 3, ground := Ground.chain }, { on := 3, ground := Ground.guard }], guard := some (3, true) }) rfl (by first | rfl | (simp [Region.wanted, yielded]; done)) (by first | (go_simp; done) | (go_simp; exact ⟨rfl, rfl⟩) | (go_simp; rfl)) ?_
              refine (HCK.out wd (ed_of_K (KEd.K_of_M HMd.out))).mono ?_
              rintro e_ x2 ⟨rfl, hb_⟩
              refine ⟨_, rfl, (blk_below HXd.out hb_).trans HXd.out.symm, ?_⟩
              have DSc := Aside0.mk (ds_new HPB.out.2 DSd.out hb_)
              have HXc := Aside0.mk (blk_below HXd.out hb_)
              have HMc := Aside0.mk (Kd.M_below HMd.out hb_)
              have hBc := hb_
              obtain ⟨ya, yb, yc, yd, ye, yf, e1, e2, e3, e4, e5, e6, ⟨z1, z2, z3, z4, z5, z6⟩, ⟨f1, f2, f3, f4, f5, f6⟩, hzb, hzg⟩ := store6 DSc.out.blk (.int .i64 nx) (.int .i64 sq) (.slice Aa ads.length ca) (.slice Ad dls.length cd) (.slice Ap prs.length cp) (.slice Ar drs.length cr)
              have hzx : yf.heap[x]? = x2.heap[x]? := hzg.block x (blk_lt HXc.out) (by have := HXP.out; have := HPB.out; intro e_; injection e_; omega)
              (try simp only [Act.put, List.setIfInBounds_toArray, List.set_cons_zero, List.set_cons_succ])
              first | (refine mix_read (o := { dst := some 95, op := Op.binOp BinOp.eql 47 (Operand.tmp 94) (Operand.const (Value.int IntKind.i64 0)) 47, type := 4, pos := "edit.go:130", after := #[{ on := 5, ground := Ground.data }, { on := 3, ground := Ground.guard }], guard := some (3, true) }) rfl (by first | rfl | (simp [Region.wanted, yielded]; done)) (by intro w_ hE_; (try dsimp only at hE_); first | (go_simp; done) | (go_simp; rfl)) ?_) | (refine mix_skip (o := { dst := some 95, op := Op.binOp BinOp.eql 47 (Operand.tmp 94) (Operand.const (Value.int IntKind.i64 0)) 47, type := 4, pos := "edit.go:130", after := #[{ on := 5, ground := Ground.data }, { on := 3, ground := Ground.guard }], guard := some (3, true) }) rfl (by first | rfl | (simp [Region.wanted, yielded]; done)) ?_)
              (try simp only [Act.put, List.setIfInBounds_toArray, List.set_cons_zero, List.set_cons_succ])
              (refine mix_read (o := { dst := some 96, op := Op.pick (Operand.tmp 92) (Operand.tmp 95) (Operand.const (Value.bool false)), type := 4, pos := "edit.go:130", after := #[{ on := 3, ground := Ground.data }, { on := 6, ground := Ground.data }], guard := none }) rfl (by first | rfl | (simp [Region.wanted, yielded]; done)) (by intro w_ hE_; (try dsimp only at hE_); first | (go_simp; done) | (go_simp; rfl)) ?_)
              (try simp only [Act.put, List.setIfInBounds_toArray, List.set_cons_zero, List.set_cons_succ])
              (refine mix_read (o := { dst := some 97, op := Op.move (Operand.tmp 96), type := 4, pos := "edit.go:130", after := #[{ on := 7, ground := Ground.data }, { on := 5, ground := Ground.chain }], guard := none }) rfl (by first | rfl | (simp [Region.wanted, yielded]; done)) (by intro w_ hE_; (try dsimp only at hE_); first | (go_simp; done) | (go_simp; rfl)) ?_)
              (try simp only [Act.put, List.setIfInBounds_toArray, List.set_cons_zero, List.set_cons_succ])
              refine mix_skip (o := { dst := some 98, op := Op.load 66 (Operand.tmp 5), type := 66, pos := "edit.go:130", after := #[{ on := 8, ground := Ground.guard }], guard := some (8, true) }) rfl (by first | rfl | (simp [Region.wanted, yielded]; done)) ?_
              (try simp only [Act.put, List.setIfInBounds_toArray, List.set_cons_zero, List.set_cons_succ])
              refine mix_skip (o := { dst := some 100, op := Op.move (Operand.tmp 0), type := 22, pos := "edit.go:130", after := #[{ on := 8, ground := Ground.guard }], guard := some (8, true) }) rfl (by first | rfl | (simp [Region.wanted, yielded]; done)) ?_
              (try simp only [Act.put, List.setIfInBounds_toArray, List.set_cons_zero, List.set_cons_succ])
              refine mix_skip (o := { dst := some 99, op := Op.call { callee := Callee.value (Operand.func 60), args := #[Operand.tmp 98], argTypes := #[66] }, type := 22, pos := "edit.go:130", after := #[{ on := 9, ground := Ground.data }, { on := 8, ground := Ground.chain }, { on := 8, ground := Ground.guard }], guard := some (8, true) }) rfl (by first | rfl | (simp [Region.wanted, yielded]; done)) ?_
              (try simp only [Act.put, List.setIfInBounds_toArray, List.set_cons_zero, List.set_cons_succ])
              refine mix_skip (o := { dst := some 101, op := Op.call { callee := Callee.value (Operand.func 78), args := #[Operand.tmp 99, Operand.tmp 100], argTypes := #[22, 22] }, type := 4, pos := "edit.go:130", after := #[{ on := 10, ground := Ground.data }, { on := 11, ground := Ground.data }, { on := 10, ground := Ground.chain }, { on := 8, ground := Ground.guard }], guard := some (8, true) }) rfl (by first | rfl | (simp [Region.wanted, yielded]; done)) ?_
              (try simp only [Act.put, List.setIfInBounds_toArray, List.set_cons_zero, List.set_cons_succ])
              (refine mix_read (o := { dst := some 102, op := Op.pick (Operand.tmp 97) (Operand.tmp 101) (Operand.const (Value.bool false)), type := 4, pos := "edit.go:130", after := #[{ on := 8, ground := Ground.data }, { on := 12, ground := Ground.data }, { on := 14, ground := Ground.gcOnly Departure.lateStores }], guard := none }) rfl (by first | rfl | (simp [Region.wanted, yielded]; done)) (by intro w_ hE_; (try dsimp only at hE_); first | (go_simp; done) | (go_simp; rfl)) ?_)
              (try simp only [Act.put, List.setIfInBounds_toArray, List.set_cons_zero, List.set_cons_succ])
              refine mix_store (o := { dst := none, op := Op.store 66 (Operand.tmp 2) (Operand.tmp 89), type := 0, pos := "edit.go:130", after := #[{ on := 0, ground := Ground.data }, { on := 12, ground := Ground.chain }, { on := 0, ground := Ground.phase }, { on := 1, ground := Ground.textOnly Departure.lateStores }, { on := 2, ground := Ground.textOnly Departure.lateStoresUnsure }, { on := 3, ground := Ground.textOnly Departure.lateStores }, { on := 4, ground := Ground.textOnly Departure.lateStores }, { on := 5, ground := Ground.textOnly Departure.lateStoresUnsure }, { on := 6, ground := Ground.textOnly Departure.lateStores }, { on := 7, ground := Ground.textOnly Departure.lateStores }, { on := 8, ground := Ground.textOnly Departure.lateStores }, { on := 9, ground := Ground.textOnly Departure.lateStores }, { on := 10, ground := Ground.textOnly Departure.lateStoresUnsure }, { on := 11, ground := Ground.textOnly Departure.lateStores }, { on := 12, ground := Ground.textOnly Departure.lateStoresUnsure }, { on := 13, ground := Ground.textOnly Departure.lateStores }], guard := none }) (w1 := yf) rfl (by first | rfl | (simp [Region.wanted, yielded]; done)) (by first | (go_simp; done) | (go_simp; rfl)) (hzx) ?_
              (try simp only [Act.put, List.setIfInBounds_toArray, List.set_cons_zero, List.set_cons_succ])
              (refine mix_read (o := { dst := some 3, op := Op.assign (Operand.tmp 102), type := 4, pos := "edit.go:130", after := #[{ on := 13, ground := Ground.data }, { on := 14, ground := Ground.chain }, { on := 0, ground := Ground.phase }, { on := 1, ground := Ground.phase }, { on := 2, ground := Ground.phase }, { on := 3, ground := Ground.phase }, { on := 4, ground := Ground.phase }, { on := 5, ground := Ground.phase }, { on := 6, ground := Ground.phase }, { on := 7, ground := Ground.phase }, { on := 8, ground := Ground.phase }, { on := 9, ground := Ground.phase }, { on := 10, ground := Ground.phase }, { on := 11, ground := Ground.phase }, { on := 12, ground := Ground.phase }, { on := 13, ground := Ground.phase }, { on := 14, ground := Ground.phase }], guard := none }) rfl (by first | rfl | (simp [Region.wanted, yielded]; done)) (by intro w_ hE_; (try dsimp only at hE_); first | (go_simp; done) | (go_simp; rfl)) ?_)
              (try simp only [Act.put, List.setIfInBounds_toArray, List.set_cons_zero, List.set_cons_succ])
              refine mix_nil ?_
              (try simp only [Exit.then])
              go_wp2
              (try simp only [Exit.inBlock, Exit.then])
              refine bodyPost_ret (results_ct rfl _ _ B 66 #[.int .i64 nx, .int .i64 sq, .slice Aa ads.length ca, .slice Ad dls.length cd, .slice Ap prs.length cp, .slice Ar drs.length cr] (0, 0) _ rfl hzb Try.underlying66 rfl (by kernel_rfl)) rfl ?_
              refine ⟨.slice Aa ads.length ca, .slice Ad dls.length cd, .slice Ap prs.length cp, .slice Ar drs.length cr, by rw [HDE.out]; rfl, ?_, pw_below_grown DSc.out.bel (some B) (by have := blk_lt DSc.out.blk; omega) hzg (fun q hq => by injection hq with hq; omega)⟩
              rw [HDE.out]
              exact KEd.M_lower (by have := HPB.out; omega) (KEd.M_mono (fun _ _ => trivial) (Kd.M_step (KEd.M_mono (ok' := fun k => p + 1 ≤ k) (fun k hk => hk.2.1) (KEd.M_bound HMc.out)) (fun k hk hlt => hzg.block k hlt (by intro e_; injection e_ with e_; have := HPB.out; omega))))
            | true =>
              rw [edC_ok hok] at HCK
              rw [hok] at HDE
              have HTX := Aside0.mk (fun w h => text_calls (nx, sq, ads, dls, prs, drs) (.agg #[.int .i64 nx, .int .i64 sq, .slice Aa ads.length ca, .slice Ad dls.length cd, .slice Ap prs.length cp, .slice Ar drs.length cr]) w h hok HGD.out)
              have HTB := Aside0.mk (bys_text hok HGD.out).1
              obtain ⟨TL, hTL⟩ : ∃ q, textL (nx, sq, ads, dls, prs, drs) = q := ⟨_, rfl⟩
              rw [hTL] at HTX HTB HDE
              have HDE : Aside0 (DE = ((nx, sq, ads, dls, prs, drs), decide (TL = b))) := ⟨by rw [HDE]; simp⟩
              clear hok hTL
              refine wp_region_mix (fun w_ w1_ => w1_.heap[x]? = w_.heap[x]?) [(false, 0), (false, 1), (true, 2), (false, 3), (false, 4), (true, 5), (false, 6), (false, 7), (false, 8), (false, 9), (false, 11), (true, 10), (true, 12), (false, 13), (true, 14), (false, 15)] (by kernel_rfl) (by kernel_rfl) (fun _ => rfl) (fun h h' => h'.trans h) (fun wd hhp_ hbw_ => ?_)
              have DSd := Aside0.mk (ds_new HPB.out.2 DSf.out hbw_)
              have HXd := Aside0.mk (blk_below HXf.out hbw_)
              have HMd := Aside0.mk (Kd.M_below HMf.out hbw_)
              clear hhp_ hbw_
              (refine mix_read (o := { dst := some 89, op := Op.load 66 (Operand.tmp 5), type := 66, pos := "edit.go:130", after := #[], guard := none }) rfl (by first | rfl | (simp [Region.wanted, yielded]; done)) (by intro w_ hE_; (try dsimp only at hE_); have hx_ := hE_.trans HXd.out; have z0_ : w_.cell? ⟨x, 0, none⟩ = some (.int .i64 nx) := blk_cell hx_ 0; have z1_ : w_.cell? ⟨x, 1, none⟩ = some (.int .i64 sq) := blk_cell hx_ 1; have z2_ : w_.cell? ⟨x, 2, none⟩ = some (.slice Aa ads.length ca) := blk_cell hx_ 2; have z3_ : w_.cell? ⟨x, 3, none⟩ = some (.slice Ad dls.length cd) := blk_cell hx_ 3; have z4_ : w_.cell? ⟨x, 4, none⟩ = some (.slice Ap prs.length cp) := blk_cell hx_ 4; have z5_ : w_.cell? ⟨x, 5, none⟩ = some (.slice Ar drs.length cr) := blk_cell hx_ 5; first | (go_simp; done) | (go_simp; rfl)) ?_)
              (try simp only [Act.put, List.setIfInBounds_toArray, List.set_cons_zero, List.set_cons_succ])
              (refine mix_read (o := { dst := some 90, op := Op.move (Operand.tmp 4), type := 104, pos := "edit.go:130", after := #[], guard := none }) rfl (by first | rfl | (simp [Region.wanted, yielded]; done)) (by intro w_ hE_; (try dsimp only at hE_); first | (go_simp; done) | (go_simp; rfl)) ?_)
              (try simp only [Act.put, List.setIfInBounds_toArray, List.set_cons_zero, List.set_cons_succ])
              refine mix_call (o := { dst := some 91, op := Op.call { callee := Callee.value (Operand.func 77), args := #[Operand.tmp 90], argTypes := #[104] }, type := 4, pos := "edit.go:130", after := #[{ on := 1, ground := Ground.data }], guard := none }) rfl (by first | rfl | (simp [Region.wanted, yielded]; done)) (by first | (go_simp; done) | (go_simp; exact ⟨rfl, rfl⟩) | (go_simp; rfl)) ?_
              refine (HDN.out _ DSd.out.rdr.1).mono ?_
              rintro e_ x1 ⟨rfl, rfl⟩
              refine ⟨_, rfl, rfl, ?_⟩
              (try simp only [Act.put, List.setIfInBounds_toArray, List.set_cons_zero, List.set_cons_succ])
              (refine mix_read (o := { dst := some 92, op := Op.move (Operand.tmp 91), type := 4, pos := "edit.go:130", after := #[{ on := 2, ground := Ground.data }, { on := 2, ground := Ground.chain }], guard := none }) rfl (by first | rfl | (simp [Region.wanted, yielded]; done)) (by intro w_ hE_; (try dsimp only at hE_); first | (go_simp; done) | (go_simp; rfl)) ?_)
              (try simp only [Act.put, List.setIfInBounds_toArray, List.set_cons_zero, List.set_cons_succ])
              first | (refine mix_read (o := { dst := some 93, op := Op.load 66 (Operand.tmp 5), type := 66, pos := "edit.go:130", after := #[{ on := 3, ground := Ground.guard }], guard := some (3, true) }) rfl (by first | rfl | (simp [Region.wanted, yielded]; done)) (by intro w_ hE_; (try dsimp only at hE_); have hx_ := hE_.trans HXd.out; have z0_ : w_.cell? ⟨x, 0, none⟩ = some (.int .i64 nx) := blk_cell hx_ 0; have z1_ : w_.cell? ⟨x, 1, none⟩ = some (.int .i64 sq) := blk_cell hx_ 1; have z2_ : w_.cell? ⟨x, 2, none⟩ = some (.slice Aa ads.length ca) := blk_cell hx_ 2; have z3_ : w_.cell? ⟨x, 3, none⟩ = some (.slice Ad dls.length cd) := blk_cell hx_ 3; have z4_ : w_.cell? ⟨x, 4, none⟩ = some (.slice Ap prs.length cp) := blk_cell hx_ 4; have z5_ : w_.cell? ⟨x, 5, none⟩ = some (.slice Ar drs.length cr) := blk_cell hx_ 5; first | (go_simp; done) | (go_simp; rfl)) ?_) | (refine mix_skip (o := { dst := some 93, op := Op.load 66 (Operand.tmp 5), type := 66, pos := "edit.go:130", after := #[{ on := 3, ground := Ground.guard }], guard := some (3, true) }) rfl (by first | rfl | (simp [Region.wanted, yielded]; done)) ?_)
              (try simp only [Act.put, List.setIfInBounds_toArray, List.set_cons_zero, List.set_cons_succ])
              refine mix_call (o := { dst := some 94, op := Op.call { callee := Callee.value (Operand.func 46), args := #[Operand.tmp 93], argTypes := #[66] }, type := 47, pos := "edit.go:130", after := #[{ on := 4, ground := Ground.data }, { on := 3, ground := Ground.chain }, { on := 3, ground := Ground.guard }], guard := some (3, true) }) rfl (by first | rfl | (simp [Region.wanted, yielded]; done)) (by first | (go_simp; done) | (go_simp; exact ⟨rfl, rfl⟩) | (go_simp; rfl)) ?_
              refine (HCK.out wd (ed_of_K (KEd.K_of_M HMd.out))).mono ?_
              rintro e_ x2 ⟨rfl, hb_⟩
              refine ⟨_, rfl, (blk_below HXd.out hb_).trans HXd.out.symm, ?_⟩
              have DSc := Aside0.mk (ds_new HPB.out.2 DSd.out hb_)
              have HXc := Aside0.mk (blk_below HXd.out hb_)
              have HMc := Aside0.mk (Kd.M_below HMd.out hb_)
              have hBc := hb_
              (try simp only [Act.put, List.setIfInBounds_toArray, List.set_cons_zero, List.set_cons_succ])
              first | (refine mix_read (o := { dst := some 95, op := Op.binOp BinOp.eql 47 (Operand.tmp 94) (Operand.const (Value.int IntKind.i64 0)) 47, type := 4, pos := "edit.go:130", after := #[{ on := 5, ground := Ground.data }, { on := 3, ground := Ground.guard }], guard := some (3, true) }) rfl (by first | rfl | (simp [Region.wanted, yielded]; done)) (by intro w_ hE_; (try dsimp only at hE_); first | (go_simp; done) | (go_simp; rfl)) ?_) | (refine mix_skip (o := { dst := some 95, op := Op.binOp BinOp.eql 47 (Operand.tmp 94) (Operand.const (Value.int IntKind.i64 0)) 47, type := 4, pos := "edit.go:130", after := #[{ on := 5, ground := Ground.data }, { on := 3, ground := Ground.guard }], guard := some (3, true) }) rfl (by first | rfl | (simp [Region.wanted, yielded]; done)) ?_)
              (try simp only [Act.put, List.setIfInBounds_toArray, List.set_cons_zero, List.set_cons_succ])
              (refine mix_read (o := { dst := some 96, op := Op.pick (Operand.tmp 92) (Operand.tmp 95) (Operand.const (Value.bool false)), type := 4, pos := "edit.go:130", after := #[{ on := 3, ground := Ground.data }, { on := 6, ground := Ground.data }], guard := none }) rfl (by first | rfl | (simp [Region.wanted, yielded]; done)) (by intro w_ hE_; (try dsimp only at hE_); first | (go_simp; done) | (go_simp; rfl)) ?_)
              (try simp only [Act.put, List.setIfInBounds_toArray, List.set_cons_zero, List.set_cons_succ])
              (refine mix_read (o := { dst := some 97, op := Op.move (Operand.tmp 96), type := 4, pos := "edit.go:130", after := #[{ on := 7, ground := Ground.data }, { on := 5, ground := Ground.chain }], guard := none }) rfl (by first | rfl | (simp [Region.wanted, yielded]; done)) (by intro w_ hE_; (try dsimp only at hE_); first | (go_simp; done) | (go_simp; rfl)) ?_)
              (try simp only [Act.put, List.setIfInBounds_toArray, List.set_cons_zero, List.set_cons_succ])
              first | (refine mix_read (o := { dst := some 98, op := Op.load 66 (Operand.tmp 5), type := 66, pos := "edit.go:130", after := #[{ on := 8, ground := Ground.guard }], guard := some (8, true) }) rfl (by first | rfl | (simp [Region.wanted, yielded]; done)) (by intro w_ hE_; (try dsimp only at hE_); have hx_ := hE_.trans HXc.out; have z0_ : w_.cell? ⟨x, 0, none⟩ = some (.int .i64 nx) := blk_cell hx_ 0; have z1_ : w_.cell? ⟨x, 1, none⟩ = some (.int .i64 sq) := blk_cell hx_ 1; have z2_ : w_.cell? ⟨x, 2, none⟩ = some (.slice Aa ads.length ca) := blk_cell hx_ 2; have z3_ : w_.cell? ⟨x, 3, none⟩ = some (.slice Ad dls.length cd) := blk_cell hx_ 3; have z4_ : w_.cell? ⟨x, 4, none⟩ = some (.slice Ap prs.length cp) := blk_cell hx_ 4; have z5_ : w_.cell? ⟨x, 5, none⟩ = some (.slice Ar drs.length cr) := blk_cell hx_ 5; first | (go_simp; done) | (go_simp; rfl)) ?_) | (refine mix_skip (o := { dst := some 98, op := Op.load 66 (Operand.tmp 5), type := 66, pos := "edit.go:130", after := #[{ on := 8, ground := Ground.guard }], guard := some (8, true) }) rfl (by first | rfl | (simp [Region.wanted, yielded]; done)) ?_)
              (try simp only [Act.put, List.setIfInBounds_toArray, List.set_cons_zero, List.set_cons_succ])
              first | (refine mix_read (o := { dst := some 100, op := Op.move (Operand.tmp 0), type := 22, pos := "edit.go:130", after := #[{ on := 8, ground := Ground.guard }], guard := some (8, true) }) rfl (by first | rfl | (simp [Region.wanted, yielded]; done)) (by intro w_ hE_; (try dsimp only at hE_); first | (go_simp; done) | (go_simp; rfl)) ?_) | (refine mix_skip (o := { dst := some 100, op := Op.move (Operand.tmp 0), type := 22, pos := "edit.go:130", after := #[{ on := 8, ground := Ground.guard }], guard := some (8, true) }) rfl (by first | rfl | (simp [Region.wanted, yielded]; done)) ?_)
              (try simp only [Act.put, List.setIfInBounds_toArray, List.set_cons_zero, List.set_cons_succ])
              refine mix_call (o := { dst := some 99, op := Op.call { callee := Callee.value (Operand.func 60), args := #[Operand.tmp 98], argTypes := #[66] }, type := 22, pos := "edit.go:130", after := #[{ on := 9, ground := Ground.data }, { on := 8, ground := Ground.chain }, { on := 8, ground := Ground.guard }], guard := some (8, true) }) rfl (by first | rfl | (simp [Region.wanted, yielded]; done)) (by first | (go_simp; done) | (go_simp; exact ⟨rfl, rfl⟩) | (go_simp; rfl)) ?_
              refine (HTX.out x2 (ed_of_K (KEd.K_of_M HMc.out))).mono ?_
              rintro e_ x3 ⟨yv, rfl, ho_, hb_⟩
              obtain ⟨Ay, cy, e_⟩ := Kd.R_slice ho_
              subst e_
              have hry := (Kd.R_reads' ho_).2.2
              refine ⟨_, rfl, (blk_below HXc.out hb_).trans HXc.out.symm, ?_⟩
              have DSt := Aside0.mk (ds_new HPB.out.2 DSc.out hb_)
              have HXt := Aside0.mk (blk_below HXc.out hb_)
              have HMt := Aside0.mk (Kd.M_below HMc.out hb_)
              have heq := equal_calls Ay cy TL A c b HTB.out HY.out.1 x3 hry (HCB.out x3 DSt.out.bel)
              (try simp only [Act.put, List.setIfInBounds_toArray, List.set_cons_zero, List.set_cons_succ])
              refine mix_call (o := { dst := some 101, op := Op.call { callee := Callee.value (Operand.func 78), args := #[Operand.tmp 99, Operand.tmp 100], argTypes := #[22, 22] }, type := 4, pos := "edit.go:130", after := #[{ on := 10, ground := Ground.data }, { on := 11, ground := Ground.data }, { on := 10, ground := Ground.chain }, { on := 8, ground := Ground.guard }], guard := some (8, true) }) rfl (by first | rfl | (simp [Region.wanted, yielded]; done)) (by first | (go_simp; done) | (go_simp; exact ⟨rfl, rfl⟩) | (go_simp; rfl)) ?_
              refine heq.mono ?_
              rintro e_ x4 ⟨rfl, rfl⟩
              refine ⟨_, rfl, rfl, ?_⟩
              obtain ⟨ya, yb, yc, yd, ye, yf, e1, e2, e3, e4, e5, e6, ⟨z1, z2, z3, z4, z5, z6⟩, ⟨f1, f2, f3, f4, f5, f6⟩, hzb, hzg⟩ := store6 DSt.out.blk (.int .i64 nx) (.int .i64 sq) (.slice Aa ads.length ca) (.slice Ad dls.length cd) (.slice Ap prs.length cp) (.slice Ar drs.length cr)
              have hzx : yf.heap[x]? = x3.heap[x]? := hzg.block x (blk_lt HXt.out) (by have := HXP.out; have := HPB.out; intro e_; injection e_; omega)
              (try simp only [Act.put, List.setIfInBounds_toArray, List.set_cons_zero, List.set_cons_succ])
              (refine mix_read (o := { dst := some 102, op := Op.pick (Operand.tmp 97) (Operand.tmp 101) (Operand.const (Value.bool false)), type := 4, pos := "edit.go:130", after := #[{ on := 8, ground := Ground.data }, { on := 12, ground := Ground.data }, { on := 14, ground := Ground.gcOnly Departure.lateStores }], guard := none }) rfl (by first | rfl | (simp [Region.wanted, yielded]; done)) (by intro w_ hE_; (try dsimp only at hE_); first | (go_simp; done) | (go_simp; rfl)) ?_)
              (try simp only [Act.put, List.setIfInBounds_toArray, List.set_cons_zero, List.set_cons_succ])
              refine mix_store (o := { dst := none, op := Op.store 66 (Operand.tmp 2) (Operand.tmp 89), type := 0, pos := "edit.go:130", after := #[{ on := 0, ground := Ground.data }, { on := 12, ground := Ground.chain }, { on := 0, ground := Ground.phase }, { on := 1, ground := Ground.textOnly Departure.lateStores }, { on := 2, ground := Ground.textOnly Departure.lateStoresUnsure }, { on := 3, ground := Ground.textOnly Departure.lateStores }, { on := 4, ground := Ground.textOnly Departure.lateStores }, { on := 5, ground := Ground.textOnly Departure.lateStoresUnsure }, { on := 6, ground := Ground.textOnly Departure.lateStores }, { on := 7, ground := Ground.textOnly Departure.lateStores }, { on := 8, ground := Ground.textOnly Departure.lateStores }, { on := 9, ground := Ground.textOnly Departure.lateStores }, { on := 10, ground := Ground.textOnly Departure.lateStoresUnsure }, { on := 11, ground := Ground.textOnly Departure.lateStores }, { on := 12, ground := Ground.textOnly Departure.lateStoresUnsure }, { on := 13, ground := Ground.textOnly Departure.lateStores }], guard := none }) (w1 := yf) rfl (by first | rfl | (simp [Region.wanted, yielded]; done)) (by first | (go_simp; done) | (go_simp; rfl)) (hzx) ?_
              (try simp only [Act.put, List.setIfInBounds_toArray, List.set_cons_zero, List.set_cons_succ])
              (refine mix_read (o := { dst := some 3, op := Op.assign (Operand.tmp 102), type := 4, pos := "edit.go:130", after := #[{ on := 13, ground := Ground.data }, { on := 14, ground := Ground.chain }, { on := 0, ground := Ground.phase }, { on := 1, ground := Ground.phase }, { on := 2, ground := Ground.phase }, { on := 3, ground := Ground.phase }, { on := 4, ground := Ground.phase }, { on := 5, ground := Ground.phase }, { on := 6, ground := Ground.phase }, { on := 7, ground := Ground.phase }, { on := 8, ground := Ground.phase }, { on := 9, ground := Ground.phase }, { on := 10, ground := Ground.phase }, { on := 11, ground := Ground.phase }, { on := 12, ground := Ground.phase }, { on := 13, ground := Ground.phase }, { on := 14, ground := Ground.phase }], guard := none }) rfl (by first | rfl | (simp [Region.wanted, yielded]; done)) (by intro w_ hE_; (try dsimp only at hE_); first | (go_simp; done) | (go_simp; rfl)) ?_)
              (try simp only [Act.put, List.setIfInBounds_toArray, List.set_cons_zero, List.set_cons_succ])
              refine mix_nil ?_
              (try simp only [Exit.then])
              go_wp2
              (try simp only [Exit.inBlock, Exit.then])
              refine bodyPost_ret (results_ct rfl _ _ B 66 #[.int .i64 nx, .int .i64 sq, .slice Aa ads.length ca, .slice Ad dls.length cd, .slice Ap prs.length cp, .slice Ar drs.length cr] (0, 0) _ rfl hzb Try.underlying66 rfl (by kernel_rfl)) rfl ?_
              refine ⟨.slice Aa ads.length ca, .slice Ad dls.length cd, .slice Ap prs.length cp, .slice Ar drs.length cr, by rw [HDE.out]; rfl, ?_, pw_below_grown DSt.out.bel (some B) (by have := blk_lt DSt.out.blk; omega) hzg (fun q hq => by injection hq with hq; omega)⟩
              rw [HDE.out]
              exact KEd.M_lower (by have := HPB.out; omega) (KEd.M_mono (fun _ _ => trivial) (Kd.M_step (KEd.M_mono (ok' := fun k => p + 1 ≤ k) (fun k hk => hk.2.1) (KEd.M_bound HMt.out)) (fun k hk hlt => hzg.block k hlt (by intro e_; injection e_ with e_; have := HPB.out; omega))))
end Go.Proofs.Ytfojeegepfjbiaa.EdK
