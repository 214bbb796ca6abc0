/- Contract of the reference of Scan. -/
import Derived.Test.YtfojeegepfjbiaaProg
import Derived.Below
import Derived.Deep.Draws
import Derived.Deep.AppendLies
import Derived.Maps.AppendAt
import Derived.OwnWalk
import Derived.Laws.BytesArg
import Derived.Laws.MakeOwn
import Derived.Laws.OwnMore
import Derived.Deep.OwnRows
import Derived.Tactics
import Derived.Lib.ConvBytes
import Derived.Laws.Slices
import Derived.WalkKit
import Derived.KernelRfl
import Derived.RowKit3
import Derived.Deep.LoopGhost
import Derived.Deep.QuietTactic
import Derived.BigQuiet
import Derived.WideLaws
import Derived.Deep.DeepCutAuto
import Derived.Deep.CutBlock
import Derived.Deep.RegionHeld3
import Derived.Laws.Rows
import Derived.Lib.AppendStr
import Derived.ArgAppend
import Derived.Laws.IdiomCopy
import Derived.OrdersHeld
import Derived.Laws.BitsLemmas
import Derived.RowKit
import Derived.Deep.RegionWith
import Derived.WalkSpells
import Derived.Outline
import Derived.Test.YtfojeegepfjbiaaWWords
import Derived.Test.YtfojeegepfjbiaaWLast
import Derived.Test.YtfojeegepfjbiaaWMore
import Derived.Test.YtfojeegepfjbiaaWArr
import Derived.Test.YtfojeegepfjbiaaWTab
import Derived.Test.YtfojeegepfjbiaaWZeros
import Derived.Test.YtfojeegepfjbiaaWRepsOne
import Derived.Test.YtfojeegepfjbiaaCrJ
namespace Go.Proofs.Ytfojeegepfjbiaa.CrK
open Go.RowKit Go.Proofs.YtfojeegepfjbiaaW.PrintWords Go.Proofs.YtfojeegepfjbiaaW.PrintLast Go.Proofs.YtfojeegepfjbiaaW.PrintMore Go.Proofs.Ytfojeegepfjbiaa.Nm Go.Proofs.Ytfojeegepfjbiaa.NmA Go.Proofs.Ytfojeegepfjbiaa.NmB Go.Proofs.Ytfojeegepfjbiaa.NmC Go.Proofs.Ytfojeegepfjbiaa.NmH Go.Proofs.Ytfojeegepfjbiaa.CrP Go.Proofs.Ytfojeegepfjbiaa.CrA Go.Proofs.Ytfojeegepfjbiaa.CrB Go.Proofs.Ytfojeegepfjbiaa.CrC Go.Proofs.Ytfojeegepfjbiaa.CrD Go.Proofs.Ytfojeegepfjbiaa.CrE Go.Proofs.Ytfojeegepfjbiaa.CrF Go.Proofs.Ytfojeegepfjbiaa.CrG Go.Proofs.Ytfojeegepfjbiaa.CrH Go.Proofs.Ytfojeegepfjbiaa.CrI Go.Proofs.Ytfojeegepfjbiaa.CrJ Go.Proofs.Ytfojeegepfjbiaa.Mix
set_option linter.unusedSimpArgs false
set_option linter.unusedVariables false
attribute [local go_sem] max2_int min2_int max_two min_two

theorem mid_of (A : Option Addr) (c : Nat) (l : List Int) (lo hi : Nat) (h1 : lo ≤ hi) (h2 : hi ≤ l.length) (hc : l.length ≤ c) : ∃ A' : Option Addr,
    (∀ W : World, (Instr.slice 22 (.slice A l.length c) (some (.int .i64 (lo : Int))) (some (.int .i64 (hi : Int))) none).run Try.prog W = .ok (.slice A' ((l.take hi).drop lo).length (c - lo)) W) ∧
    (∀ w : World, Kd.C (Kd.int .u8) w A l.length l → Kd.C (Kd.int .u8) w A' ((l.take hi).drop lo).length ((l.take hi).drop lo)) ∧ ((l.take hi).drop lo).length ≤ c - lo := by
  obtain ⟨i05, hi05, _, hsz5, _⟩ := info_parts info5
  obtain ⟨A', hs, hr, hle⟩ := print_mid_of (P := Try.prog) (Value.int .u8) 0 22 5 .i64 .i64 Try.underlying22 hi05 hsz5 A c l (lo : Int) (hi : Int) (by omega) (by omega) (by omega) hc
  rw [Int.toNat_natCast, Int.toNat_natCast] at hs hr hle
  exact ⟨A', hs, fun w h => Kd.C_of_reads (h1 := fun _ => rfl) (hr w (Kd.reads_of_C h)), hle⟩
theorem four_of {q : List Int} (hb : Bys q) (hl : q.length = 4) : fourL (fourV q) = q := by
  match q, hl with
  | [a, b, c, d], _ =>
    have h0 := hb a (by simp)
    have h1 := hb b (by simp)
    have h2 := hb c (by simp)
    have h3 := hb d (by simp)
    simp [fourV, fourL, rd]
    omega
theorem four_iff {q : List Int} (hb : Bys q) (hl : q.length = 4) {n : Nat} (hn : n < 4294967296) : fourL (n : Int) = q ↔ fourV q = (n : Int) :=
  ⟨fun h => by rw [← h]; exact fourV_four (by omega) (by omega), fun h => by rw [← h]; exact four_of hb hl⟩
theorem four_mid {l : List Int} {k : Nat} (h : k + 4 ≤ l.length) : fourV ((l.take (k + 4)).drop k) = fourV (l.drop k) := by
  have e : l.drop k = (l.take (k + 4)).drop k ++ l.drop (k + 4) := by
    have := List.take_append_drop (k + 4) l
    conv => lhs; rw [← this]
    rw [List.drop_append_of_le_length (by rw [List.length_take]; omega)]
  rw [e, fourV_app (by rw [List.length_drop, List.length_take]; omega)]
/-- What the head of a seal says. -/
theorem first_ref {ld h : List Int} (hb : Bys ld) (h12 : 12 ≤ ld.length) (hh : ld.take 12 = h) : firstL ld = if fourL (crc (h.take 4) : Int) ≠ (h.take 8).drop 4 then ([], 0, false) else if fourV h > (ld.length : Int) - 12 then ([], 0, true) else if fourL (crc (bodyL ld) : Int) ≠ (h.take 12).drop 8 then ([], 0, false) else (bodyL ld, 12 + (fourV h).toNat, true) := by
  have e4 : h.take 4 = ld.take 4 := by rw [← hh, List.take_take]; rfl
  have e8 : h.take 8 = ld.take 8 := by rw [← hh, List.take_take]; rfl
  have e12 : h.take 12 = ld.take 12 := by rw [← hh, List.take_take]; rfl
  have v4 : fourV h = fourV ld := by
    have := four_mid (l := ld) (k := 0) (by omega)
    rw [← List.take_append_drop 4 h, fourV_app (by rw [e4, List.length_take]; omega), e4]
    exact this
  have i4 := four_iff (q := (ld.take 8).drop 4) (bys_drop (bys_take hb _) _) (by rw [List.length_drop, List.length_take]; omega) (crc_lt (bys_take hb 4))
  rw [four_mid (by omega)] at i4
  have hbb : Bys (bodyL ld) := by unfold bodyL; exact bys_drop (bys_take hb _) _
  have i8 := four_iff (q := (ld.take 12).drop 8) (bys_drop (bys_take hb _) _) (by rw [List.length_drop, List.length_take]; omega) (crc_lt hbb)
  rw [four_mid (by omega)] at i8
  rw [e4, e8, e12, v4]
  unfold firstL
  rw [if_neg (by omega)]
  by_cases c1 : fourL (crc (ld.take 4) : Int) = (ld.take 8).drop 4
  · rw [if_neg (show ¬ fourV (ld.drop 4) ≠ (crc (ld.take 4) : Int) from fun h => h (i4.1 c1)), if_neg (show ¬ fourL (crc (ld.take 4) : Int) ≠ (ld.take 8).drop 4 from fun h => h c1)]
    by_cases c2 : fourV ld > (ld.length : Int) - 12
    · rw [if_pos c2, if_pos c2]
    · rw [if_neg c2, if_neg c2]
      by_cases c3 : fourL (crc (bodyL ld) : Int) = (ld.take 12).drop 8
      · rw [if_neg (show ¬ fourV (ld.drop 8) ≠ (crc (bodyL ld) : Int) from fun h => h (i8.1 c3)), if_neg (show ¬ fourL (crc (bodyL ld) : Int) ≠ (ld.take 12).drop 8 from fun h => h c3)]
      · rw [if_pos (show fourV (ld.drop 8) ≠ (crc (bodyL ld) : Int) from fun h => c3 (i8.2 h)), if_pos (show fourL (crc (bodyL ld) : Int) ≠ (ld.take 12).drop 8 from c3)]
  · rw [if_pos (show fourV (ld.drop 4) ≠ (crc (ld.take 4) : Int) from fun h => c1 (i4.2 h)), if_pos (show fourL (crc (ld.take 4) : Int) ≠ (ld.take 8).drop 4 from c1)]
set_option maxRecDepth 100000 in
set_option maxHeartbeats 1000000 in
theorem rscan_calls (A : Option Addr) (c : Nat) (l : List Int) (hby : Bys l) (w : World) (hr : Kd.C (Kd.int .u8) w A l.length l) (hc : l.length ≤ c) (hl : l.length ≤ 1000000000) :
    Calls Try.prog 28 #[.slice A l.length c] w fun e w' => ∃ v : Value, e = .returned (.tuple #[v, .int .i64 ((scanL l).2.1 : Int), .bool (scanL l).2.2]) ∧ Kd.R (Kd.fixed (Kd.slice 5 (Kd.int .u8)) w) 22 w' w.heap.size (fun _ => True) v (scanL l).1 ∧ Below w.heap.size w w' := by
  have HR := Aside0.mk hr
  have HB := Aside0.mk (Below.refl w.heap.size w)
  obtain ⟨E1, h1⟩ : ∃ E1, (scanF (l.length + 1) l 0).1 = E1 := ⟨_, rfl⟩
  obtain ⟨E2, h2⟩ : ∃ E2, (scanF (l.length + 1) l 0).2 = E2 := ⟨_, rfl⟩
  have HE1 := Aside0.mk h1
  have HE2 := Aside0.mk h2
  have HSL : Aside0 (scanL l = (E1, E2)) := ⟨by rw [← h1, ← h2]; rfl⟩
  have HBY := Aside0.mk hby
  clear hr h1 h2 hby
  go_enter Try.func28, Try.ntmps28
  go_wp2_with fail
  go_loopg [5, 6, 7, 8, 9, 10] (l.length + 1) (fun q v5 v6 v7 v8 v9 v10 w' => ∃ (i : Nat) (acc : List (List Int)), v6 = .int .i64 (i : Int) ∧ Aside0 (i ≤ l.length ∧ l.length < q + i ∧ acc.length ≤ i ∧ acc ++ (scanF q l i).1 = E1 ∧ (scanF q l i).2 = E2) ∧ Aside0 (Kd.R (Kd.fixed (Kd.slice 5 (Kd.int .u8)) w) 22 w' w.heap.size (fun _ => True) v5 acc) ∧ Aside0 (Below w.heap.size w w'))
  case atStart => exact ⟨0, [], rfl, ⟨Nat.zero_le _, by omega, Nat.le_refl _, HE1.out, HE2.out⟩, ⟨Kd.R_nil _ _ _ _ _⟩, HB⟩
  case round =>
    clear HB HE1 HE2
    obtain ⟨i, acc, rfl, HI, HO, HB⟩ := hrel
    have hil := HI.out.1
    obtain ⟨f, rfl⟩ : ∃ f, gk = f + 1 := ⟨gk - 1, by have := HI.out; omega⟩
    have hdl : (l.drop i).length = l.length - i := List.length_drop
    have hfl := firstL_le (bys_drop HBY.out i)
    rw [hdl] at hfl
    have HSC : Aside0 (scanF (f + 1) l i = if (firstL (l.drop i)).2.1 = 0 then ([], i, (firstL (l.drop i)).2.2) else ((firstL (l.drop i)).1 :: (scanF f l (i + (firstL (l.drop i)).2.1)).1, (scanF f l (i + (firstL (l.drop i)).2.1)).2)) := ⟨rfl⟩
    have kl : IntKind.i64.wrap ((l.length : Int) - (i : Int)) = (l.length : Int) - (i : Int) := by rw [IntKind.wrap_i64]; omega
    have HEND : Aside0 (∀ b : Bool, firstL (l.drop i) = ([], 0, b) → scanL l = (acc, i, b)) := ⟨by
      intro b hb
      have h1 := HSC.out
      rw [hb, if_pos rfl] at h1
      have hE := HI.out.2.2.2
      rw [h1, List.append_nil] at hE
      rw [HSL.out, ← hE.1, ← hE.2]⟩
    by_cases h12 : (l.length : Int) - (i : Int) < 12
    · have he := HEND.out true (by unfold firstL; rw [if_pos (by omega)])
      have HE := Aside0.mk he
      clear he hfl
      go_wp2
      go_ret3
      exact ⟨_, by rw [HE.out]; rfl, by rw [HE.out]; exact HO.out, HB.out⟩
    · have hld : 12 ≤ (l.drop i).length := by omega
      have hldl : ((l.drop i).length : Int) = (l.length : Int) - (i : Int) := by omega
      obtain ⟨i12, hi12⟩ : ∃ k, i + 12 = k := ⟨_, rfl⟩
      have k12 : IntKind.i64.wrap ((i : Int) + 12) = (i12 : Int) := by rw [IntKind.wrap_i64]; omega
      obtain ⟨Ah, hsh, hch, hlh⟩ := mid_of A c l i i12 (by omega) (by omega) hc
      have hhe : (l.take i12).drop i = (l.drop i).take 12 := by rw [List.drop_take, ← hi12, Nat.add_sub_cancel_left]
      rw [hhe] at hsh hch hlh
      obtain ⟨h, hh⟩ : ∃ h, (l.drop i).take 12 = h := ⟨_, rfl⟩
      have hfr := first_ref (bys_drop HBY.out i) hld hh
      have hhl : h.length = 12 := by rw [← hh, List.length_take]; omega
      have hhb : Bys h := by rw [← hh]; exact bys_take (bys_drop HBY.out i) 12
      rw [hh] at hsh hch hlh
      obtain ⟨ch, hce⟩ : ∃ ch, c - i = ch := ⟨_, rfl⟩
      rw [hce] at hsh hlh
      have HCH := Aside0.mk (hch w HR.out)
      have ht4 := to_of Ah ch h 4 (by omega) hlh
      have HC4 := Aside0.mk (C_take 4 HCH.out)
      obtain ⟨A8, hs8, hc8, _⟩ := mid_of Ah ch h 4 8 (by omega) (by omega) hlh
      obtain ⟨A12, hs12, hc12, _⟩ := mid_of Ah ch h 8 12 (by omega) (by omega) hlh
      rw [show ((4 : Nat) : Int) = 4 from rfl] at ht4 hs8
      rw [show ((8 : Nat) : Int) = 8 from rfl] at hs8 hs12
      rw [show ((12 : Nat) : Int) = 12 from rfl] at hs12
      have HC8 := Aside0.mk (hc8 w HCH.out)
      have HC12 := Aside0.mk (hc12 w HCH.out)
      have b4 := bys_take hhb 4
      have b8 := bys_drop (bys_take hhb 8) 4
      have b12 := bys_drop (bys_take hhb 12) 8
      have bbo : Bys (bodyL (l.drop i)) := by unfold bodyL; exact bys_drop (bys_take (bys_drop HBY.out i) _) _
      have HBO : Aside0 (bodyL (l.drop i) = ((l.drop i).take (12 + (fourV (l.drop i)).toNat)).drop 12) := ⟨rfl⟩
      have hfv : fourV (l.drop i) = fourV h := by
        have := four_mid (l := l.drop i) (k := 0) (by omega)
        rw [← List.take_append_drop 4 h, fourV_app (by rw [List.length_take]; omega), ← hh, List.take_take]
        exact this.symm
      rw [hfv] at HBO
      have HBP : Aside0 (bodyL (l.drop i) = (l.take (i12 + (fourV h).toNat)).drop i12) := ⟨by
        rw [HBO.out, List.drop_take, List.drop_take, List.drop_drop, hi12, show 12 + (fourV h).toNat - 12 = (fourV h).toNat by omega, show i12 + (fourV h).toNat - i12 = (fourV h).toNat by omega]⟩
      clear HBO
      have h4l : (h.take 4).length ≤ 4 := by rw [List.length_take]; omega
      have HHL := Aside0.mk hhl
      clear hch hc8 hc12 hfl hce hhe hh hfv hld hdl
      generalize bodyL (l.drop i) = bo at *
      have HSB := Aside0.mk (fun A c w h hl => rsum_calls A c bo bbo w h hl)
      have HFB := Aside0.mk (fun w => rfour_calls (crc bo : Int) w)
      have hb5 := bys_fourL (crc bo : Int)
      have HS4 := Aside0.mk (fun w h' => rsum_calls Ah ch (h.take 4) b4 w h' (by omega))
      have HF4 := Aside0.mk (fun w => rfour_calls (crc (h.take 4) : Int) w)
      have hb4 := bys_fourL (crc (h.take 4) : Int)
      generalize fourL (crc bo : Int) = fb at *
      generalize fourL (crc (h.take 4) : Int) = f4 at *
      generalize crc (h.take 4) = k4 at *
      generalize crc bo = kb at *
      generalize (h.take 8).drop 4 = q4 at *
      generalize (h.take 12).drop 8 = q8 at *
      generalize h.take 4 = h4 at *
      generalize l.drop i = ld at *
      have HFR := Aside0.mk hfr
      have HLD := Aside0.mk hldl
      have HLH := Aside0.mk hlh
      clear hhl hfr hldl hlh
      go_wp2_with fail
      refine wp_region_mix (fun w_ w1_ => Below w_.heap.size w_ w1_) [(false, 0), (false, 1), (false, 5), (false, 6), (false, 7), (true, 2), (true, 3), (false, 4), (false, 8)] (by kernel_rfl) (by kernel_rfl) (fun _ => Below.refl _ _) (fun h h' => below_step h h') (fun wd hhp_ hbw_ => ?_)
      have HZ0 := Aside0.mk (below_step HB.out hbw_)
      have HOd := Aside0.mk (Kd.R_below HO.out hbw_)
      have cq0 := fun (wx : World) (h : Below wd.heap.size wd wx) => Kd.C_string (P := Try.prog) (A := A8) (c := ch - 4) Try.underlying22 Try.underlying5 Try.underlying9 (Kd.C_below HC8.out (below_step HZ0.out h))
      clear hhp_ hbw_ HO HB
      (refine mix_read (o := { dst := some 24, op := Op.move (Operand.tmp 8), type := 22, pos := "ref.go:112", after := #[], guard := none }) rfl (by first | rfl | (simp [Region.wanted, yielded]; done)) (by intro w_ hE_; (try dsimp only at hE_); first | (go_simp; done) | (go_simp; rfl)) ?_)
      (try simp only [Act.put, List.setIfInBounds_toArray, List.set_cons_zero, List.set_cons_succ])
      (refine mix_read (o := { dst := some 25, op := Op.slice 22 (Operand.tmp 24) none (some (Operand.const (Value.int IntKind.i64 4))) none, type := 22, pos := "ref.go:112", after := #[{ on := 0, ground := Ground.data }], guard := none }) rfl (by first | rfl | (simp [Region.wanted, yielded]; done)) (by intro w_ hE_; (try dsimp only at hE_); first | (go_simp; done) | (go_simp; rfl)) ?_)
      (try simp only [Act.put, List.setIfInBounds_toArray, List.set_cons_zero, List.set_cons_succ])
      (refine mix_read (o := { dst := some 29, op := Op.move (Operand.tmp 8), type := 22, pos := "ref.go:112", after := #[], guard := none }) rfl (by first | rfl | (simp [Region.wanted, yielded]; done)) (by intro w_ hE_; (try dsimp only at hE_); first | (go_simp; done) | (go_simp; rfl)) ?_)
      (try simp only [Act.put, List.setIfInBounds_toArray, List.set_cons_zero, List.set_cons_succ])
      (refine mix_read (o := { dst := some 30, op := Op.slice 22 (Operand.tmp 29) (some (Operand.const (Value.int IntKind.i64 4))) (some (Operand.const (Value.int IntKind.i64 8))) none, type := 22, pos := "ref.go:112", after := #[{ on := 5, ground := Ground.data }], guard := none }) rfl (by first | rfl | (simp [Region.wanted, yielded]; done)) (by intro w_ hE_; (try dsimp only at hE_); first | (go_simp; done) | (go_simp; rfl)) ?_)
      (try simp only [Act.put, List.setIfInBounds_toArray, List.set_cons_zero, List.set_cons_succ])
      (refine mix_read (o := { dst := some 31, op := Op.convert 22 9 (Operand.tmp 30), type := 9, pos := "ref.go:112", after := #[{ on := 6, ground := Ground.data }], guard := none }) rfl (by first | rfl | (simp [Region.wanted, yielded]; done)) (by intro w_ hE_; (try dsimp only at hE_); first | (go_simp; done) | (go_simp; rfl)) ?_)
      (try simp only [Act.put, List.setIfInBounds_toArray, List.set_cons_zero, List.set_cons_succ])
      refine mix_call (o := { dst := some 26, op := Op.call { callee := Callee.value (Operand.func 22), args := #[Operand.tmp 25], argTypes := #[22] }, type := 25, pos := "ref.go:112", after := #[{ on := 1, ground := Ground.data }], guard := none }) rfl (by first | rfl | (simp [Region.wanted, yielded]; done)) (by first | (go_simp; done) | (go_simp; exact ⟨rfl, rfl⟩) | (go_simp; rfl)) ?_
      refine (HS4.out _ (Kd.C_below HC4.out HZ0.out)).mono ?_
      rintro e_ x1 ⟨rfl, hb⟩
      have HZ1 := Aside0.mk (below_step HZ0.out hb)
      have HO1 := Aside0.mk (Kd.R_below HOd.out hb)
      have cq1 := fun (wx : World) (h : Below x1.heap.size x1 wx) => cq0 wx (below_step hb h)
      refine ⟨_, rfl, hb, ?_⟩
      clear hb cq0 HOd
      (try simp only [Act.put, List.setIfInBounds_toArray, List.set_cons_zero, List.set_cons_succ])
      refine mix_call (o := { dst := some 27, op := Op.call { callee := Callee.value (Operand.func 52), args := #[Operand.tmp 26], argTypes := #[25] }, type := 22, pos := "ref.go:112", after := #[{ on := 2, ground := Ground.data }, { on := 2, ground := Ground.chain }], guard := none }) rfl (by first | rfl | (simp [Region.wanted, yielded]; done)) (by first | (go_simp; done) | (go_simp; exact ⟨rfl, rfl⟩) | (go_simp; rfl)) ?_
      refine (HF4.out _).mono ?_
      rintro e_ x2 ⟨y2, rfl, ho, hb⟩
      obtain ⟨B2, d2, rfl⟩ := Kd.R_slice ho
      have HR2 := Aside0.mk (Kd.R_reads' ho)
      have HZ2 := Aside0.mk (below_step HZ1.out hb)
      have HO2 := Aside0.mk (Kd.R_below HO1.out hb)
      have cv2 := fun (wx : World) (h : Below x2.heap.size x2 wx) => Kd.C_string (P := Try.prog) (A := B2) (c := d2) Try.underlying22 Try.underlying5 Try.underlying9 (Kd.C_below HR2.out.2.2 h)
      have cq2 := fun (wx : World) (h : Below x2.heap.size x2 wx) => cq1 wx (below_step hb h)
      refine ⟨_, rfl, hb, ?_⟩
      clear ho hb cq1 HO1
      (try simp only [Act.put, List.setIfInBounds_toArray, List.set_cons_zero, List.set_cons_succ])
      (refine mix_read (o := { dst := some 28, op := Op.convert 22 9 (Operand.tmp 27), type := 9, pos := "ref.go:112", after := #[{ on := 3, ground := Ground.data }], guard := none }) rfl (by first | rfl | (simp [Region.wanted, yielded]; done)) (by intro w_ hE_; (try dsimp only at hE_); first | (go_simp; done) | (go_simp; rfl)) ?_)
      (try simp only [Act.put, List.setIfInBounds_toArray, List.set_cons_zero, List.set_cons_succ])
      (refine mix_read (o := { dst := some 32, op := Op.binOp BinOp.neq 9 (Operand.tmp 28) (Operand.tmp 31) 9, type := 4, pos := "ref.go:112", after := #[{ on := 4, ground := Ground.data }, { on := 7, ground := Ground.data }], guard := none }) rfl (by first | rfl | (simp [Region.wanted, yielded]; done)) (by intro w_ hE_; (try dsimp only at hE_); first | (go_simp; done) | (go_simp; rfl)) ?_)
      (try simp only [Act.put, List.setIfInBounds_toArray, List.set_cons_zero, List.set_cons_succ])
      refine mix_nil ?_
      by_cases hq4 : f4 = q4
      · have b1 : (!((strOfNums f4).toList == (strOfNums q4).toList)) = false := by rw [hq4, beq_self_eq_true]; rfl
        rw [b1]
        have HFR2 := Aside0.mk (HFR.out.trans (if_neg (fun h => h hq4)))
        clear b1 hq4 cv2 cq2 hs8 ht4 HR2 HZ1 HZ0
        obtain ⟨adh, e_, _⟩ := Kd.at_int HCH.out 0 (by omega) (by have := HHL.out; omega)
        subst e_
        have hx0 := cell_at HCH.out HZ2.out 0 (by have := HHL.out; omega)
        have hx1 := cell_at HCH.out HZ2.out 1 (by have := HHL.out; omega)
        have hx2 := cell_at HCH.out HZ2.out 2 (by have := HHL.out; omega)
        have hx3 := cell_at HCH.out HZ2.out 3 (by have := HHL.out; omega)
        have hv : fourV h = rd h 0 + 256 * rd h 1 + 65536 * rd h 2 + 16777216 * rd h 3 := by unfold fourV; rw [if_neg (by have := HHL.out; omega)]
        have d0 : 0 ≤ rd h 0 ∧ rd h 0 < 256 := rd_bys hhb (i := 0) (by have := HHL.out; omega)
        have d1 : 0 ≤ rd h 1 ∧ rd h 1 < 256 := rd_bys hhb (i := 1) (by have := HHL.out; omega)
        have d2 : 0 ≤ rd h 2 ∧ rd h 2 < 256 := rd_bys hhb (i := 2) (by have := HHL.out; omega)
        have d3 : 0 ≤ rd h 3 ∧ rd h 3 < 256 := rd_bys hhb (i := 3) (by have := HHL.out; omega)
        rw [show ((0 : Nat) : Int) = 0 from rfl] at hx0
        rw [show ((1 : Nat) : Int) = 1 from rfl] at hx1
        rw [show ((2 : Nat) : Int) = 2 from rfl] at hx2
        rw [show ((3 : Nat) : Int) = 3 from rfl] at hx3
        generalize rd h 0 = y0 at *
        generalize rd h 1 = y1 at *
        generalize rd h 2 = y2 at *
        generalize rd h 3 = y3 at *
        obtain ⟨n, hn⟩ : ∃ n : Nat, fourV h = (n : Int) := ⟨(fourV h).toNat, by omega⟩
        rw [hn] at hv HFR2 HBP
        rw [Int.toNat_natCast] at HFR2 HBP
        have hn2 : n < 4294967296 := by omega
        have u0 := u64_id (n := y0) (by omega) (by omega)
        have u1 := u64_id (n := y1) (by omega) (by omega)
        have u2 := u64_id (n := y2) (by omega) (by omega)
        have u3 := u64_id (n := y3) (by omega) (by omega)
        have m1 := u64_id (n := y1 * 256) (by omega) (by omega)
        have m2 := u64_id (n := y2 * 65536) (by omega) (by omega)
        have m3 := u64_id (n := y3 * 16777216) (by omega) (by omega)
        have s1 := u64_id (n := y0 + y1 * 256) (by omega) (by omega)
        have s2 := u64_id (n := y0 + y1 * 256 + y2 * 65536) (by omega) (by omega)
        have s3 : IntKind.u64.wrap (y0 + y1 * 256 + y2 * 65536 + y3 * 16777216) = (n : Int) := by rw [u64_id (by omega) (by omega)]; omega
        clear d0 d1 d2 d3 hv hn
        have hl0 : (0 < h.length) = True := eq_true (by have := HHL.out; omega)
        have hl1 : ((1 : Int) < (h.length : Int)) = True := eq_true (by have := HHL.out; omega)
        have hl2 : ((2 : Int) < (h.length : Int)) = True := eq_true (by have := HHL.out; omega)
        have hl3 : ((3 : Int) < (h.length : Int)) = True := eq_true (by have := HHL.out; omega)
        go_wp2_with fail
        refine wp_region_mix (fun w_ w1_ => w_ = w1_) [(false, 0), (false, 1), (false, 2), (false, 3), (false, 4), (false, 5), (false, 6), (false, 7), (false, 8), (false, 9), (false, 10), (false, 11), (false, 12), (false, 13), (false, 14), (false, 15), (false, 16), (false, 17), (false, 18), (false, 19), (false, 20), (false, 21), (false, 22)] (by kernel_rfl) (by kernel_rfl) (fun _ => rfl) (fun h h' => h.trans h') (fun we hhp_ hbw_ => ?_)
        have y0_ : we.cell? adh = _ := (hbw_.cell (World.block_lt_of_cell? x2 _ hx0)).trans hx0
        have y1_ : we.cell? ⟨adh.block, adh.off + 1, none⟩ = _ := (hbw_.cell (World.block_lt_of_cell? x2 _ hx1)).trans hx1
        have y2_ : we.cell? ⟨adh.block, adh.off + 2, none⟩ = _ := (hbw_.cell (World.block_lt_of_cell? x2 _ hx2)).trans hx2
        have y3_ : we.cell? ⟨adh.block, adh.off + 3, none⟩ = _ := (hbw_.cell (World.block_lt_of_cell? x2 _ hx3)).trans hx3
        clear hx0 hx1 hx2 hx3
        have HO3 := Aside0.mk (Kd.R_below HO2.out hbw_)
        have HZ3 := Aside0.mk (below_step HZ2.out hbw_)
        clear hhp_ hbw_ HO2 HZ2
        (refine mix_read (o := { dst := some 35, op := Op.move (Operand.tmp 8), type := 22, pos := "ref.go:115", after := #[], guard := none }) rfl (by first | rfl | (simp [Region.wanted, yielded]; done)) (by intro w_ hE_; (try dsimp only at hE_); subst hE_; first | (go_simp; done) | (go_simp; rfl)) ?_)
        (try simp only [Act.put, List.setIfInBounds_toArray, List.set_cons_zero, List.set_cons_succ])
        (refine mix_read (o := { dst := some 36, op := Op.indexAddr 22 (Operand.tmp 35) (Operand.const (Value.int IntKind.i64 0)), type := 0, pos := "ref.go:115", after := #[{ on := 0, ground := Ground.data }], guard := none }) rfl (by first | rfl | (simp [Region.wanted, yielded]; done)) (by intro w_ hE_; (try dsimp only at hE_); subst hE_; first | (go_simp; done) | (go_simp; rfl)) ?_)
        (try simp only [Act.put, List.setIfInBounds_toArray, List.set_cons_zero, List.set_cons_succ])
        (refine mix_read (o := { dst := some 37, op := Op.load 5 (Operand.tmp 36), type := 5, pos := "ref.go:115", after := #[{ on := 1, ground := Ground.data }], guard := none }) rfl (by first | rfl | (simp [Region.wanted, yielded]; done)) (by intro w_ hE_; (try dsimp only at hE_); subst hE_; first | (go_simp; done) | (go_simp; rfl)) ?_)
        (try simp only [Act.put, List.setIfInBounds_toArray, List.set_cons_zero, List.set_cons_succ])
        (refine mix_read (o := { dst := some 38, op := Op.convert 5 83 (Operand.tmp 37), type := 83, pos := "ref.go:115", after := #[{ on := 2, ground := Ground.data }], guard := none }) rfl (by first | rfl | (simp [Region.wanted, yielded]; done)) (by intro w_ hE_; (try dsimp only at hE_); subst hE_; first | (go_simp; done) | (go_simp; rfl)) ?_)
        (try simp only [Act.put, List.setIfInBounds_toArray, List.set_cons_zero, List.set_cons_succ])
        (refine mix_read (o := { dst := some 39, op := Op.move (Operand.tmp 8), type := 22, pos := "ref.go:115", after := #[], guard := none }) rfl (by first | rfl | (simp [Region.wanted, yielded]; done)) (by intro w_ hE_; (try dsimp only at hE_); subst hE_; first | (go_simp; done) | (go_simp; rfl)) ?_)
        (try simp only [Act.put, List.setIfInBounds_toArray, List.set_cons_zero, List.set_cons_succ])
        (refine mix_read (o := { dst := some 40, op := Op.indexAddr 22 (Operand.tmp 39) (Operand.const (Value.int IntKind.i64 1)), type := 0, pos := "ref.go:115", after := #[{ on := 4, ground := Ground.data }], guard := none }) rfl (by first | rfl | (simp [Region.wanted, yielded]; done)) (by intro w_ hE_; (try dsimp only at hE_); subst hE_; first | (go_simp; done) | (go_simp; rfl)) ?_)
        (try simp only [Act.put, List.setIfInBounds_toArray, List.set_cons_zero, List.set_cons_succ])
        (refine mix_read (o := { dst := some 41, op := Op.load 5 (Operand.tmp 40), type := 5, pos := "ref.go:115", after := #[{ on := 5, ground := Ground.data }], guard := none }) rfl (by first | rfl | (simp [Region.wanted, yielded]; done)) (by intro w_ hE_; (try dsimp only at hE_); subst hE_; first | (go_simp; done) | (go_simp; rfl)) ?_)
        (try simp only [Act.put, List.setIfInBounds_toArray, List.set_cons_zero, List.set_cons_succ])
        (refine mix_read (o := { dst := some 42, op := Op.convert 5 83 (Operand.tmp 41), type := 83, pos := "ref.go:115", after := #[{ on := 6, ground := Ground.data }], guard := none }) rfl (by first | rfl | (simp [Region.wanted, yielded]; done)) (by intro w_ hE_; (try dsimp only at hE_); subst hE_; first | (go_simp; done) | (go_simp; rfl)) ?_)
        (try simp only [Act.put, List.setIfInBounds_toArray, List.set_cons_zero, List.set_cons_succ])
        (refine mix_read (o := { dst := some 43, op := Op.binOp BinOp.shl 83 (Operand.tmp 42) (Operand.const (Value.int IntKind.u64 8)) 79, type := 83, pos := "ref.go:115", after := #[{ on := 7, ground := Ground.data }], guard := none }) rfl (by first | rfl | (simp [Region.wanted, yielded]; done)) (by intro w_ hE_; (try dsimp only at hE_); subst hE_; first | (go_simp; done) | (go_simp; rfl)) ?_)
        (try simp only [Act.put, List.setIfInBounds_toArray, List.set_cons_zero, List.set_cons_succ])
        (refine mix_read (o := { dst := some 44, op := Op.binOp BinOp.add 83 (Operand.tmp 38) (Operand.tmp 43) 83, type := 83, pos := "ref.go:115", after := #[{ on := 3, ground := Ground.data }, { on := 8, ground := Ground.data }], guard := none }) rfl (by first | rfl | (simp [Region.wanted, yielded]; done)) (by intro w_ hE_; (try dsimp only at hE_); subst hE_; first | (go_simp; done) | (go_simp; rfl)) ?_)
        (try simp only [Act.put, List.setIfInBounds_toArray, List.set_cons_zero, List.set_cons_succ])
        (refine mix_read (o := { dst := some 45, op := Op.move (Operand.tmp 8), type := 22, pos := "ref.go:115", after := #[], guard := none }) rfl (by first | rfl | (simp [Region.wanted, yielded]; done)) (by intro w_ hE_; (try dsimp only at hE_); subst hE_; first | (go_simp; done) | (go_simp; rfl)) ?_)
        (try simp only [Act.put, List.setIfInBounds_toArray, List.set_cons_zero, List.set_cons_succ])
        (refine mix_read (o := { dst := some 46, op := Op.indexAddr 22 (Operand.tmp 45) (Operand.const (Value.int IntKind.i64 2)), type := 0, pos := "ref.go:115", after := #[{ on := 10, ground := Ground.data }], guard := none }) rfl (by first | rfl | (simp [Region.wanted, yielded]; done)) (by intro w_ hE_; (try dsimp only at hE_); subst hE_; first | (go_simp; done) | (go_simp; rfl)) ?_)
        (try simp only [Act.put, List.setIfInBounds_toArray, List.set_cons_zero, List.set_cons_succ])
        (refine mix_read (o := { dst := some 47, op := Op.load 5 (Operand.tmp 46), type := 5, pos := "ref.go:115", after := #[{ on := 11, ground := Ground.data }], guard := none }) rfl (by first | rfl | (simp [Region.wanted, yielded]; done)) (by intro w_ hE_; (try dsimp only at hE_); subst hE_; first | (go_simp; done) | (go_simp; rfl)) ?_)
        (try simp only [Act.put, List.setIfInBounds_toArray, List.set_cons_zero, List.set_cons_succ])
        (refine mix_read (o := { dst := some 48, op := Op.convert 5 83 (Operand.tmp 47), type := 83, pos := "ref.go:115", after := #[{ on := 12, ground := Ground.data }], guard := none }) rfl (by first | rfl | (simp [Region.wanted, yielded]; done)) (by intro w_ hE_; (try dsimp only at hE_); subst hE_; first | (go_simp; done) | (go_simp; rfl)) ?_)
        (try simp only [Act.put, List.setIfInBounds_toArray, List.set_cons_zero, List.set_cons_succ])
        (refine mix_read (o := { dst := some 49, op := Op.binOp BinOp.shl 83 (Operand.tmp 48) (Operand.const (Value.int IntKind.u64 16)) 79, type := 83, pos := "ref.go:115", after := #[{ on := 13, ground := Ground.data }], guard := none }) rfl (by first | rfl | (simp [Region.wanted, yielded]; done)) (by intro w_ hE_; (try dsimp only at hE_); subst hE_; first | (go_simp; done) | (go_simp; rfl)) ?_)
        (try simp only [Act.put, List.setIfInBounds_toArray, List.set_cons_zero, List.set_cons_succ])
        (refine mix_read (o := { dst := some 50, op := Op.binOp BinOp.add 83 (Operand.tmp 44) (Operand.tmp 49) 83, type := 83, pos := "ref.go:115", after := #[{ on := 9, ground := Ground.data }, { on := 14, ground := Ground.data }], guard := none }) rfl (by first | rfl | (simp [Region.wanted, yielded]; done)) (by intro w_ hE_; (try dsimp only at hE_); subst hE_; first | (go_simp; done) | (go_simp; rfl)) ?_)
        (try simp only [Act.put, List.setIfInBounds_toArray, List.set_cons_zero, List.set_cons_succ])
        (refine mix_read (o := { dst := some 51, op := Op.move (Operand.tmp 8), type := 22, pos := "ref.go:115", after := #[], guard := none }) rfl (by first | rfl | (simp [Region.wanted, yielded]; done)) (by intro w_ hE_; (try dsimp only at hE_); subst hE_; first | (go_simp; done) | (go_simp; rfl)) ?_)
        (try simp only [Act.put, List.setIfInBounds_toArray, List.set_cons_zero, List.set_cons_succ])
        (refine mix_read (o := { dst := some 52, op := Op.indexAddr 22 (Operand.tmp 51) (Operand.const (Value.int IntKind.i64 3)), type := 0, pos := "ref.go:115", after := #[{ on := 16, ground := Ground.data }], guard := none }) rfl (by first | rfl | (simp [Region.wanted, yielded]; done)) (by intro w_ hE_; (try dsimp only at hE_); subst hE_; first | (go_simp; done) | (go_simp; rfl)) ?_)
        (try simp only [Act.put, List.setIfInBounds_toArray, List.set_cons_zero, List.set_cons_succ])
        (refine mix_read (o := { dst := some 53, op := Op.load 5 (Operand.tmp 52), type := 5, pos := "ref.go:115", after := #[{ on := 17, ground := Ground.data }], guard := none }) rfl (by first | rfl | (simp [Region.wanted, yielded]; done)) (by intro w_ hE_; (try dsimp only at hE_); subst hE_; first | (go_simp; done) | (go_simp; rfl)) ?_)
        (try simp only [Act.put, List.setIfInBounds_toArray, List.set_cons_zero, List.set_cons_succ])
        (refine mix_read (o := { dst := some 54, op := Op.convert 5 83 (Operand.tmp 53), type := 83, pos := "ref.go:115", after := #[{ on := 18, ground := Ground.data }], guard := none }) rfl (by first | rfl | (simp [Region.wanted, yielded]; done)) (by intro w_ hE_; (try dsimp only at hE_); subst hE_; first | (go_simp; done) | (go_simp; rfl)) ?_)
        (try simp only [Act.put, List.setIfInBounds_toArray, List.set_cons_zero, List.set_cons_succ])
        (refine mix_read (o := { dst := some 55, op := Op.binOp BinOp.shl 83 (Operand.tmp 54) (Operand.const (Value.int IntKind.u64 24)) 79, type := 83, pos := "ref.go:115", after := #[{ on := 19, ground := Ground.data }], guard := none }) rfl (by first | rfl | (simp [Region.wanted, yielded]; done)) (by intro w_ hE_; (try dsimp only at hE_); subst hE_; first | (go_simp; done) | (go_simp; rfl)) ?_)
        (try simp only [Act.put, List.setIfInBounds_toArray, List.set_cons_zero, List.set_cons_succ])
        (refine mix_read (o := { dst := some 56, op := Op.binOp BinOp.add 83 (Operand.tmp 50) (Operand.tmp 55) 83, type := 83, pos := "ref.go:115", after := #[{ on := 15, ground := Ground.data }, { on := 20, ground := Ground.data }], guard := none }) rfl (by first | rfl | (simp [Region.wanted, yielded]; done)) (by intro w_ hE_; (try dsimp only at hE_); subst hE_; first | (go_simp; done) | (go_simp; rfl)) ?_)
        (try simp only [Act.put, List.setIfInBounds_toArray, List.set_cons_zero, List.set_cons_succ])
        (refine mix_read (o := { dst := some 9, op := Op.assign (Operand.tmp 56), type := 83, pos := "ref.go:115", after := #[{ on := 21, ground := Ground.data }, { on := 0, ground := Ground.phase }, { on := 1, ground := Ground.phase }, { on := 2, ground := Ground.phase }, { on := 3, ground := Ground.phase }, { on := 4, ground := Ground.phase }, { on := 5, ground := Ground.phase }, { on := 6, ground := Ground.phase }, { on := 7, ground := Ground.phase }, { on := 8, ground := Ground.phase }, { on := 9, ground := Ground.phase }, { on := 10, ground := Ground.phase }, { on := 11, ground := Ground.phase }, { on := 12, ground := Ground.phase }, { on := 13, ground := Ground.phase }, { on := 14, ground := Ground.phase }, { on := 15, ground := Ground.phase }, { on := 16, ground := Ground.phase }, { on := 17, ground := Ground.phase }, { on := 18, ground := Ground.phase }, { on := 19, ground := Ground.phase }, { on := 20, ground := Ground.phase }, { on := 21, ground := Ground.phase }], guard := none }) rfl (by first | rfl | (simp [Region.wanted, yielded]; done)) (by intro w_ hE_; (try dsimp only at hE_); subst hE_; first | (go_simp; done) | (go_simp; rfl)) ?_)
        (try simp only [Act.put, List.setIfInBounds_toArray, List.set_cons_zero, List.set_cons_succ])
        refine mix_nil ?_
        clear y0_ y1_ y2_ y3_ hl0 hl1 hl2 hl3 u0 u1 u2 u3 m1 m2 m3 s1 s2 s3
        obtain ⟨m, hm⟩ : ∃ m : Nat, (l.length : Int) - (i : Int) - 12 = (m : Int) := ⟨l.length - i - 12, by omega⟩
        have kA : IntKind.i64.wrap ((l.length : Int) - (i : Int) - 12) = (m : Int) := by rw [IntKind.wrap_i64]; omega
        have kB : IntKind.u64.wrap (m : Int) = (m : Int) := u64_id (by omega) (by omega)
        have HMM := Aside0.mk hm
        clear hm
        by_cases hgt : (m : Int) < (n : Int)
        · have he := HEND.out true (HFR2.out.trans (if_pos (by have := HLD.out; have := HMM.out; omega)))
          have HE := Aside0.mk he
          clear he hs12 hsh
          go_wp2
          go_ret3
          exact ⟨_, by rw [HE.out]; rfl, by rw [HE.out]; exact HO3.out, HZ3.out⟩
        · have HFR3 := Aside0.mk (HFR2.out.trans (if_neg (by have := HLD.out; have := HMM.out; omega)))
          have hmm := HMM.out
          obtain ⟨k2, hk2⟩ : ∃ k2, i12 + n = k2 := ⟨_, rfl⟩
          have kC : IntKind.i64.wrap (n : Int) = (n : Int) := by rw [IntKind.wrap_i64]; omega
          have kD : IntKind.i64.wrap ((i12 : Int) + (n : Int)) = (k2 : Int) := by rw [IntKind.wrap_i64]; omega
          obtain ⟨Ab, hsb, hcb, hlb⟩ := mid_of A c l i12 k2 (by omega) (by omega) hc
          rw [hk2] at HBP
          rw [← HBP.out] at hsb hcb hlb
          have hbol : bo.length ≤ l.length := by rw [HBP.out, List.length_drop, List.length_take]; omega
          have HCB := Aside0.mk (hcb w HR.out)
          obtain ⟨cb, hcbe⟩ : ∃ cb, c - i12 = cb := ⟨_, rfl⟩
          rw [hcbe] at hsb hlb
          have HSB2 := Aside0.mk (fun w h => HSB.out Ab cb w h (by omega))
          have HLB := Aside0.mk (And.intro hlb hbol)
          clear hcb hsh hmm hcbe hlb hbol HSB
          go_wp2_with fail
          refine wp_region_mix (fun w_ w1_ => Below w_.heap.size w_ w1_) [(false, 0), (false, 4), (false, 5), (false, 6), (true, 1), (true, 2), (false, 3), (false, 7)] (by kernel_rfl) (by kernel_rfl) (fun _ => Below.refl _ _) (fun h h' => below_step h h') (fun wf hhp_ hbw_ => ?_)
          have HY0 := Aside0.mk (below_step HZ3.out hbw_)
          have HOd := Aside0.mk (Kd.R_below HO3.out hbw_)
          have cq0 := fun (wx : World) (h : Below wf.heap.size wf wx) => Kd.C_string (P := Try.prog) (A := A12) (c := ch - 8) Try.underlying22 Try.underlying5 Try.underlying9 (Kd.C_below HC12.out (below_step HY0.out h))
          clear hhp_ hbw_ HO3 HZ3
          (refine mix_read (o := { dst := some 73, op := Op.move (Operand.tmp 10), type := 22, pos := "ref.go:120", after := #[], guard := none }) rfl (by first | rfl | (simp [Region.wanted, yielded]; done)) (by intro w_ hE_; (try dsimp only at hE_); first | (go_simp; done) | (go_simp; rfl)) ?_)
          (try simp only [Act.put, List.setIfInBounds_toArray, List.set_cons_zero, List.set_cons_succ])
          (refine mix_read (o := { dst := some 77, op := Op.move (Operand.tmp 8), type := 22, pos := "ref.go:120", after := #[], guard := none }) rfl (by first | rfl | (simp [Region.wanted, yielded]; done)) (by intro w_ hE_; (try dsimp only at hE_); first | (go_simp; done) | (go_simp; rfl)) ?_)
          (try simp only [Act.put, List.setIfInBounds_toArray, List.set_cons_zero, List.set_cons_succ])
          (refine mix_read (o := { dst := some 78, op := Op.slice 22 (Operand.tmp 77) (some (Operand.const (Value.int IntKind.i64 8))) (some (Operand.const (Value.int IntKind.i64 12))) none, type := 22, pos := "ref.go:120", after := #[{ on := 4, ground := Ground.data }], guard := none }) rfl (by first | rfl | (simp [Region.wanted, yielded]; done)) (by intro w_ hE_; (try dsimp only at hE_); first | (go_simp; done) | (go_simp; rfl)) ?_)
          (try simp only [Act.put, List.setIfInBounds_toArray, List.set_cons_zero, List.set_cons_succ])
          (refine mix_read (o := { dst := some 79, op := Op.convert 22 9 (Operand.tmp 78), type := 9, pos := "ref.go:120", after := #[{ on := 5, ground := Ground.data }], guard := none }) rfl (by first | rfl | (simp [Region.wanted, yielded]; done)) (by intro w_ hE_; (try dsimp only at hE_); first | (go_simp; done) | (go_simp; rfl)) ?_)
          (try simp only [Act.put, List.setIfInBounds_toArray, List.set_cons_zero, List.set_cons_succ])
          refine mix_call (o := { dst := some 74, op := Op.call { callee := Callee.value (Operand.func 22), args := #[Operand.tmp 73], argTypes := #[22] }, type := 25, pos := "ref.go:120", after := #[{ on := 0, ground := Ground.data }], guard := none }) rfl (by first | rfl | (simp [Region.wanted, yielded]; done)) (by first | (go_simp; done) | (go_simp; exact ⟨rfl, rfl⟩) | (go_simp; rfl)) ?_
          refine (HSB2.out _ (Kd.C_below HCB.out HY0.out)).mono ?_
          rintro e_ x1 ⟨rfl, hb⟩
          have HY1 := Aside0.mk (below_step HY0.out hb)
          have HO1 := Aside0.mk (Kd.R_below HOd.out hb)
          have cq1 := fun (wx : World) (h : Below x1.heap.size x1 wx) => cq0 wx (below_step hb h)
          refine ⟨_, rfl, hb, ?_⟩
          clear hb cq0 HOd
          (try simp only [Act.put, List.setIfInBounds_toArray, List.set_cons_zero, List.set_cons_succ])
          refine mix_call (o := { dst := some 75, op := Op.call { callee := Callee.value (Operand.func 52), args := #[Operand.tmp 74], argTypes := #[25] }, type := 22, pos := "ref.go:120", after := #[{ on := 1, ground := Ground.data }, { on := 1, ground := Ground.chain }], guard := none }) rfl (by first | rfl | (simp [Region.wanted, yielded]; done)) (by first | (go_simp; done) | (go_simp; exact ⟨rfl, rfl⟩) | (go_simp; rfl)) ?_
          refine (HFB.out _).mono ?_
          rintro e_ x2 ⟨y2, rfl, ho, hb⟩
          obtain ⟨B2, d2, rfl⟩ := Kd.R_slice ho
          have HR2 := Aside0.mk (Kd.R_reads' ho)
          have HY2 := Aside0.mk (below_step HY1.out hb)
          have HO2 := Aside0.mk (Kd.R_below HO1.out hb)
          have cv2 := fun (wx : World) (h : Below x2.heap.size x2 wx) => Kd.C_string (P := Try.prog) (A := B2) (c := d2) Try.underlying22 Try.underlying5 Try.underlying9 (Kd.C_below HR2.out.2.2 h)
          have cq2 := fun (wx : World) (h : Below x2.heap.size x2 wx) => cq1 wx (below_step hb h)
          refine ⟨_, rfl, hb, ?_⟩
          clear ho hb cq1 HO1
          (try simp only [Act.put, List.setIfInBounds_toArray, List.set_cons_zero, List.set_cons_succ])
          (refine mix_read (o := { dst := some 76, op := Op.convert 22 9 (Operand.tmp 75), type := 9, pos := "ref.go:120", after := #[{ on := 2, ground := Ground.data }], guard := none }) rfl (by first | rfl | (simp [Region.wanted, yielded]; done)) (by intro w_ hE_; (try dsimp only at hE_); first | (go_simp; done) | (go_simp; rfl)) ?_)
          (try simp only [Act.put, List.setIfInBounds_toArray, List.set_cons_zero, List.set_cons_succ])
          (refine mix_read (o := { dst := some 80, op := Op.binOp BinOp.neq 9 (Operand.tmp 76) (Operand.tmp 79) 9, type := 4, pos := "ref.go:120", after := #[{ on := 3, ground := Ground.data }, { on := 6, ground := Ground.data }], guard := none }) rfl (by first | rfl | (simp [Region.wanted, yielded]; done)) (by intro w_ hE_; (try dsimp only at hE_); first | (go_simp; done) | (go_simp; rfl)) ?_)
          (try simp only [Act.put, List.setIfInBounds_toArray, List.set_cons_zero, List.set_cons_succ])
          refine mix_nil ?_
          by_cases hq8 : fb = q8
          · have b1 : (!((strOfNums fb).toList == (strOfNums q8).toList)) = false := by rw [hq8, beq_self_eq_true]; rfl
            rw [b1]
            have hf4 := HFR3.out.trans (if_neg (fun h => h hq8))
            have hsc := HSC.out
            rw [hf4, if_neg (by simp)] at hsc
            have hE := HI.out.2.2.2
            rw [hsc] at hE
            have HE := Aside0.mk hE
            have HAL : Aside0 (acc.length ≤ 1000000000) := ⟨by have := HI.out.2.2.1; omega⟩
            have kE : IntKind.i64.wrap (12 + (n : Int)) = 12 + (n : Int) := by rw [IntKind.wrap_i64]; omega
            have kF : IntKind.i64.wrap ((i : Int) + (12 + (n : Int))) = ((i + (12 + n) : Nat) : Int) := by have := HMM.out; rw [IntKind.wrap_i64]; omega
            have HXM : Aside0 ((Kd.fixed (Kd.slice 5 (Kd.int .u8)) w).M x2 w.heap.size (fun _ => False) bo [.slice Ab bo.length cb]) := ⟨⟨Ab, cb, rfl, HLB.out.1, HCB.out⟩⟩
            clear b1 hq8 cv2 cq2 hs12 HR2 HY1 HY0 hf4 hsc hE
            go_wp2_with ((with_reducible refine gate_builtin (b := .append) (xs := #[.tmp 83, .tmp 85]) rfl ?_); at_builtin; go_must (refine Kd.R_append (Kd.fixed (Kd.slice 5 (Kd.int .u8)) w) (w0 := w) (w.heap.size) rfl (.tmp 83) (.tmp 85) 32 22 (.slice none 0 0) 24 rfl Try.underlying32 info22 rfl (by show 0 < 1; decide) (by omega) u5 acc bo [.slice Ab bo.length cb] (fun _ => True) (fun _ => False) ?hs_ ?hx_ HXM.out (fun _ hk => hk.elim) (fun _ _ => trivial) HO2.out HY2.out HY2.out.size (by have := HAL.out; omega) ?_; (case hs_ => rfl); (case hx_ => rfl); intro v102 w4 ho hb hg hat; have HO4 := Aside0.mk ho; have HB4 := Aside0.mk hb; clear ho hb hg hat))
            go_roundg f
            case measure => omega
            case rel => exact ⟨i + (12 + n), acc ++ [bo], by simp, ⟨by have := HMM.out; omega, by have := HI.out; omega, by rw [List.length_append]; have := HI.out; simp; omega, by rw [List.append_assoc]; exact HE.out.1, HE.out.2⟩, HO4, HB4⟩
          · have b1 : (!((strOfNums fb).toList == (strOfNums q8).toList)) = true := by rw [strOf_ne hb5 b12 hq8]; rfl
            rw [b1]
            have he := HEND.out false (HFR3.out.trans (if_pos hq8))
            have HE := Aside0.mk he
            clear b1 he
            go_wp2
            go_ret3
            exact ⟨_, by rw [HE.out]; rfl, by rw [HE.out]; exact HO2.out, HY2.out⟩
      · have b1 : (!((strOfNums f4).toList == (strOfNums q4).toList)) = true := by rw [strOf_ne hb4 b8 hq4]; rfl
        rw [b1]
        have he := HEND.out false (HFR.out.trans (if_pos hq4))
        have HE := Aside0.mk he
        clear b1 he
        go_wp2
        go_ret3
        exact ⟨_, by rw [HE.out]; rfl, by rw [HE.out]; exact HO2.out, HZ2.out⟩
end Go.Proofs.Ytfojeegepfjbiaa.CrK
