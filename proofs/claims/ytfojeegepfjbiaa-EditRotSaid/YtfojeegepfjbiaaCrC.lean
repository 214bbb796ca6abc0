/- Contract of crc.First. -/
import Derived.Test.YtfojeegepfjbiaaProg
import Derived.Below
import Derived.Deep.Draws
import Derived.Deep.AppendLies
import Derived.Maps.AppendAt
import Derived.OwnWalk
import Derived.Laws.BytesArg
import Derived.Laws.MakeOwn
import Derived.Laws.OwnMore
import Derived.Deep.OwnRows
import Derived.Tactics
import Derived.Lib.ConvBytes
import Derived.Laws.Slices
import Derived.WalkKit
import Derived.KernelRfl
import Derived.RowKit3
import Derived.Deep.LoopGhost
import Derived.Deep.QuietTactic
import Derived.BigQuiet
import Derived.WideLaws
import Derived.Deep.DeepCutAuto
import Derived.Deep.CutBlock
import Derived.Deep.RegionHeld3
import Derived.Laws.Rows
import Derived.Lib.AppendStr
import Derived.ArgAppend
import Derived.Laws.IdiomCopy
import Derived.OrdersHeld
import Derived.Laws.BitsLemmas
import Derived.RowKit
import Derived.Deep.RegionWith
import Derived.WalkSpells
import Derived.Outline
import Derived.Test.YtfojeegepfjbiaaWWords
import Derived.Test.YtfojeegepfjbiaaWLast
import Derived.Test.YtfojeegepfjbiaaWMore
import Derived.Test.YtfojeegepfjbiaaWArr
import Derived.Test.YtfojeegepfjbiaaWTab
import Derived.Test.YtfojeegepfjbiaaWZeros
import Derived.Test.YtfojeegepfjbiaaWRepsOne
import Derived.Test.YtfojeegepfjbiaaCrB
namespace Go.Proofs.Ytfojeegepfjbiaa.CrC
open Go.RowKit Go.Proofs.YtfojeegepfjbiaaW.PrintWords Go.Proofs.YtfojeegepfjbiaaW.PrintLast Go.Proofs.YtfojeegepfjbiaaW.PrintMore Go.Proofs.Ytfojeegepfjbiaa.Nm Go.Proofs.Ytfojeegepfjbiaa.NmA Go.Proofs.Ytfojeegepfjbiaa.NmB Go.Proofs.Ytfojeegepfjbiaa.NmC Go.Proofs.Ytfojeegepfjbiaa.NmH Go.Proofs.Ytfojeegepfjbiaa.CrP Go.Proofs.Ytfojeegepfjbiaa.CrA Go.Proofs.Ytfojeegepfjbiaa.CrB Go.Proofs.Ytfojeegepfjbiaa.Mix
set_option linter.unusedSimpArgs false
set_option linter.unusedVariables false
attribute [local go_sem] max2_int min2_int max_two min_two

theorem from_of (A : Option Addr) (c : Nat) (l : List Int) (m : Nat) (hm : m ≤ l.length) (hc : l.length ≤ c) : ∃ A' : Option Addr,
    (∀ W : World, (Instr.slice 22 (.slice A l.length c) (some (.int .i64 (m : Int))) none none).run Try.prog W = .ok (.slice A' (l.drop m).length (c - m)) W) ∧
    ∀ w : World, Kd.C (Kd.int .u8) w A l.length l → Kd.C (Kd.int .u8) w A' (l.drop m).length (l.drop m) := by
  obtain ⟨i05, hi05, _, hsz5, _⟩ := info_parts info5
  refine ⟨if c = m then A else A.map (·.add (m * 1)), fun W => ?_, fun w h => ?_⟩
  · have h := cut_from (P := Try.prog) 22 5 .i64 Try.underlying22 hi05 1 hsz5 A l.length c (m : Int) (by omega) (by omega) W
    rw [Int.toNat_natCast] at h
    rw [List.length_drop]
    exact h
  · exact Kd.C_drop (k := Kd.int .u8) h hm hc
theorem to_of (A : Option Addr) (c : Nat) (l : List Int) (m : Nat) (hm : m ≤ l.length) (hc : l.length ≤ c) :
    ∀ W : World, (Instr.slice 22 (.slice A l.length c) none (some (.int .i64 (m : Int))) none).run Try.prog W = .ok (.slice A (l.take m).length c) W := by
  obtain ⟨i05, hi05, _, hsz5, _⟩ := info_parts info5
  intro W
  have h := cut_to (P := Try.prog) 22 5 .i64 Try.underlying22 hi05 A l.length c (m : Int) (by omega) (by omega) hc W
  rw [Int.toNat_natCast] at h
  rw [List.length_take, Nat.min_eq_left hm]
  exact h
/-- The first seal's bytes. -/
def bodyL (l : List Int) : List Int := (l.take (12 + (fourV l).toNat)).drop 12
/-- What First tells: the text, how many bytes, cut off? -/
def firstL (l : List Int) : List Int × Nat × Bool :=
  if l.length < 12 then ([], 0, true) else
  if fourV (l.drop 4) ≠ (crc (l.take 4) : Int) then ([], 0, false) else
  if fourV l > (l.length : Int) - 12 then ([], 0, true) else
  if fourV (l.drop 8) ≠ (crc (bodyL l) : Int) then ([], 0, false) else (bodyL l, 12 + (fourV l).toNat, true)
theorem fourV_bd {l : List Int} (h : Bys l) : 0 ≤ fourV l ∧ fourV l < 4294967296 := by
  unfold fourV
  split
  · omega
  · have h0 : 0 ≤ rd l 0 ∧ rd l 0 < 256 := rd_bys h (i := 0) (by omega)
    have h1 : 0 ≤ rd l 1 ∧ rd l 1 < 256 := rd_bys h (i := 1) (by omega)
    have h2 : 0 ≤ rd l 2 ∧ rd l 2 < 256 := rd_bys h (i := 2) (by omega)
    have h3 : 0 ≤ rd l 3 ∧ rd l 3 < 256 := rd_bys h (i := 3) (by omega)
    omega
theorem below_of_lit {w w' : World} (h : w.grownBy w' none) : Below w.heap.size w w' := ⟨h.os, h.tape, h.output, h.size, fun j hj => h.block j hj (by simp)⟩
set_option maxRecDepth 100000 in
theorem first_calls (A : Option Addr) (c : Nat) (l : List Int) (hby : Bys l) (w : World) (hr : Kd.C (Kd.int .u8) w A l.length l) (hc : l.length ≤ c) (hl : l.length ≤ 140737488351232) :
    Calls Try.prog 51 #[.slice A l.length c] w fun e w' => ∃ v : Value, e = .returned (.tuple #[v, .int .i64 ((firstL l).2.1 : Int), .bool (firstL l).2.2]) ∧ Kd.R (Kd.int .u8) 5 w' w.heap.size (fun _ => True) v (firstL l).1 ∧ Below w.heap.size w w' := by
  have hnil := Kd.R_nil (Kd.int .u8) 5
  have HNIL := Aside0.mk hnil
  clear hnil
  have HB := Aside0.mk (Below.refl w.heap.size w)
  by_cases h12 : l.length < 12
  · have HF : Aside0 (firstL l = ([], 0, true)) := ⟨if_pos h12⟩
    clear hr hby
    go_enter Try.func51, Try.ntmps51
    go_wp2
    go_ret3
    exact ⟨_, by rw [HF.out]; rfl, by rw [HF.out]; exact HNIL.out _ _ _, HB.out⟩
  · obtain ⟨A4, hs4, hc4⟩ := from_of A c l 4 (by omega) hc
    obtain ⟨A8, hs8, hc8⟩ := from_of A c l 8 (by omega) hc
    have ht4 := to_of A c l 4 (by omega) hc
    have hct := C_take 4 hr
    have hcv4 := hc4 w hr
    have hcv8 := hc8 w hr
    rw [show ((4 : Nat) : Int) = 4 from rfl] at hs4 ht4
    rw [show ((8 : Nat) : Int) = 8 from rfl] at hs8
    have hbd := fourV_bd hby
    have HG4 := Aside0.mk (fun w' h => getfour_calls A4 (c - 4) (l.drop 4) (bys_drop hby 4) w' h)
    have HG8 := Aside0.mk (fun w' h => getfour_calls A8 (c - 8) (l.drop 8) (bys_drop hby 8) w' h)
    have HG0 := Aside0.mk (fun w' h => getfour_calls A c l hby w' h)
    have HS4 := Aside0.mk (fun w' h => sum_calls A c (l.take 4) (bys_take hby 4) w' h (by rw [List.length_take]; omega))
    have HF : Aside0 (firstL l = _) := ⟨(if_neg h12).trans rfl⟩
    have HBO : Aside0 (bodyL l = (l.take (12 + (fourV l).toNat)).drop 12) := ⟨rfl⟩
    have HBB : Aside0 (Bys (bodyL l)) := ⟨bys_drop (bys_take hby _) 12⟩
    have HRC := Aside0.mk hr
    have HCT := Aside0.mk hct
    have HC4 := Aside0.mk hcv4
    have HC8 := Aside0.mk hcv8
    clear hc4 hc8 hct hcv4 hcv8 hby
    obtain ⟨n, hn⟩ := Int.eq_ofNat_of_zero_le hbd.1
    rw [hn] at hbd HG0 HF HBO
    rw [Int.toNat_natCast] at HF HBO
    generalize fourV (l.drop 4) = va at *
    generalize fourV (l.drop 8) = vc at *
    generalize crc (l.take 4) = vb at *
    generalize bodyL l = bo at *
    obtain ⟨l4, h4⟩ : ∃ l4, l.drop 4 = l4 := ⟨_, rfl⟩
    obtain ⟨l8, h8⟩ : ∃ l8, l.drop 8 = l8 := ⟨_, rfl⟩
    obtain ⟨t4, h5⟩ : ∃ t4, l.take 4 = t4 := ⟨_, rfl⟩
    rw [h4] at hs4 HG4 HC4
    rw [h8] at hs8 HG8 HC8
    rw [h5] at ht4 HS4 HCT
    clear hn hr h4 h8 h5
    go_enter Try.func51, Try.ntmps51
    go_wp2_with fail
    refine wp_region_mix (fun w_ w1_ => Below w_.heap.size w_ w1_) [(false, 0), (false, 1), (false, 3), (false, 4), (true, 2), (true, 5), (false, 6)] (by kernel_rfl) (by kernel_rfl) (fun _ => Below.refl _ _) (fun h h' => below_step h h') (fun wd hhp_ hbw_ => ?_)
    have HZ0 := Aside0.mk (below_step HB.out hbw_)
    clear hhp_ hbw_ HB
    (refine mix_read (o := { dst := some 10, op := Op.move (Operand.tmp 0), type := 22, pos := "crc.go:41", after := #[], guard := none }) rfl (by first | rfl | (simp [Region.wanted, yielded]; done)) (by intro w_ hE_; (try dsimp only at hE_); first | (go_simp; done) | (go_simp; rfl)) ?_)
    (try simp only [Act.put, List.setIfInBounds_toArray, List.set_cons_zero, List.set_cons_succ])
    (refine mix_read (o := { dst := some 11, op := Op.slice 22 (Operand.tmp 10) (some (Operand.const (Value.int IntKind.i64 4))) none none, type := 22, pos := "crc.go:41", after := #[{ on := 0, ground := Ground.data }], guard := none }) rfl (by first | rfl | (simp [Region.wanted, yielded]; done)) (by intro w_ hE_; (try dsimp only at hE_); first | (go_simp; done) | (go_simp; rfl)) ?_)
    (try simp only [Act.put, List.setIfInBounds_toArray, List.set_cons_zero, List.set_cons_succ])
    (refine mix_read (o := { dst := some 13, op := Op.move (Operand.tmp 0), type := 22, pos := "crc.go:41", after := #[], guard := none }) rfl (by first | rfl | (simp [Region.wanted, yielded]; done)) (by intro w_ hE_; (try dsimp only at hE_); first | (go_simp; done) | (go_simp; rfl)) ?_)
    (try simp only [Act.put, List.setIfInBounds_toArray, List.set_cons_zero, List.set_cons_succ])
    (refine mix_read (o := { dst := some 14, op := Op.slice 22 (Operand.tmp 13) none (some (Operand.const (Value.int IntKind.i64 4))) none, type := 22, pos := "crc.go:41", after := #[{ on := 3, ground := Ground.data }], guard := none }) rfl (by first | rfl | (simp [Region.wanted, yielded]; done)) (by intro w_ hE_; (try dsimp only at hE_); first | (go_simp; done) | (go_simp; rfl)) ?_)
    (try simp only [Act.put, List.setIfInBounds_toArray, List.set_cons_zero, List.set_cons_succ])
    refine mix_call (o := { dst := some 12, op := Op.call { callee := Callee.value (Operand.func 74), args := #[Operand.tmp 11], argTypes := #[22] }, type := 25, pos := "crc.go:41", after := #[{ on := 1, ground := Ground.data }], guard := none }) rfl (by first | rfl | (simp [Region.wanted, yielded]; done)) (by first | (go_simp; done) | (go_simp; exact ⟨rfl, rfl⟩) | (go_simp; rfl)) ?_
    refine (HG4.out _ (Kd.C_below HC4.out HZ0.out)).mono ?_
    rintro e_ x1 ⟨rfl, hb⟩
    have HZ1 := Aside0.mk (below_step HZ0.out hb.below)
    refine ⟨_, rfl, hb.below, ?_⟩
    clear hb
    (try simp only [Act.put, List.setIfInBounds_toArray, List.set_cons_zero, List.set_cons_succ])
    refine mix_call (o := { dst := some 15, op := Op.call { callee := Callee.value (Operand.func 21), args := #[Operand.tmp 14], argTypes := #[22] }, type := 25, pos := "crc.go:41", after := #[{ on := 4, ground := Ground.data }, { on := 2, ground := Ground.chain }], guard := none }) rfl (by first | rfl | (simp [Region.wanted, yielded]; done)) (by first | (go_simp; done) | (go_simp; exact ⟨rfl, rfl⟩) | (go_simp; rfl)) ?_
    refine (HS4.out _ (Kd.C_below HCT.out HZ1.out)).mono ?_
    rintro e_ x2 ⟨rfl, hb⟩
    have HZ2 := Aside0.mk (below_step HZ1.out hb)
    refine ⟨_, rfl, hb, ?_⟩
    clear hb
    (try simp only [Act.put, List.setIfInBounds_toArray, List.set_cons_zero, List.set_cons_succ])
    (refine mix_read (o := { dst := some 16, op := Op.binOp BinOp.neq 25 (Operand.tmp 12) (Operand.tmp 15) 25, type := 4, pos := "crc.go:41", after := #[{ on := 2, ground := Ground.data }, { on := 5, ground := Ground.data }], guard := none }) rfl (by first | rfl | (simp [Region.wanted, yielded]; done)) (by intro w_ hE_; (try dsimp only at hE_); first | (go_simp; done) | (go_simp; rfl)) ?_)
    (try simp only [Act.put, List.setIfInBounds_toArray, List.set_cons_zero, List.set_cons_succ])
    refine mix_nil ?_
    clear hs4 ht4 HZ0 HZ1
    by_cases h1 : va = (vb : Int)
    · have b1 : (va != (vb : Int)) = false := by simp [h1]
      have HF2 : Aside0 (firstL l = if (n : Int) > (l.length : Int) - 12 then ([], 0, true) else if vc ≠ (crc bo : Int) then ([], 0, false) else (bo, 12 + n, true)) := ⟨HF.out.trans (if_neg (fun h => h h1))⟩
      have k1 : IntKind.u64.wrap (n : Int) = (n : Int) := u64_id (by omega) (by omega)
      have k2 : IntKind.i64.wrap ((l.length : Int) - 12) = (l.length : Int) - 12 := by rw [IntKind.wrap_i64]; omega
      have k3 : IntKind.u64.wrap ((l.length : Int) - 12) = (l.length : Int) - 12 := u64_id (by omega) (by omega)
      go_wp2_with fail
      refine (HG0.out _ (Kd.C_below HRC.out HZ2.out)).mono ?_
      rintro e_ x3 ⟨rfl, hb⟩
      have HZ3 := Aside0.mk (below_step HZ2.out hb.below)
      clear hb HZ2
      by_cases h2 : (n : Int) > (l.length : Int) - 12
      · have h2b : (l.length : Int) - 12 < (n : Int) := h2
        go_wp2
        go_ret3
        have e := HF2.out
        rw [if_pos h2] at e
        exact ⟨_, by rw [e]; rfl, by rw [e]; exact HNIL.out _ _ _, HZ3.out⟩
      · have h2b : ¬ (l.length : Int) - 12 < (n : Int) := h2
        have HF3 : Aside0 (firstL l = if vc ≠ (crc bo : Int) then ([], 0, false) else (bo, 12 + n, true)) := ⟨HF2.out.trans (if_neg h2)⟩
        obtain ⟨i05, hi05, _, hsz5, _⟩ := info_parts info5
        obtain ⟨A12, hs12, hr12, hle12⟩ := print_mid_of (P := Try.prog) (Value.int .u8) 0 22 5 .i64 .i64 Try.underlying22 hi05 hsz5 A c l 12 (12 + (n : Int)) (by omega) (by omega) (by omega) hc
        rw [show (12 + (n : Int)).toNat = 12 + n by omega, show (12 : Int).toNat = 12 from rfl, ← HBO.out] at hs12 hr12
        have HC12 := Aside0.mk (Kd.C_of_reads (h1 := fun _ => rfl) (hr12 w (Kd.reads_of_C HRC.out)))
        have HBL : Aside0 (bo.length ≤ l.length) := ⟨by rw [HBO.out, List.length_drop, List.length_take]; omega⟩
        have HSB := Aside0.mk (fun w' h => sum_calls A12 (c - 12) bo HBB.out w' h (by have := HBL.out; omega))
        have k4 : IntKind.i64.wrap (n : Int) = (n : Int) := by rw [IntKind.wrap_i64]; omega
        have k5 : IntKind.i64.wrap (12 + (n : Int)) = 12 + (n : Int) := by rw [IntKind.wrap_i64]; omega
        clear hr12 hle12 hi05 hsz5
        go_wp2_with fail
        refine (HG8.out _ (Kd.C_below HC8.out HZ3.out)).mono ?_
        rintro e_ x4 ⟨rfl, hb⟩
        have HZ4 := Aside0.mk (below_step HZ3.out hb.below)
        clear hb HZ3
        go_wp2_with fail
        refine (HSB.out _ (Kd.C_below HC12.out HZ4.out)).mono ?_
        rintro e_ x5 ⟨rfl, hb⟩
        have HZ5 := Aside0.mk (below_step HZ4.out hb)
        clear hb HZ4
        obtain ⟨vd, hvd⟩ : ∃ vd : Nat, crc bo = vd := ⟨_, rfl⟩
        rw [hvd] at HF3
        rw [hvd]
        clear hvd
        by_cases h3 : vc = (vd : Int)
        · have b3 : (vc != (vd : Int)) = false := by simp [h3]
          have HCX := Aside0.mk (Kd.C_below HC12.out HZ5.out)
          have HBM : Aside0 (bo.length ≤ 140737488351232) := ⟨by have := HBL.out; omega⟩
          clear hs8 hs12
          go_wp2_with (first | ((with_reducible refine gate_dst (N := 37) rfl ?_); go_must (refine Kd.R_lit (Kd.int .u8) (w0 := w) (w.heap.size) 5 ?hg (N := 37) ?hd (xs := ([] : List Int)) (inner := []) (ok := fun _ => True) (okp := fun _ => True) ?hr ?hp (fun _ hk => hk) trivial (HZ5.out) (Below.size (HZ5.out)) (by simp) ?_; (case hd => rfl); (case hg => rfl); (case hr => first | (go_simp; done) | (go_simp; rfl)); (case hp => exact Reps.none _ _); intro v119 w2 ho3 hb hg_ hnew_; have HO := Aside0.mk ho3; have HB2 := Aside0.mk hb; have HCB := Aside0.mk (Kd.C_below HCX.out (below_of_lit hg_)); clear ho3 hb hg_ hnew_)) | ((with_reducible refine gate_builtin (b := .append) (xs := #[.tmp 37, .tmp 38]) rfl ?_); at_builtin; go_must (refine Kd.R_append_row (Value.int .u8) (0) (h1 := fun _ => rfl) (w0 := w) (w.heap.size) rfl (.tmp 37) (.tmp 38) 22 5 (.int .u8 0) 1 rfl Try.underlying22 info5 rfl (by decide) v119 ([] : List Int) bo A12 (bo.length) (c - 12) (fun _ => True) rfl rfl (fun _ _ => trivial) (HO.out) (HCB.out) (HB2.out) (Below.size (HB2.out)) ?aL_ ?_; (case aL_ => have := HBM.out; simp only [List.length_nil]; omega); intro v102 w4 ho hb hg hat; have HO4 := Aside0.mk ho; have HB4 := Aside0.mk hb; clear ho hb hg hat)))
          go_ret3
          have e := HF3.out
          rw [if_neg (fun h => h h3)] at e
          have ho := HO4.out
          rw [List.nil_append] at ho
          exact ⟨_, by rw [e]; rfl, by rw [e]; exact ho, HB4.out⟩
        · have b3 : (vc != (vd : Int)) = true := by simp [h3]
          go_wp2
          go_ret3
          have e := HF3.out
          rw [if_pos h3] at e
          exact ⟨_, by rw [e]; rfl, by rw [e]; exact HNIL.out _ _ _, HZ5.out⟩
    · have b1 : (va != (vb : Int)) = true := by simp [h1]
      go_wp2
      go_ret3
      have e := HF.out
      rw [if_pos h1] at e
      exact ⟨_, by rw [e]; rfl, by rw [e]; exact HNIL.out _ _ _, HZ2.out⟩
end Go.Proofs.Ytfojeegepfjbiaa.CrC
