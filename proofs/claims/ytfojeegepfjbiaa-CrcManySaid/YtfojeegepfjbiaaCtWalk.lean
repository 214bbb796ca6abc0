/- CrcThree: the sum of an exclusive or of three texts is the exclusive or of their sums: it answers true. No condition. -/
import Derived.Test.YtfojeegepfjbiaaProg
import Derived.Below
import Derived.Deep.Draws
import Derived.Deep.AppendLies
import Derived.Maps.AppendAt
import Derived.OwnWalk
import Derived.Laws.BytesArg
import Derived.Laws.MakeOwn
import Derived.Laws.OwnMore
import Derived.Deep.OwnRows
import Derived.Tactics
import Derived.Lib.ConvBytes
import Derived.Laws.Slices
import Derived.WalkKit
import Derived.KernelRfl
import Derived.RowKit3
import Derived.Deep.LoopGhost
import Derived.Deep.QuietTactic
import Derived.BigQuiet
import Derived.WideLaws
import Derived.Deep.DeepCutAuto
import Derived.Deep.CutBlock
import Derived.Deep.RegionHeld3
import Derived.Laws.Rows
import Derived.Lib.AppendStr
import Derived.ArgAppend
import Derived.Laws.IdiomCopy
import Derived.OrdersHeld
import Derived.Laws.BitsLemmas
import Derived.RowKit
import Derived.Deep.RegionWith
import Derived.Laws.BitsAllLaws
import Derived.WalkSpells
import Derived.Outline
import Derived.Test.YtfojeegepfjbiaaWWords
import Derived.Test.YtfojeegepfjbiaaWLast
import Derived.Test.YtfojeegepfjbiaaWMore
import Derived.Test.YtfojeegepfjbiaaWArr
import Derived.Test.YtfojeegepfjbiaaWTab
import Derived.Test.YtfojeegepfjbiaaWZeros
import Derived.Test.YtfojeegepfjbiaaWRepsOne
import Derived.Test.YtfojeegepfjbiaaCrF
import Derived.Test.YtfojeegepfjbiaaCrM
import Derived.Test.YtfojeegepfjbiaaCmWalk
namespace Go.Proofs.Ytfojeegepfjbiaa.CtWalk
open Go.RowKit Go.Proofs.YtfojeegepfjbiaaW.PrintWords Go.Proofs.YtfojeegepfjbiaaW.PrintLast Go.Proofs.YtfojeegepfjbiaaW.PrintMore Go.Proofs.Ytfojeegepfjbiaa.Nm Go.Proofs.Ytfojeegepfjbiaa.NmA Go.Proofs.Ytfojeegepfjbiaa.NmB Go.Proofs.Ytfojeegepfjbiaa.NmC Go.Proofs.Ytfojeegepfjbiaa.NmH Go.Proofs.Ytfojeegepfjbiaa.CrP Go.Proofs.Ytfojeegepfjbiaa.CrA Go.Proofs.Ytfojeegepfjbiaa.CrB Go.Proofs.Ytfojeegepfjbiaa.CrC Go.Proofs.Ytfojeegepfjbiaa.CrD Go.Proofs.Ytfojeegepfjbiaa.CrE Go.Proofs.Ytfojeegepfjbiaa.CrF Go.Proofs.Ytfojeegepfjbiaa.CrL Go.Proofs.Ytfojeegepfjbiaa.CrM Go.Proofs.Ytfojeegepfjbiaa.Mix
set_option linter.unusedSimpArgs false
set_option linter.unusedVariables false
attribute [local go_sem] max2_int min2_int max_two min_two

theorem xr_rd {a b : List Int} {i : Nat} (ha : i < a.length) (hb : i < b.length) : rd (xr a b) (i : Int) = (((rd a (i : Int)).toNat ^^^ (rd b (i : Int)).toNat : Nat) : Int) := by
  induction a generalizing b i with
  | nil => simp at ha
  | cons x a ih =>
    cases b with
    | nil => simp at hb
    | cons y b =>
      cases i with
      | zero => rfl
      | succ i => exact ih (by simpa using ha) (by simpa using hb)
theorem rd_take {a : List Int} {i n : Nat} (h : i < n) : rd (a.take n) (i : Int) = rd a (i : Int) := by
  unfold rd
  rw [Int.toNat_natCast, List.getD_eq_getElem?_getD, List.getD_eq_getElem?_getD, List.getElem?_take_of_lt h]
theorem set_fill (D : List Int) (i n : Nat) (h : i < n) (hD : D.length = n) : (D.take i ++ List.replicate (n - i) 0).set i (rd D (i : Int)) = D.take (i + 1) ++ List.replicate (n - (i + 1)) (0 : Int) := by
  have hl : (D.take i).length = i := by rw [List.length_take]; omega
  rw [List.set_append, if_neg (by omega), hl, Nat.sub_self, show n - i = (n - (i + 1)) + 1 by omega, List.replicate_succ, List.set_cons_zero, List.take_add_one, List.append_assoc]
  congr 1
  rw [List.getElem?_eq_getElem (by omega)]
  unfold rd
  rw [Int.toNat_natCast, List.getD_eq_getElem?_getD, List.getElem?_eq_getElem (by omega)]
  rfl
set_option maxRecDepth 100000 in
set_option maxHeartbeats 1000000 in
theorem walk (A : Option Addr) (c : Nat) (l : List Int) (A1 : Option Addr) (c1 : Nat) (l1 : List Int) (A2 : Option Addr) (c2 : Nat) (l2 : List Int) (w : World)
    (hr : (Kd.int .u8).C w A l.length l) (hc : l.length ≤ c) (hm : l.length * 1 ≤ 140737488351232) (hw : ∀ x ∈ l, (Lit.int .u8 x).wf = true)
    (hr1 : (Kd.int .u8).C w A1 l1.length l1) (hc1 : l1.length ≤ c1) (hm1 : l1.length * 1 ≤ 140737488351232) (hw1 : ∀ x ∈ l1, (Lit.int .u8 x).wf = true)
    (hr2 : (Kd.int .u8).C w A2 l2.length l2) (hc2 : l2.length ≤ c2) (hm2 : l2.length * 1 ≤ 140737488351232) (hw2 : ∀ x ∈ l2, (Lit.int .u8 x).wf = true) :
    Calls Try.prog 8 #[.slice A l.length c, .slice A1 l1.length c1, .slice A2 l2.length c2] w fun e w' => e = .returned (.bool true) ∧ Below w.heap.size w w' := by
  have HR0 := hr
  have HR01 := hr1
  have HR02 := hr2
  clear hr hr1 hr2
  have HS := Aside0.mk (fun w => short_calls A c l 100 hc w)
  have HS1 := Aside0.mk (fun w => short_calls A1 c1 l1 100 hc1 w)
  have HS2 := Aside0.mk (fun w => short_calls A2 c2 l2 100 hc2 w)
  have hby := bys_take (bys_wf hw) 100
  have hby1 := bys_take (bys_wf hw1) 100
  have hby2 := bys_take (bys_wf hw2) 100
  have hr := C_take 100 HR0
  have hr1 := C_take 100 HR01
  have hr2 := C_take 100 HR02
  have hl : (l.take 100).length ≤ 100 := by rw [List.length_take]; omega
  have hl1 : (l1.take 100).length ≤ 100 := by rw [List.length_take]; omega
  have hl2 : (l2.take 100).length ≤ 100 := by rw [List.length_take]; omega
  have hc' : (l.take 100).length ≤ c := by rw [List.length_take]; omega
  have hc1' : (l1.take 100).length ≤ c1 := by rw [List.length_take]; omega
  have hc2' : (l2.take 100).length ≤ c2 := by rw [List.length_take]; omega
  clear HR0 HR01 HR02 hm hw hm1 hw1 hm2 hw2 hc hc1 hc2
  generalize l.take 100 = s at *
  generalize l1.take 100 = s1 at *
  generalize l2.take 100 = s2 at *
  obtain ⟨m, hm⟩ : ∃ m : Nat, m = min s2.length s1.length := ⟨_, rfl⟩
  obtain ⟨n, hn⟩ : ∃ n : Nat, n = min m s.length := ⟨_, rfl⟩
  have hq1 : (if s2.length < s1.length then (s2.length : Int) else (s1.length : Int)) = (m : Int) := by split <;> omega
  have hq2 : (if m < s.length then (m : Int) else (s.length : Int)) = (n : Int) := by split <;> omega
  have hn0 : n ≤ s.length ∧ n ≤ s1.length ∧ n ≤ s2.length := by omega
  have HR := Aside0.mk hr
  have HR1 := Aside0.mk hr1
  have HR2 := Aside0.mk hr2
  have HY := Aside0.mk (And.intro hby (And.intro hby1 hby2))
  have HN := Aside0.mk (And.intro hn0 hl)
  have HC := Aside0.mk (And.intro hc' (And.intro hc1' hc2'))
  obtain ⟨D, hD⟩ : ∃ D, xr (xr (s.take n) (s1.take n)) (s2.take n) = D := ⟨_, rfl⟩
  have hDl : D.length = n := by
    rw [← hD, xr_len, xr_len] <;> simp only [List.length_take] <;> try rw [xr_len] <;> simp only [List.length_take]
    all_goals omega
  have HD := Aside0.mk (And.intro hD hDl)
  clear hD hDl hm hn hr hr1 hr2 hby hby1 hby2 hl hl1 hl2 hn0 hc' hc1' hc2'
  go_enter Try.func8, Try.ntmps8
  go_wp2_with fail
  refine (begun_calls w).mono ?_
  rintro e_ w1 ⟨rfl, hb⟩
  have HB1 := Aside0.mk hb
  clear hb
  go_wp2_with fail
  refine (HS.out w1).mono ?_
  rintro e_ w2 ⟨rfl, rfl⟩
  go_wp2_with fail
  refine (HS1.out w1).mono ?_
  rintro e_ w2 ⟨rfl, rfl⟩
  go_wp2_with fail
  refine (HS2.out w1).mono ?_
  rintro e_ w2 ⟨rfl, rfl⟩
  go_wp2_with ((with_reducible refine gate_dst (N := 29) rfl ?_); go_must (refine Kd.R_make (Kd.int .u8) (w0 := w) (w.heap.size) 5 ?hg (N := 29) ?hd 22 (.tmp 28) (.tmp 28) ?ho_ ((n : Int)) ?hx_ ?hy_ Try.underlying22 (.int .u8 0) 1 info5 rfl (by decide) (by decide) (0) (ok := fun _ => True) (okp := fun _ => True) ?hz_ (fun _ hk => hk) trivial (by omega) ?hl_ (HB1.out) (Below.size (HB1.out)) ?_; (case hd => rfl); (case hg => rfl); (case ho_ => rfl); (case hx_ => first | (go_simp; done) | (go_simp; rfl)); (case hy_ => first | (go_simp; done) | (go_simp; rfl)); (case hz_ => first | rfl | exact ⟨rfl⟩ | trivial); (case hl_ => have := HN.out; omega); intro vd w2 ho3 hb hg_ hnew_; have HO := Aside0.mk ho3; have HB2 := Aside0.mk hb; clear ho3 hb hg_ hnew_))
  obtain ⟨Ad, cd, ev⟩ := Kd.R_slice HO.out
  rw [List.length_replicate, Int.toNat_natCast] at ev
  subst ev
  go_loopg [10] n (fun q v10 w' => ∃ i : Nat, v10 = .int .i64 (i : Int) ∧ Aside0 (i + q = n) ∧ Aside0 (Kd.R (Kd.int .u8) 5 w' w.heap.size (fun _ => True) (.slice Ad n cd) (D.take i ++ List.replicate (n - i) 0)) ∧ Aside0 (Below w.heap.size w w'))
  case atStart => exact ⟨0, rfl, ⟨by omega⟩, ⟨by have := HO.out; rw [Int.toNat_natCast] at this; simpa using this⟩, HB2⟩
  case round =>
    clear HO HB2 HB1
    obtain ⟨i, rfl, HI, HO, HB⟩ := hrel
    have hi := HI.out
    by_cases hlt : i < n
    · obtain ⟨f, rfl⟩ : ∃ f, gk = f + 1 := ⟨gk - 1, by omega⟩
      have hn := HN.out
      have hrl : (D.take i ++ List.replicate (n - i) 0).length = n := by rw [List.length_append, List.length_take, List.length_replicate]; have := HD.out.2; omega
      have hsf := set_fill D i n hlt HD.out.2
      have hz : rd D (i : Int) = (((rd s (i : Int)).toNat ^^^ (rd s1 (i : Int)).toNat ^^^ (rd s2 (i : Int)).toNat : Nat) : Int) := by
        rw [← HD.out.1, xr_rd (by rw [xr_len] <;> simp only [List.length_take] <;> omega) (by simp only [List.length_take]; omega), xr_rd (by simp only [List.length_take]; omega) (by simp only [List.length_take]; omega), rd_take hlt, rd_take hlt, rd_take hlt, Int.toNat_natCast]
      obtain ⟨ad, e_, _⟩ := Kd.at_int HR.out (i : Int) (by omega) (by omega)
      subst e_
      obtain ⟨ad1, e_, _⟩ := Kd.at_int HR1.out (i : Int) (by omega) (by omega)
      subst e_
      obtain ⟨ad2, e_, _⟩ := Kd.at_int HR2.out (i : Int) (by omega) (by omega)
      subst e_
      have b0 := rd_bys HY.out.1 (i := i) (by omega)
      have b1 := rd_bys HY.out.2.1 (i := i) (by omega)
      have b2 := rd_bys HY.out.2.2 (i := i) (by omega)
      go_wp2_with fail
      obtain ⟨y, hy0⟩ : ∃ y, rd s (i : Int) = y := ⟨_, rfl⟩
      obtain ⟨y1, hy1⟩ : ∃ y, rd s1 (i : Int) = y := ⟨_, rfl⟩
      obtain ⟨y2, hy2⟩ : ∃ y, rd s2 (i : Int) = y := ⟨_, rfl⟩
      rw [hy0] at b0 hz
      rw [hy1] at b1 hz
      rw [hy2] at b2 hz
      have HY0 := Aside0.mk hy0
      have HY1 := Aside0.mk hy1
      have HY2 := Aside0.mk hy2
      clear hy0 hy1 hy2
      have hv1 := u8_xor y y1 b0.1 b0.2 b1.1 b1.2
      have hv1b : y.toNat ^^^ y1.toNat < 2 ^ 8 := Nat.xor_lt_two_pow (by omega) (by omega)
      have hv2 := u8_xor ((y.toNat ^^^ y1.toNat : Nat) : Int) y2 (by omega) (by omega) b2.1 b2.2
      rw [Int.toNat_natCast, ← hz] at hv2
      have k0 : ((i : Int) < (s.length : Int)) = True := eq_true (by omega)
      have k1 : ((i : Int) < (s1.length : Int)) = True := eq_true (by omega)
      have k2 : ((i : Int) < (s2.length : Int)) = True := eq_true (by omega)
      have kb : ((i : Int) < (n : Int)) = True := eq_true (by omega)
      have kw : IntKind.i64.wrap ((i : Int) + 1) = ((i + 1 : Nat) : Int) := by rw [IntKind.wrap_i64]; omega
      generalize y.toNat ^^^ y1.toNat = yy at *
      obtain ⟨z, hzz⟩ : ∃ z, rd D (i : Int) = z := ⟨_, rfl⟩
      rw [hzz] at hsf hv2
      have HSF := Aside0.mk hsf
      have HRL := Aside0.mk hrl
      clear hzz hsf hrl
      generalize D.take i ++ List.replicate (n - i) 0 = row at *
      clear hz hn hi
      refine wp_region_mix (fun w_ w1_ => Below w.heap.size w_ w1_) [(false, 0), (false, 1), (false, 2), (false, 3), (false, 4), (false, 5), (false, 6), (false, 7), (false, 8), (false, 9), (false, 10), (false, 11), (false, 12), (false, 13), (false, 14), (false, 15), (false, 16), (true, 17)] (by kernel_rfl) (by kernel_rfl) (fun _ => Below.refl _ _) (fun h h' => h.trans h') (fun wd hhp_ hbw_ => ?_)
      have HBd := Aside0.mk (below_step HB.out hbw_)
      have hod := Kd.R_below HO.out hbw_
      obtain ⟨g, cap, ev, hgb, hgl, hj_⟩ := Kd.R_form hod (by rw [HRL.out]; omega)
      rw [HRL.out] at ev
      injection ev with e1 e2 e3
      subst e1
      have hcl := Kd.R_celln 0 hod (i : Int) (by omega) (by omega)
      obtain ⟨hpr, hpg⟩ := Kd.R_putg hod (i : Int) z
      rw [Int.toNat_natCast] at hcl hpr hpg
      rw [HSF.out] at hpr
      have HPR := Aside0.mk hpr
      have HB5 := Aside0.mk (pw_below_grown HBd.out (some g) HBd.out.size hpg (fun q hq => by simp at hq; omega))
      obtain ⟨hc1, hc2⟩ := hcl
      have hgs := HBd.out.size
      clear hj_ hpr hod e2 e3 hhp_ hbw_ HB HO
      (refine mix_read (o := { dst := some 35, op := Op.move (Operand.tmp 9), type := 22, pos := "more.go:18", after := #[], guard := none }) rfl (by first | rfl | (simp [Region.wanted, yielded]; done)) (by intro w_ hE_; (try dsimp only at hE_); first | (go_simp; done) | (go_simp; rfl)) ?_)
      (try simp only [Act.put, List.setIfInBounds_toArray, List.set_cons_zero, List.set_cons_succ])
      (refine mix_read (o := { dst := some 36, op := Op.move (Operand.tmp 10), type := 3, pos := "more.go:18", after := #[], guard := none }) rfl (by first | rfl | (simp [Region.wanted, yielded]; done)) (by intro w_ hE_; (try dsimp only at hE_); first | (go_simp; done) | (go_simp; rfl)) ?_)
      (try simp only [Act.put, List.setIfInBounds_toArray, List.set_cons_zero, List.set_cons_succ])
      (refine mix_read (o := { dst := some 37, op := Op.move (Operand.tmp 0), type := 22, pos := "more.go:18", after := #[], guard := none }) rfl (by first | rfl | (simp [Region.wanted, yielded]; done)) (by intro w_ hE_; (try dsimp only at hE_); first | (go_simp; done) | (go_simp; rfl)) ?_)
      (try simp only [Act.put, List.setIfInBounds_toArray, List.set_cons_zero, List.set_cons_succ])
      (refine mix_read (o := { dst := some 38, op := Op.move (Operand.tmp 10), type := 3, pos := "more.go:18", after := #[], guard := none }) rfl (by first | rfl | (simp [Region.wanted, yielded]; done)) (by intro w_ hE_; (try dsimp only at hE_); first | (go_simp; done) | (go_simp; rfl)) ?_)
      (try simp only [Act.put, List.setIfInBounds_toArray, List.set_cons_zero, List.set_cons_succ])
      (refine mix_read (o := { dst := some 39, op := Op.indexAddr 22 (Operand.tmp 37) (Operand.tmp 38), type := 0, pos := "more.go:18", after := #[{ on := 2, ground := Ground.data }, { on := 3, ground := Ground.data }], guard := none }) rfl (by first | rfl | (simp [Region.wanted, yielded]; done)) (by intro w_ hE_; (try dsimp only at hE_); first | (go_simp; done) | (go_simp; rfl)) ?_)
      (try simp only [Act.put, List.setIfInBounds_toArray, List.set_cons_zero, List.set_cons_succ])
      (refine mix_read (o := { dst := some 40, op := Op.load 5 (Operand.tmp 39), type := 5, pos := "more.go:18", after := #[{ on := 4, ground := Ground.data }], guard := none }) rfl (by first | rfl | (simp [Region.wanted, yielded]; done)) (by intro w_ hE_; (try dsimp only at hE_); have q_ := cell_at HR.out (HBd.out.trans hE_) i (by omega); rw [HY0.out] at q_; first | (go_simp; done) | (go_simp; rfl)) ?_)
      (try simp only [Act.put, List.setIfInBounds_toArray, List.set_cons_zero, List.set_cons_succ])
      (refine mix_read (o := { dst := some 41, op := Op.move (Operand.tmp 1), type := 22, pos := "more.go:18", after := #[], guard := none }) rfl (by first | rfl | (simp [Region.wanted, yielded]; done)) (by intro w_ hE_; (try dsimp only at hE_); first | (go_simp; done) | (go_simp; rfl)) ?_)
      (try simp only [Act.put, List.setIfInBounds_toArray, List.set_cons_zero, List.set_cons_succ])
      (refine mix_read (o := { dst := some 42, op := Op.move (Operand.tmp 10), type := 3, pos := "more.go:18", after := #[], guard := none }) rfl (by first | rfl | (simp [Region.wanted, yielded]; done)) (by intro w_ hE_; (try dsimp only at hE_); first | (go_simp; done) | (go_simp; rfl)) ?_)
      (try simp only [Act.put, List.setIfInBounds_toArray, List.set_cons_zero, List.set_cons_succ])
      (refine mix_read (o := { dst := some 43, op := Op.indexAddr 22 (Operand.tmp 41) (Operand.tmp 42), type := 0, pos := "more.go:18", after := #[{ on := 6, ground := Ground.data }, { on := 7, ground := Ground.data }], guard := none }) rfl (by first | rfl | (simp [Region.wanted, yielded]; done)) (by intro w_ hE_; (try dsimp only at hE_); first | (go_simp; done) | (go_simp; rfl)) ?_)
      (try simp only [Act.put, List.setIfInBounds_toArray, List.set_cons_zero, List.set_cons_succ])
      (refine mix_read (o := { dst := some 44, op := Op.load 5 (Operand.tmp 43), type := 5, pos := "more.go:18", after := #[{ on := 8, ground := Ground.data }], guard := none }) rfl (by first | rfl | (simp [Region.wanted, yielded]; done)) (by intro w_ hE_; (try dsimp only at hE_); have q_ := cell_at HR1.out (HBd.out.trans hE_) i (by omega); rw [HY1.out] at q_; first | (go_simp; done) | (go_simp; rfl)) ?_)
      (try simp only [Act.put, List.setIfInBounds_toArray, List.set_cons_zero, List.set_cons_succ])
      (refine mix_read (o := { dst := some 45, op := Op.binOp BinOp.xor 5 (Operand.tmp 40) (Operand.tmp 44) 5, type := 5, pos := "more.go:18", after := #[{ on := 5, ground := Ground.data }, { on := 9, ground := Ground.data }], guard := none }) rfl (by first | rfl | (simp [Region.wanted, yielded]; done)) (by intro w_ hE_; (try dsimp only at hE_); first | (go_simp; done) | (go_simp; rfl)) ?_)
      (try simp only [Act.put, List.setIfInBounds_toArray, List.set_cons_zero, List.set_cons_succ])
      (refine mix_read (o := { dst := some 46, op := Op.move (Operand.tmp 2), type := 22, pos := "more.go:18", after := #[], guard := none }) rfl (by first | rfl | (simp [Region.wanted, yielded]; done)) (by intro w_ hE_; (try dsimp only at hE_); first | (go_simp; done) | (go_simp; rfl)) ?_)
      (try simp only [Act.put, List.setIfInBounds_toArray, List.set_cons_zero, List.set_cons_succ])
      (refine mix_read (o := { dst := some 47, op := Op.move (Operand.tmp 10), type := 3, pos := "more.go:18", after := #[], guard := none }) rfl (by first | rfl | (simp [Region.wanted, yielded]; done)) (by intro w_ hE_; (try dsimp only at hE_); first | (go_simp; done) | (go_simp; rfl)) ?_)
      (try simp only [Act.put, List.setIfInBounds_toArray, List.set_cons_zero, List.set_cons_succ])
      (refine mix_read (o := { dst := some 48, op := Op.indexAddr 22 (Operand.tmp 46) (Operand.tmp 47), type := 0, pos := "more.go:18", after := #[{ on := 11, ground := Ground.data }, { on := 12, ground := Ground.data }], guard := none }) rfl (by first | rfl | (simp [Region.wanted, yielded]; done)) (by intro w_ hE_; (try dsimp only at hE_); first | (go_simp; done) | (go_simp; rfl)) ?_)
      (try simp only [Act.put, List.setIfInBounds_toArray, List.set_cons_zero, List.set_cons_succ])
      (refine mix_read (o := { dst := some 49, op := Op.load 5 (Operand.tmp 48), type := 5, pos := "more.go:18", after := #[{ on := 13, ground := Ground.data }], guard := none }) rfl (by first | rfl | (simp [Region.wanted, yielded]; done)) (by intro w_ hE_; (try dsimp only at hE_); have q_ := cell_at HR2.out (HBd.out.trans hE_) i (by omega); rw [HY2.out] at q_; first | (go_simp; done) | (go_simp; rfl)) ?_)
      (try simp only [Act.put, List.setIfInBounds_toArray, List.set_cons_zero, List.set_cons_succ])
      (refine mix_read (o := { dst := some 50, op := Op.binOp BinOp.xor 5 (Operand.tmp 45) (Operand.tmp 49) 5, type := 5, pos := "more.go:18", after := #[{ on := 10, ground := Ground.data }, { on := 14, ground := Ground.data }], guard := none }) rfl (by first | rfl | (simp [Region.wanted, yielded]; done)) (by intro w_ hE_; (try dsimp only at hE_); first | (go_simp; done) | (go_simp; rfl)) ?_)
      (try simp only [Act.put, List.setIfInBounds_toArray, List.set_cons_zero, List.set_cons_succ])
      (refine mix_read (o := { dst := some 51, op := Op.indexAddr 22 (Operand.tmp 35) (Operand.tmp 36), type := 0, pos := "more.go:18", after := #[{ on := 0, ground := Ground.data }, { on := 1, ground := Ground.data }, { on := 0, ground := Ground.phase }, { on := 1, ground := Ground.phase }, { on := 2, ground := Ground.phase }, { on := 3, ground := Ground.phase }, { on := 4, ground := Ground.phase }, { on := 5, ground := Ground.phase }, { on := 6, ground := Ground.phase }, { on := 7, ground := Ground.phase }, { on := 8, ground := Ground.phase }, { on := 9, ground := Ground.phase }, { on := 10, ground := Ground.phase }, { on := 11, ground := Ground.phase }, { on := 12, ground := Ground.phase }, { on := 13, ground := Ground.phase }, { on := 14, ground := Ground.phase }, { on := 15, ground := Ground.phase }], guard := none }) rfl (by first | rfl | (simp [Region.wanted, yielded]; done)) (by intro w_ hE_; (try dsimp only at hE_); first | (go_simp; done) | (go_simp; rfl)) ?_)
      (try simp only [Act.put, List.setIfInBounds_toArray, List.set_cons_zero, List.set_cons_succ])
      refine mix_store (o := { dst := none, op := Op.store 5 (Operand.tmp 51) (Operand.tmp 50), type := 0, pos := "more.go:18", after := #[{ on := 16, ground := Ground.data }, { on := 15, ground := Ground.data }, { on := 0, ground := Ground.phase }, { on := 1, ground := Ground.phase }, { on := 2, ground := Ground.phase }, { on := 3, ground := Ground.phase }, { on := 4, ground := Ground.phase }, { on := 5, ground := Ground.phase }, { on := 6, ground := Ground.phase }, { on := 7, ground := Ground.phase }, { on := 8, ground := Ground.phase }, { on := 9, ground := Ground.phase }, { on := 10, ground := Ground.phase }, { on := 11, ground := Ground.phase }, { on := 12, ground := Ground.phase }, { on := 13, ground := Ground.phase }, { on := 14, ground := Ground.phase }, { on := 15, ground := Ground.phase }], guard := none }) (w1 := (wd.setCell ⟨g, i, none⟩ (.int .u8 z))) rfl (by first | rfl | (simp [Region.wanted, yielded]; done)) (by first | (go_simp; done) | (go_simp; rfl)) (pw_below_grown (Below.refl w.heap.size wd) (some g) (by omega) hpg (fun q hq => by simp at hq; omega)) ?_
      (try simp only [Act.put, List.setIfInBounds_toArray, List.set_cons_zero, List.set_cons_succ])
      refine mix_nil ?_
      go_wp2_with fail
      go_roundg f
      case measure => omega
      case rel => exact ⟨i + 1, by simp, ⟨by have := HI.out; omega⟩, HPR, HB5⟩
    · have hin : i = n := by omega
      subst hin
      have kb : ((i : Int) < (i : Int)) = False := eq_false (by omega)
      have hn := HN.out
      have hlD : (D.take i ++ List.replicate (i - i) 0) = D := by rw [Nat.sub_self, List.replicate_zero, List.append_nil, List.take_of_length_le (by have := HD.out.2; omega)]
      have hC := (Kd.R_reads' HO.out).2.2
      have hcd := (Kd.R_reads' HO.out).2.1
      rw [hlD] at hC
      have HCD := Aside0.mk hC
      have hbD : Bys D := by rw [← HD.out.1]; exact bys_xr (bys_xr (bys_take HY.out.1 _) (bys_take HY.out.2.1 _)) (bys_take HY.out.2.2 _)
      have he : crc D = (crc (s.take i) ^^^ crc (s1.take i)) ^^^ crc (s2.take i) := by
        rw [← HD.out.1]
        exact crc_three (by simp only [List.length_take]; omega) (by simp only [List.length_take]; omega)
      have ht0 := to_of A c s i (by omega) HC.out.1
      have ht1 := to_of A1 c1 s1 i (by omega) HC.out.2.1
      have ht2 := to_of A2 c2 s2 i (by omega) HC.out.2.2
      have HC0 := Aside0.mk (C_take i HR.out)
      have HC1 := Aside0.mk (C_take i HR1.out)
      have HC2 := Aside0.mk (C_take i HR2.out)
      have y0 := bys_take HY.out.1 i
      have y1 := bys_take HY.out.2.1 i
      have y2 := bys_take HY.out.2.2 i
      have hq0 : (s.take i).length ≤ 100 ∧ (s1.take i).length ≤ 100 ∧ (s2.take i).length ≤ 100 := by simp only [List.length_take]; omega
      have hDl := HD.out.2
      clear HO hlD hC HD
      generalize s.take i = t0 at *
      generalize s1.take i = t1 at *
      generalize s2.take i = t2 at *
      have HSD := Aside0.mk (fun w h => sum_calls Ad cd D hbD w h (by omega))
      rw [hDl] at HSD HCD
      have HS0 := Aside0.mk (fun w h => sum_calls A c t0 y0 w h (by omega))
      have HS1 := Aside0.mk (fun w h => sum_calls A1 c1 t1 y1 w h (by omega))
      have HS2 := Aside0.mk (fun w h => sum_calls A2 c2 t2 y2 w h (by omega))
      have l0 := crc_lt y0
      have l1 := crc_lt y1
      have l2 := crc_lt y2
      have hx1 := u32_xor_nat (crc t0) (crc t1) l0 l1
      have hxl : crc t0 ^^^ crc t1 < 4294967296 := Nat.xor_lt_two_pow (n := 32) (by omega) (by omega)
      have hx2 := u32_xor_nat (crc t0 ^^^ crc t1) (crc t2) hxl l2
      rw [← he] at hx2
      generalize crc D = kD at *
      generalize crc t0 = k0 at *
      generalize crc t1 = k1 at *
      generalize crc t2 = k2 at *
      generalize k0 ^^^ k1 = k01 at *
      clear he hbD y0 y1 y2 hDl hn hq0 hcd hlt
      go_wp2_with fail
      refine wp_region_mix (fun w_ w1_ => Below w_.heap.size w_ w1_) [(false, 0), (false, 2), (false, 3), (false, 4), (false, 6), (false, 7), (false, 8), (false, 11), (false, 12), (false, 13), (true, 1), (true, 5), (true, 9), (false, 10), (true, 14), (false, 15), (false, 16), (false, 17)] (by kernel_rfl) (by kernel_rfl) (fun _ => Below.refl _ _) (fun h h' => below_step h h') (fun wd hhp_ hbw_ => ?_)
      have HZ0 := Aside0.mk hbw_
      clear hhp_ hbw_
      (refine mix_read (o := { dst := some 52, op := Op.move (Operand.tmp 9), type := 22, pos := "more.go:20", after := #[], guard := none }) rfl (by first | rfl | (simp [Region.wanted, yielded]; done)) (by intro w_ hE_; (try dsimp only at hE_); first | (go_simp; done) | (go_simp; rfl)) ?_)
      (try simp only [Act.put, List.setIfInBounds_toArray, List.set_cons_zero, List.set_cons_succ])
      (refine mix_read (o := { dst := some 54, op := Op.move (Operand.tmp 0), type := 22, pos := "more.go:20", after := #[], guard := none }) rfl (by first | rfl | (simp [Region.wanted, yielded]; done)) (by intro w_ hE_; (try dsimp only at hE_); first | (go_simp; done) | (go_simp; rfl)) ?_)
      (try simp only [Act.put, List.setIfInBounds_toArray, List.set_cons_zero, List.set_cons_succ])
      (refine mix_read (o := { dst := some 55, op := Op.move (Operand.tmp 8), type := 3, pos := "more.go:20", after := #[], guard := none }) rfl (by first | rfl | (simp [Region.wanted, yielded]; done)) (by intro w_ hE_; (try dsimp only at hE_); first | (go_simp; done) | (go_simp; rfl)) ?_)
      (try simp only [Act.put, List.setIfInBounds_toArray, List.set_cons_zero, List.set_cons_succ])
      (refine mix_read (o := { dst := some 56, op := Op.slice 22 (Operand.tmp 54) none (some (Operand.tmp 55)) none, type := 22, pos := "more.go:20", after := #[{ on := 2, ground := Ground.data }, { on := 3, ground := Ground.data }], guard := none }) rfl (by first | rfl | (simp [Region.wanted, yielded]; done)) (by intro w_ hE_; (try dsimp only at hE_); first | (go_simp; done) | (go_simp; rfl)) ?_)
      (try simp only [Act.put, List.setIfInBounds_toArray, List.set_cons_zero, List.set_cons_succ])
      (refine mix_read (o := { dst := some 58, op := Op.move (Operand.tmp 1), type := 22, pos := "more.go:20", after := #[], guard := none }) rfl (by first | rfl | (simp [Region.wanted, yielded]; done)) (by intro w_ hE_; (try dsimp only at hE_); first | (go_simp; done) | (go_simp; rfl)) ?_)
      (try simp only [Act.put, List.setIfInBounds_toArray, List.set_cons_zero, List.set_cons_succ])
      (refine mix_read (o := { dst := some 59, op := Op.move (Operand.tmp 8), type := 3, pos := "more.go:20", after := #[], guard := none }) rfl (by first | rfl | (simp [Region.wanted, yielded]; done)) (by intro w_ hE_; (try dsimp only at hE_); first | (go_simp; done) | (go_simp; rfl)) ?_)
      (try simp only [Act.put, List.setIfInBounds_toArray, List.set_cons_zero, List.set_cons_succ])
      (refine mix_read (o := { dst := some 60, op := Op.slice 22 (Operand.tmp 58) none (some (Operand.tmp 59)) none, type := 22, pos := "more.go:20", after := #[{ on := 6, ground := Ground.data }, { on := 7, ground := Ground.data }], guard := none }) rfl (by first | rfl | (simp [Region.wanted, yielded]; done)) (by intro w_ hE_; (try dsimp only at hE_); first | (go_simp; done) | (go_simp; rfl)) ?_)
      (try simp only [Act.put, List.setIfInBounds_toArray, List.set_cons_zero, List.set_cons_succ])
      (refine mix_read (o := { dst := some 63, op := Op.move (Operand.tmp 2), type := 22, pos := "more.go:20", after := #[], guard := none }) rfl (by first | rfl | (simp [Region.wanted, yielded]; done)) (by intro w_ hE_; (try dsimp only at hE_); first | (go_simp; done) | (go_simp; rfl)) ?_)
      (try simp only [Act.put, List.setIfInBounds_toArray, List.set_cons_zero, List.set_cons_succ])
      (refine mix_read (o := { dst := some 64, op := Op.move (Operand.tmp 8), type := 3, pos := "more.go:20", after := #[], guard := none }) rfl (by first | rfl | (simp [Region.wanted, yielded]; done)) (by intro w_ hE_; (try dsimp only at hE_); first | (go_simp; done) | (go_simp; rfl)) ?_)
      (try simp only [Act.put, List.setIfInBounds_toArray, List.set_cons_zero, List.set_cons_succ])
      (refine mix_read (o := { dst := some 65, op := Op.slice 22 (Operand.tmp 63) none (some (Operand.tmp 64)) none, type := 22, pos := "more.go:20", after := #[{ on := 11, ground := Ground.data }, { on := 12, ground := Ground.data }], guard := none }) rfl (by first | rfl | (simp [Region.wanted, yielded]; done)) (by intro w_ hE_; (try dsimp only at hE_); first | (go_simp; done) | (go_simp; rfl)) ?_)
      (try simp only [Act.put, List.setIfInBounds_toArray, List.set_cons_zero, List.set_cons_succ])
      refine mix_call (o := { dst := some 53, op := Op.call { callee := Callee.value (Operand.func 21), args := #[Operand.tmp 52], argTypes := #[22] }, type := 25, pos := "more.go:20", after := #[{ on := 0, ground := Ground.data }], guard := none }) rfl (by first | rfl | (simp [Region.wanted, yielded]; done)) (by first | (go_simp; done) | (go_simp; exact ⟨rfl, rfl⟩) | (go_simp; rfl)) ?_
      refine (HSD.out _ (Kd.C_below HCD.out HZ0.out)).mono ?_
      rintro e_ x1 ⟨rfl, hb⟩
      have HZ1 := Aside0.mk (below_step HZ0.out hb)
      refine ⟨_, rfl, hb, ?_⟩
      clear hb
      (try simp only [Act.put, List.setIfInBounds_toArray, List.set_cons_zero, List.set_cons_succ])
      refine mix_call (o := { dst := some 57, op := Op.call { callee := Callee.value (Operand.func 21), args := #[Operand.tmp 56], argTypes := #[22] }, type := 25, pos := "more.go:20", after := #[{ on := 4, ground := Ground.data }, { on := 1, ground := Ground.chain }], guard := none }) rfl (by first | rfl | (simp [Region.wanted, yielded]; done)) (by first | (go_simp; done) | (go_simp; exact ⟨rfl, rfl⟩) | (go_simp; rfl)) ?_
      refine (HS0.out _ (Kd.C_below HC0.out (below_step HB.out HZ1.out))).mono ?_
      rintro e_ x2 ⟨rfl, hb⟩
      have HZ2 := Aside0.mk (below_step HZ1.out hb)
      refine ⟨_, rfl, hb, ?_⟩
      clear hb
      (try simp only [Act.put, List.setIfInBounds_toArray, List.set_cons_zero, List.set_cons_succ])
      refine mix_call (o := { dst := some 61, op := Op.call { callee := Callee.value (Operand.func 21), args := #[Operand.tmp 60], argTypes := #[22] }, type := 25, pos := "more.go:20", after := #[{ on := 8, ground := Ground.data }, { on := 5, ground := Ground.chain }], guard := none }) rfl (by first | rfl | (simp [Region.wanted, yielded]; done)) (by first | (go_simp; done) | (go_simp; exact ⟨rfl, rfl⟩) | (go_simp; rfl)) ?_
      refine (HS1.out _ (Kd.C_below HC1.out (below_step HB.out HZ2.out))).mono ?_
      rintro e_ x3 ⟨rfl, hb⟩
      have HZ3 := Aside0.mk (below_step HZ2.out hb)
      refine ⟨_, rfl, hb, ?_⟩
      clear hb
      (try simp only [Act.put, List.setIfInBounds_toArray, List.set_cons_zero, List.set_cons_succ])
      (refine mix_read (o := { dst := some 62, op := Op.binOp BinOp.xor 25 (Operand.tmp 57) (Operand.tmp 61) 25, type := 25, pos := "more.go:20", after := #[{ on := 5, ground := Ground.data }, { on := 9, ground := Ground.data }], guard := none }) rfl (by first | rfl | (simp [Region.wanted, yielded]; done)) (by intro w_ hE_; (try dsimp only at hE_); first | (go_simp; done) | (go_simp; rfl)) ?_)
      (try simp only [Act.put, List.setIfInBounds_toArray, List.set_cons_zero, List.set_cons_succ])
      refine mix_call (o := { dst := some 66, op := Op.call { callee := Callee.value (Operand.func 21), args := #[Operand.tmp 65], argTypes := #[22] }, type := 25, pos := "more.go:20", after := #[{ on := 13, ground := Ground.data }, { on := 9, ground := Ground.chain }], guard := none }) rfl (by first | rfl | (simp [Region.wanted, yielded]; done)) (by first | (go_simp; done) | (go_simp; exact ⟨rfl, rfl⟩) | (go_simp; rfl)) ?_
      refine (HS2.out _ (Kd.C_below HC2.out (below_step HB.out HZ3.out))).mono ?_
      rintro e_ x4 ⟨rfl, hb⟩
      have HZ4 := Aside0.mk (below_step HZ3.out hb)
      refine ⟨_, rfl, hb, ?_⟩
      clear hb
      (try simp only [Act.put, List.setIfInBounds_toArray, List.set_cons_zero, List.set_cons_succ])
      (refine mix_read (o := { dst := some 67, op := Op.binOp BinOp.xor 25 (Operand.tmp 62) (Operand.tmp 66) 25, type := 25, pos := "more.go:20", after := #[{ on := 10, ground := Ground.data }, { on := 14, ground := Ground.data }], guard := none }) rfl (by first | rfl | (simp [Region.wanted, yielded]; done)) (by intro w_ hE_; (try dsimp only at hE_); first | (go_simp; done) | (go_simp; rfl)) ?_)
      (try simp only [Act.put, List.setIfInBounds_toArray, List.set_cons_zero, List.set_cons_succ])
      (refine mix_read (o := { dst := some 68, op := Op.binOp BinOp.eql 25 (Operand.tmp 53) (Operand.tmp 67) 25, type := 4, pos := "more.go:20", after := #[{ on := 1, ground := Ground.data }, { on := 15, ground := Ground.data }], guard := none }) rfl (by first | rfl | (simp [Region.wanted, yielded]; done)) (by intro w_ hE_; (try dsimp only at hE_); first | (go_simp; done) | (go_simp; rfl)) ?_)
      (try simp only [Act.put, List.setIfInBounds_toArray, List.set_cons_zero, List.set_cons_succ])
      (refine mix_read (o := { dst := some 6, op := Op.assign (Operand.tmp 68), type := 4, pos := "more.go:20", after := #[{ on := 16, ground := Ground.data }, { on := 14, ground := Ground.chain }, { on := 0, ground := Ground.phase }, { on := 1, ground := Ground.phase }, { on := 2, ground := Ground.phase }, { on := 3, ground := Ground.phase }, { on := 4, ground := Ground.phase }, { on := 5, ground := Ground.phase }, { on := 6, ground := Ground.phase }, { on := 7, ground := Ground.phase }, { on := 8, ground := Ground.phase }, { on := 9, ground := Ground.phase }, { on := 10, ground := Ground.phase }, { on := 11, ground := Ground.phase }, { on := 12, ground := Ground.phase }, { on := 13, ground := Ground.phase }, { on := 14, ground := Ground.phase }, { on := 15, ground := Ground.phase }, { on := 16, ground := Ground.phase }], guard := none }) rfl (by first | rfl | (simp [Region.wanted, yielded]; done)) (by intro w_ hE_; (try dsimp only at hE_); first | (go_simp; done) | (go_simp; rfl)) ?_)
      (try simp only [Act.put, List.setIfInBounds_toArray, List.set_cons_zero, List.set_cons_succ])
      refine mix_nil ?_
      go_wp2_with fail
      go_ret
      exact ⟨by simp, below_step HB.out HZ4.out⟩
end Go.Proofs.Ytfojeegepfjbiaa.CtWalk
