/- CrcBurst: up to four bytes behind one another that were changed change the sum: it answers true. No condition. -/
import Derived.Test.YtfojeegepfjbiaaProg
import Derived.Below
import Derived.Deep.Draws
import Derived.Deep.AppendLies
import Derived.Maps.AppendAt
import Derived.OwnWalk
import Derived.Laws.BytesArg
import Derived.Laws.MakeOwn
import Derived.Laws.OwnMore
import Derived.Deep.OwnRows
import Derived.Tactics
import Derived.Lib.ConvBytes
import Derived.Laws.Slices
import Derived.WalkKit
import Derived.KernelRfl
import Derived.RowKit3
import Derived.Deep.LoopGhost
import Derived.Deep.QuietTactic
import Derived.BigQuiet
import Derived.WideLaws
import Derived.Deep.DeepCutAuto
import Derived.Deep.CutBlock
import Derived.Deep.RegionHeld3
import Derived.Laws.Rows
import Derived.Lib.AppendStr
import Derived.ArgAppend
import Derived.Laws.IdiomCopy
import Derived.OrdersHeld
import Derived.Laws.BitsLemmas
import Derived.RowKit
import Derived.Deep.RegionWith
import Derived.Laws.BitsAllLaws
import Derived.WalkSpells
import Derived.Outline
import Derived.Test.YtfojeegepfjbiaaWWords
import Derived.Test.YtfojeegepfjbiaaWLast
import Derived.Test.YtfojeegepfjbiaaWMore
import Derived.Test.YtfojeegepfjbiaaWArr
import Derived.Test.YtfojeegepfjbiaaWTab
import Derived.Test.YtfojeegepfjbiaaWZeros
import Derived.Test.YtfojeegepfjbiaaWRepsOne
import Derived.Test.YtfojeegepfjbiaaCtWalk
namespace Go.Proofs.Ytfojeegepfjbiaa.CuWalk
open Go.RowKit Go.Proofs.YtfojeegepfjbiaaW.PrintWords Go.Proofs.YtfojeegepfjbiaaW.PrintLast Go.Proofs.YtfojeegepfjbiaaW.PrintMore Go.Proofs.Ytfojeegepfjbiaa.Nm Go.Proofs.Ytfojeegepfjbiaa.NmA Go.Proofs.Ytfojeegepfjbiaa.NmB Go.Proofs.Ytfojeegepfjbiaa.NmC Go.Proofs.Ytfojeegepfjbiaa.NmH Go.Proofs.Ytfojeegepfjbiaa.CrP Go.Proofs.Ytfojeegepfjbiaa.CrA Go.Proofs.Ytfojeegepfjbiaa.CrB Go.Proofs.Ytfojeegepfjbiaa.CrC Go.Proofs.Ytfojeegepfjbiaa.CrD Go.Proofs.Ytfojeegepfjbiaa.CrE Go.Proofs.Ytfojeegepfjbiaa.CrF Go.Proofs.Ytfojeegepfjbiaa.CrL Go.Proofs.Ytfojeegepfjbiaa.CrM Go.Proofs.Ytfojeegepfjbiaa.CtWalk Go.Proofs.Ytfojeegepfjbiaa.Mix
set_option linter.unusedSimpArgs false
set_option linter.unusedVariables false
attribute [local go_sem] max2_int min2_int max_two min_two

theorem xr_set {b e : List Int} {k : Nat} (v : Int) (hb : k < b.length) (he : k < e.length) : xr b (e.set k v) = (xr b e).set k (((rd b (k : Int)).toNat ^^^ v.toNat : Nat) : Int) := by
  induction b generalizing e k with
  | nil => simp at hb
  | cons x b ih =>
    cases e with
    | nil => simp at he
    | cons y e =>
      cases k with
      | zero => rfl
      | succ k =>
        simp only [List.set_cons_succ, xr]
        rw [ih (by simpa using hb) (by simpa using he)]
        rfl
/-- What is put upon a text: noughts, x's first i bytes, noughts. -/
def Di (a n : Nat) (x : List Int) (i : Nat) : List Int := List.replicate a 0 ++ x.take i ++ List.replicate (n - a - i) 0
theorem Di_len {a n i : Nat} {x : List Int} (h : i ≤ x.length) (hn : a + x.length ≤ n) : (Di a n x i).length = n := by
  unfold Di
  rw [List.length_append, List.length_append, List.length_replicate, List.length_replicate, List.length_take]
  omega
theorem Di_set {a n i : Nat} {x : List Int} (h : i < x.length) (hn : a + x.length ≤ n) : (Di a n x i).set (a + i) (rd x (i : Int)) = Di a n x (i + 1) := by
  unfold Di
  have hl : (List.replicate a (0 : Int) ++ x.take i).length = a + i := by rw [List.length_append, List.length_replicate, List.length_take]; omega
  rw [List.set_append, if_neg (by omega), hl, Nat.sub_self, show n - a - i = (n - a - (i + 1)) + 1 by omega, List.replicate_succ, List.set_cons_zero, List.take_add_one, List.append_assoc, List.append_assoc, List.append_assoc]
  congr 2
  rw [List.getElem?_eq_getElem (by omega)]
  unfold rd
  rw [Int.toNat_natCast, List.getD_eq_getElem?_getD, List.getElem?_eq_getElem (by omega)]
  rfl
theorem Di_rd {a n i : Nat} {x : List Int} (h : i < x.length) (hn : a + x.length ≤ n) : rd (Di a n x i) ((a + i : Nat) : Int) = 0 := by
  unfold Di rd
  have hl : (List.replicate a (0 : Int) ++ x.take i).length = a + i := by rw [List.length_append, List.length_replicate, List.length_take]; omega
  rw [Int.toNat_natCast, List.getD_eq_getElem?_getD, List.getElem?_append_right (by omega), hl, Nat.sub_self, show n - a - i = (n - a - (i + 1)) + 1 by omega, List.replicate_succ]
  rfl
theorem xr_zero {b : List Int} (hb : Bys b) : xr b (List.replicate b.length 0) = b := by
  induction b with
  | nil => rfl
  | cons x b ih =>
    rw [List.length_cons, List.replicate_succ]
    have hx := hb x (by simp)
    show ((x.toNat ^^^ (0 : Int).toNat : Nat) : Int) :: xr b (List.replicate b.length 0) = x :: b
    rw [ih (fun v hv => hb v (by simp [hv])), Int.toNat_zero, Nat.xor_zero, Int.toNat_of_nonneg hx.1]
theorem Di_zero (a n : Nat) (x : List Int) (h : a ≤ n) : Di a n x 0 = List.replicate n 0 := by
  unfold Di
  rw [List.take_zero, List.append_nil, List.replicate_append_replicate]
  congr 1; omega
theorem bys_Di {a n i : Nat} {x : List Int} (hx : Bys x) : Bys (Di a n x i) := by
  unfold Di
  have hz : ∀ m, Bys (List.replicate m 0) := fun m z hz => by have := List.eq_of_mem_replicate hz; omega
  exact bys_append (bys_append (hz _) (bys_take hx i)) (hz _)
set_option maxRecDepth 100000 in
set_option maxHeartbeats 1000000 in
theorem walk (A : Option Addr) (c : Nat) (l : List Int) (a1 : Int) (A2 : Option Addr) (c2 : Nat) (l2 : List Int) (w : World)
    (hr : (Kd.int .u8).C w A l.length l) (hc : l.length ≤ c) (hm : l.length * 1 ≤ 140737488351232) (hw : ∀ x ∈ l, (Lit.int .u8 x).wf = true)
    (w1 : (Lit.int .i64 a1).wf = true)
    (hr2 : (Kd.int .u8).C w A2 l2.length l2) (hc2 : l2.length ≤ c2) (hm2 : l2.length * 1 ≤ 140737488351232) (hw2 : ∀ x ∈ l2, (Lit.int .u8 x).wf = true) :
    Calls Try.prog 9 #[.slice A l.length c, .int .i64 a1, .slice A2 l2.length c2] w fun e w' => e = .returned (.bool true) ∧ Below w.heap.size w w' := by
  have ha : -9223372036854775808 ≤ a1 ∧ a1 ≤ 9223372036854775807 := by
    simp [Lit.wf, IntKind.min, IntKind.max, IntKind.bits, IntKind.signed] at w1
    omega
  clear w1
  have HR0 := hr
  have HR02 := hr2
  clear hr hr2
  have HS := Aside0.mk (fun w => short_calls A c l 200 hc w)
  have HS2 := Aside0.mk (fun w => short_calls A2 c2 l2 4 hc2 w)
  have hby := bys_take (bys_wf hw) 200
  have hby2 := bys_take (bys_wf hw2) 4
  have hr := C_take 200 HR0
  have hr2 := C_take 4 HR02
  have hl : (l.take 200).length ≤ 200 := by rw [List.length_take]; omega
  have hl2 : (l2.take 4).length ≤ 4 := by rw [List.length_take]; omega
  clear HR0 HR02 hm hw hm2 hw2 hc hc2
  generalize l.take 200 = s at *
  generalize l2.take 4 = x at *
  have HR := Aside0.mk hr
  have HR2 := Aside0.mk hr2
  have HY := Aside0.mk (And.intro hby hby2)
  have HN := Aside0.mk (And.intro hl hl2)
  clear hr hr2 hby hby2
  go_enter Try.func9, Try.ntmps9
  go_wp2_with fail
  refine (begun_calls w).mono ?_
  rintro e_ w1 ⟨rfl, hb⟩
  have HB1 := Aside0.mk hb
  clear hb
  go_wp2_with fail
  refine (HS.out w1).mono ?_
  rintro e_ w2 ⟨rfl, rfl⟩
  go_wp2_with fail
  refine (HS2.out w1).mono ?_
  rintro e_ w2 ⟨rfl, rfl⟩
  go_wp2_with fail
  go_loopg [8, 9] x.length (fun q v8 v9 w' => ∃ (i : Nat) (b : Bool), v9 = .int .i64 (i : Int) ∧ v8 = .bool b ∧ Aside0 (i + q = x.length ∧ (b = true ↔ ∃ v ∈ x.take i, v ≠ 0)) ∧ Aside0 (w1 = w'))
  case atStart => exact ⟨0, false, rfl, rfl, ⟨by omega, by simp⟩, ⟨rfl⟩⟩
  case round =>
    obtain ⟨i, b, rfl, rfl, HI, HW⟩ := hrel
    have hw := HW.out
    subst hw
    have hi := HI.out.1
    by_cases hlt : i < x.length
    · obtain ⟨f, rfl⟩ : ∃ f, gk = f + 1 := ⟨gk - 1, by omega⟩
      obtain ⟨ad, e_, _⟩ := Kd.at_int HR2.out (i : Int) (by omega) (by omega)
      subst e_
      have hx := cell_at HR2.out HB1.out i (by omega)
      have k0 : ((i : Int) < (x.length : Int)) = True := eq_true (by omega)
      have htk : x.take (i + 1) = x.take i ++ [rd x (i : Int)] := by
        rw [List.take_add_one, List.getElem?_eq_getElem hlt]
        unfold rd
        rw [Int.toNat_natCast, List.getD_eq_getElem?_getD, List.getElem?_eq_getElem hlt]
        rfl
      have kw : IntKind.i64.wrap ((i : Int) + 1) = ((i + 1 : Nat) : Int) := by rw [IntKind.wrap_i64]; have := HN.out; omega
      generalize rd x (i : Int) = y at *
      have HT := Aside0.mk htk
      clear htk hi
      cases b with
      | true =>
        have HEX := Aside0.mk (HI.out.2.1 rfl)
        go_wp2_with fail
        go_roundg f
        case measure => omega
        case rel => exact ⟨i + 1, true, by simp, rfl, ⟨by have := HI.out; omega, by rw [HT.out]; obtain ⟨v, hv, h0⟩ := HEX.out; exact ⟨fun _ => ⟨v, by simp [hv], h0⟩, fun _ => rfl⟩⟩, ⟨rfl⟩⟩
      | false =>
        have hn : ¬ ∃ v ∈ x.take i, v ≠ 0 := fun h => by simpa using HI.out.2.2 h
        by_cases hy : y = 0
        · have b0 : (y != 0) = false := by simp [hy]
          go_wp2_with fail
          go_roundg f
          case measure => omega
          case rel =>
            exact ⟨i + 1, false, by simp, rfl, ⟨by have := HI.out; omega, by
              rw [HT.out]
              refine ⟨fun h => by simp at h, fun ⟨v, hv, h0⟩ => ?_⟩
              rcases List.mem_append.1 hv with h | h
              · exact absurd ⟨v, h, h0⟩ hn
              · exact absurd ((List.mem_singleton.1 h).trans hy) h0⟩, ⟨rfl⟩⟩
        · have b0 : (y != 0) = true := by simp [hy]
          go_wp2_with fail
          go_roundg f
          case measure => omega
          case rel => exact ⟨i + 1, true, by simp, rfl, ⟨by have := HI.out; omega, by rw [HT.out]; exact ⟨fun _ => ⟨y, by simp, hy⟩, fun _ => rfl⟩⟩, ⟨rfl⟩⟩
    · have hin : i = x.length := by omega
      subst hin
      have hbx := HI.out.2
      rw [List.take_of_length_le (Nat.le_refl _)] at hbx
      have kb : ((x.length : Int) < (x.length : Int)) = False := eq_false (by omega)
      have ksb : IntKind.i64.wrap ((s.length : Int) - (x.length : Int)) = (s.length : Int) - (x.length : Int) := by rw [IntKind.wrap_i64]; omega
      clear hlt hi HI HW
      by_cases h1 : a1 < 0
      · go_wp2
        go_ret
        exact ⟨by simp, HB1.out⟩
      by_cases h2 : (s.length : Int) - (x.length : Int) < a1
      · go_wp2
        go_ret
        exact ⟨by simp, HB1.out⟩
      cases b with
      | false =>
        go_wp2
        go_ret
        exact ⟨by simp, HB1.out⟩
      | true =>
        have hne := hbx.1 rfl
        clear hbx
        obtain ⟨a, rfl⟩ := Int.eq_ofNat_of_zero_le (by omega : 0 ≤ a1)
        have hx0 : 0 < x.length := by obtain ⟨v, hv, _⟩ := hne; exact List.length_pos_of_mem hv
        have HNE := Aside0.mk hne
        have HN0 := Aside0.mk (Kd.R_nil (Kd.int .u8) 5 w1 w.heap.size (fun _ => True))
        have HR3 := Aside0.mk (Kd.C_below HR.out HB1.out)
        have HAN : Aside0 (a + x.length ≤ s.length) := ⟨by omega⟩
        clear hne
        go_wp2_with ((with_reducible refine gate_builtin (b := .append) (xs := #[.const (.slice none 0 0), .tmp 48]) rfl ?_); at_builtin; go_must (refine Kd.R_append_row (Value.int .u8) (0) (h1 := fun _ => rfl) (w0 := w) (w.heap.size) rfl (.const (.slice none 0 0)) (.tmp 48) 22 5 (.int .u8 0) 1 rfl Try.underlying22 info5 rfl (by decide) (.slice none 0 0) ([] : List Int) s A (s.length) c (fun _ => True) rfl rfl (fun _ _ => trivial) (HN0.out) (HR3.out) (HB1.out) (Below.size (HB1.out)) ?aL_ ?_; (case aL_ => have := HN.out; simp only [List.length_nil]; omega); intro v4 w4 ho hb hg hat; have HO4 := Aside0.mk ho; have HB4 := Aside0.mk hb; clear ho hb hg hat))
        rw [List.nil_append] at HO4
        obtain ⟨Ad, cd, ev⟩ := Kd.R_slice HO4.out
        subst ev
        clear HN0 HR3
        go_loopg [11] x.length (fun q v11 w' => ∃ i : Nat, v11 = .int .i64 (i : Int) ∧ Aside0 (i + q = x.length) ∧ Aside0 (Kd.R (Kd.int .u8) 5 w' w.heap.size (fun _ => True) (.slice Ad s.length cd) (xr s (Di a s.length x i))) ∧ Aside0 (Below w.heap.size w w'))
        case atStart => exact ⟨0, rfl, ⟨by omega⟩, ⟨by rw [Di_zero a s.length x (by have := HAN.out; omega), xr_zero HY.out.1]; exact HO4.out⟩, HB4⟩
        case round =>
          clear HO4 HB4 HB1
          obtain ⟨i, rfl, HI, HO, HB⟩ := hrel
          have hi := HI.out
          by_cases hlt : i < x.length
          · obtain ⟨f, rfl⟩ : ∃ f, gk = f + 1 := ⟨gk - 1, by omega⟩
            have han := HAN.out
            have hn := HN.out
            have hdl := Di_len (a := a) (n := s.length) (i := i) (x := x) (by omega) (by omega)
            have hrl : (xr s (Di a s.length x i)).length = s.length := xr_len hdl.symm
            have b1 := rd_bys HY.out.2 (i := i) (by omega)
            have hrk : rd (xr s (Di a s.length x i)) ((a + i : Nat) : Int) = rd s ((a + i : Nat) : Int) := by
              have b0 := rd_bys HY.out.1 (i := a + i) (by omega)
              rw [xr_rd (by omega) (by omega), Di_rd hlt (by omega), Int.toNat_zero, Nat.xor_zero]
              omega
            have hsf := xr_set (b := s) (e := Di a s.length x i) (k := a + i) (rd x (i : Int)) (by omega) (by omega)
            rw [Di_set hlt (by omega)] at hsf
            have b0 := rd_bys HY.out.1 (i := a + i) (by omega)
            have kk : IntKind.i64.wrap ((a : Int) + (i : Int)) = ((a + i : Nat) : Int) := by rw [IntKind.wrap_i64]; omega
            obtain ⟨ad2, e_, _⟩ := Kd.at_int HR2.out (i : Int) (by omega) (by omega)
            subst e_
            obtain ⟨k, hk⟩ : ∃ k, a + i = k := ⟨_, rfl⟩
            rw [hk] at kk hrk hsf b0
            obtain ⟨y, hy0⟩ : ∃ y, rd s (k : Int) = y := ⟨_, rfl⟩
            obtain ⟨y1, hy1⟩ : ∃ y, rd x (i : Int) = y := ⟨_, rfl⟩
            rw [hy0] at b0 hrk hsf
            rw [hy1] at b1 hsf
            have hv1 := u8_xor y y1 b0.1 b0.2 b1.1 b1.2
            have HY1 := Aside0.mk hy1
            generalize ((y.toNat ^^^ y1.toNat : Nat) : Int) = z at *
            have HRK := Aside0.mk hrk
            have HSF := Aside0.mk hsf.symm
            have HRL := Aside0.mk hrl
            have k1 : ((i : Int) < (x.length : Int)) = True := eq_true (by omega)
            have k0 : ((k : Int) < (s.length : Int)) = True := eq_true (by omega)
            have kw : IntKind.i64.wrap ((i : Int) + 1) = ((i + 1 : Nat) : Int) := by rw [IntKind.wrap_i64]; omega
            clear hrk hsf hrl hy0 hy1 hdl
            generalize xr s (Di a s.length x i) = row at *
            go_wp2_with fail
            refine wp_region_mix (fun w_ w1_ => Below w.heap.size w_ w1_) [(false, 0), (false, 1), (false, 2), (false, 3), (false, 4), (false, 6), (false, 7), (false, 8), (false, 9), (true, 5), (false, 10), (false, 11), (true, 12)] (by kernel_rfl) (by kernel_rfl) (fun _ => Below.refl _ _) (fun h h' => h.trans h') (fun wd hhp_ hbw_ => ?_)
            have HBd := Aside0.mk (below_step HB.out hbw_)
            have hod := Kd.R_below HO.out hbw_
            obtain ⟨g, cap, ev, hgb, hgl, hj_⟩ := Kd.R_form hod (by rw [HRL.out]; omega)
            rw [HRL.out] at ev
            injection ev with e1 e2 e3
            subst e1
            have hcl := Kd.R_celln 0 hod (k : Int) (by omega) (by omega)
            obtain ⟨hpr, hpg⟩ := Kd.R_putg hod (k : Int) z
            rw [Int.toNat_natCast] at hcl hpr hpg
            rw [HSF.out] at hpr
            have HPR := Aside0.mk hpr
            have HB5 := Aside0.mk (pw_below_grown HBd.out (some g) HBd.out.size hpg (fun q hq => by simp at hq; omega))
            obtain ⟨hc1, hc2⟩ := hcl
            rw [show rdOf 0 row (k : Int) = y from HRK.out] at hc1
            have hgs := HBd.out.size
            clear hj_ hpr hod e2 e3 hhp_ hbw_ HB HO
            (refine mix_read (o := { dst := some 56, op := Op.move (Operand.tmp 10), type := 22, pos := "more.go:39", after := #[], guard := none }) rfl (by first | rfl | (simp [Region.wanted, yielded]; done)) (by intro w_ hE_; (try dsimp only at hE_); first | (go_simp; done) | (go_simp; rfl)) ?_)
            (try simp only [Act.put, List.setIfInBounds_toArray, List.set_cons_zero, List.set_cons_succ])
            (refine mix_read (o := { dst := some 57, op := Op.move (Operand.tmp 1), type := 3, pos := "more.go:39", after := #[], guard := none }) rfl (by first | rfl | (simp [Region.wanted, yielded]; done)) (by intro w_ hE_; (try dsimp only at hE_); first | (go_simp; done) | (go_simp; rfl)) ?_)
            (try simp only [Act.put, List.setIfInBounds_toArray, List.set_cons_zero, List.set_cons_succ])
            (refine mix_read (o := { dst := some 58, op := Op.move (Operand.tmp 11), type := 3, pos := "more.go:39", after := #[], guard := none }) rfl (by first | rfl | (simp [Region.wanted, yielded]; done)) (by intro w_ hE_; (try dsimp only at hE_); first | (go_simp; done) | (go_simp; rfl)) ?_)
            (try simp only [Act.put, List.setIfInBounds_toArray, List.set_cons_zero, List.set_cons_succ])
            (refine mix_read (o := { dst := some 59, op := Op.binOp BinOp.add 3 (Operand.tmp 57) (Operand.tmp 58) 3, type := 3, pos := "more.go:39", after := #[{ on := 1, ground := Ground.data }, { on := 2, ground := Ground.data }], guard := none }) rfl (by first | rfl | (simp [Region.wanted, yielded]; done)) (by intro w_ hE_; (try dsimp only at hE_); first | (go_simp; done) | (go_simp; rfl)) ?_)
            (try simp only [Act.put, List.setIfInBounds_toArray, List.set_cons_zero, List.set_cons_succ])
            (refine mix_read (o := { dst := some 60, op := Op.indexAddr 22 (Operand.tmp 56) (Operand.tmp 59), type := 0, pos := "more.go:39", after := #[{ on := 0, ground := Ground.data }, { on := 3, ground := Ground.data }], guard := none }) rfl (by first | rfl | (simp [Region.wanted, yielded]; done)) (by intro w_ hE_; (try dsimp only at hE_); first | (go_simp; done) | (go_simp; rfl)) ?_)
            (try simp only [Act.put, List.setIfInBounds_toArray, List.set_cons_zero, List.set_cons_succ])
            (refine mix_read (o := { dst := some 62, op := Op.move (Operand.tmp 2), type := 22, pos := "more.go:39", after := #[], guard := none }) rfl (by first | rfl | (simp [Region.wanted, yielded]; done)) (by intro w_ hE_; (try dsimp only at hE_); first | (go_simp; done) | (go_simp; rfl)) ?_)
            (try simp only [Act.put, List.setIfInBounds_toArray, List.set_cons_zero, List.set_cons_succ])
            (refine mix_read (o := { dst := some 63, op := Op.move (Operand.tmp 11), type := 3, pos := "more.go:39", after := #[], guard := none }) rfl (by first | rfl | (simp [Region.wanted, yielded]; done)) (by intro w_ hE_; (try dsimp only at hE_); first | (go_simp; done) | (go_simp; rfl)) ?_)
            (try simp only [Act.put, List.setIfInBounds_toArray, List.set_cons_zero, List.set_cons_succ])
            (refine mix_read (o := { dst := some 64, op := Op.indexAddr 22 (Operand.tmp 62) (Operand.tmp 63), type := 0, pos := "more.go:39", after := #[{ on := 6, ground := Ground.data }, { on := 7, ground := Ground.data }], guard := none }) rfl (by first | rfl | (simp [Region.wanted, yielded]; done)) (by intro w_ hE_; (try dsimp only at hE_); first | (go_simp; done) | (go_simp; rfl)) ?_)
            (try simp only [Act.put, List.setIfInBounds_toArray, List.set_cons_zero, List.set_cons_succ])
            (refine mix_read (o := { dst := some 65, op := Op.load 5 (Operand.tmp 64), type := 5, pos := "more.go:39", after := #[{ on := 8, ground := Ground.data }], guard := none }) rfl (by first | rfl | (simp [Region.wanted, yielded]; done)) (by intro w_ hE_; (try dsimp only at hE_); have q_ := cell_at HR2.out (HBd.out.trans hE_) i (by omega); rw [HY1.out] at q_; first | (go_simp; done) | (go_simp; rfl)) ?_)
            (try simp only [Act.put, List.setIfInBounds_toArray, List.set_cons_zero, List.set_cons_succ])
            refine mix_val (o := { dst := some 61, op := Op.load 5 (Operand.tmp 60), type := 5, pos := "more.go:39", after := #[{ on := 4, ground := Ground.data }], guard := none }) (w1 := wd) rfl (by first | rfl | (simp [Region.wanted, yielded]; done)) (by first | (go_simp; done) | (go_simp; rfl)) (Below.refl _ _) ?_
            (try simp only [Act.put, List.setIfInBounds_toArray, List.set_cons_zero, List.set_cons_succ])
            (refine mix_read (o := { dst := some 66, op := Op.binOp BinOp.xor 5 (Operand.tmp 61) (Operand.tmp 65) 5, type := 5, pos := "more.go:39", after := #[{ on := 5, ground := Ground.data }, { on := 9, ground := Ground.data }], guard := none }) rfl (by first | rfl | (simp [Region.wanted, yielded]; done)) (by intro w_ hE_; (try dsimp only at hE_); first | (go_simp; done) | (go_simp; rfl)) ?_)
            (try simp only [Act.put, List.setIfInBounds_toArray, List.set_cons_zero, List.set_cons_succ])
            (refine mix_read (o := { dst := some 67, op := Op.indexAddr 22 (Operand.tmp 56) (Operand.tmp 59), type := 0, pos := "more.go:39", after := #[{ on := 0, ground := Ground.data }, { on := 3, ground := Ground.data }, { on := 0, ground := Ground.phase }, { on := 1, ground := Ground.phase }, { on := 2, ground := Ground.phase }, { on := 3, ground := Ground.phase }, { on := 4, ground := Ground.phase }, { on := 5, ground := Ground.phase }, { on := 6, ground := Ground.phase }, { on := 7, ground := Ground.phase }, { on := 8, ground := Ground.phase }, { on := 9, ground := Ground.phase }, { on := 10, ground := Ground.phase }], guard := none }) rfl (by first | rfl | (simp [Region.wanted, yielded]; done)) (by intro w_ hE_; (try dsimp only at hE_); first | (go_simp; done) | (go_simp; rfl)) ?_)
            (try simp only [Act.put, List.setIfInBounds_toArray, List.set_cons_zero, List.set_cons_succ])
            refine mix_store (o := { dst := none, op := Op.store 5 (Operand.tmp 67) (Operand.tmp 66), type := 0, pos := "more.go:39", after := #[{ on := 11, ground := Ground.data }, { on := 10, ground := Ground.data }, { on := 0, ground := Ground.phase }, { on := 1, ground := Ground.phase }, { on := 2, ground := Ground.phase }, { on := 3, ground := Ground.phase }, { on := 4, ground := Ground.phase }, { on := 5, ground := Ground.phase }, { on := 6, ground := Ground.phase }, { on := 7, ground := Ground.phase }, { on := 8, ground := Ground.phase }, { on := 9, ground := Ground.phase }, { on := 10, ground := Ground.phase }], guard := none }) (w1 := (wd.setCell ⟨g, k, none⟩ (.int .u8 z))) rfl (by first | rfl | (simp [Region.wanted, yielded]; done)) (by first | (go_simp; done) | (go_simp; rfl)) (pw_below_grown (Below.refl w.heap.size wd) (some g) (by omega) hpg (fun q hq => by simp at hq; omega)) ?_
            (try simp only [Act.put, List.setIfInBounds_toArray, List.set_cons_zero, List.set_cons_succ])
            refine mix_nil ?_
            go_wp2_with fail
            go_roundg f
            case measure => omega
            case rel => exact ⟨i + 1, by simp, ⟨by have := HI.out; omega⟩, HPR, HB5⟩
          · have hin : i = x.length := by omega
            subst hin
            have kb : ((x.length : Int) < (x.length : Int)) = False := eq_false (by omega)
            have han := HAN.out
            have hn := HN.out
            have hdl := Di_len (a := a) (n := s.length) (i := x.length) (x := x) (by omega) (by omega)
            have hbE : Bys (Di a s.length x x.length) := bys_Di HY.out.2
            have hcr := crc_burst (a := xr s (Di a s.length x x.length)) (b := s) hdl a (s.length - a - x.length) x HY.out.2 (by omega) HNE.out (by unfold Di; rw [List.take_of_length_le (Nat.le_refl _)]) rfl
            have hC := (Kd.R_reads' HO.out).2.2
            have hcd := (Kd.R_reads' HO.out).2.1
            have hrl : (xr s (Di a s.length x x.length)).length = s.length := xr_len hdl.symm
            have hbr := bys_xr HY.out.1 hbE
            generalize xr s (Di a s.length x x.length) = row at *
            have HSD := Aside0.mk (fun w h => sum_calls Ad cd row hbr w h (by omega))
            rw [hrl] at HSD hC
            have HCD := Aside0.mk hC
            have HSU := Aside0.mk (fun w h => sum_calls A c s HY.out.1 w h (by omega))
            have hcn : (((crc s : Nat) : Int) != ((crc row : Nat) : Int)) = true := bne_iff_ne.2 (fun e => hcr (by omega))
            clear hC hcd hrl hbr hcr hbE hdl
            go_wp2_with fail
            refine (HSU.out _ (Kd.C_below HR.out HB.out)).mono ?_
            rintro e_ w6 ⟨rfl, hb⟩
            have HC6 := Aside0.mk (Kd.C_below HCD.out hb)
            have HB6 := Aside0.mk (below_step HB.out hb)
            clear hb
            go_wp2_with fail
            refine (HSD.out _ HC6.out).mono ?_
            rintro e_ w7 ⟨rfl, hb⟩
            have HB7 := Aside0.mk (below_step HB6.out hb)
            clear hb
            go_wp2_with fail
            go_ret
            exact ⟨by simp, HB7.out⟩
end Go.Proofs.Ytfojeegepfjbiaa.CuWalk
