/- TaskTurns: works that go on in turn are done in the order of how many steps they have: it answers true. No condition. -/
import Derived.Test.YtopclgpimabpcaaProg
import Derived.Below
import Derived.Deep.Draws
import Derived.Deep.AppendLies
import Derived.Maps.AppendAt
import Derived.OwnWalk
import Derived.Laws.BytesArg
import Derived.Laws.MakeOwn
import Derived.Laws.OwnMore
import Derived.Deep.OwnRows
import Derived.Tactics
import Derived.Lib.ConvBytes
import Derived.Laws.Slices
import Derived.WalkKit
import Derived.KernelRfl
import Derived.RowKit3
import Derived.Deep.LoopGhost
import Derived.Deep.QuietTactic
import Derived.BigQuiet
import Derived.WideLaws
import Derived.Deep.DeepCutAuto
import Derived.Deep.CutBlock
import Derived.Deep.RegionHeld3
import Derived.Laws.Rows
import Derived.Lib.AppendStr
import Derived.ArgAppend
import Derived.Laws.IdiomCopy
import Derived.OrdersHeld
import Derived.Laws.BitsLemmas
import Derived.RowKit
import Derived.WalkSpells
import Derived.Outline
import Derived.Test.YtopclgpimabpcaaWWords
import Derived.Test.YtopclgpimabpcaaWLast
import Derived.Test.YtopclgpimabpcaaWMore
import Derived.Test.YtopclgpimabpcaaWArr
import Derived.Test.YtopclgpimabpcaaWTab
import Derived.Test.YtopclgpimabpcaaWZeros
import Derived.Test.YtopclgpimabpcaaWRepsOne
import Derived.Test.YtopclgpimabpcaaTtP
namespace Go.Proofs.Ytopclgpimabpcaa.TuWalk
open Go.RowKit Go.Proofs.YtopclgpimabpcaaW.PrintWords Go.Proofs.YtopclgpimabpcaaW.PrintLast Go.Proofs.YtopclgpimabpcaaW.PrintMore Go.Proofs.Ytopclgpimabpcaa.Tk Go.Proofs.Ytopclgpimabpcaa.TkA Go.Proofs.Ytopclgpimabpcaa.TkB Go.Proofs.Ytopclgpimabpcaa.TkC Go.Proofs.Ytopclgpimabpcaa.TkD Go.Proofs.Ytopclgpimabpcaa.TkE Go.Proofs.Ytopclgpimabpcaa.TfWalk Go.Proofs.Ytopclgpimabpcaa.TtP Go.Proofs.Ytopclgpimabpcaa.Mix
set_option linter.unusedSimpArgs false
set_option linter.unusedVariables false
attribute [local go_sem] max2_int min2_int max_two min_two

theorem cell_at {k : IntKind} {w wq : World} {ad : Addr} {l : List Int} {n : Nat} (h : (Kd.int k).C w (some ad) n l) (hb : Below w.heap.size w wq) (q : Nat) (hq : q < n) :
    wq.cell? (ad.add q) = some (.int k (rd l (q : Int))) := by
  obtain ⟨ad', e, hx⟩ := Kd.at_int h (q : Int) (by omega) (by omega)
  simp only [Int.toNat_natCast] at hx
  injection e with e
  subst e
  exact pw_cell_below hb hx
def wants (ks : List Nat) : List Int := ks.map (fun k : Nat => (k : Int))
theorem getD_left {α : Type} {a b : List α} {d : α} {x : Nat} (h : x < a.length) : (a ++ b).getD x d = a.getD x d := by
  rw [List.getD_eq_getElem?_getD, List.getD_eq_getElem?_getD, List.getElem?_append_left h]
theorem getD_last {α : Type} {a : List α} {y d : α} {x : Nat} (h : a.length = x) : (a ++ [y]).getD x d = y := by
  subst h
  rw [List.getD_eq_getElem?_getD, List.getElem?_append_right (Nat.le_refl _), Nat.sub_self]
  rfl
set_option maxRecDepth 100000 in
set_option maxHeartbeats 2000000 in
theorem walk (A : Option Addr) (c : Nat) (l : List Int) (w : World) (hr : (Kd.int .i64).C w A l.length l) (hc : l.length ≤ c) (hm : l.length * 8 ≤ 140737488351232) (hw : ∀ x ∈ l, (Lit.int .i64 x).wf = true) :
    Calls Try.prog 5 #[.slice A l.length c] w fun e w' => e = .returned (.bool true) ∧ Below w.heap.size w w' := by
  have hw2 : ∀ x ∈ l, -9223372036854775808 ≤ x ∧ x ≤ 9223372036854775807 := by
    intro x hx
    have := hw x hx
    simp [Lit.wf, IntKind.min, IntKind.max, IntKind.bits, IntKind.signed] at this
    omega
  have HR := Aside0.mk hr
  have HW := Aside0.mk hw2
  clear hr hw hw2
  go_enter Try.func5, Try.ntmps5
  go_wp2_with fail
  refine (begun_calls w).mono ?_
  rintro e_ w1 ⟨rfl, hb⟩
  have HB1 := Aside0.mk hb
  clear hb
  go_wp2_with fail
  refine (new_calls w.heap.size w1 HB1.out.size).mono ?_
  rintro e_ w2 ⟨p, rfl, hp, hb⟩
  have HP := Aside0.mk hp
  have HB2 := Aside0.mk (below_step HB1.out hb)
  clear hp hb HB1
  obtain ⟨n, hn⟩ : ∃ n : Nat, n = min l.length 20 := ⟨_, rfl⟩
  have hq : (if (20 : Int) < (l.length : Int) then (20 : Int) else (l.length : Int)) = (n : Int) := by split <;> omega
  have HN : Aside0 (n ≤ 20 ∧ n ≤ l.length) := ⟨by omega⟩
  clear hn hm
  go_wp2_with fail
  clear hq
  go_loopg [6, 7, 8] n (fun q v6 v7 v8 w' => ∃ (i : Nat) (ts : List Tk) (ks : List Nat), v7 = .int .i64 (i : Int) ∧ Aside0 (i + q = n ∧ ks.length = i ∧ AllSt ts ks 0 ∧ ∀ x, x < ks.length → ks.getD x 0 ≤ 9) ∧ Aside0 (PoolAt w' w.heap.size p ts) ∧ Aside0 (Kd.R (Kd.int .i64) 3 w' w.heap.size (fun _ => True) v6 (wants ks)) ∧ Aside0 (Far v6 ts) ∧ Aside0 (Below w.heap.size w w'))
  case atStart => exact ⟨0, [], [], rfl, ⟨by omega, rfl, ⟨rfl, fun x hx => by simp at hx⟩, fun x hx => by simp at hx⟩, HP, ⟨Kd.R_nil _ _ _ _ _⟩, ⟨fun t ht => by cases ht⟩, HB2⟩
  case round =>
    clear HP HB2
    obtain ⟨i, ts, ks, rfl, HI, HP, HO, HFR, HB⟩ := hrel
    have hi := HI.out
    have hnn := HN.out
    by_cases hlt : i < n
    · obtain ⟨f, rfl⟩ : ∃ f, gk = f + 1 := ⟨gk - 1, by omega⟩
      obtain ⟨ad, e_, _⟩ := Kd.at_int HR.out (i : Int) (by omega) (by omega)
      subst e_
      have hx := cell_at HR.out HB.out i (by omega)
      obtain ⟨y, hy⟩ : ∃ y, rd l (i : Int) = y := ⟨_, rfl⟩
      rw [hy] at hx
      have k0 : ((i : Int) < (n : Int)) = True := eq_true (by omega)
      have k1 : ((i : Int) < (l.length : Int)) = True := eq_true (by omega)
      have kw : IntKind.i64.wrap ((i : Int) + 1) = (i : Int) + 1 := by rw [IntKind.wrap_i64]; omega
      obtain ⟨q, hq⟩ : ∃ q, y.tmod 10 = q := ⟨_, rfl⟩
      have hqb : -9 ≤ q ∧ q ≤ 9 := by
        rw [← hq]
        have h1 := Int.tmod_lt_of_pos y (by decide : (0 : Int) < 10)
        have h2 := Int.lt_tmod_of_pos y (by decide : (0 : Int) < 10)
        omega
      have hq2 : IntKind.i64.wrap q = q := by rw [IntKind.wrap_i64]; omega
      have HLT : Aside0 (i < n) := ⟨hlt⟩
      clear hi hnn hlt
      by_cases hneg : q < 0
      · obtain ⟨kv, hkv⟩ : ∃ kv : Nat, -q = (kv : Int) := ⟨(-q).toNat, by omega⟩
        have kn : IntKind.i64.wrap (-q) = (kv : Int) := by rw [hkv, IntKind.wrap_i64]; omega
        have HKK : Aside0 (kv ≤ 9) := ⟨by omega⟩
        have hcnt : cnt 1 ts = ts.length := cnt_all (fun t ht => by
          obtain ⟨x, hx, rfl⟩ := List.getElem_of_mem ht
          have := (HI.out.2.2.1.2 x (by rw [← HI.out.2.2.1.1]; exact hx)).2.2.2
          rw [List.getD_eq_getElem?_getD, List.getElem?_eq_getElem hx, if_pos (Nat.zero_le _)] at this
          have h2 : ts[x].st = 0 := this
          rw [h2]; decide)
        have HCN : Aside0 (cnt 1 ts < 40 ∧ ts.length < 1000000) := ⟨by rw [hcnt]; have := HI.out.1; have := HI.out.2.1; have := HI.out.2.2.1.1; have := HN.out; omega⟩
        clear hcnt
        have hkv0 : 0 ≤ (kv : Int) := by omega
        go_wp2_with ((with_reducible refine gate_dst (N := 39) rfl ?_); go_must (refine Kd.R_make (Kd.int .i64) (w0 := w) (w.heap.size) 3 ?hg (N := 39) ?hd 27 (.tmp 38) (.tmp 38) ?ho_ ((kv : Int)) ?hx_ ?hy_ Try.underlying27 (.int .i64 0) 8 info3 rfl (by decide) (by decide) (0) (ok := fun _ => True) (okp := fun _ => True) ?hz_ (fun _ hk => hk) trivial (by omega) ?hl_ (HB.out) (Below.size (HB.out)) ?_; (case hd => rfl); (case hg => rfl); (case ho_ => rfl); (case hx_ => first | (go_simp; done) | (go_simp; rfl)); (case hy_ => first | (go_simp; done) | (go_simp; rfl)); (case hz_ => first | rfl | exact ⟨rfl⟩ | trivial); (case hl_ => have := HKK.out; omega); intro vd w4 ho3 hb hg_ hnew_; have HXL := Aside0.mk ho3; have HBX := Aside0.mk hb; have HGW := Aside0.mk (below_of_lit hg_); have HNW := Aside0.mk hnew_; obtain ⟨Av, cv, ev_⟩ := Kd.R_slice ho3; rw [List.length_replicate, Int.toNat_natCast] at ev_; subst ev_; clear ho3 hb hg_ hnew_))
        rw [Int.toNat_natCast] at HXL
        have HBL := Aside0.mk (below_step HGW.out ((Below.refl w4.heap.size w4).alloc (Nat.le_refl _) (.cells #[.slice Av kv cv, .int .i64 0] 32 (0, 0))))
        have hadd := add_go (n := 0) (L := List.replicate kv 0) (pool_below HP.out HBL.out) (by rw [thoseL_len]; exact HCN.out.1) HCN.out.2 (Nat.le_trans HB.out.size HGW.out.size) (blk_new w4 (.cells #[.slice Av kv cv, .int .i64 0] 32 (0, 0))) ((own_R HXL.out).alloc _) (pool_fresh (pool_below HP.out HGW.out))
        have HADD := Aside0.mk hadd
        clear hadd
        refine HADD.out.mono ?_
        rintro e_ w5 ⟨rfl, ⟨g, hp⟩, hb, hk⟩
        have HP5 := Aside0.mk hp
        have HB5 := Aside0.mk ((HBX.out.trans ⟨(Below.refl w4.heap.size w4).os, (Below.refl w4.heap.size w4).tape, (Below.refl w4.heap.size w4).output, Nat.le_refl _, fun _ _ => rfl⟩))
        have HB6 : Aside0 (Below w.heap.size w w5) := ⟨(below_to HB.out HB.out.size HBL.out).trans hb⟩
        have HO5 := Aside0.mk (R_kp (Kd.R_below HO.out HBL.out) hk)
        have HF5 := Aside0.mk (far_new (t := ⟨g, w4.heap.size, .slice Av kv cv, List.replicate kv 0, 0, 0, 0⟩) HFR.out (own_R HO.out) HNW.out)
        have HOL : Aside0 ((wants ks).length ≤ 20) := ⟨by unfold wants; rw [List.length_map]; have := HI.out.2.1; have := HI.out.1; have := HN.out; omega⟩
        have HMP : Aside0 (wants (ks ++ [kv]) = wants ks ++ [(kv : Int)]) := ⟨by simp [wants]⟩
        clear hp hb hk HADD HBX HB5 HB HO HBL HGW
        generalize wants ks = wl at *
        go_wp2_with ((with_reducible refine gate_builtin (b := .append) (xs := #[.tmp 44, .tmp 46]) rfl ?_); at_builtin; go_must (refine Kd.R_append (Kd.int .i64) (w0 := w) (w.heap.size) rfl (.tmp 44) (.tmp 46) 27 3 (.int .i64 0) 8 rfl Try.underlying27 info3 rfl (by decide) (by omega) u6 wl (kv : Int) [.int .i64 (kv : Int)] (fun _ => True) (fun _ => False) rfl rfl rfl (fun _ hk => hk.elim) (fun _ _ => trivial) HO5.out HB6.out HB6.out.size (by have := HOL.out; omega) ?_; intro v7 w7 ho hb hg hat; have HO7 := Aside0.mk ho; have HB7 := Aside0.mk hb; have HP7 := Aside0.mk (pool_grown HP5.out (own_R HO5.out) hg HF5.out); have HF7 := Aside0.mk (far_append HP5.out HF5.out hat); clear ho hb hg hat))
        go_roundg f
        case measure => omega
        case rel =>
          refine ⟨i + 1, ts ++ [⟨g, w4.heap.size, .slice Av kv cv, List.replicate kv 0, 0, 0, 0⟩], ks ++ [kv], by simp, ⟨by have := HI.out; omega, by rw [List.length_append]; have := HI.out; simp; omega, ⟨by rw [List.length_append, List.length_append, HI.out.2.2.1.1]; rfl, fun x hx => ?_⟩, fun x hx => ?_⟩, HP7, ⟨by rw [HMP.out]; exact HO7.out⟩, HF7, HB7⟩
          · rw [List.length_append] at hx
            have hl := HI.out.2.2.1.1
            rcases Nat.lt_or_ge x ks.length with hlt2 | hge
            · have := HI.out.2.2.1.2 x hlt2
              rw [getD_left (by omega), getD_left hlt2]
              exact this
            · have hxe : x = ks.length := by simp at hx; omega
              subst hxe
              rw [getD_last hl, getD_last rfl]
              exact ⟨rfl, by show 0 = _; omega, by show 0 = _; omega, by show (0 : Int) = _; rw [if_pos (Nat.zero_le _)]⟩
          · rw [List.length_append] at hx
            rcases Nat.lt_or_ge x ks.length with hlt2 | hge
            · rw [getD_left hlt2]
              exact HI.out.2.2.2 x hlt2
            · have hxe : x = ks.length := by simp at hx; omega
              subst hxe
              rw [getD_last rfl]
              exact HKK.out
      · obtain ⟨kv, rfl⟩ := Int.eq_ofNat_of_zero_le (by omega : 0 ≤ q)
        have HKK : Aside0 (kv ≤ 9) := ⟨by omega⟩
        have hcnt : cnt 1 ts = ts.length := cnt_all (fun t ht => by
          obtain ⟨x, hx, rfl⟩ := List.getElem_of_mem ht
          have := (HI.out.2.2.1.2 x (by rw [← HI.out.2.2.1.1]; exact hx)).2.2.2
          rw [List.getD_eq_getElem?_getD, List.getElem?_eq_getElem hx, if_pos (Nat.zero_le _)] at this
          have h2 : ts[x].st = 0 := this
          rw [h2]; decide)
        have HCN : Aside0 (cnt 1 ts < 40 ∧ ts.length < 1000000) := ⟨by rw [hcnt]; have := HI.out.1; have := HI.out.2.1; have := HI.out.2.2.1.1; have := HN.out; omega⟩
        clear hcnt
        have hkv0 : 0 ≤ (kv : Int) := by omega
        go_wp2_with ((with_reducible refine gate_dst (N := 39) rfl ?_); go_must (refine Kd.R_make (Kd.int .i64) (w0 := w) (w.heap.size) 3 ?hg (N := 39) ?hd 27 (.tmp 38) (.tmp 38) ?ho_ ((kv : Int)) ?hx_ ?hy_ Try.underlying27 (.int .i64 0) 8 info3 rfl (by decide) (by decide) (0) (ok := fun _ => True) (okp := fun _ => True) ?hz_ (fun _ hk => hk) trivial (by omega) ?hl_ (HB.out) (Below.size (HB.out)) ?_; (case hd => rfl); (case hg => rfl); (case ho_ => rfl); (case hx_ => first | (go_simp; done) | (go_simp; rfl)); (case hy_ => first | (go_simp; done) | (go_simp; rfl)); (case hz_ => first | rfl | exact ⟨rfl⟩ | trivial); (case hl_ => have := HKK.out; omega); intro vd w4 ho3 hb hg_ hnew_; have HXL := Aside0.mk ho3; have HBX := Aside0.mk hb; have HGW := Aside0.mk (below_of_lit hg_); have HNW := Aside0.mk hnew_; obtain ⟨Av, cv, ev_⟩ := Kd.R_slice ho3; rw [List.length_replicate, Int.toNat_natCast] at ev_; subst ev_; clear ho3 hb hg_ hnew_))
        rw [Int.toNat_natCast] at HXL
        have HBL := Aside0.mk (below_step HGW.out ((Below.refl w4.heap.size w4).alloc (Nat.le_refl _) (.cells #[.slice Av kv cv, .int .i64 0] 32 (0, 0))))
        have hadd := add_go (n := 0) (L := List.replicate kv 0) (pool_below HP.out HBL.out) (by rw [thoseL_len]; exact HCN.out.1) HCN.out.2 (Nat.le_trans HB.out.size HGW.out.size) (blk_new w4 (.cells #[.slice Av kv cv, .int .i64 0] 32 (0, 0))) ((own_R HXL.out).alloc _) (pool_fresh (pool_below HP.out HGW.out))
        have HADD := Aside0.mk hadd
        clear hadd
        refine HADD.out.mono ?_
        rintro e_ w5 ⟨rfl, ⟨g, hp⟩, hb, hk⟩
        have HP5 := Aside0.mk hp
        have HB5 := Aside0.mk ((HBX.out.trans ⟨(Below.refl w4.heap.size w4).os, (Below.refl w4.heap.size w4).tape, (Below.refl w4.heap.size w4).output, Nat.le_refl _, fun _ _ => rfl⟩))
        have HB6 : Aside0 (Below w.heap.size w w5) := ⟨(below_to HB.out HB.out.size HBL.out).trans hb⟩
        have HO5 := Aside0.mk (R_kp (Kd.R_below HO.out HBL.out) hk)
        have HF5 := Aside0.mk (far_new (t := ⟨g, w4.heap.size, .slice Av kv cv, List.replicate kv 0, 0, 0, 0⟩) HFR.out (own_R HO.out) HNW.out)
        have HOL : Aside0 ((wants ks).length ≤ 20) := ⟨by unfold wants; rw [List.length_map]; have := HI.out.2.1; have := HI.out.1; have := HN.out; omega⟩
        have HMP : Aside0 (wants (ks ++ [kv]) = wants ks ++ [(kv : Int)]) := ⟨by simp [wants]⟩
        clear hp hb hk HADD HBX HB5 HB HO HBL HGW
        generalize wants ks = wl at *
        go_wp2_with ((with_reducible refine gate_builtin (b := .append) (xs := #[.tmp 44, .tmp 46]) rfl ?_); at_builtin; go_must (refine Kd.R_append (Kd.int .i64) (w0 := w) (w.heap.size) rfl (.tmp 44) (.tmp 46) 27 3 (.int .i64 0) 8 rfl Try.underlying27 info3 rfl (by decide) (by omega) u6 wl (kv : Int) [.int .i64 (kv : Int)] (fun _ => True) (fun _ => False) rfl rfl rfl (fun _ hk => hk.elim) (fun _ _ => trivial) HO5.out HB6.out HB6.out.size (by have := HOL.out; omega) ?_; intro v7 w7 ho hb hg hat; have HO7 := Aside0.mk ho; have HB7 := Aside0.mk hb; have HP7 := Aside0.mk (pool_grown HP5.out (own_R HO5.out) hg HF5.out); have HF7 := Aside0.mk (far_append HP5.out HF5.out hat); clear ho hb hg hat))
        go_roundg f
        case measure => omega
        case rel =>
          refine ⟨i + 1, ts ++ [⟨g, w4.heap.size, .slice Av kv cv, List.replicate kv 0, 0, 0, 0⟩], ks ++ [kv], by simp, ⟨by have := HI.out; omega, by rw [List.length_append]; have := HI.out; simp; omega, ⟨by rw [List.length_append, List.length_append, HI.out.2.2.1.1]; rfl, fun x hx => ?_⟩, fun x hx => ?_⟩, HP7, ⟨by rw [HMP.out]; exact HO7.out⟩, HF7, HB7⟩
          · rw [List.length_append] at hx
            have hl := HI.out.2.2.1.1
            rcases Nat.lt_or_ge x ks.length with hlt2 | hge
            · have := HI.out.2.2.1.2 x hlt2
              rw [getD_left (by omega), getD_left hlt2]
              exact this
            · have hxe : x = ks.length := by simp at hx; omega
              subst hxe
              rw [getD_last hl, getD_last rfl]
              exact ⟨rfl, by show 0 = _; omega, by show 0 = _; omega, by show (0 : Int) = _; rw [if_pos (Nat.zero_le _)]⟩
          · rw [List.length_append] at hx
            rcases Nat.lt_or_ge x ks.length with hlt2 | hge
            · rw [getD_left hlt2]
              exact HI.out.2.2.2 x hlt2
            · have hxe : x = ks.length := by simp at hx; omega
              subst hxe
              rw [getD_last rfl]
              exact HKK.out
    · have hin : i = n := by omega
      subst hin
      have k0 : ((i : Int) < (i : Int)) = False := eq_false (by omega)
      obtain ⟨Aw, cw, ev⟩ := Kd.R_slice HO.out
      have hwl : (wants ks).length = i := by unfold wants; rw [List.length_map]; exact hi.2.1
      rw [hwl] at ev
      subst ev
      have HKS : Aside0 (ks.length = i ∧ ∀ x, x < ks.length → ks.getD x 0 ≤ 9) := ⟨hi.2.1, hi.2.2.2⟩
      have HWG : Aside0 (∀ x, x < i → rd (wants ks) (x : Int) = (ks.getD x 0 : Int)) := ⟨fun x hx => by
        unfold wants rd
        rw [Int.toNat_natCast, List.getD_eq_getElem?_getD, List.getElem?_map, List.getElem?_eq_getElem (by have := hi.2.1; omega), List.getD_eq_getElem?_getD, List.getElem?_eq_getElem (by have := hi.2.1; omega)]
        rfl⟩
      have HAS := Aside0.mk hi.2.2.1
      have HNI : Aside0 (i ≤ 20) := ⟨by omega⟩
      clear hi hlt hnn HI HFR hwl
      go_wp2_with fail
      clear k0
      go_loopg [9, 10, 11, 12, 13, 14, 15] 12 (fun q v9 v10 v11 v12 v13 v14 v15 w' => ∃ (r : Nat) (ts : List Tk), v9 = .int .i64 (r : Int) ∧ Aside0 (r + q = 12 ∧ AllSt ts ks r) ∧ Aside0 (PoolAt w' w.heap.size p ts) ∧ Aside0 (Kd.R (Kd.int .i64) 3 w' w.heap.size (fun _ => True) (.slice Aw i cw) (wants ks)) ∧ Aside0 (Below w.heap.size w w'))
      case atStart => exact ⟨0, ts, rfl, ⟨by omega, HAS.out⟩, HP, HO, HB⟩
      case round =>
        clear HP HO HB HAS
        obtain ⟨r, ts, rfl, HI, HP, HO, HB⟩ := hrel
        have hi := HI.out
        by_cases hlt : r < 12
        · obtain ⟨f, rfl⟩ : ∃ f, gk = f + 1 := ⟨gk - 1, by omega⟩
          have k0 : ((r : Int) < 12) = True := eq_true (by omega)
          have kw : IntKind.i64.wrap ((r : Int) + 1) = (r : Int) + 1 := by rw [IntKind.wrap_i64]; omega
          have HAS := Aside0.mk hi.2
          have HRL : Aside0 (r < 12) := ⟨hlt⟩
          have HRD := Aside0.mk (ready_calls HP.out)
          have HNd : Aside0 ((thoseL 0 ts).Nodup) := ⟨nodup_thoseF 0 ts 0⟩
          have HMm : Aside0 (∀ v ∈ thoseL 0 ts, ∃ x, x < ks.length ∧ r ≤ ks.getD x 0 ∧ v = ((x + 1 : Nat) : Int)) := ⟨fun v hv => by
            obtain ⟨x, hx, hvx, hs⟩ := mem_those.1 hv
            subst hvx
            have := (ready_mem (x := x) hi.2).1 hv
            exact ⟨x, this.1, this.2, rfl⟩⟩
          have HME : Aside0 (∀ ts', Mid ts' ks r (thoseL 0 ts) → AllSt ts' ks (r + 1)) := ⟨fun ts' h => mid_end hi.2 h⟩
          clear hi hlt
          generalize thoseL 0 ts = L0 at *
          go_wp2_with fail
          refine HRD.out.mono ?_
          rintro e_ w5 ⟨v5, rfl, ho, hb⟩
          obtain ⟨Al, cl, rfl⟩ := Kd.R_slice ho
          have HOl := Aside0.mk (Kd.R_lower ho HB.out.size)
          have HP5 := Aside0.mk (pool_below HP.out hb)
          have HO5 := Aside0.mk (Kd.R_below HO.out hb)
          have HB5 := Aside0.mk (below_to HB.out HB.out.size hb)
          clear ho hb HP HO HB HRD
          go_wp2_with fail
          go_loopg [11] L0.length (fun q v11 w' => ∃ (j : Nat) (ts : List Tk), v11 = .int .i64 (j : Int) ∧ Aside0 (j + q = L0.length ∧ Mid ts ks r (L0.take j)) ∧ Aside0 (PoolAt w' w.heap.size p ts) ∧ Aside0 (Kd.R (Kd.int .i64) 3 w' w.heap.size (fun _ => True) (.slice Al L0.length cl) L0) ∧ Aside0 (Kd.R (Kd.int .i64) 3 w' w.heap.size (fun _ => True) (.slice Aw i cw) (wants ks)) ∧ Aside0 (Below w.heap.size w w'))
          case atStart => exact ⟨0, ts, rfl, ⟨by omega, by rw [List.take_zero]; exact mid_start HAS.out⟩, HP5, HOl, HO5, HB5⟩
          case round =>
            clear HP5 HOl HO5 HB5 k0
            obtain ⟨j, ts, rfl, HJ, HP, HOl, HO, HB⟩ := hrel
            have hj := HJ.out
            by_cases hlt : j < L0.length
            · obtain ⟨f2, rfl⟩ : ∃ f, gk = f + 1 := ⟨gk - 1, by omega⟩
              have k1 : ((j : Int) < (L0.length : Int)) = True := eq_true (by omega)
              have hL : L0.length ≤ 9223372036854775807 := by
                have := (Kd.own_of_R HOl.out).2
                rcases this with ⟨_, h1⟩ | ⟨g', cap', cur, he, _, _, h1, h2, _⟩
                · omega
                · simp only [maxLen] at h2
                  omega
              have kj : IntKind.i64.wrap ((j : Int) + 1) = (j : Int) + 1 := by rw [IntKind.wrap_i64]; omega
              have hC := (Kd.R_reads' HOl.out).2.2
              obtain ⟨al, e_, _⟩ := Kd.at_int hC (j : Int) (by omega) (by omega)
              subst e_
              have hcell := cell_at hC (Below.refl _ _) j hlt
              have hmem : rd L0 (j : Int) ∈ L0 := by
                unfold rd
                rw [Int.toNat_natCast, List.getD_eq_getElem?_getD, List.getElem?_eq_getElem hlt]
                exact List.getElem_mem _
              obtain ⟨x, hx1, hx2, hx3⟩ := HMm.out _ hmem
              have htk : L0.take (j + 1) = L0.take j ++ [((x + 1 : Nat) : Int)] := by
                rw [← hx3, List.take_add_one, List.getElem?_eq_getElem hlt]
                unfold rd
                rw [Int.toNat_natCast, List.getD_eq_getElem?_getD, List.getElem?_eq_getElem hlt]
                rfl
              have hnot : ((x + 1 : Nat) : Int) ∉ L0.take j := by
                have hnd := HNd.out
                have hnd2 : (L0.take (j + 1)).Nodup := List.Sublist.nodup (List.take_sublist _ _) hnd
                rw [htk] at hnd2
                intro hh
                exact (List.nodup_append.1 hnd2).2.2 _ hh _ (List.mem_singleton.2 rfl) rfl
              have hst := (hj.2.2 x hx1).2 hnot
              have hgo := step_go HP.out x (by rw [hj.2.1]; exact hx1) (by rw [hst.2.2.2, if_pos hx2]) (by rw [hst.2.1]; have := HRL.out; omega) (by rw [hst.2.2.1]; have := HRL.out; omega)
              rw [← hx3] at hgo
              have HGO := Aside0.mk hgo
              have HMD := Aside0.mk (mid_step hj.2 hx1 hx2 hnot)
              rw [← htk] at HMD
              generalize rd L0 (j : Int) = y at *
              clear hgo hst hnot htk hx1 hx2 hx3 hmem hC hj hL
              go_wp2_with fail
              refine HGO.out.mono ?_
              rintro e_ w6 ⟨rfl, hp, hb, hk⟩
              have HP6 := Aside0.mk hp
              have HOl6 := Aside0.mk (R_kp HOl.out hk)
              have HO6 := Aside0.mk (R_kp HO.out hk)
              have HB6 := Aside0.mk (HB.out.trans hb)
              clear hp hb hk HGO
              go_wp2_with fail
              go_roundg f2
              case measure => omega
              case rel => exact ⟨j + 1, _, by simp, ⟨by have := HJ.out; omega, HMD.out⟩, HP6, HOl6, HO6, HB6⟩
            · have hjl : j = L0.length := by omega
              subst hjl
              have k1 : ((L0.length : Int) < (L0.length : Int)) = False := eq_false (by omega)
              have hal := hj.2
              rw [List.take_of_length_le (Nat.le_refl _)] at hal
              have HAL := Aside0.mk (HME.out ts hal)
              clear hj hlt hal HJ HOl HNd HMm HME
              go_wp2_with fail
              clear k1
              have HLN : Aside0 (ts.length = i) := ⟨by have := HAL.out.1; have := HKS.out.1; omega⟩
              go_loopg [12, 13, 14, 15] i (fun q v12 v13 v14 v15 w' => ∃ j : Nat, v12 = .int .i64 (j : Int) ∧ Aside0 (j + q = i) ∧ Aside0 (PoolAt w' w.heap.size p ts) ∧ Aside0 (Kd.R (Kd.int .i64) 3 w' w.heap.size (fun _ => True) (.slice Aw i cw) (wants ks)) ∧ Aside0 (Below w.heap.size w w'))
              case atStart => exact ⟨0, rfl, ⟨by omega⟩, HP, HO, HB⟩
              case round =>
                clear HP HO HB
                obtain ⟨j, rfl, HJ, HP, HO, HB⟩ := hrel
                have hj := HJ.out
                have hnl := HNI.out
                have hrl := HRL.out
                by_cases hlt : j < i
                · obtain ⟨f2, rfl⟩ : ∃ f, gk = f + 1 := ⟨gk - 1, by omega⟩
                  have k1 : ((j : Int) < (i : Int)) = True := eq_true (by omega)
                  have kj : IntKind.i64.wrap ((j : Int) + 1) = ((j + 1 : Nat) : Int) := by rw [IntKind.wrap_i64]; omega
                  have HA := Aside0.mk (all_calls HP.out)
                  have hst := HAL.out.2 j (by have := HKS.out.1; omega)
                  have hkb := HKS.out.2 j (by have := HKS.out.1; omega)
                  have HAM : Aside0 (((j + 1 : Nat) : Int) ∈ thoseL 1 ts ↔ r + 1 ≤ ks.getD j 0) := ⟨all_mem HAL.out (by have := HKS.out.1; omega)⟩
                  have hss := steps_some HP.out j (by have := HLN.out; omega)
                  rw [hst.2.2.1] at hss
                  have hwg := HWG.out j hlt
                  obtain ⟨j1, hj1⟩ : ∃ j1, j + 1 = j1 := ⟨_, rfl⟩
                  rw [hj1] at hss kj HAM
                  obtain ⟨kv, hkv⟩ : ∃ kv, ks.getD j 0 = kv := ⟨_, rfl⟩
                  rw [hkv] at hss hwg HAM hkb
                  obtain ⟨L1, hL1⟩ : ∃ L1, thoseL 1 ts = L1 := ⟨_, rfl⟩
                  rw [hL1] at HA HAM
                  have HJ1 := Aside0.mk hj1
                  have HST := Aside0.mk hss
                  have HWG2 := Aside0.mk hwg
                  have HKB := Aside0.mk hkb
                  clear hst hj hss hwg hkv hL1 hj1 hkb
                  go_wp2_with fail
                  refine HA.out.mono ?_
                  rintro e_ w7 ⟨v7, rfl, ho, hb⟩
                  obtain ⟨Aa, ca, rfl⟩ := Kd.R_slice ho
                  have HCa := Aside0.mk (Kd.R_reads' ho).2.2
                  have HP7 := Aside0.mk (pool_below HP.out hb)
                  have HO7 := Aside0.mk (Kd.R_below HO.out hb)
                  have HB7 := Aside0.mk (below_to HB.out HB.out.size hb)
                  have HL1 : Aside0 (L1.length ≤ 9223372036854775807) := ⟨by
                    have := (Kd.own_of_R ho).2
                    rcases this with ⟨_, h1⟩ | ⟨g', cap', cur, he, _, _, h1, h2, _⟩
                    · omega
                    · simp only [maxLen] at h2
                      omega⟩
                  have HSS : Aside0 (∀ wx, Below w7.heap.size w7 wx → Calls Try.prog 20 #[.pointer (some ⟨p, 0, none⟩), .int .i64 (j1 : Int)] wx fun e w' => e = .returned (.int .i64 ((min (kv + 1) (r + 1) : Nat) : Int)) ∧ wx = w') := ⟨fun wx hx => by
                    have h := steps_some (pool_below HP7.out hx) j (by have := HLN.out; omega)
                    have hst := HAL.out.2 j (by have := HKS.out.1; omega)
                    rw [hst.2.2.1] at h
                    rw [HJ1.out] at h
                    have hkv : ks.getD j 0 = kv := by
                      have := HWG.out j hlt
                      have h2 := HWG2.out
                      omega
                    rw [hkv] at h
                    exact h⟩
                  clear ho hb HP HO HB HA HST
                  go_wp2_with fail
                  go_loopg [13, 15] L1.length (fun q v13 v15 w' => ∃ (k : Nat) (b : Bool), v15 = .int .i64 (k : Int) ∧ v13 = .bool b ∧ Aside0 (k + q = L1.length ∧ (b = true ↔ (j1 : Int) ∈ L1.take k)) ∧ Aside0 (w7 = w'))
                  case atStart => exact ⟨0, false, rfl, rfl, ⟨by omega, by simp⟩, ⟨rfl⟩⟩
                  case round =>
                    obtain ⟨k, b, rfl, rfl, HK, HWW⟩ := hrel
                    have hw := HWW.out
                    subst hw
                    clear HWW
                    have hk := HK.out
                    by_cases hkl : k < L1.length
                    · obtain ⟨f3, rfl⟩ : ∃ f, gk = f + 1 := ⟨gk - 1, by omega⟩
                      have k2 : ((k : Int) < (L1.length : Int)) = True := eq_true (by omega)
                      have kk : IntKind.i64.wrap ((k : Int) + 1) = (k : Int) + 1 := by have := HL1.out; rw [IntKind.wrap_i64]; omega
                      obtain ⟨aa, e_, _⟩ := Kd.at_int HCa.out (k : Int) (by omega) (by omega)
                      subst e_
                      have hcell := cell_at HCa.out (Below.refl _ _) k hkl
                      have htk : L1.take (k + 1) = L1.take k ++ [rd L1 (k : Int)] := by
                        rw [List.take_add_one, List.getElem?_eq_getElem hkl]
                        unfold rd
                        rw [Int.toNat_natCast, List.getD_eq_getElem?_getD, List.getElem?_eq_getElem hkl]
                        rfl
                      generalize rd L1 (k : Int) = y at *
                      have HTK := Aside0.mk htk
                      have hb := hk.2
                      clear htk hk
                      cases b with
                      | true =>
                        have HEX := Aside0.mk (hb.1 rfl)
                        clear hb
                        go_wp2_with fail
                        go_roundg f3
                        case measure => omega
                        case rel => exact ⟨k + 1, true, by simp, rfl, ⟨by have := HK.out.1; omega, by rw [HTK.out]; exact ⟨fun _ => List.mem_append_left _ HEX.out, fun _ => rfl⟩⟩, ⟨rfl⟩⟩
                      | false =>
                        have HEX : Aside0 ((j1 : Int) ∉ L1.take k) := ⟨fun h => by simpa using hb.2 h⟩
                        clear hb
                        by_cases hy : y = (j1 : Int)
                        · have b0 : (y == (j1 : Int)) = true := by simp [hy]
                          go_wp2_with fail
                          go_roundg f3
                          case measure => omega
                          case rel => exact ⟨k + 1, true, by simp, rfl, ⟨by have := HK.out.1; omega, by rw [HTK.out]; exact ⟨fun _ => List.mem_append_right _ (List.mem_singleton.2 hy.symm), fun _ => rfl⟩⟩, ⟨rfl⟩⟩
                        · have b0 : (y == (j1 : Int)) = false := beq_eq_false_iff_ne.2 hy
                          go_wp2_with fail
                          go_roundg f3
                          case measure => omega
                          case rel => exact ⟨k + 1, false, by simp, rfl, ⟨by have := HK.out.1; omega, by
                            rw [HTK.out]
                            refine ⟨fun h => by simp at h, fun h => ?_⟩
                            rcases List.mem_append.1 h with h | h
                            · exact absurd h HEX.out
                            · exact absurd (List.mem_singleton.1 h).symm hy⟩, ⟨rfl⟩⟩
                    · have hkk : k = L1.length := by omega
                      subst hkk
                      have k2 : ((L1.length : Int) < (L1.length : Int)) = False := eq_false (by omega)
                      have hb := hk.2
                      rw [List.take_of_length_le (Nat.le_refl _), HAM.out] at hb
                      have HBI := Aside0.mk hb
                      have hkb := HKB.out
                      have hCw := (Kd.R_reads' HO7.out).2.2
                      have hwll : (wants ks).length = i := by unfold wants; rw [List.length_map]; exact HKS.out.1
                      rw [hwll] at hCw
                      obtain ⟨aw, e_, _⟩ := Kd.at_int hCw (j : Int) (by omega) (by omega)
                      subst e_
                      have hcw := cell_at hCw (Below.refl _ _) j hlt
                      rw [HWG2.out] at hcw
                      have kv1 : IntKind.i64.wrap ((kv : Int) + 1) = ((kv + 1 : Nat) : Int) := by rw [IntKind.wrap_i64]; omega
                      have kr1 : IntKind.i64.wrap ((r : Int) + 1) = ((r + 1 : Nat) : Int) := by rw [IntKind.wrap_i64]; omega
                      obtain ⟨mm, hmm⟩ : ∃ mm : Nat, min (kv + 1) (r + 1) = mm := ⟨_, rfl⟩
                      rw [hmm] at HSS
                      have hqm : (if r + 1 < kv + 1 then ((r + 1 : Nat) : Int) else ((kv + 1 : Nat) : Int)) = (mm : Int) := by split <;> omega
                      obtain ⟨k1v, hk1v⟩ : ∃ x, kv + 1 = x := ⟨_, rfl⟩
                      obtain ⟨r1v, hr1v⟩ : ∃ x, r + 1 = x := ⟨_, rfl⟩
                      rw [hk1v] at kv1 hqm
                      rw [hr1v] at kr1 hqm
                      clear hb hk hkl hwll hCw hkb hmm hk1v hr1v
                      cases b with
                      | true =>
                        have hrk := HBI.out.1 rfl
                        have k3 : ((r : Int) < (kv : Int)) = True := eq_true (by omega)
                        clear hrk
                        go_wp2_with fail
                        refine wp_region_mix (fun w_ w1_ => Below w_.heap.size w_ w1_) [(false, 0), (false, 1), (false, 2), (false, 3), (false, 4), (false, 5), (false, 6), (false, 7), (false, 8), (false, 9), (false, 10), (false, 11), (false, 13), (false, 14), (false, 15), (false, 16), (false, 17), (false, 18), (false, 19), (false, 20), (true, 12), (false, 21), (false, 22)] (by kernel_rfl) (by kernel_rfl) (fun _ => Below.refl _ _) (fun h h' => below_step h h') (fun wd hhp_ hbw_ => ?_)
                        have HZ0 := Aside0.mk hbw_
                        have HZ1 := Aside0.mk (below_to HB7.out HB7.out.size hbw_)
                        have HOz := Aside0.mk (Kd.R_below HO7.out hbw_)
                        have HPz := Aside0.mk (pool_below HP7.out hbw_)
                        have hw0 : ∀ wx : World, Below wd.heap.size wd wx → wx.cell? (aw.add j) = some (.int .i64 (kv : Int)) := fun wx h => ((below_step hbw_ h).cell (World.block_lt_of_cell? _ _ hcw)).trans hcw
                        clear hhp_ hbw_ hcw
                        (refine mix_read (o := { dst := some 90, op := Op.move (Operand.tmp 13), type := 4, pos := "more.go:35", after := #[], guard := none }) rfl (by first | rfl | (simp [Region.wanted, yielded]; done)) (by intro w_ hE_; (try dsimp only at hE_); first | (go_simp; done) | (go_simp; rfl)) ?_)
                        (try simp only [Act.put, List.setIfInBounds_toArray, List.set_cons_zero, List.set_cons_succ])
                        (refine mix_read (o := { dst := some 91, op := Op.move (Operand.tmp 6), type := 27, pos := "more.go:35", after := #[], guard := none }) rfl (by first | rfl | (simp [Region.wanted, yielded]; done)) (by intro w_ hE_; (try dsimp only at hE_); first | (go_simp; done) | (go_simp; rfl)) ?_)
                        (try simp only [Act.put, List.setIfInBounds_toArray, List.set_cons_zero, List.set_cons_succ])
                        (refine mix_read (o := { dst := some 92, op := Op.move (Operand.tmp 12), type := 3, pos := "more.go:35", after := #[], guard := none }) rfl (by first | rfl | (simp [Region.wanted, yielded]; done)) (by intro w_ hE_; (try dsimp only at hE_); first | (go_simp; done) | (go_simp; rfl)) ?_)
                        (try simp only [Act.put, List.setIfInBounds_toArray, List.set_cons_zero, List.set_cons_succ])
                        (refine mix_read (o := { dst := some 93, op := Op.indexAddr 27 (Operand.tmp 91) (Operand.tmp 92), type := 0, pos := "more.go:35", after := #[{ on := 1, ground := Ground.data }, { on := 2, ground := Ground.data }], guard := none }) rfl (by first | rfl | (simp [Region.wanted, yielded]; done)) (by intro w_ hE_; (try dsimp only at hE_); first | (go_simp; done) | (go_simp; rfl)) ?_)
                        (try simp only [Act.put, List.setIfInBounds_toArray, List.set_cons_zero, List.set_cons_succ])
                        (refine mix_read (o := { dst := some 94, op := Op.load 3 (Operand.tmp 93), type := 3, pos := "more.go:35", after := #[{ on := 3, ground := Ground.data }], guard := none }) rfl (by first | rfl | (simp [Region.wanted, yielded]; done)) (by intro w_ hE_; (try dsimp only at hE_); first | (go_simp; done) | (go_simp; rfl)) ?_)
                        (try simp only [Act.put, List.setIfInBounds_toArray, List.set_cons_zero, List.set_cons_succ])
                        (refine mix_read (o := { dst := some 95, op := Op.move (Operand.tmp 9), type := 3, pos := "more.go:35", after := #[], guard := none }) rfl (by first | rfl | (simp [Region.wanted, yielded]; done)) (by intro w_ hE_; (try dsimp only at hE_); first | (go_simp; done) | (go_simp; rfl)) ?_)
                        (try simp only [Act.put, List.setIfInBounds_toArray, List.set_cons_zero, List.set_cons_succ])
                        (refine mix_read (o := { dst := some 96, op := Op.binOp BinOp.gtr 3 (Operand.tmp 94) (Operand.tmp 95) 3, type := 4, pos := "more.go:35", after := #[{ on := 4, ground := Ground.data }, { on := 5, ground := Ground.data }], guard := none }) rfl (by first | rfl | (simp [Region.wanted, yielded]; done)) (by intro w_ hE_; (try dsimp only at hE_); first | (go_simp; done) | (go_simp; rfl)) ?_)
                        (try simp only [Act.put, List.setIfInBounds_toArray, List.set_cons_zero, List.set_cons_succ])
                        (refine mix_read (o := { dst := some 97, op := Op.binOp BinOp.neq 4 (Operand.tmp 90) (Operand.tmp 96) 4, type := 4, pos := "more.go:35", after := #[{ on := 0, ground := Ground.data }, { on := 6, ground := Ground.data }], guard := none }) rfl (by first | rfl | (simp [Region.wanted, yielded]; done)) (by intro w_ hE_; (try dsimp only at hE_); first | (go_simp; done) | (go_simp; rfl)) ?_)
                        (try simp only [Act.put, List.setIfInBounds_toArray, List.set_cons_zero, List.set_cons_succ])
                        (refine mix_read (o := { dst := some 98, op := Op.move (Operand.tmp 97), type := 4, pos := "more.go:35", after := #[{ on := 7, ground := Ground.data }], guard := none }) rfl (by first | rfl | (simp [Region.wanted, yielded]; done)) (by intro w_ hE_; (try dsimp only at hE_); first | (go_simp; done) | (go_simp; rfl)) ?_)
                        (try simp only [Act.put, List.setIfInBounds_toArray, List.set_cons_zero, List.set_cons_succ])
                        first | (refine mix_read (o := { dst := some 99, op := Op.move (Operand.tmp 4), type := 24, pos := "more.go:35", after := #[{ on := 8, ground := Ground.guard }], guard := some (8, false) }) rfl (by first | rfl | (simp [Region.wanted, yielded]; done)) (by intro w_ hE_; (try dsimp only at hE_); first | (go_simp; done) | (go_simp; rfl)) ?_) | (refine mix_skip (o := { dst := some 99, op := Op.move (Operand.tmp 4), type := 24, pos := "more.go:35", after := #[{ on := 8, ground := Ground.guard }], guard := some (8, false) }) rfl (by first | rfl | (simp [Region.wanted, yielded]; done)) ?_)
                        (try simp only [Act.put, List.setIfInBounds_toArray, List.set_cons_zero, List.set_cons_succ])
                        first | (refine mix_read (o := { dst := some 100, op := Op.move (Operand.tmp 12), type := 3, pos := "more.go:35", after := #[{ on := 8, ground := Ground.guard }], guard := some (8, false) }) rfl (by first | rfl | (simp [Region.wanted, yielded]; done)) (by intro w_ hE_; (try dsimp only at hE_); first | (go_simp; done) | (go_simp; rfl)) ?_) | (refine mix_skip (o := { dst := some 100, op := Op.move (Operand.tmp 12), type := 3, pos := "more.go:35", after := #[{ on := 8, ground := Ground.guard }], guard := some (8, false) }) rfl (by first | rfl | (simp [Region.wanted, yielded]; done)) ?_)
                        (try simp only [Act.put, List.setIfInBounds_toArray, List.set_cons_zero, List.set_cons_succ])
                        first | (refine mix_read (o := { dst := some 101, op := Op.binOp BinOp.add 3 (Operand.tmp 100) (Operand.const (Value.int IntKind.i64 1)) 3, type := 3, pos := "more.go:35", after := #[{ on := 10, ground := Ground.data }, { on := 8, ground := Ground.guard }], guard := some (8, false) }) rfl (by first | rfl | (simp [Region.wanted, yielded]; done)) (by intro w_ hE_; (try dsimp only at hE_); first | (go_simp; done) | (go_simp; rfl)) ?_) | (refine mix_skip (o := { dst := some 101, op := Op.binOp BinOp.add 3 (Operand.tmp 100) (Operand.const (Value.int IntKind.i64 1)) 3, type := 3, pos := "more.go:35", after := #[{ on := 10, ground := Ground.data }, { on := 8, ground := Ground.guard }], guard := some (8, false) }) rfl (by first | rfl | (simp [Region.wanted, yielded]; done)) ?_)
                        (try simp only [Act.put, List.setIfInBounds_toArray, List.set_cons_zero, List.set_cons_succ])
                        first | (refine mix_read (o := { dst := some 103, op := Op.move (Operand.tmp 6), type := 27, pos := "more.go:35", after := #[{ on := 8, ground := Ground.guard }], guard := some (8, false) }) rfl (by first | rfl | (simp [Region.wanted, yielded]; done)) (by intro w_ hE_; (try dsimp only at hE_); first | (go_simp; done) | (go_simp; rfl)) ?_) | (refine mix_skip (o := { dst := some 103, op := Op.move (Operand.tmp 6), type := 27, pos := "more.go:35", after := #[{ on := 8, ground := Ground.guard }], guard := some (8, false) }) rfl (by first | rfl | (simp [Region.wanted, yielded]; done)) ?_)
                        (try simp only [Act.put, List.setIfInBounds_toArray, List.set_cons_zero, List.set_cons_succ])
                        first | (refine mix_read (o := { dst := some 104, op := Op.move (Operand.tmp 12), type := 3, pos := "more.go:35", after := #[{ on := 8, ground := Ground.guard }], guard := some (8, false) }) rfl (by first | rfl | (simp [Region.wanted, yielded]; done)) (by intro w_ hE_; (try dsimp only at hE_); first | (go_simp; done) | (go_simp; rfl)) ?_) | (refine mix_skip (o := { dst := some 104, op := Op.move (Operand.tmp 12), type := 3, pos := "more.go:35", after := #[{ on := 8, ground := Ground.guard }], guard := some (8, false) }) rfl (by first | rfl | (simp [Region.wanted, yielded]; done)) ?_)
                        (try simp only [Act.put, List.setIfInBounds_toArray, List.set_cons_zero, List.set_cons_succ])
                        first | (refine mix_read (o := { dst := some 105, op := Op.indexAddr 27 (Operand.tmp 103) (Operand.tmp 104), type := 0, pos := "more.go:35", after := #[{ on := 13, ground := Ground.data }, { on := 14, ground := Ground.data }, { on := 8, ground := Ground.guard }], guard := some (8, false) }) rfl (by first | rfl | (simp [Region.wanted, yielded]; done)) (by intro w_ hE_; (try dsimp only at hE_); first | (go_simp; done) | (go_simp; rfl)) ?_) | (refine mix_skip (o := { dst := some 105, op := Op.indexAddr 27 (Operand.tmp 103) (Operand.tmp 104), type := 0, pos := "more.go:35", after := #[{ on := 13, ground := Ground.data }, { on := 14, ground := Ground.data }, { on := 8, ground := Ground.guard }], guard := some (8, false) }) rfl (by first | rfl | (simp [Region.wanted, yielded]; done)) ?_)
                        (try simp only [Act.put, List.setIfInBounds_toArray, List.set_cons_zero, List.set_cons_succ])
                        first | (refine mix_read (o := { dst := some 106, op := Op.load 3 (Operand.tmp 105), type := 3, pos := "more.go:35", after := #[{ on := 15, ground := Ground.data }, { on := 8, ground := Ground.guard }], guard := some (8, false) }) rfl (by first | rfl | (simp [Region.wanted, yielded]; done)) (by intro w_ hE_; (try dsimp only at hE_); first | (go_simp; done) | (go_simp; rfl)) ?_) | (refine mix_skip (o := { dst := some 106, op := Op.load 3 (Operand.tmp 105), type := 3, pos := "more.go:35", after := #[{ on := 15, ground := Ground.data }, { on := 8, ground := Ground.guard }], guard := some (8, false) }) rfl (by first | rfl | (simp [Region.wanted, yielded]; done)) ?_)
                        (try simp only [Act.put, List.setIfInBounds_toArray, List.set_cons_zero, List.set_cons_succ])
                        first | (refine mix_read (o := { dst := some 107, op := Op.binOp BinOp.add 3 (Operand.tmp 106) (Operand.const (Value.int IntKind.i64 1)) 3, type := 3, pos := "more.go:35", after := #[{ on := 16, ground := Ground.data }, { on := 8, ground := Ground.guard }], guard := some (8, false) }) rfl (by first | rfl | (simp [Region.wanted, yielded]; done)) (by intro w_ hE_; (try dsimp only at hE_); first | (go_simp; done) | (go_simp; rfl)) ?_) | (refine mix_skip (o := { dst := some 107, op := Op.binOp BinOp.add 3 (Operand.tmp 106) (Operand.const (Value.int IntKind.i64 1)) 3, type := 3, pos := "more.go:35", after := #[{ on := 16, ground := Ground.data }, { on := 8, ground := Ground.guard }], guard := some (8, false) }) rfl (by first | rfl | (simp [Region.wanted, yielded]; done)) ?_)
                        (try simp only [Act.put, List.setIfInBounds_toArray, List.set_cons_zero, List.set_cons_succ])
                        first | (refine mix_read (o := { dst := some 108, op := Op.move (Operand.tmp 9), type := 3, pos := "more.go:35", after := #[{ on := 8, ground := Ground.guard }], guard := some (8, false) }) rfl (by first | rfl | (simp [Region.wanted, yielded]; done)) (by intro w_ hE_; (try dsimp only at hE_); first | (go_simp; done) | (go_simp; rfl)) ?_) | (refine mix_skip (o := { dst := some 108, op := Op.move (Operand.tmp 9), type := 3, pos := "more.go:35", after := #[{ on := 8, ground := Ground.guard }], guard := some (8, false) }) rfl (by first | rfl | (simp [Region.wanted, yielded]; done)) ?_)
                        (try simp only [Act.put, List.setIfInBounds_toArray, List.set_cons_zero, List.set_cons_succ])
                        first | (refine mix_read (o := { dst := some 109, op := Op.binOp BinOp.add 3 (Operand.tmp 108) (Operand.const (Value.int IntKind.i64 1)) 3, type := 3, pos := "more.go:35", after := #[{ on := 18, ground := Ground.data }, { on := 8, ground := Ground.guard }], guard := some (8, false) }) rfl (by first | rfl | (simp [Region.wanted, yielded]; done)) (by intro w_ hE_; (try dsimp only at hE_); first | (go_simp; done) | (go_simp; rfl)) ?_) | (refine mix_skip (o := { dst := some 109, op := Op.binOp BinOp.add 3 (Operand.tmp 108) (Operand.const (Value.int IntKind.i64 1)) 3, type := 3, pos := "more.go:35", after := #[{ on := 18, ground := Ground.data }, { on := 8, ground := Ground.guard }], guard := some (8, false) }) rfl (by first | rfl | (simp [Region.wanted, yielded]; done)) ?_)
                        (try simp only [Act.put, List.setIfInBounds_toArray, List.set_cons_zero, List.set_cons_succ])
                        first | (refine mix_read (o := { dst := some 110, op := Op.call { callee := Callee.builtin Builtin.min, args := #[Operand.tmp 107, Operand.tmp 109], argTypes := #[3, 3] }, type := 3, pos := "more.go:35", after := #[{ on := 17, ground := Ground.data }, { on := 19, ground := Ground.data }, { on := 8, ground := Ground.guard }], guard := some (8, false) }) rfl (by first | rfl | (simp [Region.wanted, yielded]; done)) (by intro w_ hE_; (try dsimp only at hE_); first | (go_simp; done) | (go_simp; rfl)) ?_) | (refine mix_skip (o := { dst := some 110, op := Op.call { callee := Callee.builtin Builtin.min, args := #[Operand.tmp 107, Operand.tmp 109], argTypes := #[3, 3] }, type := 3, pos := "more.go:35", after := #[{ on := 17, ground := Ground.data }, { on := 19, ground := Ground.data }, { on := 8, ground := Ground.guard }], guard := some (8, false) }) rfl (by first | rfl | (simp [Region.wanted, yielded]; done)) ?_)
                        (try simp only [Act.put, List.setIfInBounds_toArray, List.set_cons_zero, List.set_cons_succ])
                        refine mix_call (o := { dst := some 102, op := Op.call { callee := Callee.value (Operand.func 20), args := #[Operand.tmp 99, Operand.tmp 101], argTypes := #[24, 3] }, type := 3, pos := "more.go:35", after := #[{ on := 9, ground := Ground.data }, { on := 11, ground := Ground.data }, { on := 8, ground := Ground.chain }, { on := 8, ground := Ground.guard }], guard := some (8, false) }) rfl (by first | rfl | (simp [Region.wanted, yielded]; done)) (by first | (go_simp; done) | (go_simp; exact ⟨rfl, rfl⟩) | (go_simp; rfl)) ?_
                        refine (HSS.out _ HZ0.out).mono ?_
                        rintro e_ x1 ⟨rfl, rfl⟩
                        refine ⟨_, rfl, Below.refl _ _, ?_⟩
                        (try simp only [Act.put, List.setIfInBounds_toArray, List.set_cons_zero, List.set_cons_succ])
                        first | (refine mix_read (o := { dst := some 111, op := Op.binOp BinOp.neq 3 (Operand.tmp 102) (Operand.tmp 110) 3, type := 4, pos := "more.go:35", after := #[{ on := 12, ground := Ground.data }, { on := 20, ground := Ground.data }, { on := 8, ground := Ground.guard }], guard := some (8, false) }) rfl (by first | rfl | (simp [Region.wanted, yielded]; done)) (by intro w_ hE_; (try dsimp only at hE_); first | (go_simp; done) | (go_simp; rfl)) ?_) | (refine mix_skip (o := { dst := some 111, op := Op.binOp BinOp.neq 3 (Operand.tmp 102) (Operand.tmp 110) 3, type := 4, pos := "more.go:35", after := #[{ on := 12, ground := Ground.data }, { on := 20, ground := Ground.data }, { on := 8, ground := Ground.guard }], guard := some (8, false) }) rfl (by first | rfl | (simp [Region.wanted, yielded]; done)) ?_)
                        (try simp only [Act.put, List.setIfInBounds_toArray, List.set_cons_zero, List.set_cons_succ])
                        (refine mix_read (o := { dst := some 112, op := Op.pick (Operand.tmp 98) (Operand.const (Value.bool true)) (Operand.tmp 111), type := 4, pos := "more.go:35", after := #[{ on := 8, ground := Ground.data }, { on := 21, ground := Ground.data }], guard := none }) rfl (by first | rfl | (simp [Region.wanted, yielded]; done)) (by intro w_ hE_; (try dsimp only at hE_); first | (go_simp; done) | (go_simp; rfl)) ?_)
                        (try simp only [Act.put, List.setIfInBounds_toArray, List.set_cons_zero, List.set_cons_succ])
                        refine mix_nil ?_
                        go_wp2_with fail
                        go_roundg f2
                        case measure => omega
                        case rel => exact ⟨j + 1, by have := HJ1.out; simp; omega, ⟨by have := HJ.out; omega⟩, HPz, HOz, HZ1⟩
                        go_roundg f2
                        case measure => omega
                        case rel => exact ⟨j + 1, by have := HJ1.out; simp; omega, ⟨by have := HJ.out; omega⟩, HPz, HOz, HZ1⟩
                      | false =>
                        have hrk : ¬ r + 1 ≤ kv := fun h => by simpa using HBI.out.2 h
                        have k3 : ((r : Int) < (kv : Int)) = False := eq_false (by omega)
                        clear hrk
                        go_wp2_with fail
                        refine wp_region_mix (fun w_ w1_ => Below w_.heap.size w_ w1_) [(false, 0), (false, 1), (false, 2), (false, 3), (false, 4), (false, 5), (false, 6), (false, 7), (false, 8), (false, 9), (false, 10), (false, 11), (false, 13), (false, 14), (false, 15), (false, 16), (false, 17), (false, 18), (false, 19), (false, 20), (true, 12), (false, 21), (false, 22)] (by kernel_rfl) (by kernel_rfl) (fun _ => Below.refl _ _) (fun h h' => below_step h h') (fun wd hhp_ hbw_ => ?_)
                        have HZ0 := Aside0.mk hbw_
                        have HZ1 := Aside0.mk (below_to HB7.out HB7.out.size hbw_)
                        have HOz := Aside0.mk (Kd.R_below HO7.out hbw_)
                        have HPz := Aside0.mk (pool_below HP7.out hbw_)
                        have hw0 : ∀ wx : World, Below wd.heap.size wd wx → wx.cell? (aw.add j) = some (.int .i64 (kv : Int)) := fun wx h => ((below_step hbw_ h).cell (World.block_lt_of_cell? _ _ hcw)).trans hcw
                        clear hhp_ hbw_ hcw
                        (refine mix_read (o := { dst := some 90, op := Op.move (Operand.tmp 13), type := 4, pos := "more.go:35", after := #[], guard := none }) rfl (by first | rfl | (simp [Region.wanted, yielded]; done)) (by intro w_ hE_; (try dsimp only at hE_); first | (go_simp; done) | (go_simp; rfl)) ?_)
                        (try simp only [Act.put, List.setIfInBounds_toArray, List.set_cons_zero, List.set_cons_succ])
                        (refine mix_read (o := { dst := some 91, op := Op.move (Operand.tmp 6), type := 27, pos := "more.go:35", after := #[], guard := none }) rfl (by first | rfl | (simp [Region.wanted, yielded]; done)) (by intro w_ hE_; (try dsimp only at hE_); first | (go_simp; done) | (go_simp; rfl)) ?_)
                        (try simp only [Act.put, List.setIfInBounds_toArray, List.set_cons_zero, List.set_cons_succ])
                        (refine mix_read (o := { dst := some 92, op := Op.move (Operand.tmp 12), type := 3, pos := "more.go:35", after := #[], guard := none }) rfl (by first | rfl | (simp [Region.wanted, yielded]; done)) (by intro w_ hE_; (try dsimp only at hE_); first | (go_simp; done) | (go_simp; rfl)) ?_)
                        (try simp only [Act.put, List.setIfInBounds_toArray, List.set_cons_zero, List.set_cons_succ])
                        (refine mix_read (o := { dst := some 93, op := Op.indexAddr 27 (Operand.tmp 91) (Operand.tmp 92), type := 0, pos := "more.go:35", after := #[{ on := 1, ground := Ground.data }, { on := 2, ground := Ground.data }], guard := none }) rfl (by first | rfl | (simp [Region.wanted, yielded]; done)) (by intro w_ hE_; (try dsimp only at hE_); first | (go_simp; done) | (go_simp; rfl)) ?_)
                        (try simp only [Act.put, List.setIfInBounds_toArray, List.set_cons_zero, List.set_cons_succ])
                        (refine mix_read (o := { dst := some 94, op := Op.load 3 (Operand.tmp 93), type := 3, pos := "more.go:35", after := #[{ on := 3, ground := Ground.data }], guard := none }) rfl (by first | rfl | (simp [Region.wanted, yielded]; done)) (by intro w_ hE_; (try dsimp only at hE_); first | (go_simp; done) | (go_simp; rfl)) ?_)
                        (try simp only [Act.put, List.setIfInBounds_toArray, List.set_cons_zero, List.set_cons_succ])
                        (refine mix_read (o := { dst := some 95, op := Op.move (Operand.tmp 9), type := 3, pos := "more.go:35", after := #[], guard := none }) rfl (by first | rfl | (simp [Region.wanted, yielded]; done)) (by intro w_ hE_; (try dsimp only at hE_); first | (go_simp; done) | (go_simp; rfl)) ?_)
                        (try simp only [Act.put, List.setIfInBounds_toArray, List.set_cons_zero, List.set_cons_succ])
                        (refine mix_read (o := { dst := some 96, op := Op.binOp BinOp.gtr 3 (Operand.tmp 94) (Operand.tmp 95) 3, type := 4, pos := "more.go:35", after := #[{ on := 4, ground := Ground.data }, { on := 5, ground := Ground.data }], guard := none }) rfl (by first | rfl | (simp [Region.wanted, yielded]; done)) (by intro w_ hE_; (try dsimp only at hE_); first | (go_simp; done) | (go_simp; rfl)) ?_)
                        (try simp only [Act.put, List.setIfInBounds_toArray, List.set_cons_zero, List.set_cons_succ])
                        (refine mix_read (o := { dst := some 97, op := Op.binOp BinOp.neq 4 (Operand.tmp 90) (Operand.tmp 96) 4, type := 4, pos := "more.go:35", after := #[{ on := 0, ground := Ground.data }, { on := 6, ground := Ground.data }], guard := none }) rfl (by first | rfl | (simp [Region.wanted, yielded]; done)) (by intro w_ hE_; (try dsimp only at hE_); first | (go_simp; done) | (go_simp; rfl)) ?_)
                        (try simp only [Act.put, List.setIfInBounds_toArray, List.set_cons_zero, List.set_cons_succ])
                        (refine mix_read (o := { dst := some 98, op := Op.move (Operand.tmp 97), type := 4, pos := "more.go:35", after := #[{ on := 7, ground := Ground.data }], guard := none }) rfl (by first | rfl | (simp [Region.wanted, yielded]; done)) (by intro w_ hE_; (try dsimp only at hE_); first | (go_simp; done) | (go_simp; rfl)) ?_)
                        (try simp only [Act.put, List.setIfInBounds_toArray, List.set_cons_zero, List.set_cons_succ])
                        first | (refine mix_read (o := { dst := some 99, op := Op.move (Operand.tmp 4), type := 24, pos := "more.go:35", after := #[{ on := 8, ground := Ground.guard }], guard := some (8, false) }) rfl (by first | rfl | (simp [Region.wanted, yielded]; done)) (by intro w_ hE_; (try dsimp only at hE_); first | (go_simp; done) | (go_simp; rfl)) ?_) | (refine mix_skip (o := { dst := some 99, op := Op.move (Operand.tmp 4), type := 24, pos := "more.go:35", after := #[{ on := 8, ground := Ground.guard }], guard := some (8, false) }) rfl (by first | rfl | (simp [Region.wanted, yielded]; done)) ?_)
                        (try simp only [Act.put, List.setIfInBounds_toArray, List.set_cons_zero, List.set_cons_succ])
                        first | (refine mix_read (o := { dst := some 100, op := Op.move (Operand.tmp 12), type := 3, pos := "more.go:35", after := #[{ on := 8, ground := Ground.guard }], guard := some (8, false) }) rfl (by first | rfl | (simp [Region.wanted, yielded]; done)) (by intro w_ hE_; (try dsimp only at hE_); first | (go_simp; done) | (go_simp; rfl)) ?_) | (refine mix_skip (o := { dst := some 100, op := Op.move (Operand.tmp 12), type := 3, pos := "more.go:35", after := #[{ on := 8, ground := Ground.guard }], guard := some (8, false) }) rfl (by first | rfl | (simp [Region.wanted, yielded]; done)) ?_)
                        (try simp only [Act.put, List.setIfInBounds_toArray, List.set_cons_zero, List.set_cons_succ])
                        first | (refine mix_read (o := { dst := some 101, op := Op.binOp BinOp.add 3 (Operand.tmp 100) (Operand.const (Value.int IntKind.i64 1)) 3, type := 3, pos := "more.go:35", after := #[{ on := 10, ground := Ground.data }, { on := 8, ground := Ground.guard }], guard := some (8, false) }) rfl (by first | rfl | (simp [Region.wanted, yielded]; done)) (by intro w_ hE_; (try dsimp only at hE_); first | (go_simp; done) | (go_simp; rfl)) ?_) | (refine mix_skip (o := { dst := some 101, op := Op.binOp BinOp.add 3 (Operand.tmp 100) (Operand.const (Value.int IntKind.i64 1)) 3, type := 3, pos := "more.go:35", after := #[{ on := 10, ground := Ground.data }, { on := 8, ground := Ground.guard }], guard := some (8, false) }) rfl (by first | rfl | (simp [Region.wanted, yielded]; done)) ?_)
                        (try simp only [Act.put, List.setIfInBounds_toArray, List.set_cons_zero, List.set_cons_succ])
                        first | (refine mix_read (o := { dst := some 103, op := Op.move (Operand.tmp 6), type := 27, pos := "more.go:35", after := #[{ on := 8, ground := Ground.guard }], guard := some (8, false) }) rfl (by first | rfl | (simp [Region.wanted, yielded]; done)) (by intro w_ hE_; (try dsimp only at hE_); first | (go_simp; done) | (go_simp; rfl)) ?_) | (refine mix_skip (o := { dst := some 103, op := Op.move (Operand.tmp 6), type := 27, pos := "more.go:35", after := #[{ on := 8, ground := Ground.guard }], guard := some (8, false) }) rfl (by first | rfl | (simp [Region.wanted, yielded]; done)) ?_)
                        (try simp only [Act.put, List.setIfInBounds_toArray, List.set_cons_zero, List.set_cons_succ])
                        first | (refine mix_read (o := { dst := some 104, op := Op.move (Operand.tmp 12), type := 3, pos := "more.go:35", after := #[{ on := 8, ground := Ground.guard }], guard := some (8, false) }) rfl (by first | rfl | (simp [Region.wanted, yielded]; done)) (by intro w_ hE_; (try dsimp only at hE_); first | (go_simp; done) | (go_simp; rfl)) ?_) | (refine mix_skip (o := { dst := some 104, op := Op.move (Operand.tmp 12), type := 3, pos := "more.go:35", after := #[{ on := 8, ground := Ground.guard }], guard := some (8, false) }) rfl (by first | rfl | (simp [Region.wanted, yielded]; done)) ?_)
                        (try simp only [Act.put, List.setIfInBounds_toArray, List.set_cons_zero, List.set_cons_succ])
                        first | (refine mix_read (o := { dst := some 105, op := Op.indexAddr 27 (Operand.tmp 103) (Operand.tmp 104), type := 0, pos := "more.go:35", after := #[{ on := 13, ground := Ground.data }, { on := 14, ground := Ground.data }, { on := 8, ground := Ground.guard }], guard := some (8, false) }) rfl (by first | rfl | (simp [Region.wanted, yielded]; done)) (by intro w_ hE_; (try dsimp only at hE_); first | (go_simp; done) | (go_simp; rfl)) ?_) | (refine mix_skip (o := { dst := some 105, op := Op.indexAddr 27 (Operand.tmp 103) (Operand.tmp 104), type := 0, pos := "more.go:35", after := #[{ on := 13, ground := Ground.data }, { on := 14, ground := Ground.data }, { on := 8, ground := Ground.guard }], guard := some (8, false) }) rfl (by first | rfl | (simp [Region.wanted, yielded]; done)) ?_)
                        (try simp only [Act.put, List.setIfInBounds_toArray, List.set_cons_zero, List.set_cons_succ])
                        first | (refine mix_read (o := { dst := some 106, op := Op.load 3 (Operand.tmp 105), type := 3, pos := "more.go:35", after := #[{ on := 15, ground := Ground.data }, { on := 8, ground := Ground.guard }], guard := some (8, false) }) rfl (by first | rfl | (simp [Region.wanted, yielded]; done)) (by intro w_ hE_; (try dsimp only at hE_); first | (go_simp; done) | (go_simp; rfl)) ?_) | (refine mix_skip (o := { dst := some 106, op := Op.load 3 (Operand.tmp 105), type := 3, pos := "more.go:35", after := #[{ on := 15, ground := Ground.data }, { on := 8, ground := Ground.guard }], guard := some (8, false) }) rfl (by first | rfl | (simp [Region.wanted, yielded]; done)) ?_)
                        (try simp only [Act.put, List.setIfInBounds_toArray, List.set_cons_zero, List.set_cons_succ])
                        first | (refine mix_read (o := { dst := some 107, op := Op.binOp BinOp.add 3 (Operand.tmp 106) (Operand.const (Value.int IntKind.i64 1)) 3, type := 3, pos := "more.go:35", after := #[{ on := 16, ground := Ground.data }, { on := 8, ground := Ground.guard }], guard := some (8, false) }) rfl (by first | rfl | (simp [Region.wanted, yielded]; done)) (by intro w_ hE_; (try dsimp only at hE_); first | (go_simp; done) | (go_simp; rfl)) ?_) | (refine mix_skip (o := { dst := some 107, op := Op.binOp BinOp.add 3 (Operand.tmp 106) (Operand.const (Value.int IntKind.i64 1)) 3, type := 3, pos := "more.go:35", after := #[{ on := 16, ground := Ground.data }, { on := 8, ground := Ground.guard }], guard := some (8, false) }) rfl (by first | rfl | (simp [Region.wanted, yielded]; done)) ?_)
                        (try simp only [Act.put, List.setIfInBounds_toArray, List.set_cons_zero, List.set_cons_succ])
                        first | (refine mix_read (o := { dst := some 108, op := Op.move (Operand.tmp 9), type := 3, pos := "more.go:35", after := #[{ on := 8, ground := Ground.guard }], guard := some (8, false) }) rfl (by first | rfl | (simp [Region.wanted, yielded]; done)) (by intro w_ hE_; (try dsimp only at hE_); first | (go_simp; done) | (go_simp; rfl)) ?_) | (refine mix_skip (o := { dst := some 108, op := Op.move (Operand.tmp 9), type := 3, pos := "more.go:35", after := #[{ on := 8, ground := Ground.guard }], guard := some (8, false) }) rfl (by first | rfl | (simp [Region.wanted, yielded]; done)) ?_)
                        (try simp only [Act.put, List.setIfInBounds_toArray, List.set_cons_zero, List.set_cons_succ])
                        first | (refine mix_read (o := { dst := some 109, op := Op.binOp BinOp.add 3 (Operand.tmp 108) (Operand.const (Value.int IntKind.i64 1)) 3, type := 3, pos := "more.go:35", after := #[{ on := 18, ground := Ground.data }, { on := 8, ground := Ground.guard }], guard := some (8, false) }) rfl (by first | rfl | (simp [Region.wanted, yielded]; done)) (by intro w_ hE_; (try dsimp only at hE_); first | (go_simp; done) | (go_simp; rfl)) ?_) | (refine mix_skip (o := { dst := some 109, op := Op.binOp BinOp.add 3 (Operand.tmp 108) (Operand.const (Value.int IntKind.i64 1)) 3, type := 3, pos := "more.go:35", after := #[{ on := 18, ground := Ground.data }, { on := 8, ground := Ground.guard }], guard := some (8, false) }) rfl (by first | rfl | (simp [Region.wanted, yielded]; done)) ?_)
                        (try simp only [Act.put, List.setIfInBounds_toArray, List.set_cons_zero, List.set_cons_succ])
                        first | (refine mix_read (o := { dst := some 110, op := Op.call { callee := Callee.builtin Builtin.min, args := #[Operand.tmp 107, Operand.tmp 109], argTypes := #[3, 3] }, type := 3, pos := "more.go:35", after := #[{ on := 17, ground := Ground.data }, { on := 19, ground := Ground.data }, { on := 8, ground := Ground.guard }], guard := some (8, false) }) rfl (by first | rfl | (simp [Region.wanted, yielded]; done)) (by intro w_ hE_; (try dsimp only at hE_); first | (go_simp; done) | (go_simp; rfl)) ?_) | (refine mix_skip (o := { dst := some 110, op := Op.call { callee := Callee.builtin Builtin.min, args := #[Operand.tmp 107, Operand.tmp 109], argTypes := #[3, 3] }, type := 3, pos := "more.go:35", after := #[{ on := 17, ground := Ground.data }, { on := 19, ground := Ground.data }, { on := 8, ground := Ground.guard }], guard := some (8, false) }) rfl (by first | rfl | (simp [Region.wanted, yielded]; done)) ?_)
                        (try simp only [Act.put, List.setIfInBounds_toArray, List.set_cons_zero, List.set_cons_succ])
                        refine mix_call (o := { dst := some 102, op := Op.call { callee := Callee.value (Operand.func 20), args := #[Operand.tmp 99, Operand.tmp 101], argTypes := #[24, 3] }, type := 3, pos := "more.go:35", after := #[{ on := 9, ground := Ground.data }, { on := 11, ground := Ground.data }, { on := 8, ground := Ground.chain }, { on := 8, ground := Ground.guard }], guard := some (8, false) }) rfl (by first | rfl | (simp [Region.wanted, yielded]; done)) (by first | (go_simp; done) | (go_simp; exact ⟨rfl, rfl⟩) | (go_simp; rfl)) ?_
                        refine (HSS.out _ HZ0.out).mono ?_
                        rintro e_ x1 ⟨rfl, rfl⟩
                        refine ⟨_, rfl, Below.refl _ _, ?_⟩
                        (try simp only [Act.put, List.setIfInBounds_toArray, List.set_cons_zero, List.set_cons_succ])
                        first | (refine mix_read (o := { dst := some 111, op := Op.binOp BinOp.neq 3 (Operand.tmp 102) (Operand.tmp 110) 3, type := 4, pos := "more.go:35", after := #[{ on := 12, ground := Ground.data }, { on := 20, ground := Ground.data }, { on := 8, ground := Ground.guard }], guard := some (8, false) }) rfl (by first | rfl | (simp [Region.wanted, yielded]; done)) (by intro w_ hE_; (try dsimp only at hE_); first | (go_simp; done) | (go_simp; rfl)) ?_) | (refine mix_skip (o := { dst := some 111, op := Op.binOp BinOp.neq 3 (Operand.tmp 102) (Operand.tmp 110) 3, type := 4, pos := "more.go:35", after := #[{ on := 12, ground := Ground.data }, { on := 20, ground := Ground.data }, { on := 8, ground := Ground.guard }], guard := some (8, false) }) rfl (by first | rfl | (simp [Region.wanted, yielded]; done)) ?_)
                        (try simp only [Act.put, List.setIfInBounds_toArray, List.set_cons_zero, List.set_cons_succ])
                        (refine mix_read (o := { dst := some 112, op := Op.pick (Operand.tmp 98) (Operand.const (Value.bool true)) (Operand.tmp 111), type := 4, pos := "more.go:35", after := #[{ on := 8, ground := Ground.data }, { on := 21, ground := Ground.data }], guard := none }) rfl (by first | rfl | (simp [Region.wanted, yielded]; done)) (by intro w_ hE_; (try dsimp only at hE_); first | (go_simp; done) | (go_simp; rfl)) ?_)
                        (try simp only [Act.put, List.setIfInBounds_toArray, List.set_cons_zero, List.set_cons_succ])
                        refine mix_nil ?_
                        go_wp2_with fail
                        go_roundg f2
                        case measure => omega
                        case rel => exact ⟨j + 1, by have := HJ1.out; simp; omega, ⟨by have := HJ.out; omega⟩, HPz, HOz, HZ1⟩
                        go_roundg f2
                        case measure => omega
                        case rel => exact ⟨j + 1, by have := HJ1.out; simp; omega, ⟨by have := HJ.out; omega⟩, HPz, HOz, HZ1⟩
                · have hji : j = i := by omega
                  subst hji
                  have k1 : ((j : Int) < (j : Int)) = False := eq_false (by omega)
                  clear hj hlt hnl hrl
                  go_wp2_with fail
                  go_roundg f
                  case measure => omega
                  case rel => exact ⟨r + 1, ts, by simp, ⟨by have := HI.out.1; omega, HAL.out⟩, HP, HO, HB⟩
        · have hr12 : r = 12 := by omega
          subst hr12
          have hae := all_end hi.2 HKS.out.2
          have HA := Aside0.mk (all_calls HP.out)
          rw [hae] at HA
          clear hi hlt hae
          go_wp2_with fail
          refine HA.out.mono ?_
          rintro e_ w5 ⟨v5, rfl, ho, hb⟩
          obtain ⟨Al, cl, rfl⟩ := Kd.R_slice ho
          have HB5 := Aside0.mk (below_to HB.out HB.out.size hb)
          clear ho hb
          go_wp2
          go_ret
          exact ⟨by simp, HB5.out⟩
end Go.Proofs.Ytopclgpimabpcaa.TuWalk
