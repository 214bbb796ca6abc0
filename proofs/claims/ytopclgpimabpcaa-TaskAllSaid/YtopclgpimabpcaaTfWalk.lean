/- TaskForty: forty works may be there that are not done; when one is done another one may come: it answers true. No condition. -/
import Derived.Test.YtopclgpimabpcaaProg
import Derived.Below
import Derived.Deep.Draws
import Derived.Deep.AppendLies
import Derived.Maps.AppendAt
import Derived.OwnWalk
import Derived.Laws.BytesArg
import Derived.Laws.MakeOwn
import Derived.Laws.OwnMore
import Derived.Deep.OwnRows
import Derived.Tactics
import Derived.Lib.ConvBytes
import Derived.Laws.Slices
import Derived.WalkKit
import Derived.KernelRfl
import Derived.RowKit3
import Derived.Deep.LoopGhost
import Derived.Deep.QuietTactic
import Derived.BigQuiet
import Derived.WideLaws
import Derived.Deep.DeepCutAuto
import Derived.Deep.CutBlock
import Derived.Deep.RegionHeld3
import Derived.Laws.Rows
import Derived.Lib.AppendStr
import Derived.ArgAppend
import Derived.Laws.IdiomCopy
import Derived.OrdersHeld
import Derived.Laws.BitsLemmas
import Derived.RowKit
import Derived.WalkSpells
import Derived.Outline
import Derived.Test.YtopclgpimabpcaaWWords
import Derived.Test.YtopclgpimabpcaaWLast
import Derived.Test.YtopclgpimabpcaaWMore
import Derived.Test.YtopclgpimabpcaaWArr
import Derived.Test.YtopclgpimabpcaaWTab
import Derived.Test.YtopclgpimabpcaaWZeros
import Derived.Test.YtopclgpimabpcaaWRepsOne
import Derived.Test.YtopclgpimabpcaaTkE
namespace Go.Proofs.Ytopclgpimabpcaa.TfWalk
open Go.RowKit Go.Proofs.YtopclgpimabpcaaW.PrintWords Go.Proofs.YtopclgpimabpcaaW.PrintLast Go.Proofs.YtopclgpimabpcaaW.PrintMore Go.Proofs.Ytopclgpimabpcaa.Tk Go.Proofs.Ytopclgpimabpcaa.TkA Go.Proofs.Ytopclgpimabpcaa.TkB Go.Proofs.Ytopclgpimabpcaa.TkC Go.Proofs.Ytopclgpimabpcaa.TkD Go.Proofs.Ytopclgpimabpcaa.TkE Go.Proofs.Ytopclgpimabpcaa.Mix
set_option linter.unusedSimpArgs false
set_option linter.unusedVariables false
attribute [local go_sem] max2_int min2_int max_two min_two

theorem those_len (m : Int) : ∀ (i : Nat) (ts : List Tk), (thoseF m i ts).length = ts.countP (fun t => decide (t.st ≤ m)) := by
  intro i ts
  induction ts generalizing i with
  | nil => rfl
  | cons t ts ih =>
    rw [List.countP_cons]
    show (if t.st ≤ m then ((i : Int) + 1) :: thoseF m (i + 1) ts else thoseF m (i + 1) ts).length = _
    by_cases h : t.st ≤ m
    · rw [if_pos h, List.length_cons, ih, if_pos (decide_eq_true h)]
    · rw [if_neg h, ih, if_neg (by simp [h])]
      rfl
def cnt (m : Int) (ts : List Tk) : Nat := ts.countP (fun t => decide (t.st ≤ m))
theorem thoseL_len (m : Int) (ts : List Tk) : (thoseL m ts).length = cnt m ts := those_len m 0 ts
theorem cnt_all {m : Int} {ts : List Tk} (h : ∀ t ∈ ts, t.st ≤ m) : cnt m ts = ts.length := by
  unfold cnt
  exact List.countP_eq_length.2 (fun t ht => decide_eq_true (h t ht))
theorem cnt_none {m : Int} {ts : List Tk} (h : ∀ t ∈ ts, m < t.st) : cnt m ts = 0 := by
  unfold cnt
  exact List.countP_eq_zero.2 (fun t ht => by have := h t ht; simp; omega)
theorem cnt_append (m : Int) (a b : List Tk) : cnt m (a ++ b) = cnt m a + cnt m b := by unfold cnt; exact List.countP_append
theorem cnt_half {m : Int} {ts : List Tk} {i : Nat} (hi : i ≤ ts.length) (h1 : ∀ j, j < i → m < (ts.getD j default).st) (h2 : ∀ j, i ≤ j → j < ts.length → (ts.getD j default).st ≤ m) : cnt m ts = ts.length - i := by
  conv => lhs; rw [← List.take_append_drop i ts]
  rw [cnt_append, cnt_none, cnt_all, List.length_drop, Nat.zero_add]
  · intro t ht
    obtain ⟨j, hj, rfl⟩ := List.getElem_of_mem ht
    rw [List.length_drop] at hj
    have := h2 (i + j) (by omega) (by omega)
    rw [List.getD_eq_getElem?_getD, List.getElem?_eq_getElem (by omega)] at this
    rw [List.getElem_drop]
    exact this
  · intro t ht
    obtain ⟨j, hj, rfl⟩ := List.getElem_of_mem ht
    rw [List.length_take] at hj
    have := h1 j (by omega)
    rw [List.getD_eq_getElem?_getD, List.getElem?_eq_getElem (by omega)] at this
    rw [List.getElem_take]
    exact this
theorem pool_fresh {w : World} {B p : Nat} {ts : List Tk} (h : PoolAt w B p ts) : w.heap.size ∉ ts.map Tk.h := by
  obtain ⟨v, _, _, _, h4, _⟩ := h
  intro hm
  obtain ⟨t, ht, e⟩ := List.mem_map.1 hm
  have := blk_lt (h4 t ht).2.2.2.1
  omega
theorem pool_le {w : World} {B p : Nat} {ts : List Tk} (h : PoolAt w B p ts) : B ≤ w.heap.size ∧ ts.length ≤ 1000000 := by
  obtain ⟨v, h1, h2, _, _, _, _, h8⟩ := h
  have := blk_lt h2
  exact ⟨by omega, h8⟩
/-- A work without a list, new, is added. -/
theorem add_new {w : World} {B p : Nat} {ts : List Tk} (hp : PoolAt w B p ts) (hl : cnt 1 ts < 40) (hts : ts.length < 1000000) :
    Calls Try.prog 14 #[.pointer (some ⟨p, 0, none⟩), .iface 30 (.pointer (some ⟨w.heap.size, 0, none⟩))] (w.alloc (.cells #[.slice none 0 0, .int .i64 0] 32 (0, 0))) fun e w' => e = .returned (.int .i64 ((ts.length + 1 : Nat) : Int)) ∧ (∃ t, (t.st = 0 ∧ t.n = 0 ∧ t.sp = 0 ∧ t.L = []) ∧ PoolAt w' B p (ts ++ [t])) ∧ Below B w w' ∧ Kp w w' := by
  have hb := (Below.refl w.heap.size w).alloc (Nat.le_refl _) (.cells #[.slice none 0 0, .int .i64 0] 32 (0, 0))
  have h := add_go (n := 0) (L := []) (pool_below hp hb) (by rw [thoseL_len]; exact hl) hts (pool_le hp).1 (blk_new w _) (own_nil _ _ _ _) (pool_fresh hp)
  refine h.mono ?_
  rintro e w' ⟨he, ⟨g, hp'⟩, hb', hk'⟩
  exact ⟨he, ⟨_, ⟨rfl, rfl, rfl, rfl⟩, hp'⟩, Below.trans ⟨hb.os, hb.tape, hb.output, hb.size, fun j hj => hb.block j (by have := (pool_le hp).1; omega)⟩ hb', (Kp.below hb).trans hk'⟩
theorem add_no {w : World} {B p : Nat} {ts : List Tk} (hp : PoolAt w B p ts) (hl : 40 ≤ cnt 1 ts) :
    Calls Try.prog 14 #[.pointer (some ⟨p, 0, none⟩), .iface 30 (.pointer (some ⟨w.heap.size, 0, none⟩))] (w.alloc (.cells #[.slice none 0 0, .int .i64 0] 32 (0, 0))) fun e w' => e = .returned (.int .i64 0) ∧ PoolAt w' B p ts ∧ Below B w w' := by
  have hb := (Below.refl w.heap.size w).alloc (Nat.le_refl _) (.cells #[.slice none 0 0, .int .i64 0] 32 (0, 0))
  have h := add_full (h := w.heap.size) (pool_below hp hb) (by rw [thoseL_len]; exact hl)
  refine h.mono ?_
  rintro e w' ⟨he, hb'⟩
  have hb2 := below_step hb hb'
  exact ⟨he, pool_below hp hb2, ⟨hb2.os, hb2.tape, hb2.output, hb2.size, fun j hj => hb2.block j (by have := (pool_le hp).1; omega)⟩⟩
set_option maxRecDepth 100000 in
set_option maxHeartbeats 1000000 in
theorem walk (a0 a1 : Int) (w : World) (w0 : (Lit.int .i64 a0).wf = true) (w1 : (Lit.int .i64 a1).wf = true) :
    Calls Try.prog 6 #[.int .i64 a0, .int .i64 a1] w fun e w' => e = .returned (.bool true) ∧ Below w.heap.size w w' := by
  clear w0 w1
  go_enter Try.func6, Try.ntmps6
  go_wp2_with fail
  refine (begun_calls w).mono ?_
  rintro e_ w1 ⟨rfl, hb⟩
  have HB1 := Aside0.mk hb
  clear hb
  by_cases h1 : a0 < 0
  · go_wp2
    go_ret
    exact ⟨by simp, HB1.out⟩
  by_cases h2 : 60 < a0
  · go_wp2
    go_ret
    exact ⟨by simp, HB1.out⟩
  by_cases h3 : a1 < 0
  · go_wp2
    go_ret
    exact ⟨by simp, HB1.out⟩
  by_cases h4 : 60 < a1
  · go_wp2
    go_ret
    exact ⟨by simp, HB1.out⟩
  obtain ⟨n, rfl⟩ := Int.eq_ofNat_of_zero_le (by omega : 0 ≤ a0)
  obtain ⟨dn, rfl⟩ := Int.eq_ofNat_of_zero_le (by omega : 0 ≤ a1)
  have HN : Aside0 (n ≤ 60 ∧ dn ≤ 60) := ⟨by omega⟩
  go_wp2_with fail
  clear h1 h2 h3 h4
  refine (new_calls w.heap.size w1 HB1.out.size).mono ?_
  rintro e_ w2 ⟨p, rfl, hp, hb⟩
  have HP := Aside0.mk hp
  have HB2 := Aside0.mk (below_step HB1.out hb)
  clear hp hb HB1
  go_wp2_with fail
  go_loopg [7, 8] n (fun q v7 v8 w' => ∃ (i : Nat) (ts : List Tk), v7 = .int .i64 ((i : Int) + 1) ∧ Aside0 (i + q = n ∧ ts.length = min i 40 ∧ ∀ t ∈ ts, t.st = 0 ∧ t.n = 0 ∧ t.sp = 0 ∧ t.L = []) ∧ Aside0 (PoolAt w' w.heap.size p ts) ∧ Aside0 (Below w.heap.size w w'))
  case atStart => exact ⟨0, [], rfl, ⟨by omega, by simp, by simp⟩, HP, HB2⟩
  case round =>
    clear HP HB2
    obtain ⟨i, ts, rfl, HI, HP, HB⟩ := hrel
    have hi := HI.out
    by_cases hlt : i < n
    · obtain ⟨f, rfl⟩ : ∃ f, gk = f + 1 := ⟨gk - 1, by omega⟩
      have k0 : ((i : Int) + 1 ≤ (n : Int)) = True := eq_true (by omega)
      have kw : IntKind.i64.wrap ((i : Int) + 1 + 1) = (i : Int) + 1 + 1 := by rw [IntKind.wrap_i64]; have := HN.out; omega
      have hcnt : cnt 1 ts = ts.length := cnt_all (fun t ht => by have := hi.2.2 t ht; omega)
      by_cases h40 : i < 40
      · have HA := Aside0.mk (add_new HP.out (by rw [hcnt, hi.2.1]; omega) (by rw [hi.2.1]; omega))
        have k1 : ((i : Int) + 1 ≤ 40) = True := eq_true (by omega)
        have k2 : (40 < (i : Int) + 1) = False := eq_false (by omega)
        have hll : ((ts.length + 1 : Nat) : Int) = (i : Int) + 1 := by rw [hi.2.1]; omega
        rw [hll] at HA
        clear hi hcnt hll
        go_wp2_with fail
        refine HA.out.mono ?_
        rintro e_ w4 ⟨rfl, ⟨t, ht, hp⟩, hb, hk⟩
        have HP4 := Aside0.mk hp
        have HB4 := Aside0.mk (HB.out.trans hb)
        have HT := Aside0.mk ht
        clear hp hb hk ht HA
        go_wp2_with fail
        go_roundg f
        case measure => omega
        case rel => exact ⟨i + 1, ts ++ [t], by simp, ⟨by have := HI.out; omega, by rw [List.length_append, HI.out.2.1]; simp; omega, fun x hx => by
          rcases List.mem_append.1 hx with hx | hx
          · exact HI.out.2.2 x hx
          · rw [List.mem_singleton.1 hx]; exact HT.out⟩, HP4, HB4⟩
      · have HA := Aside0.mk (add_no HP.out (by rw [hcnt, hi.2.1]; omega))
        have k1 : ((i : Int) + 1 ≤ 40) = False := eq_false (by omega)
        have k2 : (40 < (i : Int) + 1) = True := eq_true (by omega)
        clear hi hcnt
        go_wp2_with fail
        refine HA.out.mono ?_
        rintro e_ w4 ⟨rfl, hp, hb⟩
        have HP4 := Aside0.mk hp
        have HB4 := Aside0.mk (HB.out.trans hb)
        clear hp hb HA
        go_wp2_with fail
        go_roundg f
        case measure => omega
        case rel => exact ⟨i + 1, ts, by simp, ⟨by have := HI.out; omega, by rw [HI.out.2.1]; omega, HI.out.2.2⟩, HP4, HB4⟩
    · have hin : i = n := by omega
      subst hin
      have k0 : ((i : Int) + 1 ≤ (i : Int)) = False := eq_false (by omega)
      obtain ⟨k, hk⟩ : ∃ k : Nat, k = min i 40 := ⟨_, rfl⟩
      have hq : (if (40 : Int) < (i : Int) then (40 : Int) else (i : Int)) = (k : Int) := by split <;> omega
      have hkl : ts.length = k := by rw [hi.2.1, hk]
      have hall := hi.2.2
      obtain ⟨mn, hmn⟩ : ∃ mn : Nat, mn = min dn k := ⟨_, rfl⟩
      have hq2 : (if k < dn then (k : Int) else (dn : Int)) = (mn : Int) := by split <;> omega
      have HK : Aside0 (k ≤ 40 ∧ mn ≤ k) := ⟨by omega⟩
      have HALL := Aside0.mk (And.intro hkl hall)
      clear hlt hi hk hmn hkl hall
      go_wp2_with fail
      clear hq k0
      go_loopg [10] mn (fun q v10 w' => ∃ (j : Nat) (ts : List Tk), v10 = .int .i64 ((j : Int) + 1) ∧ Aside0 (j + q = mn ∧ ts.length = k ∧ (∀ x, x < j → (ts.getD x default).st = 2) ∧ ∀ x, j ≤ x → x < k → (ts.getD x default).st = 0 ∧ (ts.getD x default).n = 0 ∧ (ts.getD x default).sp = 0 ∧ (ts.getD x default).L = []) ∧ Aside0 (PoolAt w' w.heap.size p ts) ∧ Aside0 (Below w.heap.size w w'))
      case atStart => exact ⟨0, ts, rfl, ⟨by omega, HALL.out.1, fun x hx => by omega, fun x _ hx => HALL.out.2 _ (by rw [List.getD_eq_getElem?_getD, List.getElem?_eq_getElem (by have := HALL.out.1; omega)]; exact List.getElem_mem _)⟩, HP, HB⟩
      case round =>
        clear HP HB HALL HI
        obtain ⟨j, ts, rfl, HI, HP, HB⟩ := hrel
        have hi := HI.out
        by_cases hlt : j < mn
        · obtain ⟨f, rfl⟩ : ∃ f, gk = f + 1 := ⟨gk - 1, by omega⟩
          have hkk := HK.out
          have k0 : ((j : Int) + 1 ≤ (mn : Int)) = True := eq_true (by omega)
          have kw : IntKind.i64.wrap ((j : Int) + 1 + 1) = (j : Int) + 1 + 1 := by rw [IntKind.wrap_i64]; omega
          have ht := hi.2.2.2 j (Nat.le_refl _) (by omega)
          have hs1 := step_go HP.out j (by omega) ht.1 (by rw [ht.2.1]; decide) (by rw [ht.2.2.1]; decide)
          rw [ht.2.1, ht.2.2.1, ht.2.2.2] at hs1
          have hjc : ((j + 1 : Nat) : Int) = (j : Int) + 1 := by omega
          rw [hjc] at hs1
          have HS1 := Aside0.mk hs1
          have HJC := Aside0.mk hjc
          have HJ : Aside0 (j < ts.length) := ⟨by omega⟩
          clear hs1 ht hi hjc hkk
          go_wp2_with fail
          refine HS1.out.mono ?_
          rintro e_ w4 ⟨rfl, hp, hb, hk⟩
          obtain ⟨t', ht'⟩ : ∃ t', ({ts.getD j default with n := 0 + 1, st := stepV [] 0, sp := 0 + 1} : Tk) = t' := ⟨_, rfl⟩
          rw [ht'] at hp
          have hst : t'.st = 2 := by rw [← ht']; rfl
          clear ht'
          have hs2 := step_idle hp j (by rw [List.length_set]; exact HJ.out) (by rw [List.getD_eq_getElem?_getD, List.getElem?_set_self HJ.out]; show t'.st ≠ 0; rw [hst]; decide)
          rw [HJC.out] at hs2
          have HS2 := Aside0.mk hs2
          have HP4 := Aside0.mk hp
          have HB4 := Aside0.mk (HB.out.trans hb)
          have HST := Aside0.mk hst
          clear hp hb hk hs2 hst
          go_wp2_with fail
          refine HS2.out.mono ?_
          rintro e_ w5 ⟨rfl, rfl⟩
          go_wp2_with fail
          go_roundg f
          case measure => omega
          case rel =>
            refine ⟨j + 1, ts.set j t', by simp, ⟨by have := HI.out; omega, by rw [List.length_set]; exact HI.out.2.1, fun x hx => ?_, fun x h1 h2 => ?_⟩, HP4, HB4⟩
            · rw [List.getD_eq_getElem?_getD, List.getElem?_set]
              split
              · rename_i hx2
                rw [if_pos (by have := HJ.out; omega)]
                exact HST.out
              · rw [← List.getD_eq_getElem?_getD]
                exact HI.out.2.2.1 x (by omega)
            · have hh := HI.out.2.2.2 x (by omega) h2
              have hge : (ts.set j t').getD x default = ts.getD x default := by
                rw [List.getD_eq_getElem?_getD, List.getElem?_set_ne (by omega), ← List.getD_eq_getElem?_getD]
              rw [hge]
              exact hh
        · have hjm : j = mn := by omega
          subst hjm
          have k0 : ((j : Int) + 1 ≤ (j : Int)) = False := eq_false (by omega)
          have hc1 : cnt 1 ts = k - j := by rw [← hi.2.1]; exact cnt_half (by have := HK.out; omega) (fun x hx => by rw [hi.2.2.1 x hx]; decide) (fun x h1 h2 => by rw [(hi.2.2.2 x h1 (by omega)).1]; decide)
          have hc0 : cnt 0 ts = k - j := by rw [← hi.2.1]; exact cnt_half (by have := HK.out; omega) (fun x hx => by rw [hi.2.2.1 x hx]; decide) (fun x h1 h2 => by rw [(hi.2.2.2 x h1 (by omega)).1]; decide)
          obtain ⟨lf, hlf⟩ : ∃ lf, k - j = lf := ⟨_, rfl⟩
          rw [hlf] at hc1 hc0
          have hkk := HK.out
          have kl : IntKind.i64.wrap ((k : Int) - (j : Int)) = (lf : Int) := by rw [IntKind.wrap_i64]; omega
          have HLF : Aside0 (lf ≤ 40 ∧ k ≤ 40 ∧ ts.length = k ∧ cnt 1 ts = lf ∧ cnt 0 ts = lf) := ⟨by omega⟩
          have HA := Aside0.mk (all_calls HP.out)
          have hl1 : (thoseL 1 ts).length = lf := by rw [thoseL_len]; exact hc1
          have hl0 : (thoseL 0 ts).length = lf := by rw [thoseL_len]; exact hc0
          have HRD := Aside0.mk (fun w' h => ready_calls (pool_below (w' := w') HP.out h))
          generalize thoseL 1 ts = L1 at *
          generalize thoseL 0 ts = L0 at *
          have b1 : ((L1.length : Int) != (lf : Int)) = false := by simp [hl1]
          have b0 : ((L0.length : Int) != (lf : Int)) = false := by simp [hl0]
          clear hc1 hc0 hlf hkk hi hlt hl1 hl0 HI
          go_wp2_with fail
          refine HA.out.mono ?_
          rintro e_ w5 ⟨v5, rfl, ho, hb⟩
          obtain ⟨A5, c5, rfl⟩ := Kd.R_slice ho
          have HB5 := Aside0.mk (below_to HB.out HB.out.size hb)
          have HW5 := Aside0.mk hb
          clear ho hb
          go_wp2_with fail
          refine (HRD.out w5 HW5.out).mono ?_
          rintro e_ w6 ⟨v6, rfl, ho, hb⟩
          obtain ⟨A6, c6, rfl⟩ := Kd.R_slice ho
          have HB6 := Aside0.mk (below_to HB5.out HB5.out.size hb)
          have HP6 := Aside0.mk (pool_below (pool_below HP.out HW5.out) hb)
          clear ho hb HA HRD HP HB HB5 HW5
          go_wp2_with fail
          go_loopg [12, 13] 45 (fun q v12 v13 w' => ∃ (x : Nat) (ts : List Tk), v12 = .int .i64 (x : Int) ∧ Aside0 (x + q = 45 ∧ ts.length = k + min x (40 - lf) ∧ cnt 1 ts = min (lf + x) 40) ∧ Aside0 (PoolAt w' w.heap.size p ts) ∧ Aside0 (Below w.heap.size w w'))
          case atStart => exact ⟨0, ts, rfl, ⟨by have := HLF.out; omega⟩, HP6, HB6⟩
          case round =>
            clear HP6 HB6 b1 b0 k0 kl
            obtain ⟨x, ts, rfl, HI, HP, HB⟩ := hrel
            have hi := HI.out
            have hlf := HLF.out
            by_cases hlt : x < 45
            · obtain ⟨f, rfl⟩ : ∃ f, gk = f + 1 := ⟨gk - 1, by omega⟩
              have k0 : ((x : Int) < 45) = True := eq_true (by omega)
              have kw : IntKind.i64.wrap ((x : Int) + 1) = (x : Int) + 1 := by rw [IntKind.wrap_i64]; omega
              have ka : IntKind.i64.wrap ((lf : Int) + (x : Int)) = (lf : Int) + (x : Int) := by rw [IntKind.wrap_i64]; omega
              have kb : IntKind.i64.wrap ((k : Int) + 1) = (k : Int) + 1 := by rw [IntKind.wrap_i64]; omega
              have kc : IntKind.i64.wrap ((k : Int) + 1 + (x : Int)) = (k : Int) + 1 + (x : Int) := by rw [IntKind.wrap_i64]; omega
              by_cases h40 : lf + x < 40
              · have hA := add_new HP.out (by rw [hi.2.2]; omega) (by omega)
                have k1 : ((lf : Int) + (x : Int) < 40) = True := eq_true (by omega)
                have k2 : (40 ≤ (lf : Int) + (x : Int)) = False := eq_false (by omega)
                have hll : ((ts.length + 1 : Nat) : Int) = (k : Int) + 1 + (x : Int) := by omega
                rw [hll] at hA
                have HA := Aside0.mk hA
                have H40 := Aside0.mk h40
                clear hi hlf hll hA h40
                go_wp2_with fail
                refine HA.out.mono ?_
                rintro e_ w7 ⟨rfl, ⟨t, ht, hp⟩, hb, hk⟩
                have HP7 := Aside0.mk hp
                have HB7 := Aside0.mk (HB.out.trans hb)
                have HT := Aside0.mk ht
                clear hp hb hk ht HA
                go_wp2_with fail
                go_roundg f
                case measure => omega
                case rel => exact ⟨x + 1, ts ++ [t], by simp, ⟨by have := HI.out; omega, by rw [List.length_append, HI.out.2.1]; have := H40.out; simp; omega, by
                  rw [cnt_append, HI.out.2.2, cnt_all (ts := [t]) (fun y hy => by rw [List.mem_singleton.1 hy, HT.out.1]; decide)]
                  have := H40.out
                  simp
                  omega⟩, HP7, HB7⟩
              · have HA := Aside0.mk (add_no HP.out (by rw [hi.2.2]; omega))
                have k1 : ((lf : Int) + (x : Int) < 40) = False := eq_false (by omega)
                have k2 : (40 ≤ (lf : Int) + (x : Int)) = True := eq_true (by omega)
                have H40 := Aside0.mk h40
                clear hi hlf h40
                go_wp2_with fail
                refine HA.out.mono ?_
                rintro e_ w7 ⟨rfl, hp, hb⟩
                have HP7 := Aside0.mk hp
                have HB7 := Aside0.mk (HB.out.trans hb)
                clear hp hb HA
                go_wp2_with fail
                go_roundg f
                case measure => omega
                case rel => exact ⟨x + 1, ts, by simp, ⟨by have := HI.out; omega, by rw [HI.out.2.1]; have := H40.out; omega, by rw [HI.out.2.2]; have := H40.out; omega⟩, HP7, HB7⟩
            · have hx : x = 45 := by omega
              subst hx
              clear hi hlf hlt
              go_wp2
              go_ret
              exact ⟨rfl, HB.out⟩
end Go.Proofs.Ytopclgpimabpcaa.TfWalk
