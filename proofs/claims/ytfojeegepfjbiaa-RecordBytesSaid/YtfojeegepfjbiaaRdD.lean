/- Contracts of bytes.Equal and of record.decode. -/
import Derived.Test.YtfojeegepfjbiaaProg
import Derived.Below
import Derived.Deep.Draws
import Derived.Deep.AppendLies
import Derived.Maps.AppendAt
import Derived.OwnWalk
import Derived.Laws.BytesArg
import Derived.Laws.MakeOwn
import Derived.Laws.OwnMore
import Derived.Deep.OwnRows
import Derived.Tactics
import Derived.Lib.ConvBytes
import Derived.Laws.Slices
import Derived.WalkKit
import Derived.KernelRfl
import Derived.RowKit3
import Derived.Deep.LoopGhost
import Derived.Deep.QuietTactic
import Derived.BigQuiet
import Derived.WideLaws
import Derived.Deep.DeepCutAuto
import Derived.Deep.CutBlock
import Derived.Deep.RegionHeld3
import Derived.Laws.Rows
import Derived.Lib.AppendStr
import Derived.ArgAppend
import Derived.Laws.IdiomCopy
import Derived.OrdersHeld
import Derived.Laws.BitsLemmas
import Derived.RowKit
import Derived.Deep.RegionWith
import Derived.Laws.Strings
import Derived.WalkSpells
import Derived.Outline
import Derived.Test.YtfojeegepfjbiaaWWords
import Derived.Test.YtfojeegepfjbiaaWLast
import Derived.Test.YtfojeegepfjbiaaWMore
import Derived.Test.YtfojeegepfjbiaaWArr
import Derived.Test.YtfojeegepfjbiaaWTab
import Derived.Test.YtfojeegepfjbiaaWZeros
import Derived.Test.YtfojeegepfjbiaaWRepsOne
import Derived.Test.YtfojeegepfjbiaaRdC
import Derived.Test.YtfojeegepfjbiaaCrH
namespace Go.Proofs.Ytfojeegepfjbiaa.RdD
open Go.RowKit Go.Proofs.YtfojeegepfjbiaaW.PrintWords Go.Proofs.YtfojeegepfjbiaaW.PrintLast Go.Proofs.YtfojeegepfjbiaaW.PrintMore Go.Proofs.Ytfojeegepfjbiaa.Nm Go.Proofs.Ytfojeegepfjbiaa.NmA Go.Proofs.Ytfojeegepfjbiaa.NmB Go.Proofs.Ytfojeegepfjbiaa.NmC Go.Proofs.Ytfojeegepfjbiaa.NmD Go.Proofs.Ytfojeegepfjbiaa.NmE Go.Proofs.Ytfojeegepfjbiaa.NmI Go.Proofs.Ytfojeegepfjbiaa.CrP Go.Proofs.Ytfojeegepfjbiaa.CrA Go.Proofs.Ytfojeegepfjbiaa.CrB Go.Proofs.Ytfojeegepfjbiaa.CrC Go.Proofs.Ytfojeegepfjbiaa.CrG Go.Proofs.Ytfojeegepfjbiaa.CrH Go.Proofs.Ytfojeegepfjbiaa.Mix Go.Proofs.Ytfojeegepfjbiaa.MixT Go.Proofs.Ytfojeegepfjbiaa.RdA Go.Proofs.Ytfojeegepfjbiaa.RdB Go.Proofs.Ytfojeegepfjbiaa.RdC
set_option linter.unusedSimpArgs false
set_option linter.unusedVariables false
attribute [local go_sem] max2_int min2_int max_two min_two

theorem equal_calls (A : Option Addr) (c : Nat) (a : List Int) (A2 : Option Addr) (c2 : Nat) (b : List Int) (ha : Bys a) (hb : Bys b) (w : World) (hr : (Kd.int .u8).C w A a.length a) (hr2 : (Kd.int .u8).C w A2 b.length b) :
    Calls Try.prog 78 #[.slice A a.length c, .slice A2 b.length c2] w fun e w' => e = .returned (.bool (decide (a = b))) ∧ w = w' := by
  have cv1 := Kd.C_string (P := Try.prog) (A := A) (c := c) Try.underlying22 Try.underlying5 Try.underlying9 hr
  have cv2 := Kd.C_string (P := Try.prog) (A := A2) (c := c2) Try.underlying22 Try.underlying5 Try.underlying9 hr2
  have HE : Aside0 (((strOfNums a).toList == (strOfNums b).toList) = decide (a = b)) := ⟨by
    by_cases h : a = b
    · subst h; rw [decide_eq_true rfl]; exact beq_self_eq_true _
    · rw [decide_eq_false h]; exact strOf_ne ha hb h⟩
  clear hr hr2
  go_enter Try.func78, Try.ntmps78
  go_wp2
  go_ret
  exact ⟨by rw [← HE.out]; rfl, rfl⟩
/-- What decode tells: kind, number, key, value, and whether it is a record. -/
def decB (b : List Int) : (Int × Int × ByteArray × ByteArray) × Bool :=
  let k1 := numK b 1
  let k := numV b false 1
  let s1 := stepR b false k1
  let s := numV s1.1 s1.2 1125899906842624
  let s2 := stepR s1.1 s1.2 (numK s1.1 1125899906842624)
  let key := txtV s2.1 s2.2
  let s3 := stepR s2.1 s2.2 (textV s2.1).2.toNat
  let s4 := if k = 1 then stepR s3.1 s3.2 (textV s3.1).2.toNat else s3
  let v := if k = 1 then txtV s3.1 s3.2 else ⟨#[]⟩
  ((k, s, key, v), (!s4.2 && decide (s4.1.length = 0)) && (decide (checkL k s key v = 0) && decide (sealL (recB k s key v) = sealL b)))
theorem bys_step {l : List Int} (h : Bys l) (bad : Bool) (n : Nat) : Bys (stepR l bad n).1 := by
  unfold stepR
  split
  · intro z hz; simp at hz
  · exact bys_drop h n
theorem step_len (l : List Int) (bad : Bool) (n : Nat) : (stepR l bad n).1.length ≤ l.length := by
  unfold stepR
  split
  · simp
  · simp only [List.length_drop]; omega
theorem alloc2 (w : World) (o1 o2 : Obj) : ((w.alloc o1).alloc o2).heap[w.heap.size]? = some o1 ∧ ((w.alloc o1).alloc o2).heap[w.heap.size + 1]? = some o2 ∧ Below w.heap.size w ((w.alloc o1).alloc o2) := by
  have hs : (w.alloc o1).heap.size = w.heap.size + 1 := by show (w.heap.push _).size = _; exact Array.size_push _
  refine ⟨blk_alloc (blk_new w o1) o2, ?_, ((Below.refl w.heap.size w).alloc (Nat.le_refl _) o1).alloc (by omega) o2⟩
  rw [← hs]
  exact blk_new (w.alloc o1) o2
theorem rdr_new {w : World} {A : Option Addr} {c : Nat} {l : List Int} (hr : (Kd.int .u8).C w A l.length l) (hc : l.length ≤ c) (o1 : Obj) : RdrAt ((w.alloc o1).alloc (.cells #[.slice A l.length c, .bool false] 106 (0, 0))) (w.heap.size + 1) l false := by
  obtain ⟨_, h2, h3⟩ := alloc2 w o1 (.cells #[.slice A l.length c, .bool false] 106 (0, 0))
  refine ⟨A, c, h2, Kd.C_below hr h3, hc, fun ad e hp => ?_⟩
  obtain ⟨ad', e', hx⟩ := hr.2.2 hp
  have hee : ad = ad' := by rw [e] at e'; injection e'
  subst hee
  obtain ⟨cs, h1, h2, h3'⟩ := hx 0 _ (List.getElem?_eq_getElem hp)
  have hcs : cs = [.int .u8 l[0]] := h2
  subst hcs
  have hcell := h3' 0 _ rfl
  have hlt := World.block_lt_of_cell? w _ hcell
  have hbk : (ad.add (0 * (Kd.int .u8).sz + 0)).block = ad.block := by unfold Addr.add; split <;> rfl
  omega
theorem setCell_same {w : World} {b i : Nat} {cs : Array Value} {t : TypeId} {u : Value} (h : w.heap[b]? = some (.cells cs t (0, 0))) (hu : cs[i]? = some u) : w.setCell ⟨b, i, none⟩ u = w := by
  have hi := (Array.getElem?_eq_some_iff.1 hu).1
  have e1 : cs.setIfInBounds i u = cs := by
    apply Array.ext_getElem?
    intro j
    rw [Array.getElem?_setIfInBounds]
    split
    · rename_i e; subst e; first | (rw [if_pos hi]; exact hu.symm) | exact hu.symm
    · rfl
  have e2 : (w.setCell ⟨b, i, none⟩ u).heap = w.heap := by
    apply Array.ext_getElem?
    intro j
    by_cases hj : j = b
    · subst hj
      rw [blk_set h i u, e1, h]
    · exact Below.heap_setCell w ⟨b, i, none⟩ u j hj
  show { w with heap := (w.setCell ⟨b, i, none⟩ u).heap } = w
  rw [e2]
theorem store4 {w : World} {r : Nat} {c0 c1 c2 c3 : Value} {t : TypeId} (h : Blk w r #[c0, c1, c2, c3] t) (a b c d : Value) : ∃ wa wb wc we : World,
    w.setCell ⟨r, 0, none⟩ a = wa ∧ wa.setCell ⟨r, 1, none⟩ b = wb ∧ wb.setCell ⟨r, 2, none⟩ c = wc ∧ wc.setCell ⟨r, 3, none⟩ d = we ∧
    w.cell? ⟨r, 0, none⟩ = some c0 ∧ wa.cell? ⟨r, 1, none⟩ = some c1 ∧ wb.cell? ⟨r, 2, none⟩ = some c2 ∧ wc.cell? ⟨r, 3, none⟩ = some c3 ∧
    w.frozen? ⟨r, 0, none⟩ = false ∧ wa.frozen? ⟨r, 1, none⟩ = false ∧ wb.frozen? ⟨r, 2, none⟩ = false ∧ wc.frozen? ⟨r, 3, none⟩ = false ∧
    Blk we r #[a, b, c, d] t ∧ w.grownBy we (some r) := by
  have ha := blk_set h 0 a
  have hb := blk_set ha 1 b
  have hc := blk_set hb 2 c
  have hd := blk_set hc 3 d
  exact ⟨_, _, _, _, rfl, rfl, rfl, rfl, blk_cell h 0, blk_cell ha 1, blk_cell hb 2, blk_cell hc 3, blk_frozen h 0, blk_frozen ha 1, blk_frozen hb 2, blk_frozen hc 3, hd, World.grownBy.trans (World.grownBy.trans (World.grownBy.trans grown_set grown_set) grown_set) grown_set⟩
theorem bys_rec {k s : Int} {key v : ByteArray} (h : checkL k s key v = 0) : Bys (recB k s key v) := by
  have hok := check_ok h
  have h1 : Bys ([k] ++ enc s.toNat) := bys_append (fun z hz => by rw [List.mem_singleton.1 hz]; omega) (bys_enc (n := s.toNat) (by omega))
  have hk : Bys (enc key.size ++ bytesOf key) := bys_append (bys_enc (by omega)) (bys_bytesOf key)
  have hv : Bys (enc v.size ++ bytesOf v) := bys_append (bys_enc (by omega)) (bys_bytesOf v)
  unfold recB
  split
  · exact bys_append (bys_append h1 hk) hv
  · exact bys_append h1 hk
set_option maxRecDepth 100000 in
set_option maxHeartbeats 1000000 in
theorem decode_calls (A : Option Addr) (c : Nat) (b : List Int) (hby : Bys b) (w : World) (hr : (Kd.int .u8).C w A b.length b) (hc : b.length ≤ c) (hl : b.length ≤ 1000000000) :
    Calls Try.prog 58 #[.slice A b.length c] w fun e w' => e = .returned (.tuple #[recV (decB b).1.1 (decB b).1.2.1 (decB b).1.2.2.1 (decB b).1.2.2.2, .bool (decB b).2]) ∧ Below w.heap.size w w' := by
  have hrd := rdr_new hr hc (.cells #[.int .i64 0, .int .i64 0, .string ⟨#[]⟩, .string ⟨#[]⟩] 45 (0, 0))
  obtain ⟨hb0, _, hbel⟩ := alloc2 w (.cells #[.int .i64 0, .int .i64 0, .string ⟨#[]⟩, .string ⟨#[]⟩] 45 (0, 0)) (.cells #[.slice A b.length c, .bool false] 106 (0, 0))
  obtain ⟨k, hk⟩ : ∃ x, numV b false 1 = x := ⟨_, rfl⟩
  obtain ⟨l1, b1, h1⟩ : ∃ l b', stepR b false (numK b 1) = (l, b') := ⟨_, _, rfl⟩
  obtain ⟨s, hs⟩ : ∃ x, numV l1 b1 1125899906842624 = x := ⟨_, rfl⟩
  obtain ⟨l2, b2, h2⟩ : ∃ l b', stepR l1 b1 (numK l1 1125899906842624) = (l, b') := ⟨_, _, rfl⟩
  obtain ⟨key, hkey⟩ : ∃ x, txtV l2 b2 = x := ⟨_, rfl⟩
  obtain ⟨l3, b3, h3⟩ : ∃ l b', stepR l2 b2 (textV l2).2.toNat = (l, b') := ⟨_, _, rfl⟩
  obtain ⟨l4, b4, h4⟩ : ∃ l b', stepR l3 b3 (textV l3).2.toNat = (l, b') := ⟨_, _, rfl⟩
  obtain ⟨v, hv⟩ : ∃ x, txtV l3 b3 = x := ⟨_, rfl⟩
  have y1 : Bys l1 := by have := bys_step hby false (numK b 1); rw [h1] at this; exact this
  have y2 : Bys l2 := by have := bys_step y1 b1 (numK l1 1125899906842624); rw [h2] at this; exact this
  have y3 : Bys l3 := by have := bys_step y2 b2 (textV l2).2.toNat; rw [h3] at this; exact this
  have n1 : l1.length ≤ b.length := by have := step_len b false (numK b 1); rw [h1] at this; exact this
  have n2 : l2.length ≤ l1.length := by have := step_len l1 b1 (numK l1 1125899906842624); rw [h2] at this; exact this
  have n3 : l3.length ≤ l2.length := by have := step_len l2 b2 (textV l2).2.toNat; rw [h3] at this; exact this
  have HD1 : Aside0 (k = 1 → decB b = ((k, s, key, v), (!b4 && decide (l4.length = 0)) && (decide (checkL k s key v = 0) && decide (sealL (recB k s key v) = sealL b)))) := ⟨fun e => by
    unfold decB
    simp only [hk, h1, hs, h2, hkey, h3, h4, hv]
    rw [if_pos e, if_pos e]⟩
  have HD0 : Aside0 (k ≠ 1 → decB b = ((k, s, key, ⟨#[]⟩), (!b3 && decide (l3.length = 0)) && (decide (checkL k s key ⟨#[]⟩ = 0) && decide (sealL (recB k s key ⟨#[]⟩) = sealL b)))) := ⟨fun e => by
    unfold decB
    simp only [hk, h1, hs, h2, hkey, h3, h4, hv]
    rw [if_neg e, if_neg e]⟩
  have HY := Aside0.mk (And.intro hby (And.intro y1 (And.intro y2 y3)))
  have HNL := Aside0.mk (And.intro n1 (And.intro n2 n3))
  have HCR := Aside0.mk (And.intro hr hc)
  obtain ⟨p, hp⟩ : ∃ p, w.heap.size + 1 = p := ⟨_, rfl⟩
  obtain ⟨W0, hW0⟩ : ∃ x, (w.alloc (.cells #[.int .i64 0, .int .i64 0, .string ⟨#[]⟩, .string ⟨#[]⟩] 45 (0, 0))).alloc (.cells #[.slice A b.length c, .bool false] 106 (0, 0)) = x := ⟨_, rfl⟩
  rw [hW0] at hrd hb0 hbel
  rw [hp] at hrd
  have HRD := Aside0.mk hrd
  have HBK := Aside0.mk hb0
  have HB := Aside0.mk hbel
  have HPE := Aside0.mk hp
  have HN1 := Aside0.mk (num_calls hrd hby 1 (by decide) (by decide))
  rw [hk, h1] at HN1
  have HN2 := Aside0.mk (fun w' (h : RdrAt w' p l1 b1) => num_calls h y1 1125899906842624 (by decide) (by decide))
  rw [hs, h2] at HN2
  have HT2 := Aside0.mk (fun w' (h : RdrAt w' p l2 b2) => rtxt_calls h y2 (by omega))
  rw [hkey, h3] at HT2
  have HT3 := Aside0.mk (fun w' (h : RdrAt w' p l3 b3) => rtxt_calls h y3 (by omega))
  rw [hv, h4] at HT3
  clear hrd hb0 hbel hk h1 hs h2 hkey h3 h4 hv y1 y2 y3 n1 n2 n3 hr hc hby
  go_enter Try.func58, Try.ntmps58
  go_wp2_with fail
  refine HN1.out.mono ?_
  rintro e_ w1 ⟨rfl, hr1, hg1⟩
  have hb1 := blk_grown HBK.out hg1 (by have := HPE.out; intro e; injection e with e; omega)
  have hB1 := pw_below_grown HB.out (some p) HB.out.size hg1 (fun q hq => by injection hq with hq; have := HPE.out; omega)
  go_wp2_with fail
  refine (HN2.out w1 hr1).mono ?_
  rintro e_ w2 ⟨rfl, hr2, hg2⟩
  have hb2 := blk_grown hb1 hg2 (by have := HPE.out; intro e; injection e with e; omega)
  have hB2 := pw_below_grown hB1 (some p) hB1.size hg2 (fun q hq => by injection hq with hq; have := HPE.out; omega)
  clear hr1 hg1 hb1 hB1 hg2
  go_wp2_with fail
  refine (HT2.out w2 hr2).mono ?_
  rintro e_ w3 ⟨rfl, hr3, hg3⟩
  have hb3 := blk_grown hb2 hg3 (by have := HPE.out; intro e; injection e with e; omega)
  have hB3 := pw_below_grown hB2 (some p) hB2.size hg3 (fun q hq => by injection hq with hq; have := HPE.out; omega)
  clear hr2 hb2 hB2 hg3
  have hr4 := rdr_below hr3 ((Below.refl w3.heap.size w3).alloc (Nat.le_refl _) (.cells #[.int .i64 k, .int .i64 s, .string key, .string ⟨#[]⟩] 45 (0, 0)))
  have hx4 := blk_new w3 (.cells #[.int .i64 k, .int .i64 s, .string key, .string ⟨#[]⟩] 45 (0, 0))
  have hb4 := blk_alloc hb3 (.cells #[.int .i64 k, .int .i64 s, .string key, .string ⟨#[]⟩] 45 (0, 0))
  have hB4 := hB3.alloc hB3.size (.cells #[.int .i64 k, .int .i64 s, .string key, .string ⟨#[]⟩] 45 (0, 0))
  obtain ⟨wx, hwx⟩ : ∃ x, w3.alloc (.cells #[.int .i64 k, .int .i64 s, .string key, .string ⟨#[]⟩] 45 (0, 0)) = x := ⟨_, rfl⟩
  have hlt3 : w.heap.size < w3.heap.size := blk_lt hb3
  obtain ⟨x, hxx⟩ : ∃ x, w3.heap.size = x := ⟨_, rfl⟩
  rw [hwx] at hr4 hx4 hb4 hB4
  rw [hxx] at hx4 hlt3
  have HLT := Aside0.mk hlt3
  have HR3 := Aside0.mk hr3
  have HXX := Aside0.mk hxx
  clear hr3 hb3 hB3 hlt3
  have hws : wx.setCell ⟨x, 3, none⟩ (.string ⟨#[]⟩) = wx := setCell_same hx4 rfl
  have fx := blk_frozen hx4 3
  by_cases hk1 : k = 1
  · subst hk1
    have HD := Aside0.mk (HD1.out rfl)
    clear HD0 HD1
    have HXA := Aside0.mk hx4
    have HRA := Aside0.mk hb4
    have HBA := Aside0.mk hB4
    have HR5 := Aside0.mk hr4
    have x0 : wx.cell? ⟨x, 0, none⟩ = some (.int .i64 1) := blk_cell hx4 0
    have x3 : wx.cell? ⟨x, 3, none⟩ = some (.string ⟨#[]⟩) := blk_cell hx4 3
    have hpx : p < x := by rw [← HXX.out]; obtain ⟨_, _, hpb, _⟩ := HR3.out; exact blk_lt hpb
    have HPX := Aside0.mk hpx
    clear hr4 hx4 hb4 hB4 hpx
    go_wp2_with fail
    refine (HT3.out wx HR5.out).mono ?_
    rintro e_ w5 ⟨rfl, hr5, hg5⟩
    have hx5 := blk_grown HXA.out hg5 (by have := HPX.out; intro e; injection e with e; omega)
    have hb5 := blk_grown HRA.out hg5 (by have := HPE.out; intro e; injection e with e; omega)
    have hB5 := pw_below_grown HBA.out (some p) HBA.out.size hg5 (fun q hq => by injection hq with hq; have := HPE.out; omega)
    clear hg5 x0 x3 hws fx
    have y3 : w5.cell? ⟨x, 3, none⟩ = some (.string ⟨#[]⟩) := blk_cell hx5 3
    have fx := blk_frozen hx5 3
    obtain ⟨wB, hwB⟩ : ∃ z, w5.setCell ⟨x, 3, none⟩ (.string v) = z := ⟨_, rfl⟩
    have hxB : wB.heap[x]? = some (.cells #[.int .i64 1, .int .i64 s, .string key, .string v] 45 (0, 0)) := by rw [← hwB]; exact blk_set hx5 3 _
    have hgB : w5.grownBy wB (some x) := by rw [← hwB]; exact grown_set
    have hrB := blk_grown hb5 hgB (by have := HLT.out; intro e; injection e with e; omega)
    have hbB := pw_below_grown hB5 (some x) hB5.size hgB (fun q hq => by injection hq with hq; have := HLT.out; omega)
    have hrR : RdrAt wB p l4 b4 := by
      obtain ⟨Ap, cp, h1, h2, h3, h4⟩ := hr5
      have hfar : ∀ ad, Ap = some ad → 0 < l4.length → ad.block ≠ x := fun ad e hp => by have := h4 ad e hp; have := HPX.out; omega
      exact ⟨Ap, cp, blk_grown h1 hgB (by have := HPX.out; intro e; injection e with e; omega), C_grown h2 hfar hgB, h3, h4⟩
    clear hr5 hx5 hb5 hB5 hgB
    generalize hk1 : (1 : Int) = k at *
    have HXB := Aside0.mk hxB
    have HRB := Aside0.mk hrB
    have HBZ := Aside0.mk hbB
    have HR4 := Aside0.mk hrR
    have x0 : wB.cell? ⟨x, 0, none⟩ = some (.int .i64 k) := blk_cell HXB.out 0
    have x1 : wB.cell? ⟨x, 1, none⟩ = some (.int .i64 s) := blk_cell HXB.out 1
    have x2 : wB.cell? ⟨x, 2, none⟩ = some (.string key) := blk_cell HXB.out 2
    have x3 : wB.cell? ⟨x, 3, none⟩ = some (.string v) := blk_cell HXB.out 3
    obtain ⟨dn, hdn⟩ : ∃ d, (!b4 && decide (l4.length = 0)) = d := ⟨_, rfl⟩
    rw [hdn] at HD
    have HDN := Aside0.mk (fun w' h => done_calls (w := w') (p := p) (l := l4) (bad := b4) h)
    rw [hdn] at HDN
    clear hrR hxB hrB hbB hdn
    go_wp2_with fail
    by_cases hck : checkL k s key v = 0
    · rw [hck] at HD
      have HRV := Aside0.mk (And.intro (bys_sealL (bys_rec hck)) (bys_sealL HY.out.1))
      refine (encode_ok k s key v hck wB).mono ?_
      rintro e_ wE ⟨ve, rfl, hoE, hbE⟩
      obtain ⟨Ae, ce, rfl⟩ := Kd.R_slice hoE
      obtain ⟨hle, _, hce⟩ := Kd.R_reads' hoE
      have HCEN := Aside0.mk hce
      have HXE := Aside0.mk (blk_below HXB.out hbE)
      have HRE := Aside0.mk (blk_below HRB.out hbE)
      have HBE := Aside0.mk (below_step HBZ.out hbE)
      have HRD := Aside0.mk (rdr_below HR4.out hbE)
      have HCE := Aside0.mk (Kd.C_below HCR.out.1 (HBE.out))
      have HCK := Aside0.mk hck
      clear hbE hck x0 x1 x2 x3 hoE hce
      obtain ⟨se, hse⟩ : ∃ z, sealL (recB k s key v) = z := ⟨_, rfl⟩
      rw [hse] at HD HCEN HRV
      rw [hse]
      clear hse
      obtain ⟨sb, hsb⟩ : ∃ z, sealL b = z := ⟨_, rfl⟩
      rw [hsb] at HD HRV
      have HSB := Aside0.mk hsb
      clear hsb
      have HBYE := Aside0.mk HRV.out.1
      have HBYS := Aside0.mk HRV.out.2
      clear hle
      obtain ⟨ne, hne⟩ : ∃ n, se.length = n := ⟨_, rfl⟩
      rw [hne] at HCEN ⊢
      have HSL := Aside0.mk hne
      clear hne
      go_wp2_with fail
      cases dn with
      | true =>
        as_aux_lemma =>
          refine wp_region_tree (fun w_ w1_ => w_.grownBy w1_ (some w.heap.size)) (.rd 0 (.rd 1 (.ef 2 (.rd 3 (.rd 4 (.rd 5 (.rd 6 (.rd 7 (.rd 8 (.rd 9 (.ef 10 (.ef 11 (.rd 12 (.ef 13 (.rd 14 .nil))))))))))))))) (by kernel_rfl) (by kernel_rfl) (fun _ => grown_of_below (Below.refl _ _) _) (fun h h' => World.grownBy.trans h h') (fun wd hhp_ hbw_ => ?_)
          have hxd := blk_below HXE.out hbw_
          have hx0 : ∀ w_ : World, wd.grownBy w_ (some w.heap.size) → w_.cell? ⟨x, 0, none⟩ = some (.int .i64 k) := fun w_ h => blk_cell (blk_grown hxd h (by intro e; injection e with e; have := HLT.out; omega)) 0
          have hx1 : ∀ w_ : World, wd.grownBy w_ (some w.heap.size) → w_.cell? ⟨x, 1, none⟩ = some (.int .i64 s) := fun w_ h => blk_cell (blk_grown hxd h (by intro e; injection e with e; have := HLT.out; omega)) 1
          have hx2 : ∀ w_ : World, wd.grownBy w_ (some w.heap.size) → w_.cell? ⟨x, 2, none⟩ = some (.string key) := fun w_ h => blk_cell (blk_grown hxd h (by intro e; injection e with e; have := HLT.out; omega)) 2
          have hx3 : ∀ w_ : World, wd.grownBy w_ (some w.heap.size) → w_.cell? ⟨x, 3, none⟩ = some (.string v) := fun w_ h => blk_cell (blk_grown hxd h (by intro e; injection e with e; have := HLT.out; omega)) 3
          (refine t_read (o := { dst := some 29, op := Op.load 45 (Operand.tmp 5), type := 45, pos := "record.go:46", after := #[], guard := none }) rfl (by first | rfl | (simp [Region.wanted, yielded]; done)) (by intro w_ hE_; (try dsimp only at hE_); have q0 := hx0 w_ hE_; have q1 := hx1 w_ hE_; have q2 := hx2 w_ hE_; have q3 := hx3 w_ hE_; first | (go_simp; done) | (go_simp; rfl)) ?_)
          (try simp only [Act.put, List.setIfInBounds_toArray, List.set_cons_zero, List.set_cons_succ])
          (refine t_read (o := { dst := some 30, op := Op.move (Operand.tmp 4), type := 104, pos := "record.go:46", after := #[], guard := none }) rfl (by first | rfl | (simp [Region.wanted, yielded]; done)) (by intro w_ hE_; (try dsimp only at hE_); first | (go_simp; done) | (go_simp; rfl)) ?_)
          (try simp only [Act.put, List.setIfInBounds_toArray, List.set_cons_zero, List.set_cons_succ])
          refine t_ef ?_
          refine s_call (o := { dst := some 31, op := Op.call { callee := Callee.value (Operand.func 77), args := #[Operand.tmp 30], argTypes := #[104] }, type := 4, pos := "record.go:46", after := #[{ on := 1, ground := Ground.data }], guard := none }) rfl (by first | rfl | (simp [Region.wanted, yielded]; done)) (by first | (go_simp; done) | (go_simp; exact ⟨rfl, rfl⟩) | (go_simp; rfl)) ?_
          refine (HDN.out _ (rdr_below HRD.out hbw_)).mono ?_
          rintro e_ x1 ⟨rfl, rfl⟩
          refine ⟨_, rfl, grown_of_below (Below.refl _ _) _, ?_⟩
          (try simp only [Act.put, List.setIfInBounds_toArray, List.set_cons_zero, List.set_cons_succ])
          (refine t_read (o := { dst := some 32, op := Op.move (Operand.tmp 31), type := 4, pos := "record.go:46", after := #[{ on := 2, ground := Ground.data }, { on := 2, ground := Ground.chain }], guard := none }) rfl (by first | rfl | (simp [Region.wanted, yielded]; done)) (by intro w_ hE_; (try dsimp only at hE_); first | (go_simp; done) | (go_simp; rfl)) ?_)
          (try simp only [Act.put, List.setIfInBounds_toArray, List.set_cons_zero, List.set_cons_succ])
          first | (refine t_read (o := { dst := some 33, op := Op.move (Operand.tmp 7), type := 47, pos := "record.go:46", after := #[{ on := 3, ground := Ground.guard }], guard := some (3, true) }) rfl (by first | rfl | (simp [Region.wanted, yielded]; done)) (by intro w_ hE_; (try dsimp only at hE_); first | (go_simp; done) | (go_simp; rfl)) ?_) | (refine t_skip (o := { dst := some 33, op := Op.move (Operand.tmp 7), type := 47, pos := "record.go:46", after := #[{ on := 3, ground := Ground.guard }], guard := some (3, true) }) rfl (by first | rfl | (simp [Region.wanted, yielded]; done)) ?_)
          (try simp only [Act.put, List.setIfInBounds_toArray, List.set_cons_zero, List.set_cons_succ])
          first | (refine t_read (o := { dst := some 34, op := Op.binOp BinOp.eql 47 (Operand.tmp 33) (Operand.const (Value.int IntKind.i64 0)) 47, type := 4, pos := "record.go:46", after := #[{ on := 4, ground := Ground.data }, { on := 3, ground := Ground.guard }], guard := some (3, true) }) rfl (by first | rfl | (simp [Region.wanted, yielded]; done)) (by intro w_ hE_; (try dsimp only at hE_); first | (go_simp; done) | (go_simp; rfl)) ?_) | (refine t_skip (o := { dst := some 34, op := Op.binOp BinOp.eql 47 (Operand.tmp 33) (Operand.const (Value.int IntKind.i64 0)) 47, type := 4, pos := "record.go:46", after := #[{ on := 4, ground := Ground.data }, { on := 3, ground := Ground.guard }], guard := some (3, true) }) rfl (by first | rfl | (simp [Region.wanted, yielded]; done)) ?_)
          (try simp only [Act.put, List.setIfInBounds_toArray, List.set_cons_zero, List.set_cons_succ])
          (refine t_read (o := { dst := some 35, op := Op.pick (Operand.tmp 32) (Operand.tmp 34) (Operand.const (Value.bool false)), type := 4, pos := "record.go:46", after := #[{ on := 3, ground := Ground.data }, { on := 5, ground := Ground.data }], guard := none }) rfl (by first | rfl | (simp [Region.wanted, yielded]; done)) (by intro w_ hE_; (try dsimp only at hE_); first | (go_simp; done) | (go_simp; rfl)) ?_)
          (try simp only [Act.put, List.setIfInBounds_toArray, List.set_cons_zero, List.set_cons_succ])
          (refine t_read (o := { dst := some 36, op := Op.move (Operand.tmp 35), type := 4, pos := "record.go:46", after := #[{ on := 6, ground := Ground.data }, { on := 3, ground := Ground.chain }], guard := none }) rfl (by first | rfl | (simp [Region.wanted, yielded]; done)) (by intro w_ hE_; (try dsimp only at hE_); first | (go_simp; done) | (go_simp; rfl)) ?_)
          (try simp only [Act.put, List.setIfInBounds_toArray, List.set_cons_zero, List.set_cons_succ])
          first | (refine t_read (o := { dst := some 37, op := Op.move (Operand.tmp 6), type := 22, pos := "record.go:46", after := #[{ on := 7, ground := Ground.guard }], guard := some (7, true) }) rfl (by first | rfl | (simp [Region.wanted, yielded]; done)) (by intro w_ hE_; (try dsimp only at hE_); first | (go_simp; done) | (go_simp; rfl)) ?_) | (refine t_skip (o := { dst := some 37, op := Op.move (Operand.tmp 6), type := 22, pos := "record.go:46", after := #[{ on := 7, ground := Ground.guard }], guard := some (7, true) }) rfl (by first | rfl | (simp [Region.wanted, yielded]; done)) ?_)
          (try simp only [Act.put, List.setIfInBounds_toArray, List.set_cons_zero, List.set_cons_succ])
          first | (refine t_read (o := { dst := some 38, op := Op.move (Operand.tmp 0), type := 22, pos := "record.go:46", after := #[{ on := 7, ground := Ground.guard }], guard := some (7, true) }) rfl (by first | rfl | (simp [Region.wanted, yielded]; done)) (by intro w_ hE_; (try dsimp only at hE_); first | (go_simp; done) | (go_simp; rfl)) ?_) | (refine t_skip (o := { dst := some 38, op := Op.move (Operand.tmp 0), type := 22, pos := "record.go:46", after := #[{ on := 7, ground := Ground.guard }], guard := some (7, true) }) rfl (by first | rfl | (simp [Region.wanted, yielded]; done)) ?_)
          (try simp only [Act.put, List.setIfInBounds_toArray, List.set_cons_zero, List.set_cons_succ])
          refine t_ef ?_
          refine s_call (o := { dst := some 39, op := Op.call { callee := Callee.value (Operand.func 23), args := #[Operand.tmp 38], argTypes := #[22] }, type := 22, pos := "record.go:46", after := #[{ on := 9, ground := Ground.data }, { on := 7, ground := Ground.chain }, { on := 7, ground := Ground.guard }], guard := some (7, true) }) rfl (by first | rfl | (simp [Region.wanted, yielded]; done)) (by first | (go_simp; done) | (go_simp; exact ⟨rfl, rfl⟩) | (go_simp; rfl)) ?_
          refine (seal_calls A c b HY.out.1 wd (Kd.C_below HCE.out hbw_) (by omega)).mono ?_
          rintro e_ xs ⟨vs, rfl, hos, hbs⟩
          rw [HSB.out] at hos
          obtain ⟨As, cs, rfl⟩ := Kd.R_slice hos
          obtain ⟨_, _, hvs⟩ := Kd.R_reads' hos
          refine ⟨_, rfl, grown_of_below hbs _, ?_⟩
          have hbz := hbw_.trans (below_low hbw_.size hbs)
          have hce := Kd.C_below HCEN.out hbz
          (try simp only [Act.put, List.setIfInBounds_toArray, List.set_cons_zero, List.set_cons_succ])
          refine t_ef ?_
          refine s_call (o := { dst := some 40, op := Op.call { callee := Callee.value (Operand.func 78), args := #[Operand.tmp 37, Operand.tmp 39], argTypes := #[22, 22] }, type := 4, pos := "record.go:46", after := #[{ on := 8, ground := Ground.data }, { on := 10, ground := Ground.data }, { on := 10, ground := Ground.chain }, { on := 7, ground := Ground.guard }], guard := some (7, true) }) rfl (by first | rfl | (simp [Region.wanted, yielded]; done)) (by first | (go_simp; done) | (go_simp; exact ⟨rfl, rfl⟩) | (go_simp; rfl)) ?_
          have heq := equal_calls Ae ce _ As cs _ HBYE.out HBYS.out xs (by rw [HSL.out]; exact hce) hvs
          rw [HSL.out] at heq
          refine heq.mono ?_
          rintro e_ x2 ⟨rfl, rfl⟩
          refine ⟨_, rfl, grown_of_below (Below.refl _ _) _, ?_⟩
          obtain ⟨ya, yb, yc, ye, e1, e2, e3, e4, z1, z2, z3, z4, f1, f2, f3, f4, hzb, hzg⟩ := store4 (blk_below HRE.out hbz) (.int .i64 k) (.int .i64 s) (.string key) (.string v)
          (try simp only [Act.put, List.setIfInBounds_toArray, List.set_cons_zero, List.set_cons_succ])
          (refine t_read (o := { dst := some 41, op := Op.pick (Operand.tmp 36) (Operand.tmp 40) (Operand.const (Value.bool false)), type := 4, pos := "record.go:46", after := #[{ on := 7, ground := Ground.data }, { on := 11, ground := Ground.data }, { on := 13, ground := Ground.gcOnly Departure.lateStores }], guard := none }) rfl (by first | rfl | (simp [Region.wanted, yielded]; done)) (by intro w_ hE_; (try dsimp only at hE_); first | (go_simp; done) | (go_simp; rfl)) ?_)
          (try simp only [Act.put, List.setIfInBounds_toArray, List.set_cons_zero, List.set_cons_succ])
          refine t_ef ?_
          refine s_store (o := { dst := none, op := Op.store 45 (Operand.tmp 2) (Operand.tmp 29), type := 0, pos := "record.go:46", after := #[{ on := 0, ground := Ground.data }, { on := 11, ground := Ground.chain }, { on := 0, ground := Ground.phase }, { on := 1, ground := Ground.textOnly Departure.lateStores }, { on := 2, ground := Ground.textOnly Departure.lateStoresUnsure }, { on := 3, ground := Ground.textOnly Departure.lateStores }, { on := 4, ground := Ground.textOnly Departure.lateStores }, { on := 5, ground := Ground.textOnly Departure.lateStores }, { on := 6, ground := Ground.textOnly Departure.lateStores }, { on := 7, ground := Ground.textOnly Departure.lateStores }, { on := 8, ground := Ground.textOnly Departure.lateStores }, { on := 9, ground := Ground.textOnly Departure.lateStores }, { on := 10, ground := Ground.textOnly Departure.lateStoresUnsure }, { on := 11, ground := Ground.textOnly Departure.lateStoresUnsure }, { on := 12, ground := Ground.textOnly Departure.lateStores }], guard := none }) (w1 := ye) rfl (by first | rfl | (simp [Region.wanted, yielded]; done)) (by first | (go_simp; done) | (go_simp; rfl)) (hzg) ?_
          (try simp only [Act.put, List.setIfInBounds_toArray, List.set_cons_zero, List.set_cons_succ])
          (refine t_read (o := { dst := some 3, op := Op.assign (Operand.tmp 41), type := 4, pos := "record.go:46", after := #[{ on := 12, ground := Ground.data }, { on := 13, ground := Ground.chain }, { on := 0, ground := Ground.phase }, { on := 1, ground := Ground.phase }, { on := 2, ground := Ground.phase }, { on := 3, ground := Ground.phase }, { on := 4, ground := Ground.phase }, { on := 5, ground := Ground.phase }, { on := 6, ground := Ground.phase }, { on := 7, ground := Ground.phase }, { on := 8, ground := Ground.phase }, { on := 9, ground := Ground.phase }, { on := 10, ground := Ground.phase }, { on := 11, ground := Ground.phase }, { on := 12, ground := Ground.phase }, { on := 13, ground := Ground.phase }], guard := none }) rfl (by first | rfl | (simp [Region.wanted, yielded]; done)) (by intro w_ hE_; (try dsimp only at hE_); first | (go_simp; done) | (go_simp; rfl)) ?_)
          (try simp only [Act.put, List.setIfInBounds_toArray, List.set_cons_zero, List.set_cons_succ])
          refine t_nil ?_
          (try simp only [Exit.then])
          go_wp2
          (try simp only [Exit.inBlock, Exit.then])
          refine bodyPost_ret (results_ct rfl _ _ w.heap.size 45 #[.int .i64 k, .int .i64 s, .string key, .string v] (0, 0) _ rfl hzb Try.underlying45 rfl (by kernel_rfl)) rfl ?_
          exact ⟨by rw [HD.out]; rfl, pw_below_grown (below_step HBE.out hbz) (some w.heap.size) (below_step HBE.out hbz).size hzg (fun q hq => by injection hq with hq; omega)⟩
      | false =>
        as_aux_lemma =>
          refine wp_region_tree (fun w_ w1_ => w_.grownBy w1_ (some w.heap.size)) (.rd 0 (.rd 1 (.ef 2 (.rd 3 (.rd 4 (.rd 5 (.rd 6 (.rd 7 (.rd 8 (.rd 9 (.ef 10 (.ef 11 (.rd 12 (.ef 13 (.rd 14 .nil))))))))))))))) (by kernel_rfl) (by kernel_rfl) (fun _ => grown_of_below (Below.refl _ _) _) (fun h h' => World.grownBy.trans h h') (fun wd hhp_ hbw_ => ?_)
          have hxd := blk_below HXE.out hbw_
          have hx0 : ∀ w_ : World, wd.grownBy w_ (some w.heap.size) → w_.cell? ⟨x, 0, none⟩ = some (.int .i64 k) := fun w_ h => blk_cell (blk_grown hxd h (by intro e; injection e with e; have := HLT.out; omega)) 0
          have hx1 : ∀ w_ : World, wd.grownBy w_ (some w.heap.size) → w_.cell? ⟨x, 1, none⟩ = some (.int .i64 s) := fun w_ h => blk_cell (blk_grown hxd h (by intro e; injection e with e; have := HLT.out; omega)) 1
          have hx2 : ∀ w_ : World, wd.grownBy w_ (some w.heap.size) → w_.cell? ⟨x, 2, none⟩ = some (.string key) := fun w_ h => blk_cell (blk_grown hxd h (by intro e; injection e with e; have := HLT.out; omega)) 2
          have hx3 : ∀ w_ : World, wd.grownBy w_ (some w.heap.size) → w_.cell? ⟨x, 3, none⟩ = some (.string v) := fun w_ h => blk_cell (blk_grown hxd h (by intro e; injection e with e; have := HLT.out; omega)) 3
          (refine t_read (o := { dst := some 29, op := Op.load 45 (Operand.tmp 5), type := 45, pos := "record.go:46", after := #[], guard := none }) rfl (by first | rfl | (simp [Region.wanted, yielded]; done)) (by intro w_ hE_; (try dsimp only at hE_); have q0 := hx0 w_ hE_; have q1 := hx1 w_ hE_; have q2 := hx2 w_ hE_; have q3 := hx3 w_ hE_; first | (go_simp; done) | (go_simp; rfl)) ?_)
          (try simp only [Act.put, List.setIfInBounds_toArray, List.set_cons_zero, List.set_cons_succ])
          (refine t_read (o := { dst := some 30, op := Op.move (Operand.tmp 4), type := 104, pos := "record.go:46", after := #[], guard := none }) rfl (by first | rfl | (simp [Region.wanted, yielded]; done)) (by intro w_ hE_; (try dsimp only at hE_); first | (go_simp; done) | (go_simp; rfl)) ?_)
          (try simp only [Act.put, List.setIfInBounds_toArray, List.set_cons_zero, List.set_cons_succ])
          refine t_ef ?_
          refine s_call (o := { dst := some 31, op := Op.call { callee := Callee.value (Operand.func 77), args := #[Operand.tmp 30], argTypes := #[104] }, type := 4, pos := "record.go:46", after := #[{ on := 1, ground := Ground.data }], guard := none }) rfl (by first | rfl | (simp [Region.wanted, yielded]; done)) (by first | (go_simp; done) | (go_simp; exact ⟨rfl, rfl⟩) | (go_simp; rfl)) ?_
          refine (HDN.out _ (rdr_below HRD.out hbw_)).mono ?_
          rintro e_ x1 ⟨rfl, rfl⟩
          refine ⟨_, rfl, grown_of_below (Below.refl _ _) _, ?_⟩
          have hbz := hbw_
          obtain ⟨ya, yb, yc, ye, e1, e2, e3, e4, z1, z2, z3, z4, f1, f2, f3, f4, hzb, hzg⟩ := store4 (blk_below HRE.out hbw_) (.int .i64 k) (.int .i64 s) (.string key) (.string v)
          (try simp only [Act.put, List.setIfInBounds_toArray, List.set_cons_zero, List.set_cons_succ])
          (refine t_read (o := { dst := some 32, op := Op.move (Operand.tmp 31), type := 4, pos := "record.go:46", after := #[{ on := 2, ground := Ground.data }, { on := 2, ground := Ground.chain }], guard := none }) rfl (by first | rfl | (simp [Region.wanted, yielded]; done)) (by intro w_ hE_; (try dsimp only at hE_); first | (go_simp; done) | (go_simp; rfl)) ?_)
          (try simp only [Act.put, List.setIfInBounds_toArray, List.set_cons_zero, List.set_cons_succ])
          refine t_skip (o := { dst := some 33, op := Op.move (Operand.tmp 7), type := 47, pos := "record.go:46", after := #[{ on := 3, ground := Ground.guard }], guard := some (3, true) }) rfl (by first | rfl | (simp [Region.wanted, yielded]; done)) ?_
          (try simp only [Act.put, List.setIfInBounds_toArray, List.set_cons_zero, List.set_cons_succ])
          refine t_skip (o := { dst := some 34, op := Op.binOp BinOp.eql 47 (Operand.tmp 33) (Operand.const (Value.int IntKind.i64 0)) 47, type := 4, pos := "record.go:46", after := #[{ on := 4, ground := Ground.data }, { on := 3, ground := Ground.guard }], guard := some (3, true) }) rfl (by first | rfl | (simp [Region.wanted, yielded]; done)) ?_
          (try simp only [Act.put, List.setIfInBounds_toArray, List.set_cons_zero, List.set_cons_succ])
          (refine t_read (o := { dst := some 35, op := Op.pick (Operand.tmp 32) (Operand.tmp 34) (Operand.const (Value.bool false)), type := 4, pos := "record.go:46", after := #[{ on := 3, ground := Ground.data }, { on := 5, ground := Ground.data }], guard := none }) rfl (by first | rfl | (simp [Region.wanted, yielded]; done)) (by intro w_ hE_; (try dsimp only at hE_); first | (go_simp; done) | (go_simp; rfl)) ?_)
          (try simp only [Act.put, List.setIfInBounds_toArray, List.set_cons_zero, List.set_cons_succ])
          (refine t_read (o := { dst := some 36, op := Op.move (Operand.tmp 35), type := 4, pos := "record.go:46", after := #[{ on := 6, ground := Ground.data }, { on := 3, ground := Ground.chain }], guard := none }) rfl (by first | rfl | (simp [Region.wanted, yielded]; done)) (by intro w_ hE_; (try dsimp only at hE_); first | (go_simp; done) | (go_simp; rfl)) ?_)
          (try simp only [Act.put, List.setIfInBounds_toArray, List.set_cons_zero, List.set_cons_succ])
          refine t_skip (o := { dst := some 37, op := Op.move (Operand.tmp 6), type := 22, pos := "record.go:46", after := #[{ on := 7, ground := Ground.guard }], guard := some (7, true) }) rfl (by first | rfl | (simp [Region.wanted, yielded]; done)) ?_
          (try simp only [Act.put, List.setIfInBounds_toArray, List.set_cons_zero, List.set_cons_succ])
          refine t_skip (o := { dst := some 38, op := Op.move (Operand.tmp 0), type := 22, pos := "record.go:46", after := #[{ on := 7, ground := Ground.guard }], guard := some (7, true) }) rfl (by first | rfl | (simp [Region.wanted, yielded]; done)) ?_
          (try simp only [Act.put, List.setIfInBounds_toArray, List.set_cons_zero, List.set_cons_succ])
          refine t_ef ?_
          refine s_skip (o := { dst := some 39, op := Op.call { callee := Callee.value (Operand.func 23), args := #[Operand.tmp 38], argTypes := #[22] }, type := 22, pos := "record.go:46", after := #[{ on := 9, ground := Ground.data }, { on := 7, ground := Ground.chain }, { on := 7, ground := Ground.guard }], guard := some (7, true) }) rfl (by first | rfl | (simp [Region.wanted, yielded]; done)) ?_
          (try simp only [Act.put, List.setIfInBounds_toArray, List.set_cons_zero, List.set_cons_succ])
          refine t_ef ?_
          refine s_skip (o := { dst := some 40, op := Op.call { callee := Callee.value (Operand.func 78), args := #[Operand.tmp 37, Operand.tmp 39], argTypes := #[22, 22] }, type := 4, pos := "record.go:46", after := #[{ on := 8, ground := Ground.data }, { on := 10, ground := Ground.data }, { on := 10, ground := Ground.chain }, { on := 7, ground := Ground.guard }], guard := some (7, true) }) rfl (by first | rfl | (simp [Region.wanted, yielded]; done)) ?_
          (try simp only [Act.put, List.setIfInBounds_toArray, List.set_cons_zero, List.set_cons_succ])
          (refine t_read (o := { dst := some 41, op := Op.pick (Operand.tmp 36) (Operand.tmp 40) (Operand.const (Value.bool false)), type := 4, pos := "record.go:46", after := #[{ on := 7, ground := Ground.data }, { on := 11, ground := Ground.data }, { on := 13, ground := Ground.gcOnly Departure.lateStores }], guard := none }) rfl (by first | rfl | (simp [Region.wanted, yielded]; done)) (by intro w_ hE_; (try dsimp only at hE_); first | (go_simp; done) | (go_simp; rfl)) ?_)
          (try simp only [Act.put, List.setIfInBounds_toArray, List.set_cons_zero, List.set_cons_succ])
          refine t_ef ?_
          refine s_store (o := { dst := none, op := Op.store 45 (Operand.tmp 2) (Operand.tmp 29), type := 0, pos := "record.go:46", after := #[{ on := 0, ground := Ground.data }, { on := 11, ground := Ground.chain }, { on := 0, ground := Ground.phase }, { on := 1, ground := Ground.textOnly Departure.lateStores }, { on := 2, ground := Ground.textOnly Departure.lateStoresUnsure }, { on := 3, ground := Ground.textOnly Departure.lateStores }, { on := 4, ground := Ground.textOnly Departure.lateStores }, { on := 5, ground := Ground.textOnly Departure.lateStores }, { on := 6, ground := Ground.textOnly Departure.lateStores }, { on := 7, ground := Ground.textOnly Departure.lateStores }, { on := 8, ground := Ground.textOnly Departure.lateStores }, { on := 9, ground := Ground.textOnly Departure.lateStores }, { on := 10, ground := Ground.textOnly Departure.lateStoresUnsure }, { on := 11, ground := Ground.textOnly Departure.lateStoresUnsure }, { on := 12, ground := Ground.textOnly Departure.lateStores }], guard := none }) (w1 := ye) rfl (by first | rfl | (simp [Region.wanted, yielded]; done)) (by first | (go_simp; done) | (go_simp; rfl)) (hzg) ?_
          (try simp only [Act.put, List.setIfInBounds_toArray, List.set_cons_zero, List.set_cons_succ])
          (refine t_read (o := { dst := some 3, op := Op.assign (Operand.tmp 41), type := 4, pos := "record.go:46", after := #[{ on := 12, ground := Ground.data }, { on := 13, ground := Ground.chain }, { on := 0, ground := Ground.phase }, { on := 1, ground := Ground.phase }, { on := 2, ground := Ground.phase }, { on := 3, ground := Ground.phase }, { on := 4, ground := Ground.phase }, { on := 5, ground := Ground.phase }, { on := 6, ground := Ground.phase }, { on := 7, ground := Ground.phase }, { on := 8, ground := Ground.phase }, { on := 9, ground := Ground.phase }, { on := 10, ground := Ground.phase }, { on := 11, ground := Ground.phase }, { on := 12, ground := Ground.phase }, { on := 13, ground := Ground.phase }], guard := none }) rfl (by first | rfl | (simp [Region.wanted, yielded]; done)) (by intro w_ hE_; (try dsimp only at hE_); first | (go_simp; done) | (go_simp; rfl)) ?_)
          (try simp only [Act.put, List.setIfInBounds_toArray, List.set_cons_zero, List.set_cons_succ])
          refine t_nil ?_
          (try simp only [Exit.then])
          go_wp2
          (try simp only [Exit.inBlock, Exit.then])
          refine bodyPost_ret (results_ct rfl _ _ w.heap.size 45 #[.int .i64 k, .int .i64 s, .string key, .string v] (0, 0) _ rfl hzb Try.underlying45 rfl (by kernel_rfl)) rfl ?_
          exact ⟨by rw [HD.out]; rfl, pw_below_grown (below_step HBE.out hbz) (some w.heap.size) (below_step HBE.out hbz).size hzg (fun q hq => by injection hq with hq; omega)⟩
    · have hen := encode_bad k s key v hck wB
      refine hen.mono ?_
      rintro e_ wE ⟨rfl, hbE⟩
      rw [decide_eq_false hck] at HD
      generalize checkL k s key v = ec at *
      have be : (ec == 0) = false := beq_eq_false_iff_ne.2 hck
      have HXE := Aside0.mk (blk_below HXB.out hbE)
      have HRE := Aside0.mk (blk_below HRB.out hbE)
      have HBE := Aside0.mk (below_step HBZ.out hbE)
      have HRD := Aside0.mk (rdr_below HR4.out hbE)
      clear hen hbE hck x0 x1 x2 x3
      go_wp2_with fail
      cases dn with
      | true =>
        as_aux_lemma =>
          refine wp_region_tree (fun w_ w1_ => w_.grownBy w1_ (some w.heap.size)) (.rd 0 (.rd 1 (.ef 2 (.rd 3 (.rd 4 (.rd 5 (.rd 6 (.rd 7 (.rd 8 (.rd 9 (.ef 10 (.ef 11 (.rd 12 (.ef 13 (.rd 14 .nil))))))))))))))) (by kernel_rfl) (by kernel_rfl) (fun _ => grown_of_below (Below.refl _ _) _) (fun h h' => World.grownBy.trans h h') (fun wd hhp_ hbw_ => ?_)
          have hxd := blk_below HXE.out hbw_
          have hx0 : ∀ w_ : World, wd.grownBy w_ (some w.heap.size) → w_.cell? ⟨x, 0, none⟩ = some (.int .i64 k) := fun w_ h => blk_cell (blk_grown hxd h (by intro e; injection e with e; have := HLT.out; omega)) 0
          have hx1 : ∀ w_ : World, wd.grownBy w_ (some w.heap.size) → w_.cell? ⟨x, 1, none⟩ = some (.int .i64 s) := fun w_ h => blk_cell (blk_grown hxd h (by intro e; injection e with e; have := HLT.out; omega)) 1
          have hx2 : ∀ w_ : World, wd.grownBy w_ (some w.heap.size) → w_.cell? ⟨x, 2, none⟩ = some (.string key) := fun w_ h => blk_cell (blk_grown hxd h (by intro e; injection e with e; have := HLT.out; omega)) 2
          have hx3 : ∀ w_ : World, wd.grownBy w_ (some w.heap.size) → w_.cell? ⟨x, 3, none⟩ = some (.string v) := fun w_ h => blk_cell (blk_grown hxd h (by intro e; injection e with e; have := HLT.out; omega)) 3
          (refine t_read (o := { dst := some 29, op := Op.load 45 (Operand.tmp 5), type := 45, pos := "record.go:46", after := #[], guard := none }) rfl (by first | rfl | (simp [Region.wanted, yielded]; done)) (by intro w_ hE_; (try dsimp only at hE_); have q0 := hx0 w_ hE_; have q1 := hx1 w_ hE_; have q2 := hx2 w_ hE_; have q3 := hx3 w_ hE_; first | (go_simp; done) | (go_simp; rfl)) ?_)
          (try simp only [Act.put, List.setIfInBounds_toArray, List.set_cons_zero, List.set_cons_succ])
          (refine t_read (o := { dst := some 30, op := Op.move (Operand.tmp 4), type := 104, pos := "record.go:46", after := #[], guard := none }) rfl (by first | rfl | (simp [Region.wanted, yielded]; done)) (by intro w_ hE_; (try dsimp only at hE_); first | (go_simp; done) | (go_simp; rfl)) ?_)
          (try simp only [Act.put, List.setIfInBounds_toArray, List.set_cons_zero, List.set_cons_succ])
          refine t_ef ?_
          refine s_call (o := { dst := some 31, op := Op.call { callee := Callee.value (Operand.func 77), args := #[Operand.tmp 30], argTypes := #[104] }, type := 4, pos := "record.go:46", after := #[{ on := 1, ground := Ground.data }], guard := none }) rfl (by first | rfl | (simp [Region.wanted, yielded]; done)) (by first | (go_simp; done) | (go_simp; exact ⟨rfl, rfl⟩) | (go_simp; rfl)) ?_
          refine (HDN.out _ (rdr_below HRD.out hbw_)).mono ?_
          rintro e_ x1 ⟨rfl, rfl⟩
          refine ⟨_, rfl, grown_of_below (Below.refl _ _) _, ?_⟩
          have hbz := hbw_
          obtain ⟨ya, yb, yc, ye, e1, e2, e3, e4, z1, z2, z3, z4, f1, f2, f3, f4, hzb, hzg⟩ := store4 (blk_below HRE.out hbw_) (.int .i64 k) (.int .i64 s) (.string key) (.string v)
          (try simp only [Act.put, List.setIfInBounds_toArray, List.set_cons_zero, List.set_cons_succ])
          (refine t_read (o := { dst := some 32, op := Op.move (Operand.tmp 31), type := 4, pos := "record.go:46", after := #[{ on := 2, ground := Ground.data }, { on := 2, ground := Ground.chain }], guard := none }) rfl (by first | rfl | (simp [Region.wanted, yielded]; done)) (by intro w_ hE_; (try dsimp only at hE_); first | (go_simp; done) | (go_simp; rfl)) ?_)
          (try simp only [Act.put, List.setIfInBounds_toArray, List.set_cons_zero, List.set_cons_succ])
          first | (refine t_read (o := { dst := some 33, op := Op.move (Operand.tmp 7), type := 47, pos := "record.go:46", after := #[{ on := 3, ground := Ground.guard }], guard := some (3, true) }) rfl (by first | rfl | (simp [Region.wanted, yielded]; done)) (by intro w_ hE_; (try dsimp only at hE_); first | (go_simp; done) | (go_simp; rfl)) ?_) | (refine t_skip (o := { dst := some 33, op := Op.move (Operand.tmp 7), type := 47, pos := "record.go:46", after := #[{ on := 3, ground := Ground.guard }], guard := some (3, true) }) rfl (by first | rfl | (simp [Region.wanted, yielded]; done)) ?_)
          (try simp only [Act.put, List.setIfInBounds_toArray, List.set_cons_zero, List.set_cons_succ])
          first | (refine t_read (o := { dst := some 34, op := Op.binOp BinOp.eql 47 (Operand.tmp 33) (Operand.const (Value.int IntKind.i64 0)) 47, type := 4, pos := "record.go:46", after := #[{ on := 4, ground := Ground.data }, { on := 3, ground := Ground.guard }], guard := some (3, true) }) rfl (by first | rfl | (simp [Region.wanted, yielded]; done)) (by intro w_ hE_; (try dsimp only at hE_); first | (go_simp; done) | (go_simp; rfl)) ?_) | (refine t_skip (o := { dst := some 34, op := Op.binOp BinOp.eql 47 (Operand.tmp 33) (Operand.const (Value.int IntKind.i64 0)) 47, type := 4, pos := "record.go:46", after := #[{ on := 4, ground := Ground.data }, { on := 3, ground := Ground.guard }], guard := some (3, true) }) rfl (by first | rfl | (simp [Region.wanted, yielded]; done)) ?_)
          (try simp only [Act.put, List.setIfInBounds_toArray, List.set_cons_zero, List.set_cons_succ])
          (refine t_read (o := { dst := some 35, op := Op.pick (Operand.tmp 32) (Operand.tmp 34) (Operand.const (Value.bool false)), type := 4, pos := "record.go:46", after := #[{ on := 3, ground := Ground.data }, { on := 5, ground := Ground.data }], guard := none }) rfl (by first | rfl | (simp [Region.wanted, yielded]; done)) (by intro w_ hE_; (try dsimp only at hE_); first | (go_simp; done) | (go_simp; rfl)) ?_)
          (try simp only [Act.put, List.setIfInBounds_toArray, List.set_cons_zero, List.set_cons_succ])
          (refine t_read (o := { dst := some 36, op := Op.move (Operand.tmp 35), type := 4, pos := "record.go:46", after := #[{ on := 6, ground := Ground.data }, { on := 3, ground := Ground.chain }], guard := none }) rfl (by first | rfl | (simp [Region.wanted, yielded]; done)) (by intro w_ hE_; (try dsimp only at hE_); first | (go_simp; done) | (go_simp; rfl)) ?_)
          (try simp only [Act.put, List.setIfInBounds_toArray, List.set_cons_zero, List.set_cons_succ])
          refine t_skip (o := { dst := some 37, op := Op.move (Operand.tmp 6), type := 22, pos := "record.go:46", after := #[{ on := 7, ground := Ground.guard }], guard := some (7, true) }) rfl (by first | rfl | (simp [Region.wanted, yielded]; done)) ?_
          (try simp only [Act.put, List.setIfInBounds_toArray, List.set_cons_zero, List.set_cons_succ])
          refine t_skip (o := { dst := some 38, op := Op.move (Operand.tmp 0), type := 22, pos := "record.go:46", after := #[{ on := 7, ground := Ground.guard }], guard := some (7, true) }) rfl (by first | rfl | (simp [Region.wanted, yielded]; done)) ?_
          (try simp only [Act.put, List.setIfInBounds_toArray, List.set_cons_zero, List.set_cons_succ])
          refine t_ef ?_
          refine s_skip (o := { dst := some 39, op := Op.call { callee := Callee.value (Operand.func 23), args := #[Operand.tmp 38], argTypes := #[22] }, type := 22, pos := "record.go:46", after := #[{ on := 9, ground := Ground.data }, { on := 7, ground := Ground.chain }, { on := 7, ground := Ground.guard }], guard := some (7, true) }) rfl (by first | rfl | (simp [Region.wanted, yielded]; done)) ?_
          (try simp only [Act.put, List.setIfInBounds_toArray, List.set_cons_zero, List.set_cons_succ])
          refine t_ef ?_
          refine s_skip (o := { dst := some 40, op := Op.call { callee := Callee.value (Operand.func 78), args := #[Operand.tmp 37, Operand.tmp 39], argTypes := #[22, 22] }, type := 4, pos := "record.go:46", after := #[{ on := 8, ground := Ground.data }, { on := 10, ground := Ground.data }, { on := 10, ground := Ground.chain }, { on := 7, ground := Ground.guard }], guard := some (7, true) }) rfl (by first | rfl | (simp [Region.wanted, yielded]; done)) ?_
          (try simp only [Act.put, List.setIfInBounds_toArray, List.set_cons_zero, List.set_cons_succ])
          (refine t_read (o := { dst := some 41, op := Op.pick (Operand.tmp 36) (Operand.tmp 40) (Operand.const (Value.bool false)), type := 4, pos := "record.go:46", after := #[{ on := 7, ground := Ground.data }, { on := 11, ground := Ground.data }, { on := 13, ground := Ground.gcOnly Departure.lateStores }], guard := none }) rfl (by first | rfl | (simp [Region.wanted, yielded]; done)) (by intro w_ hE_; (try dsimp only at hE_); first | (go_simp; done) | (go_simp; rfl)) ?_)
          (try simp only [Act.put, List.setIfInBounds_toArray, List.set_cons_zero, List.set_cons_succ])
          refine t_ef ?_
          refine s_store (o := { dst := none, op := Op.store 45 (Operand.tmp 2) (Operand.tmp 29), type := 0, pos := "record.go:46", after := #[{ on := 0, ground := Ground.data }, { on := 11, ground := Ground.chain }, { on := 0, ground := Ground.phase }, { on := 1, ground := Ground.textOnly Departure.lateStores }, { on := 2, ground := Ground.textOnly Departure.lateStoresUnsure }, { on := 3, ground := Ground.textOnly Departure.lateStores }, { on := 4, ground := Ground.textOnly Departure.lateStores }, { on := 5, ground := Ground.textOnly Departure.lateStores }, { on := 6, ground := Ground.textOnly Departure.lateStores }, { on := 7, ground := Ground.textOnly Departure.lateStores }, { on := 8, ground := Ground.textOnly Departure.lateStores }, { on := 9, ground := Ground.textOnly Departure.lateStores }, { on := 10, ground := Ground.textOnly Departure.lateStoresUnsure }, { on := 11, ground := Ground.textOnly Departure.lateStoresUnsure }, { on := 12, ground := Ground.textOnly Departure.lateStores }], guard := none }) (w1 := ye) rfl (by first | rfl | (simp [Region.wanted, yielded]; done)) (by first | (go_simp; done) | (go_simp; rfl)) (hzg) ?_
          (try simp only [Act.put, List.setIfInBounds_toArray, List.set_cons_zero, List.set_cons_succ])
          (refine t_read (o := { dst := some 3, op := Op.assign (Operand.tmp 41), type := 4, pos := "record.go:46", after := #[{ on := 12, ground := Ground.data }, { on := 13, ground := Ground.chain }, { on := 0, ground := Ground.phase }, { on := 1, ground := Ground.phase }, { on := 2, ground := Ground.phase }, { on := 3, ground := Ground.phase }, { on := 4, ground := Ground.phase }, { on := 5, ground := Ground.phase }, { on := 6, ground := Ground.phase }, { on := 7, ground := Ground.phase }, { on := 8, ground := Ground.phase }, { on := 9, ground := Ground.phase }, { on := 10, ground := Ground.phase }, { on := 11, ground := Ground.phase }, { on := 12, ground := Ground.phase }, { on := 13, ground := Ground.phase }], guard := none }) rfl (by first | rfl | (simp [Region.wanted, yielded]; done)) (by intro w_ hE_; (try dsimp only at hE_); first | (go_simp; done) | (go_simp; rfl)) ?_)
          (try simp only [Act.put, List.setIfInBounds_toArray, List.set_cons_zero, List.set_cons_succ])
          refine t_nil ?_
          (try simp only [Exit.then])
          go_wp2
          (try simp only [Exit.inBlock, Exit.then])
          refine bodyPost_ret (results_ct rfl _ _ w.heap.size 45 #[.int .i64 k, .int .i64 s, .string key, .string v] (0, 0) _ rfl hzb Try.underlying45 rfl (by kernel_rfl)) rfl ?_
          exact ⟨by rw [HD.out]; rfl, pw_below_grown (below_step HBE.out hbz) (some w.heap.size) (below_step HBE.out hbz).size hzg (fun q hq => by injection hq with hq; omega)⟩
      | false =>
        as_aux_lemma =>
          refine wp_region_tree (fun w_ w1_ => w_.grownBy w1_ (some w.heap.size)) (.rd 0 (.rd 1 (.ef 2 (.rd 3 (.rd 4 (.rd 5 (.rd 6 (.rd 7 (.rd 8 (.rd 9 (.ef 10 (.ef 11 (.rd 12 (.ef 13 (.rd 14 .nil))))))))))))))) (by kernel_rfl) (by kernel_rfl) (fun _ => grown_of_below (Below.refl _ _) _) (fun h h' => World.grownBy.trans h h') (fun wd hhp_ hbw_ => ?_)
          have hxd := blk_below HXE.out hbw_
          have hx0 : ∀ w_ : World, wd.grownBy w_ (some w.heap.size) → w_.cell? ⟨x, 0, none⟩ = some (.int .i64 k) := fun w_ h => blk_cell (blk_grown hxd h (by intro e; injection e with e; have := HLT.out; omega)) 0
          have hx1 : ∀ w_ : World, wd.grownBy w_ (some w.heap.size) → w_.cell? ⟨x, 1, none⟩ = some (.int .i64 s) := fun w_ h => blk_cell (blk_grown hxd h (by intro e; injection e with e; have := HLT.out; omega)) 1
          have hx2 : ∀ w_ : World, wd.grownBy w_ (some w.heap.size) → w_.cell? ⟨x, 2, none⟩ = some (.string key) := fun w_ h => blk_cell (blk_grown hxd h (by intro e; injection e with e; have := HLT.out; omega)) 2
          have hx3 : ∀ w_ : World, wd.grownBy w_ (some w.heap.size) → w_.cell? ⟨x, 3, none⟩ = some (.string v) := fun w_ h => blk_cell (blk_grown hxd h (by intro e; injection e with e; have := HLT.out; omega)) 3
          (refine t_read (o := { dst := some 29, op := Op.load 45 (Operand.tmp 5), type := 45, pos := "record.go:46", after := #[], guard := none }) rfl (by first | rfl | (simp [Region.wanted, yielded]; done)) (by intro w_ hE_; (try dsimp only at hE_); have q0 := hx0 w_ hE_; have q1 := hx1 w_ hE_; have q2 := hx2 w_ hE_; have q3 := hx3 w_ hE_; first | (go_simp; done) | (go_simp; rfl)) ?_)
          (try simp only [Act.put, List.setIfInBounds_toArray, List.set_cons_zero, List.set_cons_succ])
          (refine t_read (o := { dst := some 30, op := Op.move (Operand.tmp 4), type := 104, pos := "record.go:46", after := #[], guard := none }) rfl (by first | rfl | (simp [Region.wanted, yielded]; done)) (by intro w_ hE_; (try dsimp only at hE_); first | (go_simp; done) | (go_simp; rfl)) ?_)
          (try simp only [Act.put, List.setIfInBounds_toArray, List.set_cons_zero, List.set_cons_succ])
          refine t_ef ?_
          refine s_call (o := { dst := some 31, op := Op.call { callee := Callee.value (Operand.func 77), args := #[Operand.tmp 30], argTypes := #[104] }, type := 4, pos := "record.go:46", after := #[{ on := 1, ground := Ground.data }], guard := none }) rfl (by first | rfl | (simp [Region.wanted, yielded]; done)) (by first | (go_simp; done) | (go_simp; exact ⟨rfl, rfl⟩) | (go_simp; rfl)) ?_
          refine (HDN.out _ (rdr_below HRD.out hbw_)).mono ?_
          rintro e_ x1 ⟨rfl, rfl⟩
          refine ⟨_, rfl, grown_of_below (Below.refl _ _) _, ?_⟩
          have hbz := hbw_
          obtain ⟨ya, yb, yc, ye, e1, e2, e3, e4, z1, z2, z3, z4, f1, f2, f3, f4, hzb, hzg⟩ := store4 (blk_below HRE.out hbw_) (.int .i64 k) (.int .i64 s) (.string key) (.string v)
          (try simp only [Act.put, List.setIfInBounds_toArray, List.set_cons_zero, List.set_cons_succ])
          (refine t_read (o := { dst := some 32, op := Op.move (Operand.tmp 31), type := 4, pos := "record.go:46", after := #[{ on := 2, ground := Ground.data }, { on := 2, ground := Ground.chain }], guard := none }) rfl (by first | rfl | (simp [Region.wanted, yielded]; done)) (by intro w_ hE_; (try dsimp only at hE_); first | (go_simp; done) | (go_simp; rfl)) ?_)
          (try simp only [Act.put, List.setIfInBounds_toArray, List.set_cons_zero, List.set_cons_succ])
          refine t_skip (o := { dst := some 33, op := Op.move (Operand.tmp 7), type := 47, pos := "record.go:46", after := #[{ on := 3, ground := Ground.guard }], guard := some (3, true) }) rfl (by first | rfl | (simp [Region.wanted, yielded]; done)) ?_
          (try simp only [Act.put, List.setIfInBounds_toArray, List.set_cons_zero, List.set_cons_succ])
          refine t_skip (o := { dst := some 34, op := Op.binOp BinOp.eql 47 (Operand.tmp 33) (Operand.const (Value.int IntKind.i64 0)) 47, type := 4, pos := "record.go:46", after := #[{ on := 4, ground := Ground.data }, { on := 3, ground := Ground.guard }], guard := some (3, true) }) rfl (by first | rfl | (simp [Region.wanted, yielded]; done)) ?_
          (try simp only [Act.put, List.setIfInBounds_toArray, List.set_cons_zero, List.set_cons_succ])
          (refine t_read (o := { dst := some 35, op := Op.pick (Operand.tmp 32) (Operand.tmp 34) (Operand.const (Value.bool false)), type := 4, pos := "record.go:46", after := #[{ on := 3, ground := Ground.data }, { on := 5, ground := Ground.data }], guard := none }) rfl (by first | rfl | (simp [Region.wanted, yielded]; done)) (by intro w_ hE_; (try dsimp only at hE_); first | (go_simp; done) | (go_simp; rfl)) ?_)
          (try simp only [Act.put, List.setIfInBounds_toArray, List.set_cons_zero, List.set_cons_succ])
          (refine t_read (o := { dst := some 36, op := Op.move (Operand.tmp 35), type := 4, pos := "record.go:46", after := #[{ on := 6, ground := Ground.data }, { on := 3, ground := Ground.chain }], guard := none }) rfl (by first | rfl | (simp [Region.wanted, yielded]; done)) (by intro w_ hE_; (try dsimp only at hE_); first | (go_simp; done) | (go_simp; rfl)) ?_)
          (try simp only [Act.put, List.setIfInBounds_toArray, List.set_cons_zero, List.set_cons_succ])
          refine t_skip (o := { dst := some 37, op := Op.move (Operand.tmp 6), type := 22, pos := "record.go:46", after := #[{ on := 7, ground := Ground.guard }], guard := some (7, true) }) rfl (by first | rfl | (simp [Region.wanted, yielded]; done)) ?_
          (try simp only [Act.put, List.setIfInBounds_toArray, List.set_cons_zero, List.set_cons_succ])
          refine t_skip (o := { dst := some 38, op := Op.move (Operand.tmp 0), type := 22, pos := "record.go:46", after := #[{ on := 7, ground := Ground.guard }], guard := some (7, true) }) rfl (by first | rfl | (simp [Region.wanted, yielded]; done)) ?_
          (try simp only [Act.put, List.setIfInBounds_toArray, List.set_cons_zero, List.set_cons_succ])
          refine t_ef ?_
          refine s_skip (o := { dst := some 39, op := Op.call { callee := Callee.value (Operand.func 23), args := #[Operand.tmp 38], argTypes := #[22] }, type := 22, pos := "record.go:46", after := #[{ on := 9, ground := Ground.data }, { on := 7, ground := Ground.chain }, { on := 7, ground := Ground.guard }], guard := some (7, true) }) rfl (by first | rfl | (simp [Region.wanted, yielded]; done)) ?_
          (try simp only [Act.put, List.setIfInBounds_toArray, List.set_cons_zero, List.set_cons_succ])
          refine t_ef ?_
          refine s_skip (o := { dst := some 40, op := Op.call { callee := Callee.value (Operand.func 78), args := #[Operand.tmp 37, Operand.tmp 39], argTypes := #[22, 22] }, type := 4, pos := "record.go:46", after := #[{ on := 8, ground := Ground.data }, { on := 10, ground := Ground.data }, { on := 10, ground := Ground.chain }, { on := 7, ground := Ground.guard }], guard := some (7, true) }) rfl (by first | rfl | (simp [Region.wanted, yielded]; done)) ?_
          (try simp only [Act.put, List.setIfInBounds_toArray, List.set_cons_zero, List.set_cons_succ])
          (refine t_read (o := { dst := some 41, op := Op.pick (Operand.tmp 36) (Operand.tmp 40) (Operand.const (Value.bool false)), type := 4, pos := "record.go:46", after := #[{ on := 7, ground := Ground.data }, { on := 11, ground := Ground.data }, { on := 13, ground := Ground.gcOnly Departure.lateStores }], guard := none }) rfl (by first | rfl | (simp [Region.wanted, yielded]; done)) (by intro w_ hE_; (try dsimp only at hE_); first | (go_simp; done) | (go_simp; rfl)) ?_)
          (try simp only [Act.put, List.setIfInBounds_toArray, List.set_cons_zero, List.set_cons_succ])
          refine t_ef ?_
          refine s_store (o := { dst := none, op := Op.store 45 (Operand.tmp 2) (Operand.tmp 29), type := 0, pos := "record.go:46", after := #[{ on := 0, ground := Ground.data }, { on := 11, ground := Ground.chain }, { on := 0, ground := Ground.phase }, { on := 1, ground := Ground.textOnly Departure.lateStores }, { on := 2, ground := Ground.textOnly Departure.lateStoresUnsure }, { on := 3, ground := Ground.textOnly Departure.lateStores }, { on := 4, ground := Ground.textOnly Departure.lateStores }, { on := 5, ground := Ground.textOnly Departure.lateStores }, { on := 6, ground := Ground.textOnly Departure.lateStores }, { on := 7, ground := Ground.textOnly Departure.lateStores }, { on := 8, ground := Ground.textOnly Departure.lateStores }, { on := 9, ground := Ground.textOnly Departure.lateStores }, { on := 10, ground := Ground.textOnly Departure.lateStoresUnsure }, { on := 11, ground := Ground.textOnly Departure.lateStoresUnsure }, { on := 12, ground := Ground.textOnly Departure.lateStores }], guard := none }) (w1 := ye) rfl (by first | rfl | (simp [Region.wanted, yielded]; done)) (by first | (go_simp; done) | (go_simp; rfl)) (hzg) ?_
          (try simp only [Act.put, List.setIfInBounds_toArray, List.set_cons_zero, List.set_cons_succ])
          (refine t_read (o := { dst := some 3, op := Op.assign (Operand.tmp 41), type := 4, pos := "record.go:46", after := #[{ on := 12, ground := Ground.data }, { on := 13, ground := Ground.chain }, { on := 0, ground := Ground.phase }, { on := 1, ground := Ground.phase }, { on := 2, ground := Ground.phase }, { on := 3, ground := Ground.phase }, { on := 4, ground := Ground.phase }, { on := 5, ground := Ground.phase }, { on := 6, ground := Ground.phase }, { on := 7, ground := Ground.phase }, { on := 8, ground := Ground.phase }, { on := 9, ground := Ground.phase }, { on := 10, ground := Ground.phase }, { on := 11, ground := Ground.phase }, { on := 12, ground := Ground.phase }, { on := 13, ground := Ground.phase }], guard := none }) rfl (by first | rfl | (simp [Region.wanted, yielded]; done)) (by intro w_ hE_; (try dsimp only at hE_); first | (go_simp; done) | (go_simp; rfl)) ?_)
          (try simp only [Act.put, List.setIfInBounds_toArray, List.set_cons_zero, List.set_cons_succ])
          refine t_nil ?_
          (try simp only [Exit.then])
          go_wp2
          (try simp only [Exit.inBlock, Exit.then])
          refine bodyPost_ret (results_ct rfl _ _ w.heap.size 45 #[.int .i64 k, .int .i64 s, .string key, .string v] (0, 0) _ rfl hzb Try.underlying45 rfl (by kernel_rfl)) rfl ?_
          exact ⟨by rw [HD.out]; rfl, pw_below_grown (below_step HBE.out hbz) (some w.heap.size) (below_step HBE.out hbz).size hzg (fun q hq => by injection hq with hq; omega)⟩
  · have bk : (k == 1) = false := beq_eq_false_iff_ne.2 hk1
    have HD := Aside0.mk (HD0.out hk1)
    obtain ⟨wB, hwB⟩ : ∃ z, wx = z := ⟨_, rfl⟩
    have hrR := hr4
    have hxB := hx4
    have hrB := hb4
    have hbB := hB4
    rw [hwB] at hrR hxB hrB hbB hwx hws fx
    clear hr4 hx4 hb4 hB4 hk1 HD0 HD1 hwB wx
    have HXB := Aside0.mk hxB
    have HRB := Aside0.mk hrB
    have HBZ := Aside0.mk hbB
    have HR4 := Aside0.mk hrR
    have x0 : wB.cell? ⟨x, 0, none⟩ = some (.int .i64 k) := blk_cell HXB.out 0
    have x1 : wB.cell? ⟨x, 1, none⟩ = some (.int .i64 s) := blk_cell HXB.out 1
    have x2 : wB.cell? ⟨x, 2, none⟩ = some (.string key) := blk_cell HXB.out 2
    have x3 : wB.cell? ⟨x, 3, none⟩ = some (.string ⟨#[]⟩) := blk_cell HXB.out 3
    obtain ⟨dn, hdn⟩ : ∃ d, (!b3 && decide (l3.length = 0)) = d := ⟨_, rfl⟩
    rw [hdn] at HD
    have HDN := Aside0.mk (fun w' h => done_calls (w := w') (p := p) (l := l3) (bad := b3) h)
    rw [hdn] at HDN
    clear hrR hxB hrB hbB hdn
    go_wp2_with fail
    by_cases hck : checkL k s key ⟨#[]⟩ = 0
    · rw [hck] at HD
      have HRV := Aside0.mk (And.intro (bys_sealL (bys_rec hck)) (bys_sealL HY.out.1))
      refine (encode_ok k s key ⟨#[]⟩ hck wB).mono ?_
      rintro e_ wE ⟨ve, rfl, hoE, hbE⟩
      obtain ⟨Ae, ce, rfl⟩ := Kd.R_slice hoE
      obtain ⟨hle, _, hce⟩ := Kd.R_reads' hoE
      have HCEN := Aside0.mk hce
      have HXE := Aside0.mk (blk_below HXB.out hbE)
      have HRE := Aside0.mk (blk_below HRB.out hbE)
      have HBE := Aside0.mk (below_step HBZ.out hbE)
      have HRD := Aside0.mk (rdr_below HR4.out hbE)
      have HCE := Aside0.mk (Kd.C_below HCR.out.1 (HBE.out))
      have HCK := Aside0.mk hck
      clear hbE hck x0 x1 x2 x3 hoE hce
      obtain ⟨se, hse⟩ : ∃ z, sealL (recB k s key ⟨#[]⟩) = z := ⟨_, rfl⟩
      rw [hse] at HD HCEN HRV
      rw [hse]
      clear hse
      obtain ⟨sb, hsb⟩ : ∃ z, sealL b = z := ⟨_, rfl⟩
      rw [hsb] at HD HRV
      have HSB := Aside0.mk hsb
      clear hsb
      have HBYE := Aside0.mk HRV.out.1
      have HBYS := Aside0.mk HRV.out.2
      clear hle
      obtain ⟨ne, hne⟩ : ∃ n, se.length = n := ⟨_, rfl⟩
      rw [hne] at HCEN ⊢
      have HSL := Aside0.mk hne
      clear hne
      go_wp2_with fail
      cases dn with
      | true =>
        as_aux_lemma =>
          refine wp_region_tree (fun w_ w1_ => w_.grownBy w1_ (some w.heap.size)) (.rd 0 (.rd 1 (.ef 2 (.rd 3 (.rd 4 (.rd 5 (.rd 6 (.rd 7 (.rd 8 (.rd 9 (.ef 10 (.ef 11 (.rd 12 (.ef 13 (.rd 14 .nil))))))))))))))) (by kernel_rfl) (by kernel_rfl) (fun _ => grown_of_below (Below.refl _ _) _) (fun h h' => World.grownBy.trans h h') (fun wd hhp_ hbw_ => ?_)
          have hxd := blk_below HXE.out hbw_
          have hx0 : ∀ w_ : World, wd.grownBy w_ (some w.heap.size) → w_.cell? ⟨x, 0, none⟩ = some (.int .i64 k) := fun w_ h => blk_cell (blk_grown hxd h (by intro e; injection e with e; have := HLT.out; omega)) 0
          have hx1 : ∀ w_ : World, wd.grownBy w_ (some w.heap.size) → w_.cell? ⟨x, 1, none⟩ = some (.int .i64 s) := fun w_ h => blk_cell (blk_grown hxd h (by intro e; injection e with e; have := HLT.out; omega)) 1
          have hx2 : ∀ w_ : World, wd.grownBy w_ (some w.heap.size) → w_.cell? ⟨x, 2, none⟩ = some (.string key) := fun w_ h => blk_cell (blk_grown hxd h (by intro e; injection e with e; have := HLT.out; omega)) 2
          have hx3 : ∀ w_ : World, wd.grownBy w_ (some w.heap.size) → w_.cell? ⟨x, 3, none⟩ = some (.string ⟨#[]⟩) := fun w_ h => blk_cell (blk_grown hxd h (by intro e; injection e with e; have := HLT.out; omega)) 3
          (refine t_read (o := { dst := some 29, op := Op.load 45 (Operand.tmp 5), type := 45, pos := "record.go:46", after := #[], guard := none }) rfl (by first | rfl | (simp [Region.wanted, yielded]; done)) (by intro w_ hE_; (try dsimp only at hE_); have q0 := hx0 w_ hE_; have q1 := hx1 w_ hE_; have q2 := hx2 w_ hE_; have q3 := hx3 w_ hE_; first | (go_simp; done) | (go_simp; rfl)) ?_)
          (try simp only [Act.put, List.setIfInBounds_toArray, List.set_cons_zero, List.set_cons_succ])
          (refine t_read (o := { dst := some 30, op := Op.move (Operand.tmp 4), type := 104, pos := "record.go:46", after := #[], guard := none }) rfl (by first | rfl | (simp [Region.wanted, yielded]; done)) (by intro w_ hE_; (try dsimp only at hE_); first | (go_simp; done) | (go_simp; rfl)) ?_)
          (try simp only [Act.put, List.setIfInBounds_toArray, List.set_cons_zero, List.set_cons_succ])
          refine t_ef ?_
          refine s_call (o := { dst := some 31, op := Op.call { callee := Callee.value (Operand.func 77), args := #[Operand.tmp 30], argTypes := #[104] }, type := 4, pos := "record.go:46", after := #[{ on := 1, ground := Ground.data }], guard := none }) rfl (by first | rfl | (simp [Region.wanted, yielded]; done)) (by first | (go_simp; done) | (go_simp; exact ⟨rfl, rfl⟩) | (go_simp; rfl)) ?_
          refine (HDN.out _ (rdr_below HRD.out hbw_)).mono ?_
          rintro e_ x1 ⟨rfl, rfl⟩
          refine ⟨_, rfl, grown_of_below (Below.refl _ _) _, ?_⟩
          (try simp only [Act.put, List.setIfInBounds_toArray, List.set_cons_zero, List.set_cons_succ])
          (refine t_read (o := { dst := some 32, op := Op.move (Operand.tmp 31), type := 4, pos := "record.go:46", after := #[{ on := 2, ground := Ground.data }, { on := 2, ground := Ground.chain }], guard := none }) rfl (by first | rfl | (simp [Region.wanted, yielded]; done)) (by intro w_ hE_; (try dsimp only at hE_); first | (go_simp; done) | (go_simp; rfl)) ?_)
          (try simp only [Act.put, List.setIfInBounds_toArray, List.set_cons_zero, List.set_cons_succ])
          first | (refine t_read (o := { dst := some 33, op := Op.move (Operand.tmp 7), type := 47, pos := "record.go:46", after := #[{ on := 3, ground := Ground.guard }], guard := some (3, true) }) rfl (by first | rfl | (simp [Region.wanted, yielded]; done)) (by intro w_ hE_; (try dsimp only at hE_); first | (go_simp; done) | (go_simp; rfl)) ?_) | (refine t_skip (o := { dst := some 33, op := Op.move (Operand.tmp 7), type := 47, pos := "record.go:46", after := #[{ on := 3, ground := Ground.guard }], guard := some (3, true) }) rfl (by first | rfl | (simp [Region.wanted, yielded]; done)) ?_)
          (try simp only [Act.put, List.setIfInBounds_toArray, List.set_cons_zero, List.set_cons_succ])
          first | (refine t_read (o := { dst := some 34, op := Op.binOp BinOp.eql 47 (Operand.tmp 33) (Operand.const (Value.int IntKind.i64 0)) 47, type := 4, pos := "record.go:46", after := #[{ on := 4, ground := Ground.data }, { on := 3, ground := Ground.guard }], guard := some (3, true) }) rfl (by first | rfl | (simp [Region.wanted, yielded]; done)) (by intro w_ hE_; (try dsimp only at hE_); first | (go_simp; done) | (go_simp; rfl)) ?_) | (refine t_skip (o := { dst := some 34, op := Op.binOp BinOp.eql 47 (Operand.tmp 33) (Operand.const (Value.int IntKind.i64 0)) 47, type := 4, pos := "record.go:46", after := #[{ on := 4, ground := Ground.data }, { on := 3, ground := Ground.guard }], guard := some (3, true) }) rfl (by first | rfl | (simp [Region.wanted, yielded]; done)) ?_)
          (try simp only [Act.put, List.setIfInBounds_toArray, List.set_cons_zero, List.set_cons_succ])
          (refine t_read (o := { dst := some 35, op := Op.pick (Operand.tmp 32) (Operand.tmp 34) (Operand.const (Value.bool false)), type := 4, pos := "record.go:46", after := #[{ on := 3, ground := Ground.data }, { on := 5, ground := Ground.data }], guard := none }) rfl (by first | rfl | (simp [Region.wanted, yielded]; done)) (by intro w_ hE_; (try dsimp only at hE_); first | (go_simp; done) | (go_simp; rfl)) ?_)
          (try simp only [Act.put, List.setIfInBounds_toArray, List.set_cons_zero, List.set_cons_succ])
          (refine t_read (o := { dst := some 36, op := Op.move (Operand.tmp 35), type := 4, pos := "record.go:46", after := #[{ on := 6, ground := Ground.data }, { on := 3, ground := Ground.chain }], guard := none }) rfl (by first | rfl | (simp [Region.wanted, yielded]; done)) (by intro w_ hE_; (try dsimp only at hE_); first | (go_simp; done) | (go_simp; rfl)) ?_)
          (try simp only [Act.put, List.setIfInBounds_toArray, List.set_cons_zero, List.set_cons_succ])
          first | (refine t_read (o := { dst := some 37, op := Op.move (Operand.tmp 6), type := 22, pos := "record.go:46", after := #[{ on := 7, ground := Ground.guard }], guard := some (7, true) }) rfl (by first | rfl | (simp [Region.wanted, yielded]; done)) (by intro w_ hE_; (try dsimp only at hE_); first | (go_simp; done) | (go_simp; rfl)) ?_) | (refine t_skip (o := { dst := some 37, op := Op.move (Operand.tmp 6), type := 22, pos := "record.go:46", after := #[{ on := 7, ground := Ground.guard }], guard := some (7, true) }) rfl (by first | rfl | (simp [Region.wanted, yielded]; done)) ?_)
          (try simp only [Act.put, List.setIfInBounds_toArray, List.set_cons_zero, List.set_cons_succ])
          first | (refine t_read (o := { dst := some 38, op := Op.move (Operand.tmp 0), type := 22, pos := "record.go:46", after := #[{ on := 7, ground := Ground.guard }], guard := some (7, true) }) rfl (by first | rfl | (simp [Region.wanted, yielded]; done)) (by intro w_ hE_; (try dsimp only at hE_); first | (go_simp; done) | (go_simp; rfl)) ?_) | (refine t_skip (o := { dst := some 38, op := Op.move (Operand.tmp 0), type := 22, pos := "record.go:46", after := #[{ on := 7, ground := Ground.guard }], guard := some (7, true) }) rfl (by first | rfl | (simp [Region.wanted, yielded]; done)) ?_)
          (try simp only [Act.put, List.setIfInBounds_toArray, List.set_cons_zero, List.set_cons_succ])
          refine t_ef ?_
          refine s_call (o := { dst := some 39, op := Op.call { callee := Callee.value (Operand.func 23), args := #[Operand.tmp 38], argTypes := #[22] }, type := 22, pos := "record.go:46", after := #[{ on := 9, ground := Ground.data }, { on := 7, ground := Ground.chain }, { on := 7, ground := Ground.guard }], guard := some (7, true) }) rfl (by first | rfl | (simp [Region.wanted, yielded]; done)) (by first | (go_simp; done) | (go_simp; exact ⟨rfl, rfl⟩) | (go_simp; rfl)) ?_
          refine (seal_calls A c b HY.out.1 wd (Kd.C_below HCE.out hbw_) (by omega)).mono ?_
          rintro e_ xs ⟨vs, rfl, hos, hbs⟩
          rw [HSB.out] at hos
          obtain ⟨As, cs, rfl⟩ := Kd.R_slice hos
          obtain ⟨_, _, hvs⟩ := Kd.R_reads' hos
          refine ⟨_, rfl, grown_of_below hbs _, ?_⟩
          have hbz := hbw_.trans (below_low hbw_.size hbs)
          have hce := Kd.C_below HCEN.out hbz
          (try simp only [Act.put, List.setIfInBounds_toArray, List.set_cons_zero, List.set_cons_succ])
          refine t_ef ?_
          refine s_call (o := { dst := some 40, op := Op.call { callee := Callee.value (Operand.func 78), args := #[Operand.tmp 37, Operand.tmp 39], argTypes := #[22, 22] }, type := 4, pos := "record.go:46", after := #[{ on := 8, ground := Ground.data }, { on := 10, ground := Ground.data }, { on := 10, ground := Ground.chain }, { on := 7, ground := Ground.guard }], guard := some (7, true) }) rfl (by first | rfl | (simp [Region.wanted, yielded]; done)) (by first | (go_simp; done) | (go_simp; exact ⟨rfl, rfl⟩) | (go_simp; rfl)) ?_
          have heq := equal_calls Ae ce _ As cs _ HBYE.out HBYS.out xs (by rw [HSL.out]; exact hce) hvs
          rw [HSL.out] at heq
          refine heq.mono ?_
          rintro e_ x2 ⟨rfl, rfl⟩
          refine ⟨_, rfl, grown_of_below (Below.refl _ _) _, ?_⟩
          obtain ⟨ya, yb, yc, ye, e1, e2, e3, e4, z1, z2, z3, z4, f1, f2, f3, f4, hzb, hzg⟩ := store4 (blk_below HRE.out hbz) (.int .i64 k) (.int .i64 s) (.string key) (.string ⟨#[]⟩)
          (try simp only [Act.put, List.setIfInBounds_toArray, List.set_cons_zero, List.set_cons_succ])
          (refine t_read (o := { dst := some 41, op := Op.pick (Operand.tmp 36) (Operand.tmp 40) (Operand.const (Value.bool false)), type := 4, pos := "record.go:46", after := #[{ on := 7, ground := Ground.data }, { on := 11, ground := Ground.data }, { on := 13, ground := Ground.gcOnly Departure.lateStores }], guard := none }) rfl (by first | rfl | (simp [Region.wanted, yielded]; done)) (by intro w_ hE_; (try dsimp only at hE_); first | (go_simp; done) | (go_simp; rfl)) ?_)
          (try simp only [Act.put, List.setIfInBounds_toArray, List.set_cons_zero, List.set_cons_succ])
          refine t_ef ?_
          refine s_store (o := { dst := none, op := Op.store 45 (Operand.tmp 2) (Operand.tmp 29), type := 0, pos := "record.go:46", after := #[{ on := 0, ground := Ground.data }, { on := 11, ground := Ground.chain }, { on := 0, ground := Ground.phase }, { on := 1, ground := Ground.textOnly Departure.lateStores }, { on := 2, ground := Ground.textOnly Departure.lateStoresUnsure }, { on := 3, ground := Ground.textOnly Departure.lateStores }, { on := 4, ground := Ground.textOnly Departure.lateStores }, { on := 5, ground := Ground.textOnly Departure.lateStores }, { on := 6, ground := Ground.textOnly Departure.lateStores }, { on := 7, ground := Ground.textOnly Departure.lateStores }, { on := 8, ground := Ground.textOnly Departure.lateStores }, { on := 9, ground := Ground.textOnly Departure.lateStores }, { on := 10, ground := Ground.textOnly Departure.lateStoresUnsure }, { on := 11, ground := Ground.textOnly Departure.lateStoresUnsure }, { on := 12, ground := Ground.textOnly Departure.lateStores }], guard := none }) (w1 := ye) rfl (by first | rfl | (simp [Region.wanted, yielded]; done)) (by first | (go_simp; done) | (go_simp; rfl)) (hzg) ?_
          (try simp only [Act.put, List.setIfInBounds_toArray, List.set_cons_zero, List.set_cons_succ])
          (refine t_read (o := { dst := some 3, op := Op.assign (Operand.tmp 41), type := 4, pos := "record.go:46", after := #[{ on := 12, ground := Ground.data }, { on := 13, ground := Ground.chain }, { on := 0, ground := Ground.phase }, { on := 1, ground := Ground.phase }, { on := 2, ground := Ground.phase }, { on := 3, ground := Ground.phase }, { on := 4, ground := Ground.phase }, { on := 5, ground := Ground.phase }, { on := 6, ground := Ground.phase }, { on := 7, ground := Ground.phase }, { on := 8, ground := Ground.phase }, { on := 9, ground := Ground.phase }, { on := 10, ground := Ground.phase }, { on := 11, ground := Ground.phase }, { on := 12, ground := Ground.phase }, { on := 13, ground := Ground.phase }], guard := none }) rfl (by first | rfl | (simp [Region.wanted, yielded]; done)) (by intro w_ hE_; (try dsimp only at hE_); first | (go_simp; done) | (go_simp; rfl)) ?_)
          (try simp only [Act.put, List.setIfInBounds_toArray, List.set_cons_zero, List.set_cons_succ])
          refine t_nil ?_
          (try simp only [Exit.then])
          go_wp2
          (try simp only [Exit.inBlock, Exit.then])
          refine bodyPost_ret (results_ct rfl _ _ w.heap.size 45 #[.int .i64 k, .int .i64 s, .string key, .string ⟨#[]⟩] (0, 0) _ rfl hzb Try.underlying45 rfl (by kernel_rfl)) rfl ?_
          exact ⟨by rw [HD.out]; rfl, pw_below_grown (below_step HBE.out hbz) (some w.heap.size) (below_step HBE.out hbz).size hzg (fun q hq => by injection hq with hq; omega)⟩
      | false =>
        as_aux_lemma =>
          refine wp_region_tree (fun w_ w1_ => w_.grownBy w1_ (some w.heap.size)) (.rd 0 (.rd 1 (.ef 2 (.rd 3 (.rd 4 (.rd 5 (.rd 6 (.rd 7 (.rd 8 (.rd 9 (.ef 10 (.ef 11 (.rd 12 (.ef 13 (.rd 14 .nil))))))))))))))) (by kernel_rfl) (by kernel_rfl) (fun _ => grown_of_below (Below.refl _ _) _) (fun h h' => World.grownBy.trans h h') (fun wd hhp_ hbw_ => ?_)
          have hxd := blk_below HXE.out hbw_
          have hx0 : ∀ w_ : World, wd.grownBy w_ (some w.heap.size) → w_.cell? ⟨x, 0, none⟩ = some (.int .i64 k) := fun w_ h => blk_cell (blk_grown hxd h (by intro e; injection e with e; have := HLT.out; omega)) 0
          have hx1 : ∀ w_ : World, wd.grownBy w_ (some w.heap.size) → w_.cell? ⟨x, 1, none⟩ = some (.int .i64 s) := fun w_ h => blk_cell (blk_grown hxd h (by intro e; injection e with e; have := HLT.out; omega)) 1
          have hx2 : ∀ w_ : World, wd.grownBy w_ (some w.heap.size) → w_.cell? ⟨x, 2, none⟩ = some (.string key) := fun w_ h => blk_cell (blk_grown hxd h (by intro e; injection e with e; have := HLT.out; omega)) 2
          have hx3 : ∀ w_ : World, wd.grownBy w_ (some w.heap.size) → w_.cell? ⟨x, 3, none⟩ = some (.string ⟨#[]⟩) := fun w_ h => blk_cell (blk_grown hxd h (by intro e; injection e with e; have := HLT.out; omega)) 3
          (refine t_read (o := { dst := some 29, op := Op.load 45 (Operand.tmp 5), type := 45, pos := "record.go:46", after := #[], guard := none }) rfl (by first | rfl | (simp [Region.wanted, yielded]; done)) (by intro w_ hE_; (try dsimp only at hE_); have q0 := hx0 w_ hE_; have q1 := hx1 w_ hE_; have q2 := hx2 w_ hE_; have q3 := hx3 w_ hE_; first | (go_simp; done) | (go_simp; rfl)) ?_)
          (try simp only [Act.put, List.setIfInBounds_toArray, List.set_cons_zero, List.set_cons_succ])
          (refine t_read (o := { dst := some 30, op := Op.move (Operand.tmp 4), type := 104, pos := "record.go:46", after := #[], guard := none }) rfl (by first | rfl | (simp [Region.wanted, yielded]; done)) (by intro w_ hE_; (try dsimp only at hE_); first | (go_simp; done) | (go_simp; rfl)) ?_)
          (try simp only [Act.put, List.setIfInBounds_toArray, List.set_cons_zero, List.set_cons_succ])
          refine t_ef ?_
          refine s_call (o := { dst := some 31, op := Op.call { callee := Callee.value (Operand.func 77), args := #[Operand.tmp 30], argTypes := #[104] }, type := 4, pos := "record.go:46", after := #[{ on := 1, ground := Ground.data }], guard := none }) rfl (by first | rfl | (simp [Region.wanted, yielded]; done)) (by first | (go_simp; done) | (go_simp; exact ⟨rfl, rfl⟩) | (go_simp; rfl)) ?_
          refine (HDN.out _ (rdr_below HRD.out hbw_)).mono ?_
          rintro e_ x1 ⟨rfl, rfl⟩
          refine ⟨_, rfl, grown_of_below (Below.refl _ _) _, ?_⟩
          have hbz := hbw_
          obtain ⟨ya, yb, yc, ye, e1, e2, e3, e4, z1, z2, z3, z4, f1, f2, f3, f4, hzb, hzg⟩ := store4 (blk_below HRE.out hbw_) (.int .i64 k) (.int .i64 s) (.string key) (.string ⟨#[]⟩)
          (try simp only [Act.put, List.setIfInBounds_toArray, List.set_cons_zero, List.set_cons_succ])
          (refine t_read (o := { dst := some 32, op := Op.move (Operand.tmp 31), type := 4, pos := "record.go:46", after := #[{ on := 2, ground := Ground.data }, { on := 2, ground := Ground.chain }], guard := none }) rfl (by first | rfl | (simp [Region.wanted, yielded]; done)) (by intro w_ hE_; (try dsimp only at hE_); first | (go_simp; done) | (go_simp; rfl)) ?_)
          (try simp only [Act.put, List.setIfInBounds_toArray, List.set_cons_zero, List.set_cons_succ])
          refine t_skip (o := { dst := some 33, op := Op.move (Operand.tmp 7), type := 47, pos := "record.go:46", after := #[{ on := 3, ground := Ground.guard }], guard := some (3, true) }) rfl (by first | rfl | (simp [Region.wanted, yielded]; done)) ?_
          (try simp only [Act.put, List.setIfInBounds_toArray, List.set_cons_zero, List.set_cons_succ])
          refine t_skip (o := { dst := some 34, op := Op.binOp BinOp.eql 47 (Operand.tmp 33) (Operand.const (Value.int IntKind.i64 0)) 47, type := 4, pos := "record.go:46", after := #[{ on := 4, ground := Ground.data }, { on := 3, ground := Ground.guard }], guard := some (3, true) }) rfl (by first | rfl | (simp [Region.wanted, yielded]; done)) ?_
          (try simp only [Act.put, List.setIfInBounds_toArray, List.set_cons_zero, List.set_cons_succ])
          (refine t_read (o := { dst := some 35, op := Op.pick (Operand.tmp 32) (Operand.tmp 34) (Operand.const (Value.bool false)), type := 4, pos := "record.go:46", after := #[{ on := 3, ground := Ground.data }, { on := 5, ground := Ground.data }], guard := none }) rfl (by first | rfl | (simp [Region.wanted, yielded]; done)) (by intro w_ hE_; (try dsimp only at hE_); first | (go_simp; done) | (go_simp; rfl)) ?_)
          (try simp only [Act.put, List.setIfInBounds_toArray, List.set_cons_zero, List.set_cons_succ])
          (refine t_read (o := { dst := some 36, op := Op.move (Operand.tmp 35), type := 4, pos := "record.go:46", after := #[{ on := 6, ground := Ground.data }, { on := 3, ground := Ground.chain }], guard := none }) rfl (by first | rfl | (simp [Region.wanted, yielded]; done)) (by intro w_ hE_; (try dsimp only at hE_); first | (go_simp; done) | (go_simp; rfl)) ?_)
          (try simp only [Act.put, List.setIfInBounds_toArray, List.set_cons_zero, List.set_cons_succ])
          refine t_skip (o := { dst := some 37, op := Op.move (Operand.tmp 6), type := 22, pos := "record.go:46", after := #[{ on := 7, ground := Ground.guard }], guard := some (7, true) }) rfl (by first | rfl | (simp [Region.wanted, yielded]; done)) ?_
          (try simp only [Act.put, List.setIfInBounds_toArray, List.set_cons_zero, List.set_cons_succ])
          refine t_skip (o := { dst := some 38, op := Op.move (Operand.tmp 0), type := 22, pos := "record.go:46", after := #[{ on := 7, ground := Ground.guard }], guard := some (7, true) }) rfl (by first | rfl | (simp [Region.wanted, yielded]; done)) ?_
          (try simp only [Act.put, List.setIfInBounds_toArray, List.set_cons_zero, List.set_cons_succ])
          refine t_ef ?_
          refine s_skip (o := { dst := some 39, op := Op.call { callee := Callee.value (Operand.func 23), args := #[Operand.tmp 38], argTypes := #[22] }, type := 22, pos := "record.go:46", after := #[{ on := 9, ground := Ground.data }, { on := 7, ground := Ground.chain }, { on := 7, ground := Ground.guard }], guard := some (7, true) }) rfl (by first | rfl | (simp [Region.wanted, yielded]; done)) ?_
          (try simp only [Act.put, List.setIfInBounds_toArray, List.set_cons_zero, List.set_cons_succ])
          refine t_ef ?_
          refine s_skip (o := { dst := some 40, op := Op.call { callee := Callee.value (Operand.func 78), args := #[Operand.tmp 37, Operand.tmp 39], argTypes := #[22, 22] }, type := 4, pos := "record.go:46", after := #[{ on := 8, ground := Ground.data }, { on := 10, ground := Ground.data }, { on := 10, ground := Ground.chain }, { on := 7, ground := Ground.guard }], guard := some (7, true) }) rfl (by first | rfl | (simp [Region.wanted, yielded]; done)) ?_
          (try simp only [Act.put, List.setIfInBounds_toArray, List.set_cons_zero, List.set_cons_succ])
          (refine t_read (o := { dst := some 41, op := Op.pick (Operand.tmp 36) (Operand.tmp 40) (Operand.const (Value.bool false)), type := 4, pos := "record.go:46", after := #[{ on := 7, ground := Ground.data }, { on := 11, ground := Ground.data }, { on := 13, ground := Ground.gcOnly Departure.lateStores }], guard := none }) rfl (by first | rfl | (simp [Region.wanted, yielded]; done)) (by intro w_ hE_; (try dsimp only at hE_); first | (go_simp; done) | (go_simp; rfl)) ?_)
          (try simp only [Act.put, List.setIfInBounds_toArray, List.set_cons_zero, List.set_cons_succ])
          refine t_ef ?_
          refine s_store (o := { dst := none, op := Op.store 45 (Operand.tmp 2) (Operand.tmp 29), type := 0, pos := "record.go:46", after := #[{ on := 0, ground := Ground.data }, { on := 11, ground := Ground.chain }, { on := 0, ground := Ground.phase }, { on := 1, ground := Ground.textOnly Departure.lateStores }, { on := 2, ground := Ground.textOnly Departure.lateStoresUnsure }, { on := 3, ground := Ground.textOnly Departure.lateStores }, { on := 4, ground := Ground.textOnly Departure.lateStores }, { on := 5, ground := Ground.textOnly Departure.lateStores }, { on := 6, ground := Ground.textOnly Departure.lateStores }, { on := 7, ground := Ground.textOnly Departure.lateStores }, { on := 8, ground := Ground.textOnly Departure.lateStores }, { on := 9, ground := Ground.textOnly Departure.lateStores }, { on := 10, ground := Ground.textOnly Departure.lateStoresUnsure }, { on := 11, ground := Ground.textOnly Departure.lateStoresUnsure }, { on := 12, ground := Ground.textOnly Departure.lateStores }], guard := none }) (w1 := ye) rfl (by first | rfl | (simp [Region.wanted, yielded]; done)) (by first | (go_simp; done) | (go_simp; rfl)) (hzg) ?_
          (try simp only [Act.put, List.setIfInBounds_toArray, List.set_cons_zero, List.set_cons_succ])
          (refine t_read (o := { dst := some 3, op := Op.assign (Operand.tmp 41), type := 4, pos := "record.go:46", after := #[{ on := 12, ground := Ground.data }, { on := 13, ground := Ground.chain }, { on := 0, ground := Ground.phase }, { on := 1, ground := Ground.phase }, { on := 2, ground := Ground.phase }, { on := 3, ground := Ground.phase }, { on := 4, ground := Ground.phase }, { on := 5, ground := Ground.phase }, { on := 6, ground := Ground.phase }, { on := 7, ground := Ground.phase }, { on := 8, ground := Ground.phase }, { on := 9, ground := Ground.phase }, { on := 10, ground := Ground.phase }, { on := 11, ground := Ground.phase }, { on := 12, ground := Ground.phase }, { on := 13, ground := Ground.phase }], guard := none }) rfl (by first | rfl | (simp [Region.wanted, yielded]; done)) (by intro w_ hE_; (try dsimp only at hE_); first | (go_simp; done) | (go_simp; rfl)) ?_)
          (try simp only [Act.put, List.setIfInBounds_toArray, List.set_cons_zero, List.set_cons_succ])
          refine t_nil ?_
          (try simp only [Exit.then])
          go_wp2
          (try simp only [Exit.inBlock, Exit.then])
          refine bodyPost_ret (results_ct rfl _ _ w.heap.size 45 #[.int .i64 k, .int .i64 s, .string key, .string ⟨#[]⟩] (0, 0) _ rfl hzb Try.underlying45 rfl (by kernel_rfl)) rfl ?_
          exact ⟨by rw [HD.out]; rfl, pw_below_grown (below_step HBE.out hbz) (some w.heap.size) (below_step HBE.out hbz).size hzg (fun q hq => by injection hq with hq; omega)⟩
    · have hen := encode_bad k s key ⟨#[]⟩ hck wB
      refine hen.mono ?_
      rintro e_ wE ⟨rfl, hbE⟩
      rw [decide_eq_false hck] at HD
      generalize checkL k s key ⟨#[]⟩ = ec at *
      have be : (ec == 0) = false := beq_eq_false_iff_ne.2 hck
      have HXE := Aside0.mk (blk_below HXB.out hbE)
      have HRE := Aside0.mk (blk_below HRB.out hbE)
      have HBE := Aside0.mk (below_step HBZ.out hbE)
      have HRD := Aside0.mk (rdr_below HR4.out hbE)
      clear hen hbE hck x0 x1 x2 x3
      go_wp2_with fail
      cases dn with
      | true =>
        as_aux_lemma =>
          refine wp_region_tree (fun w_ w1_ => w_.grownBy w1_ (some w.heap.size)) (.rd 0 (.rd 1 (.ef 2 (.rd 3 (.rd 4 (.rd 5 (.rd 6 (.rd 7 (.rd 8 (.rd 9 (.ef 10 (.ef 11 (.rd 12 (.ef 13 (.rd 14 .nil))))))))))))))) (by kernel_rfl) (by kernel_rfl) (fun _ => grown_of_below (Below.refl _ _) _) (fun h h' => World.grownBy.trans h h') (fun wd hhp_ hbw_ => ?_)
          have hxd := blk_below HXE.out hbw_
          have hx0 : ∀ w_ : World, wd.grownBy w_ (some w.heap.size) → w_.cell? ⟨x, 0, none⟩ = some (.int .i64 k) := fun w_ h => blk_cell (blk_grown hxd h (by intro e; injection e with e; have := HLT.out; omega)) 0
          have hx1 : ∀ w_ : World, wd.grownBy w_ (some w.heap.size) → w_.cell? ⟨x, 1, none⟩ = some (.int .i64 s) := fun w_ h => blk_cell (blk_grown hxd h (by intro e; injection e with e; have := HLT.out; omega)) 1
          have hx2 : ∀ w_ : World, wd.grownBy w_ (some w.heap.size) → w_.cell? ⟨x, 2, none⟩ = some (.string key) := fun w_ h => blk_cell (blk_grown hxd h (by intro e; injection e with e; have := HLT.out; omega)) 2
          have hx3 : ∀ w_ : World, wd.grownBy w_ (some w.heap.size) → w_.cell? ⟨x, 3, none⟩ = some (.string ⟨#[]⟩) := fun w_ h => blk_cell (blk_grown hxd h (by intro e; injection e with e; have := HLT.out; omega)) 3
          (refine t_read (o := { dst := some 29, op := Op.load 45 (Operand.tmp 5), type := 45, pos := "record.go:46", after := #[], guard := none }) rfl (by first | rfl | (simp [Region.wanted, yielded]; done)) (by intro w_ hE_; (try dsimp only at hE_); have q0 := hx0 w_ hE_; have q1 := hx1 w_ hE_; have q2 := hx2 w_ hE_; have q3 := hx3 w_ hE_; first | (go_simp; done) | (go_simp; rfl)) ?_)
          (try simp only [Act.put, List.setIfInBounds_toArray, List.set_cons_zero, List.set_cons_succ])
          (refine t_read (o := { dst := some 30, op := Op.move (Operand.tmp 4), type := 104, pos := "record.go:46", after := #[], guard := none }) rfl (by first | rfl | (simp [Region.wanted, yielded]; done)) (by intro w_ hE_; (try dsimp only at hE_); first | (go_simp; done) | (go_simp; rfl)) ?_)
          (try simp only [Act.put, List.setIfInBounds_toArray, List.set_cons_zero, List.set_cons_succ])
          refine t_ef ?_
          refine s_call (o := { dst := some 31, op := Op.call { callee := Callee.value (Operand.func 77), args := #[Operand.tmp 30], argTypes := #[104] }, type := 4, pos := "record.go:46", after := #[{ on := 1, ground := Ground.data }], guard := none }) rfl (by first | rfl | (simp [Region.wanted, yielded]; done)) (by first | (go_simp; done) | (go_simp; exact ⟨rfl, rfl⟩) | (go_simp; rfl)) ?_
          refine (HDN.out _ (rdr_below HRD.out hbw_)).mono ?_
          rintro e_ x1 ⟨rfl, rfl⟩
          refine ⟨_, rfl, grown_of_below (Below.refl _ _) _, ?_⟩
          have hbz := hbw_
          obtain ⟨ya, yb, yc, ye, e1, e2, e3, e4, z1, z2, z3, z4, f1, f2, f3, f4, hzb, hzg⟩ := store4 (blk_below HRE.out hbw_) (.int .i64 k) (.int .i64 s) (.string key) (.string ⟨#[]⟩)
          (try simp only [Act.put, List.setIfInBounds_toArray, List.set_cons_zero, List.set_cons_succ])
          (refine t_read (o := { dst := some 32, op := Op.move (Operand.tmp 31), type := 4, pos := "record.go:46", after := #[{ on := 2, ground := Ground.data }, { on := 2, ground := Ground.chain }], guard := none }) rfl (by first | rfl | (simp [Region.wanted, yielded]; done)) (by intro w_ hE_; (try dsimp only at hE_); first | (go_simp; done) | (go_simp; rfl)) ?_)
          (try simp only [Act.put, List.setIfInBounds_toArray, List.set_cons_zero, List.set_cons_succ])
          first | (refine t_read (o := { dst := some 33, op := Op.move (Operand.tmp 7), type := 47, pos := "record.go:46", after := #[{ on := 3, ground := Ground.guard }], guard := some (3, true) }) rfl (by first | rfl | (simp [Region.wanted, yielded]; done)) (by intro w_ hE_; (try dsimp only at hE_); first | (go_simp; done) | (go_simp; rfl)) ?_) | (refine t_skip (o := { dst := some 33, op := Op.move (Operand.tmp 7), type := 47, pos := "record.go:46", after := #[{ on := 3, ground := Ground.guard }], guard := some (3, true) }) rfl (by first | rfl | (simp [Region.wanted, yielded]; done)) ?_)
          (try simp only [Act.put, List.setIfInBounds_toArray, List.set_cons_zero, List.set_cons_succ])
          first | (refine t_read (o := { dst := some 34, op := Op.binOp BinOp.eql 47 (Operand.tmp 33) (Operand.const (Value.int IntKind.i64 0)) 47, type := 4, pos := "record.go:46", after := #[{ on := 4, ground := Ground.data }, { on := 3, ground := Ground.guard }], guard := some (3, true) }) rfl (by first | rfl | (simp [Region.wanted, yielded]; done)) (by intro w_ hE_; (try dsimp only at hE_); first | (go_simp; done) | (go_simp; rfl)) ?_) | (refine t_skip (o := { dst := some 34, op := Op.binOp BinOp.eql 47 (Operand.tmp 33) (Operand.const (Value.int IntKind.i64 0)) 47, type := 4, pos := "record.go:46", after := #[{ on := 4, ground := Ground.data }, { on := 3, ground := Ground.guard }], guard := some (3, true) }) rfl (by first | rfl | (simp [Region.wanted, yielded]; done)) ?_)
          (try simp only [Act.put, List.setIfInBounds_toArray, List.set_cons_zero, List.set_cons_succ])
          (refine t_read (o := { dst := some 35, op := Op.pick (Operand.tmp 32) (Operand.tmp 34) (Operand.const (Value.bool false)), type := 4, pos := "record.go:46", after := #[{ on := 3, ground := Ground.data }, { on := 5, ground := Ground.data }], guard := none }) rfl (by first | rfl | (simp [Region.wanted, yielded]; done)) (by intro w_ hE_; (try dsimp only at hE_); first | (go_simp; done) | (go_simp; rfl)) ?_)
          (try simp only [Act.put, List.setIfInBounds_toArray, List.set_cons_zero, List.set_cons_succ])
          (refine t_read (o := { dst := some 36, op := Op.move (Operand.tmp 35), type := 4, pos := "record.go:46", after := #[{ on := 6, ground := Ground.data }, { on := 3, ground := Ground.chain }], guard := none }) rfl (by first | rfl | (simp [Region.wanted, yielded]; done)) (by intro w_ hE_; (try dsimp only at hE_); first | (go_simp; done) | (go_simp; rfl)) ?_)
          (try simp only [Act.put, List.setIfInBounds_toArray, List.set_cons_zero, List.set_cons_succ])
          refine t_skip (o := { dst := some 37, op := Op.move (Operand.tmp 6), type := 22, pos := "record.go:46", after := #[{ on := 7, ground := Ground.guard }], guard := some (7, true) }) rfl (by first | rfl | (simp [Region.wanted, yielded]; done)) ?_
          (try simp only [Act.put, List.setIfInBounds_toArray, List.set_cons_zero, List.set_cons_succ])
          refine t_skip (o := { dst := some 38, op := Op.move (Operand.tmp 0), type := 22, pos := "record.go:46", after := #[{ on := 7, ground := Ground.guard }], guard := some (7, true) }) rfl (by first | rfl | (simp [Region.wanted, yielded]; done)) ?_
          (try simp only [Act.put, List.setIfInBounds_toArray, List.set_cons_zero, List.set_cons_succ])
          refine t_ef ?_
          refine s_skip (o := { dst := some 39, op := Op.call { callee := Callee.value (Operand.func 23), args := #[Operand.tmp 38], argTypes := #[22] }, type := 22, pos := "record.go:46", after := #[{ on := 9, ground := Ground.data }, { on := 7, ground := Ground.chain }, { on := 7, ground := Ground.guard }], guard := some (7, true) }) rfl (by first | rfl | (simp [Region.wanted, yielded]; done)) ?_
          (try simp only [Act.put, List.setIfInBounds_toArray, List.set_cons_zero, List.set_cons_succ])
          refine t_ef ?_
          refine s_skip (o := { dst := some 40, op := Op.call { callee := Callee.value (Operand.func 78), args := #[Operand.tmp 37, Operand.tmp 39], argTypes := #[22, 22] }, type := 4, pos := "record.go:46", after := #[{ on := 8, ground := Ground.data }, { on := 10, ground := Ground.data }, { on := 10, ground := Ground.chain }, { on := 7, ground := Ground.guard }], guard := some (7, true) }) rfl (by first | rfl | (simp [Region.wanted, yielded]; done)) ?_
          (try simp only [Act.put, List.setIfInBounds_toArray, List.set_cons_zero, List.set_cons_succ])
          (refine t_read (o := { dst := some 41, op := Op.pick (Operand.tmp 36) (Operand.tmp 40) (Operand.const (Value.bool false)), type := 4, pos := "record.go:46", after := #[{ on := 7, ground := Ground.data }, { on := 11, ground := Ground.data }, { on := 13, ground := Ground.gcOnly Departure.lateStores }], guard := none }) rfl (by first | rfl | (simp [Region.wanted, yielded]; done)) (by intro w_ hE_; (try dsimp only at hE_); first | (go_simp; done) | (go_simp; rfl)) ?_)
          (try simp only [Act.put, List.setIfInBounds_toArray, List.set_cons_zero, List.set_cons_succ])
          refine t_ef ?_
          refine s_store (o := { dst := none, op := Op.store 45 (Operand.tmp 2) (Operand.tmp 29), type := 0, pos := "record.go:46", after := #[{ on := 0, ground := Ground.data }, { on := 11, ground := Ground.chain }, { on := 0, ground := Ground.phase }, { on := 1, ground := Ground.textOnly Departure.lateStores }, { on := 2, ground := Ground.textOnly Departure.lateStoresUnsure }, { on := 3, ground := Ground.textOnly Departure.lateStores }, { on := 4, ground := Ground.textOnly Departure.lateStores }, { on := 5, ground := Ground.textOnly Departure.lateStores }, { on := 6, ground := Ground.textOnly Departure.lateStores }, { on := 7, ground := Ground.textOnly Departure.lateStores }, { on := 8, ground := Ground.textOnly Departure.lateStores }, { on := 9, ground := Ground.textOnly Departure.lateStores }, { on := 10, ground := Ground.textOnly Departure.lateStoresUnsure }, { on := 11, ground := Ground.textOnly Departure.lateStoresUnsure }, { on := 12, ground := Ground.textOnly Departure.lateStores }], guard := none }) (w1 := ye) rfl (by first | rfl | (simp [Region.wanted, yielded]; done)) (by first | (go_simp; done) | (go_simp; rfl)) (hzg) ?_
          (try simp only [Act.put, List.setIfInBounds_toArray, List.set_cons_zero, List.set_cons_succ])
          (refine t_read (o := { dst := some 3, op := Op.assign (Operand.tmp 41), type := 4, pos := "record.go:46", after := #[{ on := 12, ground := Ground.data }, { on := 13, ground := Ground.chain }, { on := 0, ground := Ground.phase }, { on := 1, ground := Ground.phase }, { on := 2, ground := Ground.phase }, { on := 3, ground := Ground.phase }, { on := 4, ground := Ground.phase }, { on := 5, ground := Ground.phase }, { on := 6, ground := Ground.phase }, { on := 7, ground := Ground.phase }, { on := 8, ground := Ground.phase }, { on := 9, ground := Ground.phase }, { on := 10, ground := Ground.phase }, { on := 11, ground := Ground.phase }, { on := 12, ground := Ground.phase }, { on := 13, ground := Ground.phase }], guard := none }) rfl (by first | rfl | (simp [Region.wanted, yielded]; done)) (by intro w_ hE_; (try dsimp only at hE_); first | (go_simp; done) | (go_simp; rfl)) ?_)
          (try simp only [Act.put, List.setIfInBounds_toArray, List.set_cons_zero, List.set_cons_succ])
          refine t_nil ?_
          (try simp only [Exit.then])
          go_wp2
          (try simp only [Exit.inBlock, Exit.then])
          refine bodyPost_ret (results_ct rfl _ _ w.heap.size 45 #[.int .i64 k, .int .i64 s, .string key, .string ⟨#[]⟩] (0, 0) _ rfl hzb Try.underlying45 rfl (by kernel_rfl)) rfl ?_
          exact ⟨by rw [HD.out]; rfl, pw_below_grown (below_step HBE.out hbz) (some w.heap.size) (below_step HBE.out hbz).size hzg (fun q hq => by injection hq with hq; omega)⟩
      | false =>
        as_aux_lemma =>
          refine wp_region_tree (fun w_ w1_ => w_.grownBy w1_ (some w.heap.size)) (.rd 0 (.rd 1 (.ef 2 (.rd 3 (.rd 4 (.rd 5 (.rd 6 (.rd 7 (.rd 8 (.rd 9 (.ef 10 (.ef 11 (.rd 12 (.ef 13 (.rd 14 .nil))))))))))))))) (by kernel_rfl) (by kernel_rfl) (fun _ => grown_of_below (Below.refl _ _) _) (fun h h' => World.grownBy.trans h h') (fun wd hhp_ hbw_ => ?_)
          have hxd := blk_below HXE.out hbw_
          have hx0 : ∀ w_ : World, wd.grownBy w_ (some w.heap.size) → w_.cell? ⟨x, 0, none⟩ = some (.int .i64 k) := fun w_ h => blk_cell (blk_grown hxd h (by intro e; injection e with e; have := HLT.out; omega)) 0
          have hx1 : ∀ w_ : World, wd.grownBy w_ (some w.heap.size) → w_.cell? ⟨x, 1, none⟩ = some (.int .i64 s) := fun w_ h => blk_cell (blk_grown hxd h (by intro e; injection e with e; have := HLT.out; omega)) 1
          have hx2 : ∀ w_ : World, wd.grownBy w_ (some w.heap.size) → w_.cell? ⟨x, 2, none⟩ = some (.string key) := fun w_ h => blk_cell (blk_grown hxd h (by intro e; injection e with e; have := HLT.out; omega)) 2
          have hx3 : ∀ w_ : World, wd.grownBy w_ (some w.heap.size) → w_.cell? ⟨x, 3, none⟩ = some (.string ⟨#[]⟩) := fun w_ h => blk_cell (blk_grown hxd h (by intro e; injection e with e; have := HLT.out; omega)) 3
          (refine t_read (o := { dst := some 29, op := Op.load 45 (Operand.tmp 5), type := 45, pos := "record.go:46", after := #[], guard := none }) rfl (by first | rfl | (simp [Region.wanted, yielded]; done)) (by intro w_ hE_; (try dsimp only at hE_); have q0 := hx0 w_ hE_; have q1 := hx1 w_ hE_; have q2 := hx2 w_ hE_; have q3 := hx3 w_ hE_; first | (go_simp; done) | (go_simp; rfl)) ?_)
          (try simp only [Act.put, List.setIfInBounds_toArray, List.set_cons_zero, List.set_cons_succ])
          (refine t_read (o := { dst := some 30, op := Op.move (Operand.tmp 4), type := 104, pos := "record.go:46", after := #[], guard := none }) rfl (by first | rfl | (simp [Region.wanted, yielded]; done)) (by intro w_ hE_; (try dsimp only at hE_); first | (go_simp; done) | (go_simp; rfl)) ?_)
          (try simp only [Act.put, List.setIfInBounds_toArray, List.set_cons_zero, List.set_cons_succ])
          refine t_ef ?_
          refine s_call (o := { dst := some 31, op := Op.call { callee := Callee.value (Operand.func 77), args := #[Operand.tmp 30], argTypes := #[104] }, type := 4, pos := "record.go:46", after := #[{ on := 1, ground := Ground.data }], guard := none }) rfl (by first | rfl | (simp [Region.wanted, yielded]; done)) (by first | (go_simp; done) | (go_simp; exact ⟨rfl, rfl⟩) | (go_simp; rfl)) ?_
          refine (HDN.out _ (rdr_below HRD.out hbw_)).mono ?_
          rintro e_ x1 ⟨rfl, rfl⟩
          refine ⟨_, rfl, grown_of_below (Below.refl _ _) _, ?_⟩
          have hbz := hbw_
          obtain ⟨ya, yb, yc, ye, e1, e2, e3, e4, z1, z2, z3, z4, f1, f2, f3, f4, hzb, hzg⟩ := store4 (blk_below HRE.out hbw_) (.int .i64 k) (.int .i64 s) (.string key) (.string ⟨#[]⟩)
          (try simp only [Act.put, List.setIfInBounds_toArray, List.set_cons_zero, List.set_cons_succ])
          (refine t_read (o := { dst := some 32, op := Op.move (Operand.tmp 31), type := 4, pos := "record.go:46", after := #[{ on := 2, ground := Ground.data }, { on := 2, ground := Ground.chain }], guard := none }) rfl (by first | rfl | (simp [Region.wanted, yielded]; done)) (by intro w_ hE_; (try dsimp only at hE_); first | (go_simp; done) | (go_simp; rfl)) ?_)
          (try simp only [Act.put, List.setIfInBounds_toArray, List.set_cons_zero, List.set_cons_succ])
          refine t_skip (o := { dst := some 33, op := Op.move (Operand.tmp 7), type := 47, pos := "record.go:46", after := #[{ on := 3, ground := Ground.guard }], guard := some (3, true) }) rfl (by first | rfl | (simp [Region.wanted, yielded]; done)) ?_
          (try simp only [Act.put, List.setIfInBounds_toArray, List.set_cons_zero, List.set_cons_succ])
          refine t_skip (o := { dst := some 34, op := Op.binOp BinOp.eql 47 (Operand.tmp 33) (Operand.const (Value.int IntKind.i64 0)) 47, type := 4, pos := "record.go:46", after := #[{ on := 4, ground := Ground.data }, { on := 3, ground := Ground.guard }], guard := some (3, true) }) rfl (by first | rfl | (simp [Region.wanted, yielded]; done)) ?_
          (try simp only [Act.put, List.setIfInBounds_toArray, List.set_cons_zero, List.set_cons_succ])
          (refine t_read (o := { dst := some 35, op := Op.pick (Operand.tmp 32) (Operand.tmp 34) (Operand.const (Value.bool false)), type := 4, pos := "record.go:46", after := #[{ on := 3, ground := Ground.data }, { on := 5, ground := Ground.data }], guard := none }) rfl (by first | rfl | (simp [Region.wanted, yielded]; done)) (by intro w_ hE_; (try dsimp only at hE_); first | (go_simp; done) | (go_simp; rfl)) ?_)
          (try simp only [Act.put, List.setIfInBounds_toArray, List.set_cons_zero, List.set_cons_succ])
          (refine t_read (o := { dst := some 36, op := Op.move (Operand.tmp 35), type := 4, pos := "record.go:46", after := #[{ on := 6, ground := Ground.data }, { on := 3, ground := Ground.chain }], guard := none }) rfl (by first | rfl | (simp [Region.wanted, yielded]; done)) (by intro w_ hE_; (try dsimp only at hE_); first | (go_simp; done) | (go_simp; rfl)) ?_)
          (try simp only [Act.put, List.setIfInBounds_toArray, List.set_cons_zero, List.set_cons_succ])
          refine t_skip (o := { dst := some 37, op := Op.move (Operand.tmp 6), type := 22, pos := "record.go:46", after := #[{ on := 7, ground := Ground.guard }], guard := some (7, true) }) rfl (by first | rfl | (simp [Region.wanted, yielded]; done)) ?_
          (try simp only [Act.put, List.setIfInBounds_toArray, List.set_cons_zero, List.set_cons_succ])
          refine t_skip (o := { dst := some 38, op := Op.move (Operand.tmp 0), type := 22, pos := "record.go:46", after := #[{ on := 7, ground := Ground.guard }], guard := some (7, true) }) rfl (by first | rfl | (simp [Region.wanted, yielded]; done)) ?_
          (try simp only [Act.put, List.setIfInBounds_toArray, List.set_cons_zero, List.set_cons_succ])
          refine t_ef ?_
          refine s_skip (o := { dst := some 39, op := Op.call { callee := Callee.value (Operand.func 23), args := #[Operand.tmp 38], argTypes := #[22] }, type := 22, pos := "record.go:46", after := #[{ on := 9, ground := Ground.data }, { on := 7, ground := Ground.chain }, { on := 7, ground := Ground.guard }], guard := some (7, true) }) rfl (by first | rfl | (simp [Region.wanted, yielded]; done)) ?_
          (try simp only [Act.put, List.setIfInBounds_toArray, List.set_cons_zero, List.set_cons_succ])
          refine t_ef ?_
          refine s_skip (o := { dst := some 40, op := Op.call { callee := Callee.value (Operand.func 78), args := #[Operand.tmp 37, Operand.tmp 39], argTypes := #[22, 22] }, type := 4, pos := "record.go:46", after := #[{ on := 8, ground := Ground.data }, { on := 10, ground := Ground.data }, { on := 10, ground := Ground.chain }, { on := 7, ground := Ground.guard }], guard := some (7, true) }) rfl (by first | rfl | (simp [Region.wanted, yielded]; done)) ?_
          (try simp only [Act.put, List.setIfInBounds_toArray, List.set_cons_zero, List.set_cons_succ])
          (refine t_read (o := { dst := some 41, op := Op.pick (Operand.tmp 36) (Operand.tmp 40) (Operand.const (Value.bool false)), type := 4, pos := "record.go:46", after := #[{ on := 7, ground := Ground.data }, { on := 11, ground := Ground.data }, { on := 13, ground := Ground.gcOnly Departure.lateStores }], guard := none }) rfl (by first | rfl | (simp [Region.wanted, yielded]; done)) (by intro w_ hE_; (try dsimp only at hE_); first | (go_simp; done) | (go_simp; rfl)) ?_)
          (try simp only [Act.put, List.setIfInBounds_toArray, List.set_cons_zero, List.set_cons_succ])
          refine t_ef ?_
          refine s_store (o := { dst := none, op := Op.store 45 (Operand.tmp 2) (Operand.tmp 29), type := 0, pos := "record.go:46", after := #[{ on := 0, ground := Ground.data }, { on := 11, ground := Ground.chain }, { on := 0, ground := Ground.phase }, { on := 1, ground := Ground.textOnly Departure.lateStores }, { on := 2, ground := Ground.textOnly Departure.lateStoresUnsure }, { on := 3, ground := Ground.textOnly Departure.lateStores }, { on := 4, ground := Ground.textOnly Departure.lateStores }, { on := 5, ground := Ground.textOnly Departure.lateStores }, { on := 6, ground := Ground.textOnly Departure.lateStores }, { on := 7, ground := Ground.textOnly Departure.lateStores }, { on := 8, ground := Ground.textOnly Departure.lateStores }, { on := 9, ground := Ground.textOnly Departure.lateStores }, { on := 10, ground := Ground.textOnly Departure.lateStoresUnsure }, { on := 11, ground := Ground.textOnly Departure.lateStoresUnsure }, { on := 12, ground := Ground.textOnly Departure.lateStores }], guard := none }) (w1 := ye) rfl (by first | rfl | (simp [Region.wanted, yielded]; done)) (by first | (go_simp; done) | (go_simp; rfl)) (hzg) ?_
          (try simp only [Act.put, List.setIfInBounds_toArray, List.set_cons_zero, List.set_cons_succ])
          (refine t_read (o := { dst := some 3, op := Op.assign (Operand.tmp 41), type := 4, pos := "record.go:46", after := #[{ on := 12, ground := Ground.data }, { on := 13, ground := Ground.chain }, { on := 0, ground := Ground.phase }, { on := 1, ground := Ground.phase }, { on := 2, ground := Ground.phase }, { on := 3, ground := Ground.phase }, { on := 4, ground := Ground.phase }, { on := 5, ground := Ground.phase }, { on := 6, ground := Ground.phase }, { on := 7, ground := Ground.phase }, { on := 8, ground := Ground.phase }, { on := 9, ground := Ground.phase }, { on := 10, ground := Ground.phase }, { on := 11, ground := Ground.phase }, { on := 12, ground := Ground.phase }, { on := 13, ground := Ground.phase }], guard := none }) rfl (by first | rfl | (simp [Region.wanted, yielded]; done)) (by intro w_ hE_; (try dsimp only at hE_); first | (go_simp; done) | (go_simp; rfl)) ?_)
          (try simp only [Act.put, List.setIfInBounds_toArray, List.set_cons_zero, List.set_cons_succ])
          refine t_nil ?_
          (try simp only [Exit.then])
          go_wp2
          (try simp only [Exit.inBlock, Exit.then])
          refine bodyPost_ret (results_ct rfl _ _ w.heap.size 45 #[.int .i64 k, .int .i64 s, .string key, .string ⟨#[]⟩] (0, 0) _ rfl hzb Try.underlying45 rfl (by kernel_rfl)) rfl ?_
          exact ⟨by rw [HD.out]; rfl, pw_below_grown (below_step HBE.out hbz) (some w.heap.size) (below_step HBE.out hbz).size hzg (fun q hq => by injection hq with hq; omega)⟩
end Go.Proofs.Ytfojeegepfjbiaa.RdD
