/- NumbersMany: numbers and texts one behind the other are read one behind the other: it answers true. No condition. -/
import Derived.Test.YtpgbapbmikneiaaProg
import Derived.Below
import Derived.Deep.Draws
import Derived.Deep.AppendLies
import Derived.Maps.AppendAt
import Derived.OwnWalk
import Derived.Laws.BytesArg
import Derived.Laws.MakeOwn
import Derived.Laws.OwnMore
import Derived.Deep.OwnRows
import Derived.Tactics
import Derived.Lib.ConvBytes
import Derived.Laws.Slices
import Derived.WalkKit
import Derived.KernelRfl
import Derived.RowKit3
import Derived.Deep.LoopGhost
import Derived.Deep.QuietTactic
import Derived.BigQuiet
import Derived.WideLaws
import Derived.Deep.DeepCutAuto
import Derived.Deep.CutBlock
import Derived.Deep.RegionHeld3
import Derived.Laws.Rows
import Derived.Lib.AppendStr
import Derived.ArgAppend
import Derived.Laws.IdiomCopy
import Derived.OrdersHeld
import Derived.Laws.BitsLemmas
import Derived.RowKit
import Derived.WalkSpells
import Derived.Outline
import Derived.Test.YtpgbapbmikneiaaWWords
import Derived.Test.YtpgbapbmikneiaaWLast
import Derived.Test.YtpgbapbmikneiaaWMore
import Derived.Test.YtpgbapbmikneiaaWArr
import Derived.Test.YtpgbapbmikneiaaWTab
import Derived.Test.YtpgbapbmikneiaaWZeros
import Derived.Test.YtpgbapbmikneiaaWRepsOne
import Derived.Test.YtpgbapbmikneiaaNmG
import Derived.Test.YtpgbapbmikneiaaMix
namespace Go.Proofs.Ytpgbapbmikneiaa.NyWalk
open Go.RowKit Go.Proofs.YtpgbapbmikneiaaW.PrintWords Go.Proofs.YtpgbapbmikneiaaW.PrintLast Go.Proofs.YtpgbapbmikneiaaW.PrintMore Go.Proofs.Ytpgbapbmikneiaa.Nm Go.Proofs.Ytpgbapbmikneiaa.NmA Go.Proofs.Ytpgbapbmikneiaa.NmB Go.Proofs.Ytpgbapbmikneiaa.NmC Go.Proofs.Ytpgbapbmikneiaa.NmE Go.Proofs.Ytpgbapbmikneiaa.NmD Go.Proofs.Ytpgbapbmikneiaa.NmF Go.Proofs.Ytpgbapbmikneiaa.NbWalk Go.Proofs.Ytpgbapbmikneiaa.NtWalk Go.Proofs.Ytpgbapbmikneiaa.NmG Go.Proofs.Ytpgbapbmikneiaa.Mix
set_option linter.unusedSimpArgs false
set_option linter.unusedVariables false
attribute [local go_sem] max2_int min2_int max_two min_two

/-- The i-th number's bytes, and the i-th text's, if there is one. -/
def numOf (l : List Int) (i : Nat) : Nat := (IntKind.u64.wrap (rd l (i : Int))).toNat
def txtOf (s : List ByteArray) (i : Nat) : ByteArray := cutB (s.getD i ByteArray.empty) 30
def txtL (t : ByteArray) : List Int := enc t.size ++ bytesOf t
def item (l : List Int) (s : List ByteArray) (i : Nat) : List Int := enc (numOf l i) ++ (if i < s.length then txtL (txtOf s i) else [])
def flat (f : Nat → List Int) (i : Nat) : Nat → List Int
  | 0 => []
  | d + 1 => f i ++ flat f (i + 1) d
theorem flat_snoc (f : Nat → List Int) (d : Nat) : ∀ i, flat f i (d + 1) = flat f i d ++ f (i + d) := by
  induction d with
  | zero => intro i; simp [flat]
  | succ d ih => intro i; rw [flat, ih (i + 1), flat, List.append_assoc, Nat.add_assoc, Nat.add_comm 1 d]
theorem numOf_lt (l : List Int) (i : Nat) : numOf l i < 18446744073709551616 := by unfold numOf; rw [u64_wrap]; omega
theorem numOf_eq (l : List Int) (i : Nat) : IntKind.u64.wrap (rd l (i : Int)) = (numOf l i : Int) := by unfold numOf; rw [u64_wrap]; omega
theorem cut30 (s : ByteArray) : (cutB s 30).size ≤ 30 := by
  unfold cutB
  split
  · simp [ByteArray.size_extract]; omega
  · omega
theorem txtL_len (t : ByteArray) (h : t.size ≤ 30) : (txtL t).length ≤ 40 := by
  have := enc_len 9 t.size (by omega)
  unfold txtL; rw [List.length_append, bytesOf_length]; omega
theorem item_len (l : List Int) (s : List ByteArray) (i : Nat) : (item l s i).length ≤ 50 := by
  have h1 := enc_len 9 (numOf l i) (Nat.lt_of_lt_of_le (numOf_lt l i) (by decide))
  have h2 := txtL_len (txtOf s i) (cut30 _)
  unfold item
  split <;> simp <;> omega
theorem bys_txtL (t : ByteArray) (h : t.size ≤ 30) : Bys (txtL t) := bys_append (bys_enc (by omega)) (bys_bytesOf t)
theorem bys_item (l : List Int) (s : List ByteArray) (i : Nat) : Bys (item l s i) := by
  unfold item
  refine bys_append (bys_enc (numOf_lt l i)) ?_
  split
  · exact bys_txtL _ (cut30 _)
  · exact bys_of rfl
theorem flat_len (f : Nat → List Int) (h : ∀ i, (f i).length ≤ 50) (d : Nat) : ∀ i, (flat f i d).length ≤ 50 * d := by
  induction d with
  | zero => intro i; simp [flat]
  | succ d ih => intro i; have := ih (i + 1); have := h i; simp [flat]; omega
theorem bys_flat (f : Nat → List Int) (h : ∀ i, Bys (f i)) (d : Nat) : ∀ i, Bys (flat f i d) := by
  induction d with
  | zero => intro i; exact bys_of rfl
  | succ d ih => intro i; exact bys_append (h i) (ih (i + 1))

theorem cell_atS {w wq : World} {ad : Addr} {l : List ByteArray} {n : Nat} (h : Kd.string.C w (some ad) n l) (hb : Below w.heap.size w wq) (q : Nat) (hq : q < n) :
    wq.cell? (ad.add q) = some (.string (l.getD q ByteArray.empty)) := by
  obtain ⟨ad', e, hx⟩ := Kd.at_string h (q : Int) (by omega) (by omega)
  simp only [Int.toNat_natCast] at hx
  obtain rfl : ad = ad' := by injection e
  exact (hb.cell (World.block_lt_of_cell? w _ hx)).trans hx
theorem getD_mem {s : List ByteArray} {i : Nat} (h : i < s.length) : s.getD i ByteArray.empty ∈ s := by
  rw [List.getD_eq_getElem?_getD, List.getElem?_eq_getElem h]; exact List.getElem_mem _
set_option maxRecDepth 100000 in
set_option maxHeartbeats 1000000 in
theorem walk (A : Option Addr) (c : Nat) (l : List Int) (A2 : Option Addr) (c2 : Nat) (s : List ByteArray) (w : World) (hr : (Kd.int .i64).C w A l.length l) (_hc : l.length ≤ c) (hm : l.length * 8 ≤ 140737488351232) (_hw : ∀ x ∈ l, (Lit.int .i64 x).wf = true)
    (hr2 : Kd.string.C w A2 s.length s) (_hc2 : s.length ≤ c2) (hm2 : s.length ≤ maxLen) (hw2 : ∀ x ∈ s, x.size ≤ maxLen) :
    Calls Try.prog 11 #[.slice A l.length c, .slice A2 s.length c2] w fun e w' => e = .returned (.bool true) ∧ Below w.heap.size w w' := by
  unfold maxLen at hm2 hw2
  have HR := Aside0.mk hr
  have HR2 := Aside0.mk hr2
  have HW2 := Aside0.mk hw2
  have hlen : l.length ≤ 140737488351232 := by omega
  obtain ⟨m, hm⟩ : ∃ m, m = min l.length 20 := ⟨_, rfl⟩
  have HM : Aside0 (m ≤ l.length ∧ m ≤ 20 ∧ (m = l.length ∨ m = 20)) := ⟨by omega⟩
  have HF := Aside0.mk (flat_len (item l s) (item_len l s))
  have HBY := Aside0.mk (bys_flat (item l s) (bys_item l s))
  clear hr hr2 hw2 hm
  go_enter Try.func11, Try.ntmps11
  go_wp2_with fail
  refine (begun_calls w).mono ?_
  rintro e_ w1 ⟨rfl, hb⟩
  have HB1 := Aside0.mk hb
  clear hb
  go_wp2_with fail
  go_loopg [6, 7] 20 (fun g v6 v7 w' => ∃ (i : Nat), v7 = .int .i64 (i : Int) ∧ Aside0 (i + g = 20 ∧ i ≤ m) ∧ Aside0 (Kd.R (Kd.int .u8) 5 w' w.heap.size (fun _ => True) v6 (flat (item l s) 0 i)) ∧ Aside0 (Below w.heap.size w w'))
  case atStart => exact ⟨0, rfl, ⟨by omega, by omega⟩, ⟨Kd.R_nil _ _ _ _ _⟩, HB1⟩
  case round =>
    clear HB1
    obtain ⟨i, rfl, HI, HO, HB⟩ := hrel
    by_cases hlt : i < m
    · have hm1 := HM.out
      have b1 : decide ((i : Int) < (l.length : Int)) = true := decide_eq_true (by omega)
      have b2 : decide ((i : Int) < 20) = true := decide_eq_true (by omega)
      obtain ⟨ad, e_, _⟩ := Kd.at_int HR.out (i : Int) (by omega) (by omega)
      subst e_
      have hx := cell_at HR.out HB.out i (by omega)
      have hn := numOf_eq l i
      have hln := (enc_len 9 (numOf l i) (Nat.lt_of_lt_of_le (numOf_lt l i) (by decide)))
      have HL : Aside0 ((flat (item l s) 0 i).length ≤ 1000 ∧ (enc (numOf l i)).length ≤ 10) := ⟨by have := HF.out i 0; omega, hln⟩
      have HIT : Aside0 (flat (item l s) 0 (i + 1) = flat (item l s) 0 i ++ item l s i) := ⟨by rw [flat_snoc, Nat.zero_add]⟩
      generalize hrx : rd l (i : Int) = x at hx hn
      have hil : i < l.length := by omega
      have hi20 : i < 20 := by omega
      clear hm1 hln hrx
      go_wp2_with fail
      refine (put_calls (numOf l i) (numOf_lt l i) wr).mono ?_
      rintro e_ w2 ⟨v1, rfl, ho, hb⟩
      obtain ⟨A1, c1, rfl⟩ := Kd.R_slice ho
      have HO1 := Aside0.mk (Kd.R_reads' ho).2.2
      have HO0 := Aside0.mk (Kd.R_below HO.out hb)
      have HB2 := Aside0.mk (below_step HB.out hb)
      clear ho hb HB HO hx hn
      by_cases his : i < s.length
      · obtain ⟨ad2, e_, _⟩ := Kd.at_string HR2.out (i : Int) (by omega) (by omega)
        subst e_
        have HE : Aside0 (item l s i = enc (numOf l i) ++ txtL (txtOf s i)) := ⟨by unfold item; rw [if_pos his]⟩
        have hcs := cell_atS HR2.out (Below.refl _ _) i his
        have hcu := fun w => cut_calls (s.getD i ByteArray.empty) 30 (HW2.out _ (getD_mem his)) w
        have htl := txtL_len (txtOf s i) (cut30 _)
        have htx := fun w => text_calls (txtOf s i) (by have := cut30 (s.getD i ByteArray.empty); unfold txtOf; omega) w
        have hte : cutB (s.getD i ByteArray.empty) 30 = txtOf s i := rfl
        rw [hte] at hcu
        generalize s.getD i ByteArray.empty = t0 at hcs hcu
        have hbk := fun (wq : World) (hb : Below w.heap.size w wq) => (hb.cell (World.block_lt_of_cell? w _ hcs)).trans hcs
        have HE2 : Aside0 (item l s i = enc (numOf l i) ++ txtL (txtOf s i)) := HE
        have hte2 : enc (txtOf s i).size ++ bytesOf (txtOf s i) = txtL (txtOf s i) := rfl
        rw [hte2] at htx
        generalize txtOf s i = t1 at hcu htl htx HE2
        generalize txtL t1 = t2 at htl htx HE2
        have HCU := Aside0.mk hcu
        have HTX := Aside0.mk htx
        have HTL := Aside0.mk htl
        have HBK := Aside0.mk hbk
        clear hcs hcu htl htx hte hte2 hbk HE
        go_wp2_with ((with_reducible refine gate_builtin (b := .append) (xs := #[.tmp 26, .tmp 32]) rfl ?_); at_builtin; go_must (refine Kd.R_append_row (Value.int .u8) (0) (h1 := fun _ => rfl) (w0 := w) (w.heap.size) rfl (.tmp 26) (.tmp 32) 24 5 (.int .u8 0) 1 rfl Try.underlying24 info5 rfl (by decide) u6 (flat (item l s) 0 i) (enc (numOf l i)) A1 (_) c1 (fun _ => True) rfl rfl (fun _ _ => trivial) (HO0.out) (HO1.out) (HB2.out) (Below.size (HB2.out)) (by have := HL.out; omega) ?_; intro v102 w4 ho hb hg hat; have HO3 := Aside0.mk ho; have HB3 := Aside0.mk hb; have hx2 := HBK.out _ hb; clear ho hb hg hat))
        refine (HCU.out w4).mono ?_
        rintro e_ w5 ⟨rfl, rfl⟩
        clear hx2
        go_wp2_with fail
        refine (HTX.out w4).mono ?_
        rintro e_ w5 ⟨v2, rfl, ho, hb⟩
        obtain ⟨A3, c3, rfl⟩ := Kd.R_slice ho
        have HO4 := Aside0.mk (Kd.R_reads' ho).2.2
        have HO5 := Aside0.mk (Kd.R_below HO3.out hb)
        have HB5 := Aside0.mk (below_step HB3.out hb)
        clear ho hb HO3 HB3 HO1 HO0 HB2
        go_wp2_with ((with_reducible refine gate_builtin (b := .append) (xs := #[.tmp 38, .tmp 44]) rfl ?_); at_builtin; go_must (refine Kd.R_append_row (Value.int .u8) (0) (h1 := fun _ => rfl) (w0 := w) (w.heap.size) rfl (.tmp 38) (.tmp 44) 24 5 (.int .u8 0) 1 rfl Try.underlying24 info5 rfl (by decide) v102 (flat (item l s) 0 i ++ enc (numOf l i)) t2 A3 (_) c3 (fun _ => True) rfl rfl (fun _ _ => trivial) (HO5.out) (HO4.out) (HB5.out) (Below.size (HB5.out)) (by have := HL.out; have := HTL.out; simp only [List.length_append]; omega) ?_; intro v103 w6 ho hb hg hat; have HO6 := Aside0.mk ho; have HB6 := Aside0.mk hb; clear ho hb hg hat))
        go_roundg (20 - (i + 1))
        case measure => have := HI.out; omega
        case rel => exact ⟨i + 1, rfl, ⟨by have := HI.out; omega, by omega⟩, ⟨by rw [HIT.out, HE2.out, ← List.append_assoc]; exact HO6.out⟩, HB6⟩
      · have HE : Aside0 (item l s i = enc (numOf l i)) := ⟨by unfold item; rw [if_neg his, List.append_nil]⟩
        have bs : decide (i < s.length) = false := decide_eq_false his
        go_wp2_with ((with_reducible refine gate_builtin (b := .append) (xs := #[.tmp 26, .tmp 32]) rfl ?_); at_builtin; go_must (refine Kd.R_append_row (Value.int .u8) (0) (h1 := fun _ => rfl) (w0 := w) (w.heap.size) rfl (.tmp 26) (.tmp 32) 24 5 (.int .u8 0) 1 rfl Try.underlying24 info5 rfl (by decide) u6 (flat (item l s) 0 i) (enc (numOf l i)) A1 (_) c1 (fun _ => True) rfl rfl (fun _ _ => trivial) (HO0.out) (HO1.out) (HB2.out) (Below.size (HB2.out)) (by have := HL.out; omega) ?_; intro v102 w4 ho hb hg hat; have HO3 := Aside0.mk ho; have HB3 := Aside0.mk hb; clear ho hb hg hat))
        go_roundg (20 - (i + 1))
        case measure => have := HI.out; omega
        case rel => exact ⟨i + 1, rfl, ⟨by have := HI.out; omega, by omega⟩, ⟨by rw [HIT.out, HE.out]; exact HO3.out⟩, HB3⟩
    · have him : i = m := by have := HI.out; omega
      have HOm : Aside0 (Kd.R (Kd.int .u8) 5 wr w.heap.size (fun _ => True) u6 (flat (item l s) 0 m)) := ⟨by rw [← him]; exact HO.out⟩
      have hcase : i = l.length ∨ (i < l.length ∧ i = 20) := by have := HM.out; omega
      obtain ⟨Ab, cb, e_⟩ := Kd.R_slice HOm.out
      subst e_
      have HC := Aside0.mk (Kd.R_reads' HOm.out)
      clear HO HOm him hlt
      generalize hfl : flat (item l s) 0 m = rest at HC
      have HFL := Aside0.mk hfl
      clear hfl
      have hloop : Aside0 True := ⟨trivial⟩
      rcases hcase with hca | ⟨hca, hcb⟩
      · have b1 : decide ((i : Int) < (l.length : Int)) = false := decide_eq_false (by omega)
        have b1' : ¬ i < l.length := by omega
        go_wp2_with fail
        go_loopg [6, 8] 20 (fun g v6 v8 w' => ∃ (j : Nat) (Aj : Option Addr) (cj : Nat) (rj : List Int), v6 = .slice Aj rj.length cj ∧ v8 = .int .i64 (j : Int) ∧ Aside0 (j + g = 20 ∧ j ≤ m ∧ flat (item l s) j (m - j) = rj) ∧ Aside0 (rj.length ≤ cj ∧ (Kd.int .u8).C w' Aj rj.length rj) ∧ Aside0 (Below w.heap.size w w'))
        case atStart => exact ⟨0, Ab, cb, rest, rfl, rfl, ⟨by omega, by omega, HFL.out⟩, ⟨HC.out.2.1, HC.out.2.2⟩, HB⟩
        case round =>
          clear HB HC HFL HI
          obtain ⟨j, Aj, cj, rj, rfl, rfl, HJ, HCJ, HBJ⟩ := hrel
          by_cases hjm : j < m
          · have hjl : j < l.length := by have := HM.out; omega
            have hj20 : j < 20 := by have := HM.out; omega
            obtain ⟨ad, e_, _⟩ := Kd.at_int HR.out (j : Int) (by omega) (by omega)
            subst e_
            have hxw := fun (wq : World) (hb : Below w.heap.size w wq) => cell_at HR.out hb j hjl
            have hn := numOf_eq l j
            have hfl : rj = item l s j ++ flat (item l s) (j + 1) (m - (j + 1)) := by rw [← HJ.out.2.2, show m - j = (m - (j + 1)) + 1 by omega]; rfl
            have hlr : rj.length ≤ 1000 := by have h1 := HF.out (m - j) j; have h2 := HM.out; rw [HJ.out.2.2] at h1; omega
            have hby : Bys rj := by have := HBY.out (m - j) j; rw [HJ.out.2.2] at this; exact this
            have hfl2 : rj = enc (numOf l j) ++ ((if j < s.length then txtL (txtOf s j) else []) ++ flat (item l s) (j + 1) (m - (j + 1))) := by rw [hfl]; unfold item; rw [List.append_assoc]
            have hg : getS rj = ((numOf l j : Int), ((enc (numOf l j)).length : Int)) := by rw [hfl2]; exact getS_enc (numOf_lt l j) _
            have hcg := get_calls Aj cj rj hby wr HCJ.out.2 HCJ.out.1
            rw [hg] at hcg
            have hrest : rj.drop (enc (numOf l j)).length = (if j < s.length then txtL (txtOf s j) else []) ++ flat (item l s) (j + 1) (m - (j + 1)) := by rw [hfl2, List.drop_left']; rfl
            have hkp := enc_pos (numOf l j)
            have hkl : (enc (numOf l j)).length ≤ rj.length := by rw [hfl2]; simp
            generalize (enc (numOf l j)).length = k at hcg hrest hkp hkl
            generalize rd l (j : Int) = x at hxw hn
            obtain ⟨i05, hi05, _, hsz5, _⟩ := info_parts info5
            obtain ⟨Ak, hcut, hA, hCk⟩ := print_drop_of (P := Try.prog) (Value.int .u8) 0 24 5 .i64 Try.underlying24 hi05 hsz5 Aj cj rj (k : Int) (by omega) (by omega) HCJ.out.1
            simp only [Int.toNat_natCast] at hcut hA hCk
            have hlk : (rj.drop k).length ≤ 1000 := by rw [List.length_drop]; omega
            have hbk := bys_drop hby k
            have HRK := Aside0.mk (Kd.C_of_reads (h1 := fun _ => rfl) (hA _ (Kd.reads_of_C HCJ.out.2)))
            generalize rj.drop k = rk at *
            have HBK := Aside0.mk hbk
            have HG := Aside0.mk hcg
            have HREST := Aside0.mk hrest
            have HXW := Aside0.mk hxw
            have bk : ((k : Int) == 0) = false := beq_eq_false_iff_ne.2 (by omega)
            clear hA hi05 hsz5 hcg hrest hg hfl hfl2 hby hbk hxw
            go_wp2_with fail
            refine HG.out.mono ?_
            rintro e_ w3 ⟨rfl, hb⟩
            have HB3 := Aside0.mk (below_step HBJ.out hb)
            have HRK3 := Aside0.mk (Kd.C_below HRK.out hb)
            have hx := HXW.out _ HB3.out
            clear hb HG HRK
            by_cases hjs : j < s.length
            · obtain ⟨ad2, e_, _⟩ := Kd.at_string HR2.out (j : Int) (by omega) (by omega)
              subst e_
              have hr2 := HREST.out
              rw [if_pos hjs] at hr2
              have hcs := fun (wq : World) (hb : Below w.heap.size w wq) => cell_atS HR2.out hb j hjs
              have hcu := fun w => cut_calls (s.getD j ByteArray.empty) 30 (HW2.out _ (getD_mem hjs)) w
              have hte : cutB (s.getD j ByteArray.empty) 30 = txtOf s j := rfl
              have hsz : (txtOf s j).size ≤ 30 := cut30 _
              rw [hte] at hcu
              generalize s.getD j ByteArray.empty = t0 at hcs hcu
              have htv := textV_text (s := txtOf s j) (by omega) (flat (item l s) (j + 1) (m - (j + 1)))
              have hte2 : enc (txtOf s j).size ++ bytesOf (txtOf s j) = txtL (txtOf s j) := rfl
              have htp : 0 < (txtL (txtOf s j)).length := by have := enc_pos (txtOf s j).size; rw [← hte2, List.length_append]; omega
              rw [hte2, ← hr2] at htv
              generalize txtOf s j = t1 at hcu htv hr2 htp
              generalize txtL t1 = t2 at htv hr2 htp
              have hgt := gettext_calls Ak (cj - k) rk HBK.out w3 HRK3.out hCk (by omega)
              rw [htv] at hgt
              have HGT := Aside0.mk hgt
              have hdr : rk.drop t2.length = flat (item l s) (j + 1) (m - (j + 1)) := by rw [hr2, List.drop_left']; rfl
              have hlt2 : t2.length ≤ rk.length := by rw [hr2]; simp
              obtain ⟨i05, hi05, _, hsz5, _⟩ := info_parts info5
              obtain ⟨Aq, hcut2, hA2, hCq⟩ := print_drop_of (P := Try.prog) (Value.int .u8) 0 24 5 .i64 Try.underlying24 hi05 hsz5 Ak (cj - k) rk (t2.length : Int) (by omega) (by omega) hCk
              simp only [Int.toNat_natCast] at hcut2 hA2 hCq
              have HRQ := Aside0.mk (Kd.C_of_reads (h1 := fun _ => rfl) (hA2 _ (Kd.reads_of_C HRK3.out)))
              generalize rk.drop t2.length = rq at *
              have HDR := Aside0.mk hdr
              have HCS := Aside0.mk hcs
              have HCU := Aside0.mk hcu
              have bt : ((t2.length : Int) == 0) = false := beq_eq_false_iff_ne.2 (by omega)
              generalize t2.length = tn at *
              clear hA2 hi05 hsz5 hgt hdr hcs hcu hte hte2 hr2 htv hsz
              go_wp2_with fail
              refine HGT.out.mono ?_
              rintro e_ w4 ⟨rfl, hb⟩
              have HB4 := Aside0.mk (below_step HB3.out hb)
              have HRQ4 := Aside0.mk (Kd.C_below HRQ.out hb)
              have hx2 := HCS.out _ HB4.out
              clear hb HRQ HGT HRK3 hx
              go_wp2_with fail
              refine (HCU.out w4).mono ?_
              rintro e_ w5 ⟨rfl, rfl⟩
              clear hx2
              go_wp2_with fail
              go_roundg (20 - (j + 1))
              case measure => have := HJ.out; omega
              case rel => exact ⟨j + 1, Aq, _, rq, rfl, rfl, ⟨by have := HJ.out; omega, by omega, HDR.out.symm⟩, ⟨hCq, HRQ4.out⟩, HB4⟩
            · have bs : decide (j < s.length) = false := decide_eq_false hjs
              have hr2 := HREST.out
              rw [if_neg hjs, List.nil_append] at hr2
              have HDR := Aside0.mk hr2
              clear hr2
              go_wp2_with fail
              go_roundg (20 - (j + 1))
              case measure => have := HJ.out; omega
              case rel => exact ⟨j + 1, Ak, _, rk, rfl, rfl, ⟨by have := HJ.out; omega, by omega, HDR.out.symm⟩, ⟨hCk, HRK3.out⟩, HB3⟩
          · have hjm2 : j = m := by have := HJ.out; omega
            have hnil : rj = [] := by rw [← HJ.out.2.2, hjm2, Nat.sub_self]; rfl
            subst hnil
            have hjc : j = l.length ∨ (j < l.length ∧ j = 20) := by have := HM.out; omega
            rcases hjc with hjc | ⟨hjc, hjd⟩
            · have d1 : ¬ j < l.length := by omega
              go_wp2_with fail
              go_ret
              exact ⟨by simp, HBJ.out⟩
            · have d2 : ¬ j < 20 := by omega
              go_wp2_with fail
              go_ret
              exact ⟨by simp, HBJ.out⟩
      · have b2 : decide ((i : Int) < 20) = false := decide_eq_false (by omega)
        have b2' : ¬ i < 20 := by omega
        go_wp2_with fail
        go_loopg [6, 8] 20 (fun g v6 v8 w' => ∃ (j : Nat) (Aj : Option Addr) (cj : Nat) (rj : List Int), v6 = .slice Aj rj.length cj ∧ v8 = .int .i64 (j : Int) ∧ Aside0 (j + g = 20 ∧ j ≤ m ∧ flat (item l s) j (m - j) = rj) ∧ Aside0 (rj.length ≤ cj ∧ (Kd.int .u8).C w' Aj rj.length rj) ∧ Aside0 (Below w.heap.size w w'))
        case atStart => exact ⟨0, Ab, cb, rest, rfl, rfl, ⟨by omega, by omega, HFL.out⟩, ⟨HC.out.2.1, HC.out.2.2⟩, HB⟩
        case round =>
          clear HB HC HFL HI
          obtain ⟨j, Aj, cj, rj, rfl, rfl, HJ, HCJ, HBJ⟩ := hrel
          by_cases hjm : j < m
          · have hjl : j < l.length := by have := HM.out; omega
            have hj20 : j < 20 := by have := HM.out; omega
            obtain ⟨ad, e_, _⟩ := Kd.at_int HR.out (j : Int) (by omega) (by omega)
            subst e_
            have hxw := fun (wq : World) (hb : Below w.heap.size w wq) => cell_at HR.out hb j hjl
            have hn := numOf_eq l j
            have hfl : rj = item l s j ++ flat (item l s) (j + 1) (m - (j + 1)) := by rw [← HJ.out.2.2, show m - j = (m - (j + 1)) + 1 by omega]; rfl
            have hlr : rj.length ≤ 1000 := by have h1 := HF.out (m - j) j; have h2 := HM.out; rw [HJ.out.2.2] at h1; omega
            have hby : Bys rj := by have := HBY.out (m - j) j; rw [HJ.out.2.2] at this; exact this
            have hfl2 : rj = enc (numOf l j) ++ ((if j < s.length then txtL (txtOf s j) else []) ++ flat (item l s) (j + 1) (m - (j + 1))) := by rw [hfl]; unfold item; rw [List.append_assoc]
            have hg : getS rj = ((numOf l j : Int), ((enc (numOf l j)).length : Int)) := by rw [hfl2]; exact getS_enc (numOf_lt l j) _
            have hcg := get_calls Aj cj rj hby wr HCJ.out.2 HCJ.out.1
            rw [hg] at hcg
            have hrest : rj.drop (enc (numOf l j)).length = (if j < s.length then txtL (txtOf s j) else []) ++ flat (item l s) (j + 1) (m - (j + 1)) := by rw [hfl2, List.drop_left']; rfl
            have hkp := enc_pos (numOf l j)
            have hkl : (enc (numOf l j)).length ≤ rj.length := by rw [hfl2]; simp
            generalize (enc (numOf l j)).length = k at hcg hrest hkp hkl
            generalize rd l (j : Int) = x at hxw hn
            obtain ⟨i05, hi05, _, hsz5, _⟩ := info_parts info5
            obtain ⟨Ak, hcut, hA, hCk⟩ := print_drop_of (P := Try.prog) (Value.int .u8) 0 24 5 .i64 Try.underlying24 hi05 hsz5 Aj cj rj (k : Int) (by omega) (by omega) HCJ.out.1
            simp only [Int.toNat_natCast] at hcut hA hCk
            have hlk : (rj.drop k).length ≤ 1000 := by rw [List.length_drop]; omega
            have hbk := bys_drop hby k
            have HRK := Aside0.mk (Kd.C_of_reads (h1 := fun _ => rfl) (hA _ (Kd.reads_of_C HCJ.out.2)))
            generalize rj.drop k = rk at *
            have HBK := Aside0.mk hbk
            have HG := Aside0.mk hcg
            have HREST := Aside0.mk hrest
            have HXW := Aside0.mk hxw
            have bk : ((k : Int) == 0) = false := beq_eq_false_iff_ne.2 (by omega)
            clear hA hi05 hsz5 hcg hrest hg hfl hfl2 hby hbk hxw
            go_wp2_with fail
            refine HG.out.mono ?_
            rintro e_ w3 ⟨rfl, hb⟩
            have HB3 := Aside0.mk (below_step HBJ.out hb)
            have HRK3 := Aside0.mk (Kd.C_below HRK.out hb)
            have hx := HXW.out _ HB3.out
            clear hb HG HRK
            by_cases hjs : j < s.length
            · obtain ⟨ad2, e_, _⟩ := Kd.at_string HR2.out (j : Int) (by omega) (by omega)
              subst e_
              have hr2 := HREST.out
              rw [if_pos hjs] at hr2
              have hcs := fun (wq : World) (hb : Below w.heap.size w wq) => cell_atS HR2.out hb j hjs
              have hcu := fun w => cut_calls (s.getD j ByteArray.empty) 30 (HW2.out _ (getD_mem hjs)) w
              have hte : cutB (s.getD j ByteArray.empty) 30 = txtOf s j := rfl
              have hsz : (txtOf s j).size ≤ 30 := cut30 _
              rw [hte] at hcu
              generalize s.getD j ByteArray.empty = t0 at hcs hcu
              have htv := textV_text (s := txtOf s j) (by omega) (flat (item l s) (j + 1) (m - (j + 1)))
              have hte2 : enc (txtOf s j).size ++ bytesOf (txtOf s j) = txtL (txtOf s j) := rfl
              have htp : 0 < (txtL (txtOf s j)).length := by have := enc_pos (txtOf s j).size; rw [← hte2, List.length_append]; omega
              rw [hte2, ← hr2] at htv
              generalize txtOf s j = t1 at hcu htv hr2 htp
              generalize txtL t1 = t2 at htv hr2 htp
              have hgt := gettext_calls Ak (cj - k) rk HBK.out w3 HRK3.out hCk (by omega)
              rw [htv] at hgt
              have HGT := Aside0.mk hgt
              have hdr : rk.drop t2.length = flat (item l s) (j + 1) (m - (j + 1)) := by rw [hr2, List.drop_left']; rfl
              have hlt2 : t2.length ≤ rk.length := by rw [hr2]; simp
              obtain ⟨i05, hi05, _, hsz5, _⟩ := info_parts info5
              obtain ⟨Aq, hcut2, hA2, hCq⟩ := print_drop_of (P := Try.prog) (Value.int .u8) 0 24 5 .i64 Try.underlying24 hi05 hsz5 Ak (cj - k) rk (t2.length : Int) (by omega) (by omega) hCk
              simp only [Int.toNat_natCast] at hcut2 hA2 hCq
              have HRQ := Aside0.mk (Kd.C_of_reads (h1 := fun _ => rfl) (hA2 _ (Kd.reads_of_C HRK3.out)))
              generalize rk.drop t2.length = rq at *
              have HDR := Aside0.mk hdr
              have HCS := Aside0.mk hcs
              have HCU := Aside0.mk hcu
              have bt : ((t2.length : Int) == 0) = false := beq_eq_false_iff_ne.2 (by omega)
              generalize t2.length = tn at *
              clear hA2 hi05 hsz5 hgt hdr hcs hcu hte hte2 hr2 htv hsz
              go_wp2_with fail
              refine HGT.out.mono ?_
              rintro e_ w4 ⟨rfl, hb⟩
              have HB4 := Aside0.mk (below_step HB3.out hb)
              have HRQ4 := Aside0.mk (Kd.C_below HRQ.out hb)
              have hx2 := HCS.out _ HB4.out
              clear hb HRQ HGT HRK3 hx
              go_wp2_with fail
              refine (HCU.out w4).mono ?_
              rintro e_ w5 ⟨rfl, rfl⟩
              clear hx2
              go_wp2_with fail
              go_roundg (20 - (j + 1))
              case measure => have := HJ.out; omega
              case rel => exact ⟨j + 1, Aq, _, rq, rfl, rfl, ⟨by have := HJ.out; omega, by omega, HDR.out.symm⟩, ⟨hCq, HRQ4.out⟩, HB4⟩
            · have bs : decide (j < s.length) = false := decide_eq_false hjs
              have hr2 := HREST.out
              rw [if_neg hjs, List.nil_append] at hr2
              have HDR := Aside0.mk hr2
              clear hr2
              go_wp2_with fail
              go_roundg (20 - (j + 1))
              case measure => have := HJ.out; omega
              case rel => exact ⟨j + 1, Ak, _, rk, rfl, rfl, ⟨by have := HJ.out; omega, by omega, HDR.out.symm⟩, ⟨hCk, HRK3.out⟩, HB3⟩
          · have hjm2 : j = m := by have := HJ.out; omega
            have hnil : rj = [] := by rw [← HJ.out.2.2, hjm2, Nat.sub_self]; rfl
            subst hnil
            have hjc : j = l.length ∨ (j < l.length ∧ j = 20) := by have := HM.out; omega
            rcases hjc with hjc | ⟨hjc, hjd⟩
            · have d1 : ¬ j < l.length := by omega
              go_wp2_with fail
              go_ret
              exact ⟨by simp, HBJ.out⟩
            · have d2 : ¬ j < 20 := by omega
              go_wp2_with fail
              go_ret
              exact ⟨by simp, HBJ.out⟩
end Go.Proofs.Ytpgbapbmikneiaa.NyWalk
