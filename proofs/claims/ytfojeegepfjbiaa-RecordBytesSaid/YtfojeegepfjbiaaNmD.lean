/- The contract of number.GetText: what it tells of any bytes. -/
import Derived.Test.YtfojeegepfjbiaaProg
import Derived.Below
import Derived.Deep.Draws
import Derived.Deep.AppendLies
import Derived.Maps.AppendAt
import Derived.OwnWalk
import Derived.Laws.BytesArg
import Derived.Laws.MakeOwn
import Derived.Laws.OwnMore
import Derived.Deep.OwnRows
import Derived.Tactics
import Derived.Lib.ConvBytes
import Derived.Laws.Slices
import Derived.WalkKit
import Derived.KernelRfl
import Derived.RowKit3
import Derived.Deep.LoopGhost
import Derived.Deep.QuietTactic
import Derived.BigQuiet
import Derived.WideLaws
import Derived.Deep.DeepCutAuto
import Derived.Deep.CutBlock
import Derived.Deep.RegionHeld3
import Derived.Laws.Rows
import Derived.Lib.AppendStr
import Derived.ArgAppend
import Derived.Laws.IdiomCopy
import Derived.OrdersHeld
import Derived.Laws.BitsLemmas
import Derived.RowKit
import Derived.WalkSpells
import Derived.Outline
import Derived.Test.YtfojeegepfjbiaaWWords
import Derived.Test.YtfojeegepfjbiaaWLast
import Derived.Test.YtfojeegepfjbiaaWMore
import Derived.Test.YtfojeegepfjbiaaWArr
import Derived.Test.YtfojeegepfjbiaaWTab
import Derived.Test.YtfojeegepfjbiaaWZeros
import Derived.Test.YtfojeegepfjbiaaWRepsOne
import Derived.Test.YtfojeegepfjbiaaNmC
import Derived.Test.YtfojeegepfjbiaaNmE
namespace Go.Proofs.Ytfojeegepfjbiaa.NmD
open Go.RowKit Go.Proofs.YtfojeegepfjbiaaW.PrintWords Go.Proofs.YtfojeegepfjbiaaW.PrintLast Go.Proofs.YtfojeegepfjbiaaW.PrintMore Go.Proofs.Ytfojeegepfjbiaa.Nm Go.Proofs.Ytfojeegepfjbiaa.NmA Go.Proofs.Ytfojeegepfjbiaa.NmB Go.Proofs.Ytfojeegepfjbiaa.NmC Go.Proofs.Ytfojeegepfjbiaa.NmE
set_option linter.unusedSimpArgs false
set_option linter.unusedVariables false
attribute [local go_sem] max2_int min2_int max_two min_two

/-- What GetText tells of bytes. -/
def textV (l : List Int) : ByteArray × Int :=
  if (getS l).2 = 0 ∨ (getS l).1 > (l.length : Int) - (getS l).2 then (⟨#[]⟩, 0) else (strOfNums ((l.take ((getS l).2 + (getS l).1).toNat).drop (getS l).2.toNat), (getS l).2 + (getS l).1)
theorem text_calls (s : ByteArray) (hs : s.size ≤ 140737488351232) (w : World) :
    Calls Try.prog 55 #[.string s] w fun e w' => ∃ v : Value, e = .returned v ∧ Kd.R (Kd.int .u8) 5 w' w.heap.size (fun _ => True) v (enc s.size ++ bytesOf s) ∧ Below w.heap.size w w' := by
  have HB := Aside0.mk (Below.refl w.heap.size w)
  have HL : Aside0 ((enc s.size).length ≤ 20) := ⟨by have := enc_len 9 s.size (by omega); omega⟩
  have hw : IntKind.u64.wrap (s.size : Int) = (s.size : Int) := u64_id (by omega) (by omega)
  have HS := Aside0.mk hs
  go_enter Try.func55, Try.ntmps55
  go_wp2_with (first | ((with_reducible refine gate_callee (f := 54) rfl ?_); (with_reducible refine gate_dst (N := 6) rfl ?_); go_must (refine goesL_ (some 6) rfl rfl Try.func54 (by kernel_rfl) rfl #[.int .u64 (s.size : Int)] rfl (by (try simp only [List.map_toArray, List.map_cons, List.map_nil]); first | done | rfl) ?_; refine (put_calls s.size (by have := HS.out; omega) _).mono ?_; rintro e_ w4 ⟨v1, rfl, ho0, hb⟩; refine ⟨_, rfl, ?_⟩; have HO := Aside0.mk ho0; clear HB; have HB := Aside0.mk hb; clear ho0 hb)) | (at_builtin; go_must (refine print_append_str (w0 := w) w.heap.size rfl (.tmp 6) _ 22 9 5 rfl Try.underlying22 Try.underlying9 info5 v1 (enc s.size) s rfl rfl (Kd.own_of_R HO.out) HB.out HB.out.size (by have := HL.out; have := HS.out; omega) ?_; intro v2 w5 ho0 hb hg; have HO2 := Aside0.mk ho0; clear HB; have HB := Aside0.mk hb; clear ho0 hb hg)))
  go_ret
  exact ⟨v2, rfl, Kd.R_of_own (h1 := fun _ => rfl) (ok := fun _ => True) HO2.out (fun _ _ => trivial), HB.out⟩

theorem rtext_calls (s : ByteArray) (hs : s.size ≤ 140737488351232) (w : World) :
    Calls Try.prog 57 #[.string s] w fun e w' => ∃ v : Value, e = .returned v ∧ Kd.R (Kd.int .u8) 5 w' w.heap.size (fun _ => True) v (enc s.size ++ bytesOf s) ∧ Below w.heap.size w w' := by
  have HB := Aside0.mk (Below.refl w.heap.size w)
  have HL : Aside0 ((enc s.size).length ≤ 20) := ⟨by have := enc_len 9 s.size (by omega); omega⟩
  have hw : IntKind.u64.wrap (s.size : Int) = (s.size : Int) := u64_id (by omega) (by omega)
  have HS := Aside0.mk hs
  go_enter Try.func57, Try.ntmps57
  go_wp2_with (first | ((with_reducible refine gate_callee (f := 56) rfl ?_); (with_reducible refine gate_dst (N := 6) rfl ?_); go_must (refine goesL_ (some 6) rfl rfl Try.func56 (by kernel_rfl) rfl #[.int .u64 (s.size : Int)] rfl (by (try simp only [List.map_toArray, List.map_cons, List.map_nil]); first | done | rfl) ?_; refine (rput_calls s.size (by have := HS.out; omega) _).mono ?_; rintro e_ w4 ⟨v1, rfl, ho0, hb⟩; refine ⟨_, rfl, ?_⟩; have HO := Aside0.mk ho0; clear HB; have HB := Aside0.mk hb; clear ho0 hb)) | (at_builtin; go_must (refine print_append_str (w0 := w) w.heap.size rfl (.tmp 6) _ 22 9 5 rfl Try.underlying22 Try.underlying9 info5 v1 (enc s.size) s rfl rfl (Kd.own_of_R HO.out) HB.out HB.out.size (by have := HL.out; have := HS.out; omega) ?_; intro v2 w5 ho0 hb hg; have HO2 := Aside0.mk ho0; clear HB; have HB := Aside0.mk hb; clear ho0 hb hg)))
  go_ret
  exact ⟨v2, rfl, Kd.R_of_own (h1 := fun _ => rfl) (ok := fun _ => True) HO2.out (fun _ _ => trivial), HB.out⟩


set_option maxRecDepth 100000 in
theorem gettext_calls (A : Option Addr) (c : Nat) (l : List Int) (hby : Bys l) (w : World) (hr : Kd.C (Kd.int .u8) w A l.length l) (hc : l.length ≤ c) (hl : l.length ≤ 140737488351232) :
    Calls Try.prog 91 #[.slice A l.length c] w fun e w' => e = .returned (.tuple #[.string (textV l).1, .int .i64 (textV l).2]) ∧ Below w.heap.size w w' := by
  have HB := Aside0.mk (Below.refl w.heap.size w)
  have hbd := getS_bd hby
  have HG := Aside0.mk (get_calls A c l hby w hr hc)
  have HR := Aside0.mk hr
  have HT : Aside0 (textV l = if (getS l).2 = 0 ∨ (getS l).1 > (l.length : Int) - (getS l).2 then (⟨#[]⟩, 0) else (strOfNums ((l.take ((getS l).2 + (getS l).1).toNat).drop (getS l).2.toNat), (getS l).2 + (getS l).1)) := ⟨rfl⟩
  generalize (getS l).1 = n at *
  generalize (getS l).2 = k at *
  obtain ⟨h0, h1, h2, h3, h4⟩ := hbd
  clear hr
  by_cases k0 : k = 0
  · have b0 : (k == 0) = true := beq_iff_eq.2 k0
    have HF := Aside0.mk (HT.out.trans (if_pos (Or.inl k0)))
    clear k0
    go_enter Try.func91, Try.ntmps91
    go_wp2_with (go_at_call 89; refine HG.out.mono ?_; rintro e_ w4 ⟨rfl, hb⟩; have HB1 := Aside0.mk hb; clear hb)
    go_ret2
    exact ⟨by rw [HF.out]; rfl, HB1.out⟩
  · have b0 : (k == 0) = false := beq_eq_false_iff_ne.2 k0
    by_cases hn : (l.length : Int) - k < n
    · have HF := Aside0.mk (HT.out.trans (if_pos (Or.inr hn)))
      go_enter Try.func91, Try.ntmps91
      go_wp2_with (go_at_call 89; refine HG.out.mono ?_; rintro e_ w4 ⟨rfl, hb⟩; have HB1 := Aside0.mk hb; clear hb)
      go_ret2
      exact ⟨by rw [HF.out]; rfl, HB1.out⟩
    · have HF := Aside0.mk (HT.out.trans (if_neg (by omega)))
      obtain ⟨i05, hi05, _, hsz5, _⟩ := info_parts info5
      obtain ⟨A2, hcut, hA2, hC2⟩ := print_mid_of (P := Try.prog) (Value.int .u8) 0 22 5 .i64 .i64 Try.underlying22 hi05 hsz5 A c l k (k + n) h2 (by omega) (by omega) hc
      have HR2 := Aside0.mk (Kd.C_of_reads (h1 := fun _ => rfl) (hA2 _ (Kd.reads_of_C HR.out)))
      clear hA2 hC2 hi05 hsz5 HT
      generalize (l.take (k + n).toNat).drop k.toNat = t at *
      go_enter Try.func91, Try.ntmps91
      go_wp2_with (go_at_call 89; refine HG.out.mono ?_; rintro e_ w4 ⟨rfl, hb⟩; have HB1 := Aside0.mk hb; have hcv := Kd.C_string (P := Try.prog) (A := A2) (c := (c - k.toNat)) Try.underlying22 Try.underlying5 Try.underlying9 (Kd.C_below HR2.out hb); clear hb)
      go_ret2
      exact ⟨by rw [HF.out]; rfl, HB1.out⟩

set_option maxRecDepth 100000 in
theorem rgettext_calls (A : Option Addr) (c : Nat) (l : List Int) (hby : Bys l) (w : World) (hr : Kd.C (Kd.int .u8) w A l.length l) (hc : l.length ≤ c) (hl : l.length ≤ 140737488351232) :
    Calls Try.prog 80 #[.slice A l.length c] w fun e w' => e = .returned (.tuple #[.string (textV l).1, .int .i64 (textV l).2]) ∧ Below w.heap.size w w' := by
  have HB := Aside0.mk (Below.refl w.heap.size w)
  have hbd := getS_bd hby
  have HG := Aside0.mk (rget_calls A c l hby w hr hc hl)
  have HR := Aside0.mk hr
  have HT : Aside0 (textV l = if (getS l).2 = 0 ∨ (getS l).1 > (l.length : Int) - (getS l).2 then (⟨#[]⟩, 0) else (strOfNums ((l.take ((getS l).2 + (getS l).1).toNat).drop (getS l).2.toNat), (getS l).2 + (getS l).1)) := ⟨rfl⟩
  generalize (getS l).1 = n at *
  generalize (getS l).2 = k at *
  obtain ⟨h0, h1, h2, h3, h4⟩ := hbd
  clear hr
  by_cases k0 : k = 0
  · have b0 : (k == 0) = true := beq_iff_eq.2 k0
    have HF := Aside0.mk (HT.out.trans (if_pos (Or.inl k0)))
    clear k0
    go_enter Try.func80, Try.ntmps80
    go_wp2_with (go_at_call 79; refine HG.out.mono ?_; rintro e_ w4 ⟨rfl, hb⟩; have HB1 := Aside0.mk hb; clear hb)
    go_ret2
    exact ⟨by rw [HF.out]; rfl, HB1.out⟩
  · have b0 : (k == 0) = false := beq_eq_false_iff_ne.2 k0
    by_cases hn : (l.length : Int) - k < n
    · have HF := Aside0.mk (HT.out.trans (if_pos (Or.inr hn)))
      go_enter Try.func80, Try.ntmps80
      go_wp2_with (go_at_call 79; refine HG.out.mono ?_; rintro e_ w4 ⟨rfl, hb⟩; have HB1 := Aside0.mk hb; clear hb)
      go_ret2
      exact ⟨by rw [HF.out]; rfl, HB1.out⟩
    · have HF := Aside0.mk (HT.out.trans (if_neg (by omega)))
      obtain ⟨i05, hi05, _, hsz5, _⟩ := info_parts info5
      obtain ⟨A2, hcut, hA2, hC2⟩ := print_mid_of (P := Try.prog) (Value.int .u8) 0 22 5 .i64 .i64 Try.underlying22 hi05 hsz5 A c l k (k + n) h2 (by omega) (by omega) hc
      have HR2 := Aside0.mk (Kd.C_of_reads (h1 := fun _ => rfl) (hA2 _ (Kd.reads_of_C HR.out)))
      clear hA2 hC2 hi05 hsz5 HT
      generalize (l.take (k + n).toNat).drop k.toNat = t at *
      go_enter Try.func80, Try.ntmps80
      go_wp2_with (go_at_call 79; refine HG.out.mono ?_; rintro e_ w4 ⟨rfl, hb⟩; have HB1 := Aside0.mk hb; have hcv := Kd.C_string (P := Try.prog) (A := A2) (c := (c - k.toNat)) Try.underlying22 Try.underlying5 Try.underlying9 (Kd.C_below HR2.out hb); clear hb)
      go_ret2
      exact ⟨by rw [HF.out]; rfl, HB1.out⟩

end Go.Proofs.Ytfojeegepfjbiaa.NmD
