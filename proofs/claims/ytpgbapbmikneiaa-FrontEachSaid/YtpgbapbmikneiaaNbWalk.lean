/- NumbersBytes: of any bytes, both ways of reading tell the same: it answers true. No condition. -/
import Derived.Test.YtpgbapbmikneiaaProg
import Derived.Below
import Derived.Deep.Draws
import Derived.Deep.AppendLies
import Derived.Maps.AppendAt
import Derived.OwnWalk
import Derived.Laws.BytesArg
import Derived.Laws.MakeOwn
import Derived.Laws.OwnMore
import Derived.Deep.OwnRows
import Derived.Tactics
import Derived.Lib.ConvBytes
import Derived.Laws.Slices
import Derived.WalkKit
import Derived.KernelRfl
import Derived.RowKit3
import Derived.Deep.LoopGhost
import Derived.Deep.QuietTactic
import Derived.BigQuiet
import Derived.WideLaws
import Derived.Deep.DeepCutAuto
import Derived.Deep.CutBlock
import Derived.Deep.RegionHeld3
import Derived.Laws.Rows
import Derived.Lib.AppendStr
import Derived.ArgAppend
import Derived.Laws.IdiomCopy
import Derived.OrdersHeld
import Derived.Laws.BitsLemmas
import Derived.RowKit
import Derived.WalkSpells
import Derived.Outline
import Derived.Test.YtpgbapbmikneiaaWWords
import Derived.Test.YtpgbapbmikneiaaWLast
import Derived.Test.YtpgbapbmikneiaaWMore
import Derived.Test.YtpgbapbmikneiaaWArr
import Derived.Test.YtpgbapbmikneiaaWTab
import Derived.Test.YtpgbapbmikneiaaWZeros
import Derived.Test.YtpgbapbmikneiaaWRepsOne
import Derived.Test.YtpgbapbmikneiaaNmF
namespace Go.Proofs.Ytpgbapbmikneiaa.NbWalk
open Go.RowKit Go.Proofs.YtpgbapbmikneiaaW.PrintWords Go.Proofs.YtpgbapbmikneiaaW.PrintLast Go.Proofs.YtpgbapbmikneiaaW.PrintMore Go.Proofs.Ytpgbapbmikneiaa.Nm Go.Proofs.Ytpgbapbmikneiaa.NmA Go.Proofs.Ytpgbapbmikneiaa.NmB Go.Proofs.Ytpgbapbmikneiaa.NmC Go.Proofs.Ytpgbapbmikneiaa.NmE Go.Proofs.Ytpgbapbmikneiaa.NmD Go.Proofs.Ytpgbapbmikneiaa.NmF
attribute [local go_sem] max2_int min2_int max_two min_two

theorem bys_wf {l : List Int} (h : ∀ x ∈ l, (Lit.int .u8 x).wf = true) : Bys l := by
  intro c hc
  have := h c hc
  simp [Lit.wf, IntKind.min, IntKind.max, IntKind.bits, IntKind.signed] at this
  omega
/-- A front of a row that is read. -/
theorem C_take {k : IntKind} {w : World} {A : Option Addr} {l : List Int} (n : Nat) (h : (Kd.int k).C w A l.length l) : (Kd.int k).C w A (l.take n).length (l.take n) := by
  by_cases hn : n ≤ l.length
  · have h1 := ReadsOf.take_ (Kd.reads_of_C (d := (0 : Int)) h) n hn
    have e : (l.take n).length = n := by rw [List.length_take]; omega
    rw [e]
    rw [← e] at h1
    have := Kd.C_of_reads (h1 := fun _ => rfl) h1
    rw [e] at this
    exact this
  · rw [List.take_of_length_le (by omega)]; exact h

theorem walk (A : Option Addr) (c : Nat) (l : List Int) (w : World) (hr : (Kd.int .u8).C w A l.length l) (hc : l.length ≤ c) (hm : l.length * 1 ≤ 140737488351232) (hw : ∀ x ∈ l, (Lit.int .u8 x).wf = true) :
    Calls Try.prog 9 #[.slice A l.length c] w fun e w' => e = .returned (.bool true) ∧ Below w.heap.size w w' := by
  have hby := bys_take (bys_wf hw) 60
  have hr2 := C_take 60 hr
  have hc2 : (l.take 60).length ≤ c := by rw [List.length_take]; omega
  have hl2 : (l.take 60).length ≤ 140737488351232 := by rw [List.length_take]; omega
  have HS := Aside0.mk (fun w => short_calls A c l 60 hc w)
  generalize l.take 60 = t at *
  have HY := Aside0.mk hby
  have HR := Aside0.mk hr2
  have HC := Aside0.mk hc2
  have HL := Aside0.mk hl2
  clear hby hr2 hc2 hl2 hr hc hw hm
  go_enter Try.func9, Try.ntmps9
  go_wp2_with fail
  refine (begun_calls w).mono ?_
  rintro e_ w1 ⟨rfl, hb⟩
  have HB1 := Aside0.mk hb
  clear hb
  go_wp2_with fail
  refine (HS.out w1).mono ?_
  rintro e_ w2 ⟨rfl, rfl⟩
  go_wp2_with fail
  refine (get_calls A c t HY.out w1 (Kd.C_below HR.out HB1.out) HC.out).mono ?_
  rintro e_ w2 ⟨rfl, hb⟩
  have HB2 := Aside0.mk (below_step HB1.out hb)
  clear hb HB1
  go_wp2_with fail
  refine (rget_calls A c t HY.out w2 (Kd.C_below HR.out HB2.out) HC.out HL.out).mono ?_
  rintro e_ w3 ⟨rfl, hb⟩
  have HB3 := Aside0.mk (below_step HB2.out hb)
  clear hb HB2
  go_wp2_with fail
  refine (gettext_calls A c t HY.out w3 (Kd.C_below HR.out HB3.out) HC.out HL.out).mono ?_
  rintro e_ w4 ⟨rfl, hb⟩
  have HB4 := Aside0.mk (below_step HB3.out hb)
  clear hb HB3
  go_wp2_with fail
  refine (rgettext_calls A c t HY.out w4 (Kd.C_below HR.out HB4.out) HC.out HL.out).mono ?_
  rintro e_ w5 ⟨rfl, hb⟩
  have HB5 := Aside0.mk (below_step HB4.out hb)
  clear hb HB4
  go_wp2_with fail
  go_ret
  exact ⟨rfl, HB5.out⟩
end Go.Proofs.Ytpgbapbmikneiaa.NbWalk
