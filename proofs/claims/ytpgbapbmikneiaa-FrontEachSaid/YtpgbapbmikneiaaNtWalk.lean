/- NumbersTight: what is written with more bytes than it needs is none: it answers true. No condition. -/
import Derived.Test.YtpgbapbmikneiaaProg
import Derived.Below
import Derived.Deep.Draws
import Derived.Deep.AppendLies
import Derived.Maps.AppendAt
import Derived.OwnWalk
import Derived.Laws.BytesArg
import Derived.Laws.MakeOwn
import Derived.Laws.OwnMore
import Derived.Deep.OwnRows
import Derived.Tactics
import Derived.Lib.ConvBytes
import Derived.Laws.Slices
import Derived.WalkKit
import Derived.KernelRfl
import Derived.RowKit3
import Derived.Deep.LoopGhost
import Derived.Deep.QuietTactic
import Derived.BigQuiet
import Derived.WideLaws
import Derived.Deep.DeepCutAuto
import Derived.Deep.CutBlock
import Derived.Deep.RegionHeld3
import Derived.Laws.Rows
import Derived.Lib.AppendStr
import Derived.ArgAppend
import Derived.Laws.IdiomCopy
import Derived.OrdersHeld
import Derived.Laws.BitsLemmas
import Derived.RowKit
import Derived.WalkSpells
import Derived.Outline
import Derived.Test.YtpgbapbmikneiaaWWords
import Derived.Test.YtpgbapbmikneiaaWLast
import Derived.Test.YtpgbapbmikneiaaWMore
import Derived.Test.YtpgbapbmikneiaaWArr
import Derived.Test.YtpgbapbmikneiaaWTab
import Derived.Test.YtpgbapbmikneiaaWZeros
import Derived.Test.YtpgbapbmikneiaaWRepsOne
import Derived.Test.YtpgbapbmikneiaaNbWalk
namespace Go.Proofs.Ytpgbapbmikneiaa.NtWalk
open Go.RowKit Go.Proofs.YtpgbapbmikneiaaW.PrintWords Go.Proofs.YtpgbapbmikneiaaW.PrintLast Go.Proofs.YtpgbapbmikneiaaW.PrintMore Go.Proofs.Ytpgbapbmikneiaa.Nm Go.Proofs.Ytpgbapbmikneiaa.NmA Go.Proofs.Ytpgbapbmikneiaa.NmB Go.Proofs.Ytpgbapbmikneiaa.NmC Go.Proofs.Ytpgbapbmikneiaa.NmE Go.Proofs.Ytpgbapbmikneiaa.NmD Go.Proofs.Ytpgbapbmikneiaa.NmF Go.Proofs.Ytpgbapbmikneiaa.NbWalk
attribute [local go_sem] max2_int min2_int max_two min_two

/-- Bytes that all go on, and a nought behind them: no number. -/
theorem getS_tail {a : List Int} (h : ∀ c ∈ a, c > 127) (hp : 0 < a.length) : getS (a ++ [0]) = (0, 0) := by
  by_cases hl : a.length ≤ 9
  · rw [getS_at a [] 0 h (by omega) hl, if_pos (Or.inl ⟨hp, rfl⟩)]
  · apply getS_short
    rw [stop_append_all a _ h]; simp [stop]; omega
theorem enc_split (d : Nat) : ∀ n, n < 128 ^ (d + 1) → ∃ a x, enc n = a ++ [x] ∧ (∀ c ∈ a, c > 127 ∧ c < 256) ∧ 0 ≤ x ∧ x < 128 ∧ a.length ≤ d := by
  induction d with
  | zero => intro n h; exact ⟨[], n, by rw [enc_small (by simpa using h)]; rfl, by simp, by omega, by simp at h; omega, by simp⟩
  | succ d ih =>
    intro n h
    by_cases hs : n < 128
    · exact ⟨[], n, by rw [enc_small hs]; rfl, by simp, by omega, by omega, by simp⟩
    · obtain ⟨a, x, e, ha, hx⟩ := ih (n / 128) (by rw [Nat.div_lt_iff_lt_mul (by decide)]; rwa [Nat.pow_succ] at h)
      refine ⟨((n % 128 + 128 : Nat) : Int) :: a, x, by rw [enc_large hs, e]; rfl, ?_, hx.1, hx.2.1, by simp; omega⟩
      intro c hc; simp only [List.mem_cons] at hc
      rcases hc with rfl | hc
      · omega
      · exact ha c hc
theorem set_last (a : List Int) (x y : Int) : (a ++ [x]).set a.length y = a ++ [y] := by simp
theorem or128_gt {x : Int} (h : 0 ≤ x ∧ x < 128) : Go.bits .or .u8 x 128 = x + 128 := by rw [or128 (by omega) (by omega)]; omega

theorem walk (a0 a1 : Int) (w : World) (w0 : (Lit.int .u64 a0).wf = true) (_w1 : (Lit.int .i64 a1).wf = true) :
    Calls Try.prog 10 #[.int .u64 a0, .int .i64 a1] w fun e w' => e = .returned (.bool true) ∧ Below w.heap.size w w' := by
  obtain ⟨n, rfl, hn⟩ : ∃ n : Nat, a0 = (n : Int) ∧ n < 18446744073709551616 := by
    simp [Lit.wf, IntKind.min, IntKind.max, IntKind.bits, IntKind.signed] at w0
    exact ⟨a0.toNat, by omega, by omega⟩
  have HN := Aside0.mk hn
  clear hn w0
  by_cases h1 : a1 < 1
  · have b1 : decide (a1 < 1) = true := decide_eq_true h1
    go_enter Try.func10, Try.ntmps10
    go_wp2_with fail
    refine (begun_calls w).mono ?_
    rintro e_ w1 ⟨rfl, hb⟩
    have HB1 := Aside0.mk hb
    clear hb
    go_wp2_with fail
    go_ret
    exact ⟨rfl, HB1.out⟩
  · have b1 : decide (a1 < 1) = false := decide_eq_false h1
    by_cases h2 : 12 < a1
    · have b2 : decide (12 < a1) = true := decide_eq_true h2
      go_enter Try.func10, Try.ntmps10
      go_wp2_with fail
      refine (begun_calls w).mono ?_
      rintro e_ w1 ⟨rfl, hb⟩
      have HB1 := Aside0.mk hb
      clear hb
      go_wp2_with fail
      go_ret
      exact ⟨rfl, HB1.out⟩
    · have b2 : decide (12 < a1) = false := decide_eq_false h2
      obtain ⟨a, x, he, ha, hx0, hx1, hal⟩ := enc_split 9 n (Nat.lt_of_lt_of_le HN.out (by decide))
      have HA := Aside0.mk ha
      have HAL := Aside0.mk hal
      have HE := Aside0.mk he
      clear ha he hal
      go_enter Try.func10, Try.ntmps10
      go_wp2_with fail
      refine (begun_calls w).mono ?_
      rintro e_ w1 ⟨rfl, hb⟩
      have HB1 := Aside0.mk hb
      clear hb
      go_wp2_with fail
      refine (rput_calls n HN.out w1).mono ?_
      rintro e_ w2 ⟨v1, rfl, ho, hb⟩
      rw [HE.out] at ho
      have HO := Aside0.mk (Kd.R_lower ho HB1.out.size)
      have HB := Aside0.mk (below_step HB1.out hb)
      clear ho hb HB1
      go_wp2_with fail
      go_loopg [6, 7] 20 (fun g v6 v7 w' => ∃ (i : Nat) (b : List Int) (y : Int), v7 = .int .i64 (i : Int) ∧ Aside0 (i + g = 20 ∧ (i : Int) ≤ a1 ∧ b.length = a.length + i ∧ (∀ c ∈ b, c > 127 ∧ c < 256) ∧ 0 ≤ y ∧ y < 128 ∧ (0 < i → y = 0)) ∧ Aside0 (Kd.R (Kd.int .u8) 5 w' w.heap.size (fun _ => True) v6 (b ++ [y])) ∧ Aside0 (Below w.heap.size w w'))
      case atStart => exact ⟨0, a, x, rfl, ⟨by omega, by omega, rfl, HA.out, hx0, hx1, by omega⟩, HO, HB⟩
      case round =>
        clear HO HB hx0 hx1
        obtain ⟨i, b, y, rfl, HI, HO, HB⟩ := hrel
        have hi := HI.out
        have hal := HAL.out
        obtain ⟨go, co, e6, gb, gl, cs, HG⟩ := Kd.R_form HO.out (by simp)
        have hle : (b ++ [y]).length = b.length + 1 := by simp
        rw [hle] at e6
        subst e6
        have hm : b.length + 1 ≤ 100 := by omega
        have hrdy : rd (b ++ [y]) (b.length : Int) = y := rd_append
        by_cases hlt : (i : Int) < a1
        · obtain ⟨hx, hf⟩ := Kd.R_celln 0 HO.out (b.length : Int) (by omega) (by omega)
          have hx2 : wr.cell? ⟨go, b.length, none⟩ = some (.int .u8 y) := by
            rw [← hrdy]; exact hx
          have HP := Kd.R_putg HO.out (b.length : Int) (Go.bits .or .u8 y 128)
          rw [Int.toNat_natCast, set_last] at HP
          rw [Int.toNat_natCast] at hf
          have HP2 := Aside0.mk HP.1
          have HB2 := Aside0.mk (below_set HB.out gb : Below w.heap.size w (wr.setCell ⟨go, b.length, none⟩ (.int .u8 (Go.bits .or .u8 y 128))))
          have HL : Aside0 ((b ++ [Go.bits .or .u8 y 128]).length ≤ 100) := ⟨by simp; omega⟩
          clear hx hrdy HP hle HO HB HG gl hal hi
          go_wp2_with (first | ((with_reducible refine gate_store (t := 5) (p := 33) rfl ?_); go_must (refine store_event (t := 5) (p := 33) (v := ?vo_) (w1 := (wr.setCell ⟨go, b.length, none⟩ (.int .u8 (Go.bits .or .u8 y 128)))) ?hg_ ?ho_ ?hn_ ?hr_ ?_; (case ho_ => rfl); (case hg_ => rfl); (case hn_ => rfl); (case hr_ => first | (go_simp; done) | (go_simp; rfl)); intro w9 hw_; rw [← hw_] at HP2 HB2; clear hw_)) | ((with_reducible refine gate_builtin (b := .append) (xs := #[.tmp 34, .tmp 35]) rfl ?_); at_builtin; go_must (refine Kd.R_append (Kd.int .u8) (w0 := w) (w.heap.size) rfl (.tmp 34) (.tmp 35) 24 5 (.int .u8 0) 1 rfl Try.underlying24 info5 rfl (by decide) (by omega) (.slice (some ⟨go, 0, none⟩) (b.length + 1) co) (b ++ [Go.bits .or .u8 y 128]) 0 [.int .u8 0] (fun _ => True) (fun _ => False) rfl rfl rfl (fun _ hk => hk.elim) (fun _ _ => trivial) HP2.out HB2.out HB2.out.size (by have := HL.out; omega) ?_; intro v102 w4 ho hb hg hat; have HO := Aside0.mk ho; have HB3 := Aside0.mk hb; clear ho hb hg hat)))
          go_roundg (20 - (i + 1))
          case measure => have := HI.out; omega
          case rel =>
            have hi := HI.out
            refine ⟨i + 1, _, 0, by rfl, ⟨by omega, by omega, by simp; omega, ?_, by omega, by omega, by simp⟩, HO, HB3⟩
            intro c hc
            simp only [List.mem_append, List.mem_singleton] at hc
            rcases hc with hc | rfl
            · exact hi.2.2.2.1 c hc
            · rw [or128_gt ⟨hi.2.2.2.2.1, hi.2.2.2.2.2.1⟩]; omega
        · have hy : y = 0 := hi.2.2.2.2.2.2 (by omega)
          subst hy
          have hrr := Kd.R_reads' HO.out
          have HC := Aside0.mk hrr
          have hg : getS (b ++ [0]) = (0, 0) := getS_tail (fun c hc => (hi.2.2.2.1 c hc).1) (by omega)
          have hby : Bys (b ++ [0]) := bys_append (fun c hc => by have := hi.2.2.2.1 c hc; omega) (bys_of rfl)
          have hc := get_calls (some ⟨go, 0, none⟩) co (b ++ [0]) hby wr HC.out.2.2 (by have := HC.out; simp; omega)
          rw [hg, hle] at hc
          have HQ := Aside0.mk hc
          clear hc hg hby hrr hle HO hi hal hrdy HG gl
          go_wp2_with fail
          refine HQ.out.mono ?_
          rintro e_ w9 ⟨rfl, hb⟩
          have HB9 := Aside0.mk (below_step HB.out hb)
          clear hb
          go_wp2_with fail
          go_ret
          exact ⟨rfl, HB9.out⟩
end Go.Proofs.Ytpgbapbmikneiaa.NtWalk
