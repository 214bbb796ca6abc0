/- Contracts of Short, Cut, number.Text, Four, GetFour, GetText. -/
import Derived.Test.YtfojeegepfjbiaaProg
import Derived.Below
import Derived.Deep.Draws
import Derived.Deep.AppendLies
import Derived.Maps.AppendAt
import Derived.OwnWalk
import Derived.Laws.BytesArg
import Derived.Laws.MakeOwn
import Derived.Laws.OwnMore
import Derived.Deep.OwnRows
import Derived.Tactics
import Derived.Lib.ConvBytes
import Derived.Laws.Slices
import Derived.WalkKit
import Derived.KernelRfl
import Derived.RowKit3
import Derived.Deep.LoopGhost
import Derived.Deep.QuietTactic
import Derived.BigQuiet
import Derived.WideLaws
import Derived.Deep.DeepCutAuto
import Derived.Deep.CutBlock
import Derived.Deep.RegionHeld3
import Derived.Laws.Rows
import Derived.Lib.AppendStr
import Derived.ArgAppend
import Derived.Laws.IdiomCopy
import Derived.OrdersHeld
import Derived.Laws.BitsLemmas
import Derived.RowKit
import Derived.WalkSpells
import Derived.Outline
import Derived.Test.YtfojeegepfjbiaaWWords
import Derived.Test.YtfojeegepfjbiaaWLast
import Derived.Test.YtfojeegepfjbiaaWMore
import Derived.Test.YtfojeegepfjbiaaWArr
import Derived.Test.YtfojeegepfjbiaaWTab
import Derived.Test.YtfojeegepfjbiaaWZeros
import Derived.Test.YtfojeegepfjbiaaWRepsOne
import Derived.Test.YtfojeegepfjbiaaNmB
namespace Go.Proofs.Ytfojeegepfjbiaa.NmC
open Go.RowKit Go.Proofs.YtfojeegepfjbiaaW.PrintWords Go.Proofs.YtfojeegepfjbiaaW.PrintLast Go.Proofs.YtfojeegepfjbiaaW.PrintMore Go.Proofs.Ytfojeegepfjbiaa.Nm Go.Proofs.Ytfojeegepfjbiaa.NmA Go.Proofs.Ytfojeegepfjbiaa.NmB
set_option linter.unusedSimpArgs false
set_option linter.unusedVariables false
attribute [local go_sem] max2_int min2_int max_two min_two

/-- The first n bytes, or all. -/
def cutB (s : ByteArray) (n : Nat) : ByteArray := if n < s.size then s.extract 0 n else s

theorem short_calls (A : Option Addr) (c : Nat) (l : List Int) (n : Nat) (hc : l.length ≤ c) (w : World) :
    Calls Try.prog 20 #[.slice A l.length c, .int .i64 (n : Int)] w fun e w' => e = .returned (.slice A (l.take n).length c) ∧ w = w' := by
  have hl : (l.take n).length = min n l.length := by rw [List.length_take]
  rw [hl]
  by_cases h : n < l.length
  · obtain ⟨i05, hi05, _, hsz5, _⟩ := info_parts info5
    have hcut := cut_to (P := Try.prog) 22 5 .i64 Try.underlying22 hi05 A l.length c (n : Int) (by omega) (by omega) hc
    simp only [Int.toNat_natCast] at hcut
    rw [Nat.min_eq_left (by omega)]
    clear hl hi05 hsz5 hc
    go_enter Try.func20, Try.ntmps20
    go_wp2
    go_ret
    exact ⟨rfl, rfl⟩
  · rw [Nat.min_eq_right (by omega)]
    clear hl hc
    go_enter Try.func20, Try.ntmps20
    go_wp2
    go_ret
    exact ⟨rfl, rfl⟩

theorem cut_calls (s : ByteArray) (n : Nat) (_hs : s.size ≤ 9223372036854775807) (w : World) :
    Calls Try.prog 53 #[.string s, .int .i64 (n : Int)] w fun e w' => e = .returned (.string (cutB s n)) ∧ w = w' := by
  by_cases h : n < s.size
  · have e1 : cutB s n = s.extract 0 n := by unfold cutB; rw [if_pos h]
    have HE := Aside0.mk e1
    clear e1
    go_enter Try.func53, Try.ntmps53
    go_wp2
    go_ret
    exact ⟨by rw [HE.out]; rfl, rfl⟩
  · have e1 : cutB s n = s := by unfold cutB; rw [if_neg h]
    have HE := Aside0.mk e1
    clear e1
    go_enter Try.func53, Try.ntmps53
    go_wp2
    go_ret
    exact ⟨by rw [HE.out]; rfl, rfl⟩

/-- A number's four bytes, the lowest first. -/
def fourL (n : Int) : List Int := [n % 256, (n / 256) % 256, (n / 65536) % 256, (n / 16777216) % 256]
/-- What four bytes are worth. -/
def fourV (l : List Int) : Int := if l.length < 4 then 0 else rd l 0 + 256 * rd l 1 + 65536 * rd l 2 + 16777216 * rd l 3

theorem four_calls (n : Int) (w : World) :
    Calls Try.prog 49 #[.int .u32 n] w fun e w' => ∃ v : Value, e = .returned v ∧ Kd.R (Kd.int .u8) 5 w' w.heap.size (fun _ => True) v (fourL n) ∧ Below w.heap.size w w' := by
  have HB := Aside0.mk (Below.refl w.heap.size w)
  go_enter Try.func49, Try.ntmps49
  go_wp2_with (first | ((with_reducible refine gate_dst (N := 14) rfl ?_); go_must (refine Kd.R_lit (Kd.int .u8) _ 5 ?hg (N := 14) ?hd (xs := ([n % 256, (n / 256) % 256, (n / 65536) % 256, (n / 16777216) % 256] : List Int)) (inner := [.int .u8 (n % 256), .int .u8 ((n / 256) % 256), .int .u8 ((n / 65536) % 256), .int .u8 ((n / 16777216) % 256)]) (ok := fun _ => True) (okp := fun _ => True) ?hr ?hp (fun _ hk => hk) trivial (Below.refl _ _) (Nat.le_refl _) (by simp) ?_; (case hd => rfl); (case hg => rfl); (case hr => first | (go_simp; done) | (go_simp; rfl)); (case hp => exact (Reps.one rfl (Reps.one rfl (Reps.one rfl (Reps.one rfl (Reps.none _ _)))))); intro v119 w2 ho3 hb hg_ hnew_; clear hg_ hnew_; have HO := Aside0.mk ho3; clear HB; have HB := Aside0.mk hb; clear ho3 hb)))
  go_ret
  exact ⟨v119, rfl, HO.out, HB.out⟩

theorem rfour_calls (n : Int) (w : World) :
    Calls Try.prog 52 #[.int .u32 n] w fun e w' => ∃ v : Value, e = .returned v ∧ Kd.R (Kd.int .u8) 5 w' w.heap.size (fun _ => True) v (fourL n) ∧ Below w.heap.size w w' := by
  have HB := Aside0.mk (Below.refl w.heap.size w)
  go_enter Try.func52, Try.ntmps52
  go_wp2_with (first | ((with_reducible refine gate_dst (N := 14) rfl ?_); go_must (refine Kd.R_lit (Kd.int .u8) _ 5 ?hg (N := 14) ?hd (xs := ([n % 256, (n / 256) % 256, (n / 65536) % 256, (n / 16777216) % 256] : List Int)) (inner := [.int .u8 (n % 256), .int .u8 ((n / 256) % 256), .int .u8 ((n / 65536) % 256), .int .u8 ((n / 16777216) % 256)]) (ok := fun _ => True) (okp := fun _ => True) ?hr ?hp (fun _ hk => hk) trivial (Below.refl _ _) (Nat.le_refl _) (by simp) ?_; (case hd => rfl); (case hg => rfl); (case hr => first | (go_simp; done) | (go_simp; rfl)); (case hp => exact (Reps.one rfl (Reps.one rfl (Reps.one rfl (Reps.one rfl (Reps.none _ _)))))); intro v119 w2 ho3 hb hg_ hnew_; clear hg_ hnew_; have HO := Aside0.mk ho3; clear HB; have HB := Aside0.mk hb; clear ho3 hb)))
  go_ret
  exact ⟨v119, rfl, HO.out, HB.out⟩

theorem or4 {a b c d : Int} (ha : 0 ≤ a ∧ a < 256) (hb : 0 ≤ b ∧ b < 256) (hc : 0 ≤ c ∧ c < 256) (hd : 0 ≤ d ∧ d < 256) :
    Go.bits .or .u32 (Go.bits .or .u32 (Go.bits .or .u32 (a % 4294967296) (((b % 4294967296) * 256) % 4294967296)) (((c % 4294967296) * 65536) % 4294967296)) (((d % 4294967296) * 16777216) % 4294967296) = a + 256 * b + 65536 * c + 16777216 * d := by
  have wr : ∀ n : Int, 0 ≤ n → n < 2 ^ 32 → IntKind.u32.wrap n = n := fun n h h' => by rw [IntKind.wrap_u32]; have : (2 : Int) ^ 32 = 4294967296 := by decide
                                                                                       omega
  have e1 : Go.bits .or .u32 (a % 4294967296) (((b % 4294967296) * 256) % 4294967296) = a + 256 * b := by
    rw [bits_or_comm, bits_join .u32 32 (by decide) wr 8 _ _ (by omega) (by omega) (by omega) (by omega) (by omega) (by omega)]; omega
  have e2 : Go.bits .or .u32 (a + 256 * b) (((c % 4294967296) * 65536) % 4294967296) = a + 256 * b + 65536 * c := by
    rw [bits_or_comm, bits_join .u32 32 (by decide) wr 16 _ _ (by omega) (by omega) (by omega) (by omega) (by omega) (by omega)]; omega
  have e3 : Go.bits .or .u32 (a + 256 * b + 65536 * c) (((d % 4294967296) * 16777216) % 4294967296) = a + 256 * b + 65536 * c + 16777216 * d := by
    rw [bits_or_comm, bits_join .u32 32 (by decide) wr 24 _ _ (by omega) (by omega) (by omega) (by omega) (by omega) (by omega)]; omega
  rw [e1, e2, e3]

theorem getfour_calls (A : Option Addr) (c : Nat) (l : List Int) (hby : Bys l) (w : World) (hr : Kd.C (Kd.int .u8) w A l.length l) :
    Calls Try.prog 74 #[.slice A l.length c] w fun e w' => e = .returned (.int .u32 (fourV l)) ∧ Drawn0 w w' := by
  by_cases h : (l.length : Int) < 4
  · have c2b0 : decide ((l.length : Int) < 4) = true := decide_eq_true h
    have c2b1 : decide (l.length < 4) = true := decide_eq_true (by omega)
    have HE := Aside0.mk (show fourV l = 0 by unfold fourV; rw [if_pos (by omega)])
    clear hr h hby
    go_enter Try.func74, Try.ntmps74
    go_wp2
    go_ret
    exact ⟨by rw [HE.out]; rfl, Drawn0.refl _⟩
  · have c2b0 : decide ((l.length : Int) < 4) = false := decide_eq_false h
    have c2b1 : decide (l.length < 4) = false := decide_eq_false (by omega)
    have HE := Aside0.mk (show fourV l = _ by unfold fourV; rw [if_neg (by omega), ← or4 (a := rd l 0) (b := rd l 1) (c := rd l 2) (d := rd l 3) (rd_bys hby (i := 0) (by omega)) (rd_bys hby (i := 1) (by omega)) (rd_bys hby (i := 2) (by omega)) (rd_bys hby (i := 3) (by omega))])
    obtain ⟨ad, rfl, hx0⟩ := Kd.at_int hr 0 (by omega) (by omega)
    obtain ⟨ad1, e1, hx1⟩ := Kd.at_int hr 1 (by omega) (by omega)
    obtain rfl : ad = ad1 := (by injection e1)
    obtain ⟨ad2, e2, hx2⟩ := Kd.at_int hr 2 (by omega) (by omega)
    obtain rfl : ad = ad2 := (by injection e2)
    obtain ⟨ad3, e3, hx3⟩ := Kd.at_int hr 3 (by omega) (by omega)
    obtain rfl : ad = ad3 := (by injection e3)
    clear e1 e2 e3 hr hby
    rw [show ((0 : Int)).toNat = 0 from rfl, Addr.add_zero'] at hx0
    simp only [show (1 : Int).toNat = 1 from rfl, show (2 : Int).toNat = 2 from rfl, show (3 : Int).toNat = 3 from rfl, Nat.reduceEqDiff, Go.Addr.add, ↓reduceIte] at hx1 hx2 hx3
    have g0 : decide (0 < l.length) = true := decide_eq_true (by omega)
    have g1 : decide (1 < l.length) = true := decide_eq_true (by omega)
    have g2 : decide (2 < l.length) = true := decide_eq_true (by omega)
    have g3 : decide (3 < l.length) = true := decide_eq_true (by omega)
    have q0 : (0 < l.length) = True := eq_true (by omega)
    have q1 : (1 < l.length) = True := eq_true (by omega)
    have q2 : (2 < l.length) = True := eq_true (by omega)
    have q3 : (3 < l.length) = True := eq_true (by omega)
    have r0 : ((0 : Int) < (l.length : Int)) = True := eq_true (by omega)
    have r1 : ((1 : Int) < (l.length : Int)) = True := eq_true (by omega)
    have r2 : ((2 : Int) < (l.length : Int)) = True := eq_true (by omega)
    have r3 : ((3 : Int) < (l.length : Int)) = True := eq_true (by omega)
    clear h
    go_enter Try.func74, Try.ntmps74
    go_wp2
    repeat (go_quiet (fail); try go_wp2)
    go_ret
    exact ⟨by rw [HE.out]; rfl, by repeat (first | exact Drawn0.refl _ | apply Drawn0.step)⟩
end Go.Proofs.Ytfojeegepfjbiaa.NmC
