/- What an edit is read from; contract of edit.list. -/
import Derived.Test.YtfojeegepfjbiaaProg
import Derived.Below
import Derived.Deep.Draws
import Derived.Deep.AppendLies
import Derived.Maps.AppendAt
import Derived.OwnWalk
import Derived.Laws.BytesArg
import Derived.Laws.MakeOwn
import Derived.Laws.OwnMore
import Derived.Deep.OwnRows
import Derived.Tactics
import Derived.Lib.ConvBytes
import Derived.Laws.Slices
import Derived.WalkKit
import Derived.KernelRfl
import Derived.RowKit3
import Derived.Deep.LoopGhost
import Derived.Deep.QuietTactic
import Derived.BigQuiet
import Derived.WideLaws
import Derived.Deep.DeepCutAuto
import Derived.Deep.CutBlock
import Derived.Deep.RegionHeld3
import Derived.Laws.Rows
import Derived.Lib.AppendStr
import Derived.ArgAppend
import Derived.Laws.IdiomCopy
import Derived.OrdersHeld
import Derived.Laws.BitsLemmas
import Derived.RowKit
import Derived.Deep.RegionWith
import Derived.WalkSpells
import Derived.Outline
import Derived.Test.YtfojeegepfjbiaaWWords
import Derived.Test.YtfojeegepfjbiaaWLast
import Derived.Test.YtfojeegepfjbiaaWMore
import Derived.Test.YtfojeegepfjbiaaWArr
import Derived.Test.YtfojeegepfjbiaaWTab
import Derived.Test.YtfojeegepfjbiaaWZeros
import Derived.Test.YtfojeegepfjbiaaWRepsOne
import Derived.Test.YtfojeegepfjbiaaEdH
namespace Go.Proofs.Ytfojeegepfjbiaa.EdI
open Go.RowKit Go.Proofs.YtfojeegepfjbiaaW.PrintWords Go.Proofs.YtfojeegepfjbiaaW.PrintLast Go.Proofs.YtfojeegepfjbiaaW.PrintMore Go.Proofs.Ytfojeegepfjbiaa.Mix Go.Proofs.Ytfojeegepfjbiaa.MixB Go.Proofs.Ytfojeegepfjbiaa.MixT Go.Proofs.Ytfojeegepfjbiaa.Nm Go.Proofs.Ytfojeegepfjbiaa.NmA Go.Proofs.Ytfojeegepfjbiaa.NmB Go.Proofs.Ytfojeegepfjbiaa.NmC Go.Proofs.Ytfojeegepfjbiaa.NmH Go.Proofs.Ytfojeegepfjbiaa.CrP Go.Proofs.Ytfojeegepfjbiaa.CrA Go.Proofs.Ytfojeegepfjbiaa.CrB Go.Proofs.Ytfojeegepfjbiaa.EdZ Go.Proofs.Ytfojeegepfjbiaa.EdA Go.Proofs.Ytfojeegepfjbiaa.EdB Go.Proofs.Ytfojeegepfjbiaa.EdC Go.Proofs.Ytfojeegepfjbiaa.EdD Go.Proofs.Ytfojeegepfjbiaa.EdE Go.Proofs.Ytfojeegepfjbiaa.EdF Go.Proofs.Ytfojeegepfjbiaa.EdG Go.Proofs.Ytfojeegepfjbiaa.EdH
set_option linter.unusedSimpArgs false
set_option linter.unusedVariables false
attribute [local go_sem] max2_int min2_int max_two min_two

abbrev St := List Int × Bool
/-- A number is read. -/
def numS (st : St) (most : Int) : Int × St := (numV st.1 st.2 most, stepR st.1 st.2 (numK st.1 most))
theorem num_bd {l : List Int} {bad : Bool} {most : Int} (h : Bys l) (h0 : 0 ≤ most) : 0 ≤ numV l bad most ∧ numV l bad most ≤ most := by
  have hg := getS_bd h
  unfold numV
  split
  · omega
  · rename_i hb
    unfold stepR numK at hb
    by_cases hq : (getS l).1 > most
    · rw [if_pos hq, if_pos (Or.inr rfl)] at hb
      exact absurd rfl hb
    · omega
theorem numS_bd {st st' : St} {most a : Int} (hs : numS st most = (a, st')) (h : Bys st.1) (h0 : 0 ≤ most) : 0 ≤ a ∧ a ≤ most := by
  unfold numS at hs
  injection hs with h1 _
  subst h1
  exact num_bd h h0
/-- A reader in memory. -/
def RdrS (w : World) (p : Nat) (st : St) : Prop := RdrAt w p st.1 st.2 ∧ Bys st.1
theorem numS_calls {w : World} {p : Nat} {st st' : St} {most a : Int} (h : RdrS w p st) (hs : numS st most = (a, st')) (h0 : 0 ≤ most) (hm : most < 9223372036854775808) :
    Calls Try.prog 75 #[.pointer (some ⟨p, 0, none⟩), .int .i64 most] w fun e w' => e = .returned (.int .i64 a) ∧ RdrS w' p st' ∧ w.grownBy w' (some p) := by
  have hb := bys_step h.2 st.2 (numK st.1 most)
  unfold numS at hs
  injection hs with h1 h2
  subst h1
  subst h2
  refine (num_calls h.1 h.2 most h0 hm).mono ?_
  rintro e w' ⟨h1, h2, h3⟩
  exact ⟨h1, ⟨h2, hb⟩, h3⟩
theorem rdr_low {w w' : World} {p n : Nat} {l : List Int} {bad : Bool} (h : RdrAt w p l bad) (hb : Below n w w') (hp : p < n) : RdrAt w' p l bad := by
  obtain ⟨A, c, h1, h2, h3, h4⟩ := h
  refine ⟨A, c, (hb.block p hp).trans h1, ⟨h2.1, h2.2.1, fun hq => ?_⟩, h3, h4⟩
  obtain ⟨ad, e, hc⟩ := h2.2.2 hq
  refine ⟨ad, e, fun j q hj => ?_⟩
  obtain ⟨c, k1, k2, k3⟩ := hc j q hj
  refine ⟨c, k1, k2, fun k v hv => ?_⟩
  rw [← k3 k v hv]
  have hlt := h4 ad e hq
  have hbk : (ad.add (j * (Kd.int .u8).sz + k)).block < n := by
    have : (ad.add (j * (Kd.int .u8).sz + k)).block = ad.block := by unfold Addr.add; split <;> rfl
    omega
  unfold World.cell?
  rw [hb.block _ hbk]
theorem rdrs_low {w w' : World} {p n : Nat} {st : St} (h : RdrS w p st) (hb : Below n w w') (hp : p < n) : RdrS w' p st := ⟨rdr_low h.1 hb hp, h.2⟩
theorem rdrs_lt {w : World} {p : Nat} {st : St} (h : RdrS w p st) : p < w.heap.size := by
  obtain ⟨⟨A, c, h1, _⟩, _⟩ := h
  exact blk_lt h1
theorem rdrs_below {w w' : World} {p : Nat} {st : St} (h : RdrS w p st) (hb : Below w.heap.size w w') : RdrS w' p st := rdrs_low h hb (rdrs_lt h)
theorem grown_below {w w1 w2 : World} {p : Nat} {n : Nat} (h : w.grownBy w1 (some p)) (hb : Below n w1 w2) (hn : w.heap.size ≤ n) : w.grownBy w2 (some p) :=
  ⟨hb.os.trans h.os, hb.tape.trans h.tape, hb.output.trans h.output, Nat.le_trans h.size hb.size, fun j hj hne => (hb.block j (by omega)).trans (h.block j hj hne)⟩
/-- Numbers of a list, from the reader. -/
def listF : Nat → St → List Int × St
  | 0, st => ([], st)
  | q + 1, st => ((numS st 1125899906842624).1 :: (listF q (numS st 1125899906842624).2).1, (listF q (numS st 1125899906842624).2).2)
def listS (st : St) : List Int × St := listF (numS st 60).1.toNat (numS st 60).2
theorem listF_ok : ∀ (q : Nat) (st : St), Bys st.1 → Bys (listF q st).2.1 ∧ (listF q st).1.length = q ∧ ∀ n ∈ (listF q st).1, 0 ≤ n ∧ n ≤ 1125899906842624 := by
  intro q
  induction q with
  | zero => intro st h; exact ⟨h, rfl, fun n hn => by simp [listF] at hn⟩
  | succ q ih =>
    intro st h
    have hb : Bys (numS st 1125899906842624).2.1 := bys_step h _ _
    obtain ⟨h1, h2, h3⟩ := ih _ hb
    refine ⟨h1, by simp only [listF, List.length_cons, h2], fun n hn => ?_⟩
    simp only [listF, List.mem_cons] at hn
    rcases hn with rfl | hn
    · exact num_bd h (by decide)
    · exact h3 n hn
set_option maxRecDepth 100000 in
set_option maxHeartbeats 1000000 in
theorem list_calls {w : World} {p : Nat} {st : St} (h : RdrS w p st) :
    Calls Try.prog 88 #[.pointer (some ⟨p, 0, none⟩)] w fun e w' => ∃ v, e = .returned v ∧ (Kd.int .i64).R 2 w' w.heap.size (fun _ => True) v (listS st).1 ∧ RdrS w' p (listS st).2 ∧ w.grownBy w' (some p) := by
  obtain ⟨n, st0, h0⟩ : ∃ a s, numS st 60 = (a, s) := ⟨_, _, rfl⟩
  have hn := numS_bd h0 h.2 (by decide)
  have hS : listS st = listF n.toNat st0 := by unfold listS; rw [h0]
  obtain ⟨m, rfl⟩ := Int.eq_ofNat_of_zero_le hn.1
  rw [Int.toNat_natCast] at hS
  have hc := numS_calls h h0 (by decide) (by decide)
  obtain ⟨X, hX⟩ : ∃ q, listS st = q := ⟨_, rfl⟩
  rw [hX] at hS ⊢
  have HX := Aside0.mk hS
  have HM : Aside0 (m ≤ 60) := ⟨by omega⟩
  have hps := rdrs_lt h
  have HPS := Aside0.mk hps
  obtain ⟨B, hB⟩ : ∃ q, w.heap.size = q := ⟨_, rfl⟩
  rw [hB] at HPS ⊢
  have HBE := Aside0.mk hB
  clear h hn hS h0 hX hps hB
  go_enter Try.func88, Try.ntmps88
  go_wp2_with fail
  refine hc.mono ?_
  rintro e_ w1 ⟨rfl, hr, hg⟩
  have HR1 := Aside0.mk hr
  have HG1 := Aside0.mk hg
  clear hr hg hc
  go_wp2_with fail
  go_loopg [3, 6] m (fun q v3 v6 w' => ∃ (i : Nat) (acc : List Int) (st : St), v6 = .int .i64 (i : Int) ∧ Aside0 (i + q = m ∧ acc.length = i ∧ X.1 = acc ++ (listF q st).1 ∧ X.2 = (listF q st).2) ∧ Aside0 ((Kd.int .i64).R 2 w' B (fun _ => True) v3 acc) ∧ Aside0 (RdrS w' p st) ∧ Aside0 (w.grownBy w' (some p)))
  case atStart => exact ⟨0, [], st0, rfl, ⟨by omega, rfl, by rw [HX.out]; rfl, by rw [HX.out]⟩, ⟨Kd.R_nil _ _ _ _ _⟩, HR1, HG1⟩
  case round =>
    clear HR1 HG1
    obtain ⟨i, acc, st, rfl, HI, HO, HR, HG⟩ := hrel
    have hix := HI.out
    by_cases hlt : i < m
    · obtain ⟨f, rfl⟩ : ∃ f, gk = f + 1 := ⟨gk - 1, by omega⟩
      have k0 : ((i : Int) < (m : Int)) = True := eq_true (by omega)
      have kw : IntKind.i64.wrap ((i : Int) + 1) = (i : Int) + 1 := by have := HM.out; rw [IntKind.wrap_i64]; omega
      obtain ⟨a, st2, h2⟩ : ∃ a s, numS st 1125899906842624 = (a, s) := ⟨_, _, rfl⟩
      have hc := numS_calls HR.out h2 (by decide) (by decide)
      have hl1 : (listF (f + 1) st).1 = a :: (listF f st2).1 := by simp only [listF, h2]
      have hl2 : (listF (f + 1) st).2 = (listF f st2).2 := by simp only [listF, h2]
      rw [hl1, hl2] at hix
      have HI2 := Aside0.mk hix
      clear hix h2 hl1 hl2
      go_wp2_with fail
      refine hc.mono ?_
      rintro e_ w2 ⟨rfl, hr, hg⟩
      have HR2 := Aside0.mk hr
      have HG2 := Aside0.mk (World.grownBy.trans HG.out hg)
      have HBS : Aside0 (B ≤ w2.heap.size) := ⟨by rw [← HBE.out]; exact HG2.out.size⟩
      have HO2 := Aside0.mk (Kd.R_grown (Kd.R_mono (Kd.R_bound HO.out) (ok' := fun k => B ≤ k) (fun k hk => hk.2.1)) hg (fun k hk e_ => by injection e_ with e_; have := HPS.out; omega))
      clear hr hg hc HR HG HO
      go_wp2_with ((with_reducible refine gate_builtin (b := .append) (xs := #[.tmp 8, .tmp 11]) rfl ?_); at_builtin; go_must (refine Kd.R_append (Kd.int .i64) (w0 := w2) B rfl (.tmp 8) (.tmp 11) 63 2 (.int .i64 0) 8 rfl Try.underlying63 info2 rfl (by decide) (by decide) u3 acc a [.int .i64 a] (fun k => B ≤ k) (fun _ => False) rfl rfl rfl (fun _ hk => hk.elim) (fun k hk => Nat.le_trans HBS.out hk) HO2.out (Below.refl _ _) HBS.out (by have := HI.out; have := HM.out; omega) ?_; intro v5 w5 ho hb hg hat; have HO5 := Aside0.mk (Kd.R_mono ho (ok' := fun _ => True) (fun _ _ => trivial)); have HG5 := Aside0.mk (grown_below HG2.out hb (Nat.le_of_eq HBE.out)); have HR5 := Aside0.mk (rdrs_low HR2.out hb HPS.out); clear ho hb hg hat))
      go_roundg f
      case measure => omega
      case rel => exact ⟨i + 1, acc ++ [a], st2, by simp, ⟨by have := HI.out; omega, by rw [List.length_append]; have := HI.out; simp; omega, by rw [HI2.out.2.2.1]; simp, HI2.out.2.2.2⟩, HO5, HR5, HG5⟩
    · have k0 : ((i : Int) < (m : Int)) = False := eq_false (by omega)
      obtain rfl : gk = 0 := by omega
      have hA : X.1 = acc := by rw [hix.2.2.1]; simp [listF]
      have hB : X.2 = st := hix.2.2.2
      have HA := Aside0.mk hA
      have HBB := Aside0.mk hB
      clear hix hlt hA hB
      go_wp2
      go_ret
      exact ⟨_, rfl, by rw [HA.out]; exact HO.out, by rw [HBB.out]; exact HR.out, HG.out⟩
end Go.Proofs.Ytfojeegepfjbiaa.EdI
