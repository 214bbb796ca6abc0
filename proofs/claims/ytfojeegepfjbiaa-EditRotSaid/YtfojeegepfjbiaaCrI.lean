/- Seals one behind the other are told; contract of told. -/
import Derived.Test.YtfojeegepfjbiaaProg
import Derived.Below
import Derived.Deep.Draws
import Derived.Deep.AppendLies
import Derived.Maps.AppendAt
import Derived.OwnWalk
import Derived.Laws.BytesArg
import Derived.Laws.MakeOwn
import Derived.Laws.OwnMore
import Derived.Deep.OwnRows
import Derived.Tactics
import Derived.Lib.ConvBytes
import Derived.Laws.Slices
import Derived.WalkKit
import Derived.KernelRfl
import Derived.RowKit3
import Derived.Deep.LoopGhost
import Derived.Deep.QuietTactic
import Derived.BigQuiet
import Derived.WideLaws
import Derived.Deep.DeepCutAuto
import Derived.Deep.CutBlock
import Derived.Deep.RegionHeld3
import Derived.Laws.Rows
import Derived.Lib.AppendStr
import Derived.ArgAppend
import Derived.Laws.IdiomCopy
import Derived.OrdersHeld
import Derived.Laws.BitsLemmas
import Derived.RowKit
import Derived.WalkSpells
import Derived.Outline
import Derived.Test.YtfojeegepfjbiaaWWords
import Derived.Test.YtfojeegepfjbiaaWLast
import Derived.Test.YtfojeegepfjbiaaWMore
import Derived.Test.YtfojeegepfjbiaaWArr
import Derived.Test.YtfojeegepfjbiaaWTab
import Derived.Test.YtfojeegepfjbiaaWZeros
import Derived.Test.YtfojeegepfjbiaaWRepsOne
import Derived.Test.YtfojeegepfjbiaaCrH
namespace Go.Proofs.Ytfojeegepfjbiaa.CrI
open Go.RowKit Go.Proofs.YtfojeegepfjbiaaW.PrintWords Go.Proofs.YtfojeegepfjbiaaW.PrintLast Go.Proofs.YtfojeegepfjbiaaW.PrintMore Go.Proofs.Ytfojeegepfjbiaa.Nm Go.Proofs.Ytfojeegepfjbiaa.NmA Go.Proofs.Ytfojeegepfjbiaa.NmB Go.Proofs.Ytfojeegepfjbiaa.NmC Go.Proofs.Ytfojeegepfjbiaa.NmH Go.Proofs.Ytfojeegepfjbiaa.CrP Go.Proofs.Ytfojeegepfjbiaa.CrA Go.Proofs.Ytfojeegepfjbiaa.CrB Go.Proofs.Ytfojeegepfjbiaa.CrC Go.Proofs.Ytfojeegepfjbiaa.CrD Go.Proofs.Ytfojeegepfjbiaa.CrE Go.Proofs.Ytfojeegepfjbiaa.CrF Go.Proofs.Ytfojeegepfjbiaa.CrG Go.Proofs.Ytfojeegepfjbiaa.CrH Go.Proofs.Ytfojeegepfjbiaa.Mix
set_option linter.unusedSimpArgs false
set_option linter.unusedVariables false
attribute [local go_sem] max2_int min2_int max_two min_two

/-- Texts' seals one behind the other. -/
def sealsL (ts : List (List Int)) : List Int := ts.flatMap sealL
def Okt (ts : List (List Int)) : Prop := ∀ t ∈ ts, Bys t ∧ t.length < 4294967296
theorem sealsL_cons (t : List Int) (ts : List (List Int)) : sealsL (t :: ts) = sealL t ++ sealsL ts := by simp [sealsL]
theorem sealsL_append (a b : List (List Int)) : sealsL (a ++ b) = sealsL a ++ sealsL b := by simp [sealsL]
theorem laidL_seals (ps : List (List Int)) : laidL ps = sealsL (ps.map (List.take 60)) := by
  unfold laidL sealsL
  rw [List.flatMap_map]
theorem scanF_succ (f : Nat) (l : List Int) (at_ : Nat) : scanF (f + 1) l at_ = if (firstL (l.drop at_)).2.1 = 0 then ([], at_, (firstL (l.drop at_)).2.2) else ((firstL (l.drop at_)).1 :: (scanF f l (at_ + (firstL (l.drop at_)).2.1)).1, (scanF f l (at_ + (firstL (l.drop at_)).2.1)).2) := rfl
theorem scan_seals (g : Nat) (rest : List Int) : ∀ (ts : List (List Int)) (pre : List Int), Okt ts → scanF (ts.length + g) (pre ++ (sealsL ts ++ rest)) pre.length = (ts ++ (scanF g (pre ++ (sealsL ts ++ rest)) (pre ++ sealsL ts).length).1, (scanF g (pre ++ (sealsL ts ++ rest)) (pre ++ sealsL ts).length).2) := by
  intro ts
  induction ts with
  | nil => intro pre _; simp [sealsL]
  | cons t ts ih =>
    intro pre hok
    have ht := hok t (by simp)
    have hd : (pre ++ (sealsL (t :: ts) ++ rest)).drop pre.length = sealL t ++ (sealsL ts ++ rest) := by rw [List.drop_left, sealsL_cons, List.append_assoc]
    have hf := first_seal ht.1 ht.2 (sealsL ts ++ rest)
    have e1 : pre ++ (sealsL (t :: ts) ++ rest) = (pre ++ sealL t) ++ (sealsL ts ++ rest) := by rw [sealsL_cons]; simp only [List.append_assoc]
    have e2 : (pre ++ sealL t).length = pre.length + (12 + t.length) := by rw [List.length_append, sealL_len]
    have e3 : pre ++ sealsL (t :: ts) = (pre ++ sealL t) ++ sealsL ts := by rw [sealsL_cons, List.append_assoc]
    have hi := ih (pre ++ sealL t) (fun x hx => hok x (by simp [hx]))
    rw [show (t :: ts).length + g = (ts.length + g) + 1 by rw [List.length_cons]; omega, scanF_succ, hd, hf, if_neg (by simp)]
    simp only []
    rw [← e2, e1, e3, hi]
    rfl
theorem seals_len {ts : List (List Int)} : ts.length * 12 ≤ (sealsL ts).length := by
  induction ts with
  | nil => simp
  | cons t ts ih => rw [sealsL_cons, List.length_append, sealL_len, List.length_cons]; omega
theorem scan_end {ts : List (List Int)} (h : Okt ts) {rest : List Int} (h0 : (firstL rest).2.1 = 0) : scanL (sealsL ts ++ rest) = (ts, (sealsL ts).length, (firstL rest).2.2) := by
  have hl : ts.length ≤ (sealsL ts ++ rest).length := by have := seals_len (ts := ts); rw [List.length_append]; omega
  obtain ⟨g, hg⟩ : ∃ g, (sealsL ts ++ rest).length + 1 = ts.length + (g + 1) := ⟨(sealsL ts ++ rest).length - ts.length, by omega⟩
  have hs := scan_seals (g + 1) rest ts [] h
  rw [List.nil_append, List.nil_append, List.length_nil] at hs
  unfold scanL
  rw [hg, hs, scanF_succ, List.drop_left, if_pos h0, List.append_nil]
theorem first_nil : firstL [] = ([], 0, true) := by decide +kernel
theorem scan_all {ts : List (List Int)} (h : Okt ts) : scanL (sealsL ts) = (ts, (sealsL ts).length, true) := by
  have := scan_end h (rest := []) (by rw [first_nil])
  rw [List.append_nil, first_nil] at this
  exact this
theorem bys_seals {ts : List (List Int)} (h : Okt ts) : Bys (sealsL ts) := by
  induction ts with
  | nil => intro z hz; simp [sealsL] at hz
  | cons t ts ih =>
    rw [sealsL_cons]
    exact bys_append (bys_sealL (h t (by simp)).1) (ih (fun q hq => h q (by simp [hq])))
set_option maxRecDepth 100000 in
theorem told_calls (A : Option Addr) (c : Nat) (A2 : Option Addr) (c2 : Nat) (ts : List (List Int)) (hok : Okt ts) (w : World) (hr : (Kd.int .u8).C w A (sealsL ts).length (sealsL ts)) (hc : (sealsL ts).length ≤ c) (hl : (sealsL ts).length ≤ 1000000000)
    (hr2 : (Kd.slice 5 (Kd.int .u8)).C w A2 ts.length ts) :
    Calls Try.prog 30 #[.slice A (sealsL ts).length c, .slice A2 ts.length c2] w fun e w' => e = .returned (.bool true) ∧ Below w.heap.size w w' := by
  have hts : ts.length ≤ 1000000000 := by have := seals_len (ts := ts); omega
  have hsc := scan_all hok
  have hby := bys_seals hok
  generalize sealsL ts = b at *
  have HSC := Aside0.mk (scan_calls A c b hby w hr hc hl)
  rw [hsc] at HSC
  have HR2 := Aside0.mk hr2
  have HSA := Aside0.mk (fun A1 c1 w h1 h2 => same_calls A1 c1 ts (fun p hp => (hok p hp).1) A2 c2 ts (fun p hp => (hok p hp).1) w h1 (by omega) h2 (by omega))
  clear hr hr2 hsc hby
  go_enter Try.func30, Try.ntmps30
  go_wp2_with fail
  refine HSC.out.mono ?_
  rintro e_ w1 ⟨v, rfl, ho, hb⟩
  obtain ⟨A1, c1, rfl⟩ := Kd.R_slice ho
  have HC1 := Aside0.mk (Kd.R_reads' ho).2.2
  have HB := Aside0.mk hb
  clear ho hb
  go_wp2_with fail
  refine (HSA.out A1 c1 w1 HC1.out (Kd.C_below HR2.out HB.out)).mono ?_
  rintro e_ w2 ⟨rfl, hb⟩
  simp only [decide_true]
  have HB2 := Aside0.mk (below_step HB.out hb)
  clear hb
  go_wp2
  go_ret
  exact ⟨by simp, HB2.out⟩
end Go.Proofs.Ytfojeegepfjbiaa.CrI
