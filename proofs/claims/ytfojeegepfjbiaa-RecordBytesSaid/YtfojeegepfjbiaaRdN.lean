/- Records one behind the other are told; contract of begun. -/
import Derived.Test.YtfojeegepfjbiaaProg
import Derived.Below
import Derived.Deep.Draws
import Derived.Deep.AppendLies
import Derived.Maps.AppendAt
import Derived.OwnWalk
import Derived.Laws.BytesArg
import Derived.Laws.MakeOwn
import Derived.Laws.OwnMore
import Derived.Deep.OwnRows
import Derived.Tactics
import Derived.Lib.ConvBytes
import Derived.Laws.Slices
import Derived.WalkKit
import Derived.KernelRfl
import Derived.RowKit3
import Derived.Deep.LoopGhost
import Derived.Deep.QuietTactic
import Derived.BigQuiet
import Derived.WideLaws
import Derived.Deep.DeepCutAuto
import Derived.Deep.CutBlock
import Derived.Deep.RegionHeld3
import Derived.Laws.Rows
import Derived.Lib.AppendStr
import Derived.ArgAppend
import Derived.Laws.IdiomCopy
import Derived.OrdersHeld
import Derived.Laws.BitsLemmas
import Derived.RowKit
import Derived.Deep.RegionWith
import Derived.WalkSpells
import Derived.Outline
import Derived.Test.YtfojeegepfjbiaaWWords
import Derived.Test.YtfojeegepfjbiaaWLast
import Derived.Test.YtfojeegepfjbiaaWMore
import Derived.Test.YtfojeegepfjbiaaWArr
import Derived.Test.YtfojeegepfjbiaaWTab
import Derived.Test.YtfojeegepfjbiaaWZeros
import Derived.Test.YtfojeegepfjbiaaWRepsOne
import Derived.Test.YtfojeegepfjbiaaRdM
namespace Go.Proofs.Ytfojeegepfjbiaa.RdN
open Go.RowKit Go.Proofs.YtfojeegepfjbiaaW.PrintWords Go.Proofs.YtfojeegepfjbiaaW.PrintLast Go.Proofs.YtfojeegepfjbiaaW.PrintMore Go.Proofs.Ytfojeegepfjbiaa.Nm Go.Proofs.Ytfojeegepfjbiaa.NmA Go.Proofs.Ytfojeegepfjbiaa.NmB Go.Proofs.Ytfojeegepfjbiaa.NmC Go.Proofs.Ytfojeegepfjbiaa.NmD Go.Proofs.Ytfojeegepfjbiaa.NmE Go.Proofs.Ytfojeegepfjbiaa.NmI Go.Proofs.Ytfojeegepfjbiaa.CrP Go.Proofs.Ytfojeegepfjbiaa.CrA Go.Proofs.Ytfojeegepfjbiaa.CrB Go.Proofs.Ytfojeegepfjbiaa.CrC Go.Proofs.Ytfojeegepfjbiaa.CrD Go.Proofs.Ytfojeegepfjbiaa.CrE Go.Proofs.Ytfojeegepfjbiaa.CrG Go.Proofs.Ytfojeegepfjbiaa.CrH Go.Proofs.Ytfojeegepfjbiaa.CrI Go.Proofs.Ytfojeegepfjbiaa.Mix Go.Proofs.Ytfojeegepfjbiaa.RdA Go.Proofs.Ytfojeegepfjbiaa.RdB Go.Proofs.Ytfojeegepfjbiaa.RdC Go.Proofs.Ytfojeegepfjbiaa.RdD Go.Proofs.Ytfojeegepfjbiaa.RdE Go.Proofs.Ytfojeegepfjbiaa.RdF Go.Proofs.Ytfojeegepfjbiaa.RdJ Go.Proofs.Ytfojeegepfjbiaa.RdK Go.Proofs.Ytfojeegepfjbiaa.RdL Go.Proofs.Ytfojeegepfjbiaa.RdM
set_option linter.unusedSimpArgs false
set_option linter.unusedVariables false
attribute [local go_sem] max2_int min2_int max_two min_two

theorem rec_len {r : Rec} (h : chkT r = 0) : (recT r).length ≤ 4161 := by
  have hok := check_ok (show checkL r.1 r.2.1 r.2.2.1 r.2.2.2 = 0 from h)
  have h1 := enc_len 9 r.2.1.toNat (by omega)
  have h2 := enc_len 9 r.2.2.1.size (by omega)
  have h3 := enc_len 9 r.2.2.2.size (by omega)
  unfold recT recB
  split <;> simp only [List.length_append, bytesOf_length, List.length_singleton] <;> omega
theorem okt_recs {rs : List Rec} (h : ∀ r ∈ rs, chkT r = 0) : Okt (rs.map recT) := by
  intro t ht
  obtain ⟨r, hr, rfl⟩ := List.mem_map.1 ht
  exact ⟨bys_rec (h r hr), by have := rec_len (h r hr); omega⟩
theorem recs_all : ∀ (rs : List Rec), (∀ r ∈ rs, chkT r = 0) → ∀ (cut : Bool) (at_ : Nat), recsL (rs.map recT) cut at_ = (rs, at_ + (sealsL (rs.map recT)).length, cut) := by
  intro rs
  induction rs with
  | nil => intro _ cut at_; simp [recsL, sealsL]
  | cons r rs ih =>
    intro h cut at_
    rw [List.map_cons, recs_some (parse_rec (h r (by simp))), ih (fun q hq => h q (by simp [hq])), sealsL_cons, List.length_append, sealL_len]
    simp only [Nat.add_assoc]
theorem rscan_all {rs : List Rec} (h : ∀ r ∈ rs, chkT r = 0) : rscanL (sealsL (rs.map recT)) = (rs, (sealsL (rs.map recT)).length, true) := by
  unfold rscanL
  rw [scan_all (okt_recs h)]
  simp only []
  rw [recs_all rs h, Nat.zero_add]
theorem rscan_one {r : Rec} (h : chkT r = 0) : rscanL (sealL (recT r)) = ([r], (sealL (recT r)).length, true) := by
  have := rscan_all (rs := [r]) (fun q hq => by rw [List.mem_singleton.1 hq]; exact h)
  simpa [sealsL] using this
theorem take_rec {os : List Rec} {k : Nat} (hk : k < os.length) : os.take (k + 1) = os.take k ++ [os.getD k rec0] := by
  rw [List.take_add_one, List.getElem?_eq_getElem hk, List.getD_eq_getElem?_getD, List.getElem?_eq_getElem hk]
  rfl
theorem sealsL_snoc (ts : List (List Int)) (t : List Int) : sealsL (ts ++ [t]) = sealsL ts ++ sealL t := by simp [sealsL]
theorem seals_recs_len {rs : List Rec} (h : ∀ r ∈ rs, chkT r = 0) : (sealsL (rs.map recT)).length ≤ 4173 * rs.length := by
  induction rs with
  | nil => simp [sealsL]
  | cons r rs ih =>
    have h1 := rec_len (h r (by simp))
    have h2 := ih (fun q hq => h q (by simp [hq]))
    rw [List.map_cons, sealsL_cons, List.length_append, sealL_len, List.length_cons]
    omega
theorem good_size {l : List Rec} (h : l.length ≤ maxLen ∧ ∀ p ∈ l, (Lit.int .i64 p.1).wf = true ∧ (Lit.int .i64 p.2.1).wf = true ∧ p.2.2.1.size ≤ maxLen ∧ p.2.2.2.size ≤ maxLen) : ∀ r ∈ l, r.2.2.1.size ≤ 9223372036854775807 ∧ r.2.2.2.size ≤ 9223372036854775807 := by
  intro r hr
  have := (h.2 r hr).2.2
  unfold maxLen at this
  omega
def recX : Rec := (1, 3, ⟨#[107]⟩, ⟨#[118]⟩)
set_option maxRecDepth 100000 in
theorem begun_calls (w : World) : Calls Try.prog 31 #[] w fun e w' => e = .returned (.bool true) ∧ Below w.heap.size w w' := by
  have hck : chkT recX = 0 := by decide +kernel
  have HEN := Aside0.mk (encode_ok recX.1 recX.2.1 recX.2.2.1 recX.2.2.2 hck w)
  have hrs := rscan_one hck
  change rscanL (sealL (recB recX.1 recX.2.1 recX.2.2.1 recX.2.2.2)) = ([recX], (sealL (recB recX.1 recX.2.1 recX.2.2.1 recX.2.2.2)).length, true) at hrs
  have hby : Bys (sealL (recB recX.1 recX.2.1 recX.2.2.1 recX.2.2.2)) := bys_sealL (bys_rec hck)
  have hln : (sealL (recB recX.1 recX.2.1 recX.2.2.1 recX.2.2.2)).length ≤ 1000000 := by rw [sealL_len]; have := rec_len hck; unfold recT at this; omega
  have HCE := Aside0.mk (fun w => check_calls 0 0 ⟨#[]⟩ ⟨#[]⟩ w)
  have hce : checkL 0 0 ⟨#[]⟩ ⟨#[]⟩ = 1 := by decide +kernel
  rw [hce] at HCE
  generalize sealL (recB recX.1 recX.2.1 recX.2.2.1 recX.2.2.2) = b at *
  obtain ⟨nb, hnb⟩ : ∃ n, b.length = n := ⟨_, rfl⟩
  unfold recV at HEN HCE
  have HSC := Aside0.mk (fun A c w h1 h2 => recscan_calls A c b hby w h1 h2 (by omega))
  rw [hrs] at HSC
  rw [hnb] at HSC
  have HNB := Aside0.mk hnb
  have HB0 := Aside0.mk (Below.refl w.heap.size w)
  clear hck hrs hby hln hce hnb
  go_enter Try.func31, Try.ntmps31
  go_wp2_with fail
  refine HEN.out.mono ?_
  rintro e_ w1 ⟨v1, rfl, ho, hb⟩
  obtain ⟨A1, c1, rfl⟩ := Kd.R_slice ho
  obtain ⟨_, h1, h2⟩ := Kd.R_reads' ho
  rw [HNB.out] at h1 h2 ⊢
  have H12 := Aside0.mk (And.intro h2 h1)
  have HB1 := Aside0.mk hb
  clear ho hb h1 h2
  go_wp2_with fail
  refine (HSC.out A1 c1 w1 H12.out.1 H12.out.2).mono ?_
  rintro e_ w2 ⟨v2, rfl, ho, hb⟩
  obtain ⟨A2, c2, rfl⟩ := Kd.R_slice ho
  obtain ⟨ad, e1, p0, p1, p2, p3⟩ := rec_at (Kd.R_reads' ho).2.2 0 (by simp)
  subst e1
  have HB2 := Aside0.mk (below_step HB1.out hb)
  have q3 : w2.cell? ⟨ad.block, ad.off + 3, none⟩ = some (.string ⟨#[118]⟩) := by simpa [recX, Addr.add] using p3
  clear ho hb p0 p1 p2 p3
  go_wp2_with fail
  refine (HCE.out w2).mono ?_
  rintro e_ w3 ⟨rfl, hb⟩
  have HB3 := Aside0.mk (below_step HB2.out hb)
  clear hb
  go_wp2
  go_ret
  exact ⟨rfl, HB3.out⟩
end Go.Proofs.Ytfojeegepfjbiaa.RdN
