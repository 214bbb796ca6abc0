/- Edits are read as they were written: plain law. -/
import Derived.Test.YtfojeegepfjbiaaProg
import Derived.Below
import Derived.Deep.Draws
import Derived.Deep.AppendLies
import Derived.Maps.AppendAt
import Derived.OwnWalk
import Derived.Laws.BytesArg
import Derived.Laws.MakeOwn
import Derived.Laws.OwnMore
import Derived.Deep.OwnRows
import Derived.Tactics
import Derived.Lib.ConvBytes
import Derived.Laws.Slices
import Derived.WalkKit
import Derived.KernelRfl
import Derived.RowKit3
import Derived.Deep.LoopGhost
import Derived.Deep.QuietTactic
import Derived.BigQuiet
import Derived.WideLaws
import Derived.Deep.DeepCutAuto
import Derived.Deep.CutBlock
import Derived.Deep.RegionHeld3
import Derived.Laws.Rows
import Derived.Lib.AppendStr
import Derived.ArgAppend
import Derived.Laws.IdiomCopy
import Derived.OrdersHeld
import Derived.Laws.BitsLemmas
import Derived.RowKit
import Derived.WalkSpells
import Derived.Outline
import Derived.Test.YtfojeegepfjbiaaWWords
import Derived.Test.YtfojeegepfjbiaaWLast
import Derived.Test.YtfojeegepfjbiaaWMore
import Derived.Test.YtfojeegepfjbiaaWArr
import Derived.Test.YtfojeegepfjbiaaWTab
import Derived.Test.YtfojeegepfjbiaaWZeros
import Derived.Test.YtfojeegepfjbiaaWRepsOne
import Derived.Test.YtfojeegepfjbiaaEdK
namespace Go.Proofs.Ytfojeegepfjbiaa.EdL
open Go.RowKit Go.Proofs.YtfojeegepfjbiaaW.PrintWords Go.Proofs.YtfojeegepfjbiaaW.PrintLast Go.Proofs.YtfojeegepfjbiaaW.PrintMore Go.Proofs.Ytfojeegepfjbiaa.Mix Go.Proofs.Ytfojeegepfjbiaa.MixB Go.Proofs.Ytfojeegepfjbiaa.MixT Go.Proofs.Ytfojeegepfjbiaa.Nm Go.Proofs.Ytfojeegepfjbiaa.NmA Go.Proofs.Ytfojeegepfjbiaa.NmB Go.Proofs.Ytfojeegepfjbiaa.NmC Go.Proofs.Ytfojeegepfjbiaa.NmH Go.Proofs.Ytfojeegepfjbiaa.CrP Go.Proofs.Ytfojeegepfjbiaa.CrA Go.Proofs.Ytfojeegepfjbiaa.CrB Go.Proofs.Ytfojeegepfjbiaa.CrC Go.Proofs.Ytfojeegepfjbiaa.CrD Go.Proofs.Ytfojeegepfjbiaa.CrE Go.Proofs.Ytfojeegepfjbiaa.EdZ Go.Proofs.Ytfojeegepfjbiaa.EdA Go.Proofs.Ytfojeegepfjbiaa.EdB Go.Proofs.Ytfojeegepfjbiaa.EdC Go.Proofs.Ytfojeegepfjbiaa.EdD Go.Proofs.Ytfojeegepfjbiaa.EdE Go.Proofs.Ytfojeegepfjbiaa.EdF Go.Proofs.Ytfojeegepfjbiaa.EdG Go.Proofs.Ytfojeegepfjbiaa.EdH Go.Proofs.Ytfojeegepfjbiaa.EdI Go.Proofs.Ytfojeegepfjbiaa.EdJ Go.Proofs.Ytfojeegepfjbiaa.EdK
set_option linter.unusedSimpArgs false
set_option linter.unusedVariables false
attribute [local go_sem] max2_int min2_int max_two min_two

theorem numS_enc {n most : Int} (h0 : 0 ≤ n) (hm : n ≤ most) (hq : most < 9223372036854775808) (t : List Int) : numS (enc n.toNat ++ t, false) most = (n, (t, false)) := by
  obtain ⟨k, rfl⟩ := Int.eq_ofNat_of_zero_le h0
  rw [Int.toNat_natCast]
  have h := num_enc (n := k) (by omega) (most := most) hm t
  unfold numS
  simp only [h.1, h.2]
theorem encs_cons (n : Int) (l : List Int) : encs (n :: l) = enc n.toNat ++ encs l := rfl
theorem encs_nil : encs [] = [] := rfl
theorem truth_eq (b : Bool) : (truthN b == 1) = b := by cases b <;> rfl
theorem segS_enc {s : SegT} (h : segOk s = true) (hg : 0 ≤ s.2.2.2.2.2 ∧ s.2.2.2.2.2 < 4294967296) (t : List Int) : segS (encs (segN s) ++ t, false) = (s, (t, false)) := by
  obtain ⟨n, b, g, m, z, u⟩ := s
  rw [seg_iff] at h
  dsimp only at h hg
  have e : encs (segN (n, b, g, m, z, u)) ++ t = enc n.toNat ++ (enc (truthN b).toNat ++ (enc g.toNat ++ (enc m.toNat ++ (enc z.toNat ++ (enc u.toNat ++ t))))) := by
    simp only [segN, encs_cons, encs_nil, List.append_assoc, List.nil_append]
  have hb : 0 ≤ truthN b ∧ truthN b ≤ 1 := by unfold truthN; split <;> omega
  rw [e, segS_eq (numS_enc (by omega) (by omega) (by decide) _) (numS_enc hb.1 hb.2 (by decide) _) (numS_enc (by omega) (by omega) (by decide) _) (numS_enc (by omega) (by omega) (by decide) _) (numS_enc (by omega) (by omega) (by decide) _) (numS_enc (by omega) (by omega) (by decide) _), truth_eq]
theorem segsF_enc : ∀ (ss : List SegT), (∀ s ∈ ss, segOk s = true ∧ 0 ≤ s.2.2.2.2.2 ∧ s.2.2.2.2.2 < 4294967296) → ∀ t, segsF ss.length (encs (ss.flatMap segN) ++ t, false) = (ss, (t, false)) := by
  intro ss
  induction ss with
  | nil => intro _ t; rfl
  | cons s ss ih =>
    intro h t
    have hs := h s (by simp)
    rw [List.flatMap_cons, encs_app, List.append_assoc, List.length_cons, segsF_eq (segS_enc hs.1 hs.2 _), ih (fun q hq => h q (by simp [hq]))]
theorem listF_enc : ∀ (xs : List Int), (∀ n ∈ xs, 0 ≤ n ∧ n ≤ 1125899906842624) → ∀ t, listF xs.length (encs xs ++ t, false) = (xs, (t, false)) := by
  intro xs
  induction xs with
  | nil => intro _ t; rfl
  | cons n xs ih =>
    intro h t
    have hn := h n (by simp)
    have h1 := numS_enc hn.1 hn.2 (by decide) (encs xs ++ t)
    rw [encs_cons, List.append_assoc, List.length_cons]
    simp only [listF, h1, ih (fun q hq => h q (by simp [hq]))]
theorem listS_enc {xs : List Int} (h : ∀ n ∈ xs, 0 ≤ n ∧ n ≤ 1125899906842624) (hl : xs.length ≤ 60) (t : List Int) : listS (enc xs.length ++ (encs xs ++ t), false) = (xs, (t, false)) := by
  have h1 := numS_enc (n := (xs.length : Int)) (most := 60) (by omega) (by omega) (by decide) (encs xs ++ t)
  rw [Int.toNat_natCast] at h1
  unfold listS
  simp only [h1, Int.toNat_natCast]
  exact listF_enc xs h t
theorem nzF_enc : ∀ (ns zs : List Int), zs.length = ns.length → (∀ n ∈ ns, 0 ≤ n ∧ n ≤ 1125899906842624) → (∀ n ∈ zs, 0 ≤ n ∧ n ≤ 4194304) → ∀ t, nzF ns.length (encs (zipN ns zs) ++ t, false) = ((ns, zs), (t, false)) := by
  intro ns
  induction ns with
  | nil => intro zs hl _ _ t; have : zs = [] := List.eq_nil_of_length_eq_zero hl; subst this; rfl
  | cons n ns ih =>
    intro zs hl hn hz t
    cases zs with
    | nil => simp at hl
    | cons z zs =>
      have e : encs (zipN (n :: ns) (z :: zs)) ++ t = enc n.toNat ++ (enc z.toNat ++ (encs (zipN ns zs) ++ t)) := by
        have : zipN (n :: ns) (z :: zs) = n :: z :: zipN ns zs := rfl
        rw [this, encs_cons, encs_cons, List.append_assoc, List.append_assoc]
      have h1 := hn n (by simp)
      have h2 := hz z (by simp)
      rw [e, List.length_cons, nzF_eq (numS_enc h1.1 h1.2 (by decide) _) (numS_enc h2.1 h2.2 (by decide) _), ih zs (by simpa using hl) (fun q hq => hn q (by simp [hq])) (fun q hq => hz q (by simp [hq]))]
theorem parS_enc {p : ParT} (h : parOk p = true) (hg : 0 ≤ p.2.2.2.2 ∧ p.2.2.2.2 < 4294967296) (t : List Int) : parS (encs (parN p) ++ t, false) = (p, (t, false)) := by
  have hz := par_sizes h
  rw [par_iff] at h
  obtain ⟨g, ns, zs, z, u⟩ := p
  dsimp only at h hg hz
  have e : encs (parN (g, ns, zs, z, u)) ++ t = enc g.toNat ++ (enc ((ns.length : Nat) : Int).toNat ++ (encs (zipN ns zs) ++ (enc z.toNat ++ (enc u.toNat ++ t)))) := by
    simp only [parN, encs_app, encs_cons, encs_nil, List.append_assoc, List.nil_append]
  rw [e]
  exact parS_eq (numS_enc (by omega) (by omega) (by decide) _) (numS_enc (n := ((ns.length : Nat) : Int)) (by omega) (by omega) (by decide) _) (by rw [Int.toNat_natCast]; exact nzF_enc ns zs h.2.1 (fun n hn => by have := h.2.2.1 n hn; omega) hz _) (numS_enc (by omega) (by omega) (by decide) _) (numS_enc (by omega) (by omega) (by decide) _)
theorem parsF_enc : ∀ (ss : List ParT), (∀ s ∈ ss, parOk s = true ∧ 0 ≤ s.2.2.2.2 ∧ s.2.2.2.2 < 4294967296) → ∀ t, parsF ss.length (encs (ss.flatMap parN) ++ t, false) = (ss, (t, false)) := by
  intro ss
  induction ss with
  | nil => intro _ t; rfl
  | cons s ss ih =>
    intro h t
    have hs := h s (by simp)
    rw [List.flatMap_cons, encs_app, List.append_assoc, List.length_cons, parsF_eq (parS_enc hs.1 hs.2 _), ih (fun q hq => h q (by simp [hq]))]
theorem raw_enc {e : EdT} (h : edOk e = true) (hg : edGood e) : rawE (textL e, false) = (e, ([], false)) := by
  rw [ed_iff] at h
  obtain ⟨h1, h2, h3, h4, h5, h6⟩ := h
  obtain ⟨nx, sq, ads, dls, prs, drs⟩ := e
  dsimp only at h1 h2 h3 h4 h5 h6
  have e : textL (nx, sq, ads, dls, prs, drs) = enc nx.toNat ++ (enc sq.toNat ++ (enc ads.length ++ (encs (ads.flatMap segN) ++ (enc dls.length ++ (encs dls ++ (enc prs.length ++ (encs (prs.flatMap parN) ++ (enc drs.length ++ (encs drs ++ []))))))))) := by
    simp only [textL, edN, encs_app, encs_cons, encs_nil, List.append_assoc, List.nil_append, List.append_nil, Int.toNat_natCast]
  have a1 := fun t => numS_enc (n := nx) (most := 1125899906842624) (by omega) (by omega) (by decide) t
  have a2 := fun t => numS_enc (n := sq) (most := 1125899906842624) (by omega) (by omega) (by decide) t
  have a3 := fun t => numS_enc (n := (ads.length : Int)) (most := 60) (by omega) (by omega) (by decide) t
  have a4 := fun t => segsF_enc ads (fun s hs => ⟨h5 s hs, hg.1 s hs⟩) t
  have a5 := fun t => listS_enc (xs := dls) (fun n hn => by have := h3 n hn; omega) (by omega) t
  have a6 := fun t => numS_enc (n := (prs.length : Int)) (most := 60) (by omega) (by omega) (by decide) t
  have a7 := fun t => parsF_enc prs (fun s hs => ⟨h6 s hs, hg.2 s hs⟩) t
  have a8 := fun t => listS_enc (xs := drs) (fun n hn => by have := h4 n hn; omega) (by omega) t
  simp only [Int.toNat_natCast] at a3 a6
  rw [e]
  simp only [rawE, a1, a2, a3, Int.toNat_natCast, a4, a5, a6, a7, a8]
theorem dec_enc {e : EdT} (h : edOk e = true) (hg : edGood e) : decE (textL e) = (e, true) := by
  unfold decE
  rw [raw_enc h hg]
  simp [h]
theorem dec_sound {b : List Int} (hby : Bys b) (h : (decE b).2 = true) : edOk (decE b).1 = true ∧ edGood (decE b).1 ∧ textL (decE b).1 = b := by
  unfold decE at h ⊢
  simp only [Bool.and_eq_true, decide_eq_true_eq] at h
  exact ⟨h.2.1, raw_good hby, h.2.2⟩
/-- An edit, if bytes are one. -/
def parseE (b : List Int) : Option EdT := if (decE b).2 = true then some (decE b).1 else none
theorem parseE_enc {e : EdT} (h : edOk e = true) (hg : edGood e) : parseE (textL e) = some e := by
  unfold parseE
  rw [dec_enc h hg]
  rfl
theorem parseE_some {b : List Int} (hby : Bys b) {e : EdT} (h : parseE b = some e) : edOk e = true ∧ edGood e ∧ textL e = b := by
  unfold parseE at h
  split at h
  · rename_i h2
    obtain rfl : (decE b).1 = e := by injection h
    exact dec_sound hby h2
  · exact absurd h (by simp)
/-- What was sealed, parsed as far as it goes. -/
def parsL {α : Type} (f : List Int → Option α) : List (List Int) → Bool → Nat → List α × Nat × Bool
  | [], cut, at_ => ([], at_, cut)
  | t :: ts, cut, at_ => match f t with
    | none => ([], at_, false)
    | some r => (r :: (parsL f ts cut (at_ + (12 + t.length))).1, (parsL f ts cut (at_ + (12 + t.length))).2)
theorem pars_none {α : Type} {f : List Int → Option α} {t : List Int} (h : f t = none) (ts : List (List Int)) (cut : Bool) (at_ : Nat) : parsL f (t :: ts) cut at_ = ([], at_, false) := by
  rw [parsL, h]
theorem pars_some {α : Type} {f : List Int → Option α} {t : List Int} {r : α} (h : f t = some r) (ts : List (List Int)) (cut : Bool) (at_ : Nat) : parsL f (t :: ts) cut at_ = (r :: (parsL f ts cut (at_ + (12 + t.length))).1, (parsL f ts cut (at_ + (12 + t.length))).2) := by
  rw [parsL, h]
theorem pars_nil {α : Type} {f : List Int → Option α} (cut : Bool) (at_ : Nat) : parsL f [] cut at_ = ([], at_, cut) := rfl
/-- Edits out of bytes. -/
def escanL (l : List Int) : List EdT × Nat × Bool := parsL parseE (scanL l).1 (scanL l).2.2 0
end Go.Proofs.Ytfojeegepfjbiaa.EdL
