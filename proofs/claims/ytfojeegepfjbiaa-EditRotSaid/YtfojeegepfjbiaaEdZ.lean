/- The reader; contracts of step, Num, Done, bytes.Equal; what a number is read from. -/
import Derived.Test.YtfojeegepfjbiaaProg
import Derived.Below
import Derived.Deep.Draws
import Derived.Deep.AppendLies
import Derived.Maps.AppendAt
import Derived.OwnWalk
import Derived.Laws.BytesArg
import Derived.Laws.MakeOwn
import Derived.Laws.OwnMore
import Derived.Deep.OwnRows
import Derived.Tactics
import Derived.Lib.ConvBytes
import Derived.Laws.Slices
import Derived.WalkKit
import Derived.KernelRfl
import Derived.RowKit3
import Derived.Deep.LoopGhost
import Derived.Deep.QuietTactic
import Derived.BigQuiet
import Derived.WideLaws
import Derived.Deep.DeepCutAuto
import Derived.Deep.CutBlock
import Derived.Deep.RegionHeld3
import Derived.Laws.Rows
import Derived.Lib.AppendStr
import Derived.ArgAppend
import Derived.Laws.IdiomCopy
import Derived.OrdersHeld
import Derived.Laws.BitsLemmas
import Derived.RowKit
import Derived.Deep.RegionWith
import Derived.Laws.Strings
import Derived.WalkSpells
import Derived.Outline
import Derived.Test.YtfojeegepfjbiaaWWords
import Derived.Test.YtfojeegepfjbiaaWLast
import Derived.Test.YtfojeegepfjbiaaWMore
import Derived.Test.YtfojeegepfjbiaaWArr
import Derived.Test.YtfojeegepfjbiaaWTab
import Derived.Test.YtfojeegepfjbiaaWZeros
import Derived.Test.YtfojeegepfjbiaaWRepsOne
import Derived.Test.YtfojeegepfjbiaaCrI
namespace Go.Proofs.Ytfojeegepfjbiaa.EdZ
open Go.RowKit Go.Proofs.YtfojeegepfjbiaaW.PrintWords Go.Proofs.YtfojeegepfjbiaaW.PrintLast Go.Proofs.YtfojeegepfjbiaaW.PrintMore Go.Proofs.Ytfojeegepfjbiaa.Nm Go.Proofs.Ytfojeegepfjbiaa.NmA Go.Proofs.Ytfojeegepfjbiaa.NmB Go.Proofs.Ytfojeegepfjbiaa.NmC Go.Proofs.Ytfojeegepfjbiaa.NmH Go.Proofs.Ytfojeegepfjbiaa.CrP Go.Proofs.Ytfojeegepfjbiaa.CrA Go.Proofs.Ytfojeegepfjbiaa.CrB Go.Proofs.Ytfojeegepfjbiaa.CrC Go.Proofs.Ytfojeegepfjbiaa.CrD Go.Proofs.Ytfojeegepfjbiaa.CrE Go.Proofs.Ytfojeegepfjbiaa.CrG Go.Proofs.Ytfojeegepfjbiaa.CrH Go.Proofs.Ytfojeegepfjbiaa.Mix
set_option linter.unusedSimpArgs false
set_option linter.unusedVariables false
attribute [local go_sem] max2_int min2_int max_two min_two

theorem enc_split (d : Nat) : ∀ n, n < 128 ^ (d + 1) → ∃ a x, enc n = a ++ [x] ∧ (∀ c ∈ a, c > 127 ∧ c < 256) ∧ 0 ≤ x ∧ x < 128 ∧ a.length ≤ d := by
  induction d with
  | zero => intro n h; exact ⟨[], n, by rw [enc_small (by simpa using h)]; rfl, by simp, by omega, by simp at h; omega, by simp⟩
  | succ d ih =>
    intro n h
    by_cases hs : n < 128
    · exact ⟨[], n, by rw [enc_small hs]; rfl, by simp, by omega, by omega, by simp⟩
    · obtain ⟨a, x, e, ha, hx⟩ := ih (n / 128) (by rw [Nat.div_lt_iff_lt_mul (by decide)]; rwa [Nat.pow_succ] at h)
      refine ⟨((n % 128 + 128 : Nat) : Int) :: a, x, by rw [enc_large hs, e]; rfl, ?_, hx.1, hx.2.1, by simp; omega⟩
      intro c hc; simp only [List.mem_cons] at hc
      rcases hc with rfl | hc
      · omega
      · exact ha c hc
theorem val_enc (d : Nat) : ∀ n, n < 128 ^ (d + 1) → val (enc n) = n := by
  induction d with
  | zero => intro n h; rw [enc_small (by simpa using h)]; simp [val] at h ⊢; omega
  | succ d ih =>
    intro n h
    by_cases hs : n < 128
    · rw [enc_small hs]; simp [val]; omega
    · rw [enc_large hs]
      simp only [val]
      rw [ih (n / 128) (by rw [Nat.div_lt_iff_lt_mul (by decide)]; rwa [Nat.pow_succ] at h)]
      omega
/-- The last byte is no nought, but of nought itself. -/
theorem enc_last (d : Nat) : ∀ n, n < 128 ^ (d + 1) → ∀ a x, enc n = a ++ [x] → 0 < a.length → x ≠ 0 := by
  induction d with
  | zero =>
    intro n h a x e hp
    rw [enc_small (by simpa using h)] at e
    cases a with
    | nil => simp at hp
    | cons y a => simp at e
  | succ d ih =>
    intro n h a x e hp
    by_cases hs : n < 128
    · rw [enc_small hs] at e
      cases a with
      | nil => simp at hp
      | cons y a => simp at e
    · rw [enc_large hs] at e
      cases a with
      | nil => simp at hp
      | cons y a =>
        simp only [List.cons_append, List.cons.injEq] at e
        by_cases ha : 0 < a.length
        · exact ih (n / 128) (by rw [Nat.div_lt_iff_lt_mul (by decide)]; rwa [Nat.pow_succ] at h) a x e.2 ha
        · have : a = [] := by cases a with
            | nil => rfl
            | cons _ _ => simp at ha
          subst this
          by_cases hs2 : n / 128 < 128
          · rw [enc_small hs2] at e
            have := e.2
            simp at this
            omega
          · rw [enc_large hs2] at e
            have := e.2
            have hp := enc_pos (n / 128 / 128)
            simp at this
            rw [this.2] at hp
            simp at hp
theorem getS_enc {n : Nat} (hn : n < 18446744073709551616) (t : List Int) : getS (enc n ++ t) = ((n : Int), ((enc n).length : Int)) := by
  have hn2 : n < 128 ^ (9 + 1) := Nat.lt_of_lt_of_le hn (by decide)
  obtain ⟨a, x, e, ha, hx0, hx1, hal⟩ := enc_split 9 n hn2
  have hv := val_enc 9 n hn2
  have hlast := enc_last 9 n hn2 a x e
  rw [e, List.append_assoc, List.singleton_append, getS_at a t x (fun c hc => (ha c hc).1) (by omega) hal]
  rw [e] at hv
  rw [if_neg, hv]
  · simp
  · rintro (⟨h1, h2⟩ | ⟨h1, h2⟩)
    · exact hlast h1 h2
    · rw [val_append, h1] at hv
      have hb := val_bd a
      have h63 : (128 : Int) ^ 9 = 9223372036854775808 := by decide
      simp only [val] at hv
      omega
def Blk (w : World) (g : Nat) (cs : Array Value) (t : TypeId) : Prop := w.heap[g]? = some (.cells cs t (0, 0))
/-- A reader in memory: what is left, and whether something did not go. -/
def RdrAt (w : World) (p : Nat) (l : List Int) (bad : Bool) : Prop :=
  ∃ A c, Blk w p #[.slice A l.length c, .bool bad] 106 ∧ (Kd.int .u8).C w A l.length l ∧ l.length ≤ c ∧ ∀ ad, A = some ad → 0 < l.length → ad.block < p
theorem C_set {w : World} {p i : Nat} {u : Value} {A : Option Addr} {n : Nat} {l : List Int} (h : (Kd.int .u8).C w A n l) (hne : ∀ ad, A = some ad → 0 < n → ad.block ≠ p) : (Kd.int .u8).C (w.setCell ⟨p, i, none⟩ u) A n l := by
  refine ⟨h.1, h.2.1, fun hp => ?_⟩
  obtain ⟨ad, e, hc⟩ := h.2.2 hp
  refine ⟨ad, e, fun j q hq => ?_⟩
  obtain ⟨c, h1, h2, h3⟩ := hc j q hq
  refine ⟨c, h1, h2, fun k v hv => ?_⟩
  rw [← h3 k v hv]
  have hb : (ad.add (j * (Kd.int .u8).sz + k)).block ≠ p := by
    unfold Addr.add
    split
    · exact hne ad e hp
    · exact hne ad e hp
  unfold World.cell?
  rw [Below.heap_setCell w ⟨p, i, none⟩ u _ hb]
theorem C_grown {w w' : World} {p : Nat} {A : Option Addr} {n : Nat} {l : List Int} (h : (Kd.int .u8).C w A n l) (hne : ∀ ad, A = some ad → 0 < n → ad.block ≠ p) (hg : w.grownBy w' (some p)) : (Kd.int .u8).C w' A n l := by
  refine ⟨h.1, h.2.1, fun hp => ?_⟩
  obtain ⟨ad, e, hc⟩ := h.2.2 hp
  refine ⟨ad, e, fun j q hq => ?_⟩
  obtain ⟨c, h1, h2, h3⟩ := hc j q hq
  refine ⟨c, h1, h2, fun k v hv => ?_⟩
  have h4 := h3 k v hv
  have hb : (ad.add (j * (Kd.int .u8).sz + k)).block ≠ p := by
    unfold Addr.add
    split
    · exact hne ad e hp
    · exact hne ad e hp
  rw [← h4]
  unfold World.cell?
  rw [hg.block _ (World.block_lt_of_cell? w _ h4) (by simpa using hb)]
theorem grown_set {w : World} {p i : Nat} {u : Value} : w.grownBy (w.setCell ⟨p, i, none⟩ u) (some p) := by
  refine ⟨rfl, rfl, rfl, ?_, fun j hj hne => Below.heap_setCell w ⟨p, i, none⟩ u j (by simpa using hne)⟩
  show w.heap.size ≤ (w.setCell ⟨p, i, none⟩ u).heap.size
  simp [World.setCell]
theorem from_blk (A : Option Addr) (c : Nat) (l : List Int) (m : Nat) (hm : m ≤ l.length) (hc : l.length ≤ c) : ∃ A' : Option Addr,
    (∀ W : World, (Instr.slice 22 (.slice A l.length c) (some (.int .i64 (m : Int))) none none).run Try.prog W = .ok (.slice A' (l.drop m).length (c - m)) W) ∧
    (∀ w : World, Kd.C (Kd.int .u8) w A l.length l → Kd.C (Kd.int .u8) w A' (l.drop m).length (l.drop m)) ∧ ∀ ad, A' = some ad → ∃ ad0, A = some ad0 ∧ ad.block = ad0.block := by
  obtain ⟨i05, hi05, _, hsz5, _⟩ := info_parts info5
  refine ⟨if c = m then A else A.map (·.add (m * 1)), fun W => ?_, fun w h => ?_, fun ad e => ?_⟩
  · have h := cut_from (P := Try.prog) 22 5 .i64 Try.underlying22 hi05 1 hsz5 A l.length c (m : Int) (by omega) (by omega) W
    rw [Int.toNat_natCast] at h
    rw [List.length_drop]
    exact h
  · exact Kd.C_drop (k := Kd.int .u8) h hm hc
  · split at e
    · exact ⟨ad, e, rfl⟩
    · obtain ⟨ad0, e0, e1⟩ := Option.map_eq_some_iff.1 e
      refine ⟨ad0, e0, ?_⟩
      rw [← e1]
      unfold Addr.add
      split <;> rfl
/-- One step on. -/
def stepR (l : List Int) (bad : Bool) (n : Nat) : List Int × Bool := if bad = true ∨ n = 0 then ([], true) else (l.drop n, false)
set_option maxRecDepth 100000 in
theorem step_calls {w : World} {p : Nat} {l : List Int} {bad : Bool} (h : RdrAt w p l bad) (n : Nat) (hn : n ≤ l.length) :
    Calls Try.prog 90 #[.pointer (some ⟨p, 0, none⟩), .int .i64 (n : Int)] w fun e w' => e = .returned (.tuple #[]) ∧ RdrAt w' p (stepR l bad n).1 (stepR l bad n).2 ∧ w.grownBy w' (some p) := by
  obtain ⟨A, c, hb, hC, hle, hne⟩ := h
  have c0 : w.cell? ⟨p, 0, none⟩ = some (.slice A l.length c) := blk_cell hb 0
  have c1 : w.cell? ⟨p, 1, none⟩ = some (.bool bad) := blk_cell hb 1
  have f1 := blk_frozen hb 1
  by_cases hbad : bad = true ∨ n = 0
  · have HS : Aside0 (stepR l bad n = ([], true)) := ⟨if_pos hbad⟩
    obtain ⟨w1, hw1⟩ : ∃ w1, w.setCell ⟨p, 1, none⟩ (.bool true) = w1 := ⟨_, rfl⟩
    have hb1 : Blk w1 p #[.slice A l.length c, .bool true] 106 := by rw [← hw1]; exact blk_set hb 1 _
    have d1 : w1.cell? ⟨p, 1, none⟩ = some (.bool true) := blk_cell hb1 1
    have d0 : w1.cell? ⟨p, 0, none⟩ = some (.slice A l.length c) := blk_cell hb1 0
    have g0 := blk_frozen hb1 0
    have HB1 := Aside0.mk hb1
    have HG : Aside0 (w.grownBy (w1.setCell ⟨p, 0, none⟩ (.slice none 0 0)) (some p)) := ⟨World.grownBy.trans (by rw [← hw1]; exact grown_set) grown_set⟩
    have HF : Aside0 (RdrAt (w1.setCell ⟨p, 0, none⟩ (.slice none 0 0)) p [] true) := ⟨⟨none, 0, blk_set hb1 0 _, ⟨rfl, by simp, fun hp => absurd hp (Nat.lt_irrefl 0)⟩, Nat.le_refl _, fun ad e => by cases e⟩⟩
    clear hb hC hle hne hb1
    cases bad with
    | true =>
      clear hbad
      go_enter Try.func90, Try.ntmps90
      go_wp2
      (try simp only [Exit.inBlock, Exit.then])
      refine bodyPost_ret (results_none rfl _ _ _) rfl ?_
      exact ⟨rfl, by rw [HS.out]; exact HF.out, HG.out⟩
    | false =>
      have hn0 : n = 0 := by simpa using hbad
      subst hn0
      clear hbad
      go_enter Try.func90, Try.ntmps90
      go_wp2
      (try simp only [Exit.inBlock, Exit.then])
      refine bodyPost_ret (results_none rfl _ _ _) rfl ?_
      exact ⟨rfl, by rw [HS.out]; exact HF.out, HG.out⟩
  · have HS : Aside0 (stepR l bad n = (l.drop n, false)) := ⟨if_neg hbad⟩
    have hbf : bad = false := by cases bad <;> simp_all
    subst hbf
    have b0 : ((n : Int) == 0) = false := beq_eq_false_iff_ne.2 (by simp at hbad; omega)
    obtain ⟨w1, hw1⟩ : ∃ w1, w.setCell ⟨p, 1, none⟩ (.bool false) = w1 := ⟨_, rfl⟩
    have hb1 : Blk w1 p #[.slice A l.length c, .bool false] 106 := by rw [← hw1]; exact blk_set hb 1 _
    have d1 : w1.cell? ⟨p, 1, none⟩ = some (.bool false) := blk_cell hb1 1
    have d0 : w1.cell? ⟨p, 0, none⟩ = some (.slice A l.length c) := blk_cell hb1 0
    have g0 := blk_frozen hb1 0
    obtain ⟨A', hs, hc', hblk⟩ := from_blk A c l n hn hle
    have hne' : ∀ ad, A' = some ad → 0 < (l.drop n).length → ad.block < p := fun ad e hp => by
      obtain ⟨ad0, e0, hb0⟩ := hblk ad e
      rw [hb0]
      exact hne ad0 e0 (by rw [List.length_drop] at hp; omega)
    have hC' := hc' w hC
    have hdl : (l.drop n).length = l.length - n := List.length_drop
    have HG : Aside0 (w.grownBy (w1.setCell ⟨p, 0, none⟩ (.slice A' (l.drop n).length (c - n))) (some p)) := ⟨World.grownBy.trans (by rw [← hw1]; exact grown_set) grown_set⟩
    have HF : Aside0 (RdrAt (w1.setCell ⟨p, 0, none⟩ (.slice A' (l.drop n).length (c - n))) p (l.drop n) false) := ⟨⟨A', c - n, blk_set hb1 0 _, C_set (by rw [← hw1]; exact C_set hC' (fun ad e hp => Nat.ne_of_lt (hne' ad e hp))) (fun ad e hp => Nat.ne_of_lt (hne' ad e hp)), by omega, hne'⟩⟩
    clear hb hC hle hne hb1 hc' hne' hC' hdl hbad hblk
    generalize l.drop n = l' at *
    go_enter Try.func90, Try.ntmps90
    go_wp2
    go_end0
    exact ⟨rfl, by rw [HS.out]; exact HF.out, HG.out⟩
theorem rdr_below {w w' : World} {p : Nat} {l : List Int} {bad : Bool} (h : RdrAt w p l bad) (hb : Below w.heap.size w w') : RdrAt w' p l bad := by
  obtain ⟨A, c, h1, h2, h3⟩ := h
  exact ⟨A, c, blk_below h1 hb, Kd.C_below h2 hb, h3⟩
/-- A number is read, up to a greatest one. -/
def numK (l : List Int) (most : Int) : Nat := if (getS l).1 > most then 0 else (getS l).2.toNat
def numV (l : List Int) (bad : Bool) (most : Int) : Int := if (stepR l bad (numK l most)).2 = true then 0 else (getS l).1
set_option maxRecDepth 100000 in
theorem num_calls {w : World} {p : Nat} {l : List Int} {bad : Bool} (h : RdrAt w p l bad) (hby : Bys l) (most : Int) (h0 : 0 ≤ most) (hm : most < 9223372036854775808) :
    Calls Try.prog 75 #[.pointer (some ⟨p, 0, none⟩), .int .i64 most] w fun e w' => e = .returned (.int .i64 (numV l bad most)) ∧ RdrAt w' p (stepR l bad (numK l most)).1 (stepR l bad (numK l most)).2 ∧ w.grownBy w' (some p) := by
  have hbd := getS_bd hby
  obtain ⟨A, c, hb, hC, hle, hne⟩ := id h
  have c0 : w.cell? ⟨p, 0, none⟩ = some (.slice A l.length c) := blk_cell hb 0
  have HG := Aside0.mk (get_calls A c l hby w hC hle)
  have HST := Aside0.mk (fun w' hb' (n : Nat) hn => step_calls (rdr_below (w' := w') h hb') n hn)
  have HK : Aside0 (numK l most = if (getS l).1 > most then 0 else (getS l).2.toNat) := ⟨rfl⟩
  have HV : Aside0 (numV l bad most = if (stepR l bad (numK l most)).2 = true then 0 else (getS l).1) := ⟨rfl⟩
  obtain ⟨gn, hgn⟩ : ∃ x, (getS l).1 = x := ⟨_, rfl⟩
  obtain ⟨gk, hgk⟩ : ∃ x : Nat, (getS l).2 = (x : Int) := ⟨(getS l).2.toNat, by omega⟩
  rw [hgn, hgk] at HG HK hbd
  rw [hgn] at HV
  rw [Int.toNat_natCast] at HK
  have ku : IntKind.u64.wrap most = most := u64_id (by omega) (by omega)
  clear hb hC hle hne h hgn hgk
  go_enter Try.func75, Try.ntmps75
  go_wp2_with fail
  refine HG.out.mono ?_
  rintro e_ w1 ⟨rfl, hb⟩
  have HB := Aside0.mk hb
  clear hb c0
  by_cases hgt : most < gn
  · have HK0 : Aside0 (numK l most = 0) := ⟨HK.out.trans (if_pos hgt)⟩
    have hs : Calls Try.prog 90 #[.pointer (some ⟨p, 0, none⟩), .int .i64 0] w1 _ := HST.out w1 HB.out 0 (Nat.zero_le _)
    have HS0 : Aside0 ((stepR l bad 0).2 = true ∧ stepR l bad 0 = ([], true)) := ⟨by unfold stepR; rw [if_pos (Or.inr rfl)]; exact ⟨rfl, rfl⟩⟩
    go_wp2_with fail
    refine hs.mono ?_
    rintro e_ w2 ⟨rfl, hrd, hg⟩
    have HR := Aside0.mk hrd
    have hr2 := hrd
    rw [HS0.out.2] at hr2
    obtain ⟨A2, c2, hb2, _⟩ := hr2
    have d1 : w2.cell? ⟨p, 1, none⟩ = some (.bool true) := blk_cell hb2 1
    have HGW := Aside0.mk (World.grownBy.trans (grown_of_below HB.out (some p)) hg)
    clear hrd hg hs hb2
    go_wp2
    go_ret
    exact ⟨by rw [HV.out, HK0.out, HS0.out.1]; rfl, by rw [HK0.out]; exact HR.out, HGW.out⟩
  · have HK0 : Aside0 (numK l most = gk) := ⟨HK.out.trans (if_neg hgt)⟩
    have hs := HST.out w1 HB.out gk (by omega)
    have kn : IntKind.i64.wrap gn = gn := by rw [IntKind.wrap_i64]; omega
    go_wp2_with fail
    refine hs.mono ?_
    rintro e_ w2 ⟨rfl, hrd, hg⟩
    have HR := Aside0.mk hrd
    have HGW := Aside0.mk (World.grownBy.trans (grown_of_below HB.out (some p)) hg)
    obtain ⟨b2, hb2e⟩ : ∃ b, (stepR l bad gk).2 = b := ⟨_, rfl⟩
    have HB2 := Aside0.mk hb2e
    rw [hb2e] at hrd
    obtain ⟨A2, c2, hb2, _⟩ := hrd
    have d1 : w2.cell? ⟨p, 1, none⟩ = some (.bool b2) := blk_cell hb2 1
    clear hg hs hb2 hb2e
    cases b2 with
    | true =>
      go_wp2
      go_ret
      exact ⟨by rw [HV.out, HK0.out, HB2.out]; rfl, by rw [HK0.out]; exact HR.out, HGW.out⟩
    | false =>
      go_wp2
      go_ret
      exact ⟨by rw [HV.out, HK0.out, HB2.out]; rfl, by rw [HK0.out]; exact HR.out, HGW.out⟩
theorem done_calls {w : World} {p : Nat} {l : List Int} {bad : Bool} (h : RdrAt w p l bad) :
    Calls Try.prog 77 #[.pointer (some ⟨p, 0, none⟩)] w fun e w' => e = .returned (.bool (!bad && decide (l.length = 0))) ∧ w = w' := by
  obtain ⟨A, c, hb, _⟩ := h
  have c0 : w.cell? ⟨p, 0, none⟩ = some (.slice A l.length c) := blk_cell hb 0
  have c1 : w.cell? ⟨p, 1, none⟩ = some (.bool bad) := blk_cell hb 1
  clear hb
  cases bad with
  | true =>
    go_enter Try.func77, Try.ntmps77
    go_wp2
    go_ret
    exact ⟨rfl, rfl⟩
  | false =>
    by_cases h0 : l.length = 0
    · have b0 : ((l.length : Int) == 0) = true := by simp [h0]
      have HD : Aside0 (decide (l.length = 0) = true) := ⟨decide_eq_true h0⟩
      clear h0
      go_enter Try.func77, Try.ntmps77
      go_wp2
      go_ret
      exact ⟨by rw [HD.out]; rfl, rfl⟩
    · have b0 : ((l.length : Int) == 0) = false := beq_eq_false_iff_ne.2 (by omega)
      have HD : Aside0 (decide (l.length = 0) = false) := ⟨decide_eq_false h0⟩
      clear h0
      go_enter Try.func77, Try.ntmps77
      go_wp2
      go_ret
      exact ⟨by rw [HD.out]; rfl, rfl⟩
theorem equal_calls (A : Option Addr) (c : Nat) (a : List Int) (A2 : Option Addr) (c2 : Nat) (b : List Int) (ha : Bys a) (hb : Bys b) (w : World) (hr : (Kd.int .u8).C w A a.length a) (hr2 : (Kd.int .u8).C w A2 b.length b) :
    Calls Try.prog 78 #[.slice A a.length c, .slice A2 b.length c2] w fun e w' => e = .returned (.bool (decide (a = b))) ∧ w = w' := by
  have cv1 := Kd.C_string (P := Try.prog) (A := A) (c := c) Try.underlying22 Try.underlying5 Try.underlying9 hr
  have cv2 := Kd.C_string (P := Try.prog) (A := A2) (c := c2) Try.underlying22 Try.underlying5 Try.underlying9 hr2
  have HE : Aside0 (((strOfNums a).toList == (strOfNums b).toList) = decide (a = b)) := ⟨by
    by_cases h : a = b
    · subst h; rw [decide_eq_true rfl]; exact beq_self_eq_true _
    · rw [decide_eq_false h]; exact strOf_ne ha hb h⟩
  clear hr hr2
  go_enter Try.func78, Try.ntmps78
  go_wp2
  go_ret
  exact ⟨by rw [← HE.out]; rfl, rfl⟩
theorem bys_step {l : List Int} (h : Bys l) (bad : Bool) (n : Nat) : Bys (stepR l bad n).1 := by
  unfold stepR
  split
  · intro z hz; simp at hz
  · exact bys_drop h n
theorem step_len (l : List Int) (bad : Bool) (n : Nat) : (stepR l bad n).1.length ≤ l.length := by
  unfold stepR
  split
  · simp
  · simp only [List.length_drop]; omega
theorem alloc2 (w : World) (o1 o2 : Obj) : ((w.alloc o1).alloc o2).heap[w.heap.size]? = some o1 ∧ ((w.alloc o1).alloc o2).heap[w.heap.size + 1]? = some o2 ∧ Below w.heap.size w ((w.alloc o1).alloc o2) := by
  have hs : (w.alloc o1).heap.size = w.heap.size + 1 := by show (w.heap.push _).size = _; exact Array.size_push _
  refine ⟨blk_alloc (blk_new w o1) o2, ?_, ((Below.refl w.heap.size w).alloc (Nat.le_refl _) o1).alloc (by omega) o2⟩
  rw [← hs]
  exact blk_new (w.alloc o1) o2
theorem rdr_new {w : World} {A : Option Addr} {c : Nat} {l : List Int} (hr : (Kd.int .u8).C w A l.length l) (hc : l.length ≤ c) (o1 : Obj) : RdrAt ((w.alloc o1).alloc (.cells #[.slice A l.length c, .bool false] 106 (0, 0))) (w.heap.size + 1) l false := by
  obtain ⟨_, h2, h3⟩ := alloc2 w o1 (.cells #[.slice A l.length c, .bool false] 106 (0, 0))
  refine ⟨A, c, h2, Kd.C_below hr h3, hc, fun ad e hp => ?_⟩
  obtain ⟨ad', e', hx⟩ := hr.2.2 hp
  have hee : ad = ad' := by rw [e] at e'; injection e'
  subst hee
  obtain ⟨cs, h1, h2, h3'⟩ := hx 0 _ (List.getElem?_eq_getElem hp)
  have hcs : cs = [.int .u8 l[0]] := h2
  subst hcs
  have hcell := h3' 0 _ rfl
  have hlt := World.block_lt_of_cell? w _ hcell
  have hbk : (ad.add (0 * (Kd.int .u8).sz + 0)).block = ad.block := by unfold Addr.add; split <;> rfl
  omega
theorem setCell_same {w : World} {b i : Nat} {cs : Array Value} {t : TypeId} {u : Value} (h : w.heap[b]? = some (.cells cs t (0, 0))) (hu : cs[i]? = some u) : w.setCell ⟨b, i, none⟩ u = w := by
  have hi := (Array.getElem?_eq_some_iff.1 hu).1
  have e1 : cs.setIfInBounds i u = cs := by
    apply Array.ext_getElem?
    intro j
    rw [Array.getElem?_setIfInBounds]
    split
    · rename_i e; subst e; first | (rw [if_pos hi]; exact hu.symm) | exact hu.symm
    · rfl
  have e2 : (w.setCell ⟨b, i, none⟩ u).heap = w.heap := by
    apply Array.ext_getElem?
    intro j
    by_cases hj : j = b
    · subst hj
      rw [blk_set h i u, e1, h]
    · exact Below.heap_setCell w ⟨b, i, none⟩ u j hj
  show { w with heap := (w.setCell ⟨b, i, none⟩ u).heap } = w
  rw [e2]
theorem step_app (a t : List Int) (ha : 0 < a.length) : stepR (a ++ t) false a.length = (t, false) := by
  unfold stepR
  rw [if_neg (by simp; intro e; rw [e] at ha; simp at ha), List.drop_left]
theorem num_enc {n : Nat} (hn : n < 18446744073709551616) {most : Int} (hm : (n : Int) ≤ most) (t : List Int) : numV (enc n ++ t) false most = n ∧ stepR (enc n ++ t) false (numK (enc n ++ t) most) = (t, false) := by
  have hg := getS_enc hn t
  have hk : numK (enc n ++ t) most = (enc n).length := by unfold numK; rw [hg]; simp only []; rw [if_neg (by omega), Int.toNat_natCast]
  have hs := step_app (enc n) t (enc_pos n)
  rw [hk]
  refine ⟨?_, hs⟩
  unfold numV
  rw [hk, hs, hg]
  rfl
theorem first_sub {l : List Int} (h : Bys l) : Bys (firstL l).1 ∧ (firstL l).1.length ≤ l.length := by
  unfold firstL
  have hb : Bys (bodyL l) := by unfold bodyL; exact bys_drop (bys_take h _) _
  have hl : (bodyL l).length ≤ l.length := by unfold bodyL; simp only [List.length_drop, List.length_take]; omega
  repeat' split
  all_goals first | exact ⟨hb, hl⟩ | exact ⟨fun z hz => by simp at hz, by simp⟩
theorem scan_sub {l : List Int} (h : Bys l) : ∀ (f : Nat) (at_ : Nat), (∀ t ∈ (scanF f l at_).1, Bys t ∧ t.length ≤ l.length) ∧ (scanF f l at_).1.length ≤ f := by
  intro f
  induction f with
  | zero => intro at_; exact ⟨fun t ht => by simp [scanF] at ht, by simp [scanF]⟩
  | succ f ih =>
    intro at_
    unfold scanF
    split
    · exact ⟨fun t ht => by simp at ht, by simp⟩
    · obtain ⟨i1, i2⟩ := ih (at_ + (firstL (l.drop at_)).2.1)
      refine ⟨fun t ht => ?_, by simp only [List.length_cons]; omega⟩
      rcases List.mem_cons.1 ht with rfl | ht
      · have := first_sub (bys_drop h at_)
        rw [List.length_drop] at this
        exact ⟨this.1, by omega⟩
      · exact i1 t ht
end Go.Proofs.Ytfojeegepfjbiaa.EdZ
