/- Contract of record.Scan. -/
import Derived.Test.YtfojeegepfjbiaaProg
import Derived.Below
import Derived.Deep.Draws
import Derived.Deep.AppendLies
import Derived.Maps.AppendAt
import Derived.OwnWalk
import Derived.Laws.BytesArg
import Derived.Laws.MakeOwn
import Derived.Laws.OwnMore
import Derived.Deep.OwnRows
import Derived.Tactics
import Derived.Lib.ConvBytes
import Derived.Laws.Slices
import Derived.WalkKit
import Derived.KernelRfl
import Derived.RowKit3
import Derived.Deep.LoopGhost
import Derived.Deep.QuietTactic
import Derived.BigQuiet
import Derived.WideLaws
import Derived.Deep.DeepCutAuto
import Derived.Deep.CutBlock
import Derived.Deep.RegionHeld3
import Derived.Laws.Rows
import Derived.Lib.AppendStr
import Derived.ArgAppend
import Derived.Laws.IdiomCopy
import Derived.OrdersHeld
import Derived.Laws.BitsLemmas
import Derived.RowKit
import Derived.WalkSpells
import Derived.Outline
import Derived.Test.YtfojeegepfjbiaaWWords
import Derived.Test.YtfojeegepfjbiaaWLast
import Derived.Test.YtfojeegepfjbiaaWMore
import Derived.Test.YtfojeegepfjbiaaWArr
import Derived.Test.YtfojeegepfjbiaaWTab
import Derived.Test.YtfojeegepfjbiaaWZeros
import Derived.Test.YtfojeegepfjbiaaWRepsOne
import Derived.Test.YtfojeegepfjbiaaRdE
namespace Go.Proofs.Ytfojeegepfjbiaa.RdF
open Go.RowKit Go.Proofs.YtfojeegepfjbiaaW.PrintWords Go.Proofs.YtfojeegepfjbiaaW.PrintLast Go.Proofs.YtfojeegepfjbiaaW.PrintMore Go.Proofs.Ytfojeegepfjbiaa.Nm Go.Proofs.Ytfojeegepfjbiaa.NmA Go.Proofs.Ytfojeegepfjbiaa.NmB Go.Proofs.Ytfojeegepfjbiaa.NmC Go.Proofs.Ytfojeegepfjbiaa.NmD Go.Proofs.Ytfojeegepfjbiaa.NmE Go.Proofs.Ytfojeegepfjbiaa.NmI Go.Proofs.Ytfojeegepfjbiaa.CrP Go.Proofs.Ytfojeegepfjbiaa.CrA Go.Proofs.Ytfojeegepfjbiaa.CrB Go.Proofs.Ytfojeegepfjbiaa.CrC Go.Proofs.Ytfojeegepfjbiaa.CrD Go.Proofs.Ytfojeegepfjbiaa.CrE Go.Proofs.Ytfojeegepfjbiaa.CrG Go.Proofs.Ytfojeegepfjbiaa.CrH Go.Proofs.Ytfojeegepfjbiaa.Mix Go.Proofs.Ytfojeegepfjbiaa.RdA Go.Proofs.Ytfojeegepfjbiaa.RdB Go.Proofs.Ytfojeegepfjbiaa.RdC Go.Proofs.Ytfojeegepfjbiaa.RdD Go.Proofs.Ytfojeegepfjbiaa.RdE
set_option linter.unusedSimpArgs false
set_option linter.unusedVariables false
attribute [local go_sem] max2_int min2_int max_two min_two

abbrev Rec := Int × Int × ByteArray × ByteArray
/-- A record in memory. -/
def recK : Kd Rec := (Kd.pair (Kd.int .i64) (Kd.pair (Kd.int .i64) (Kd.pair Kd.string Kd.string)))
theorem info45 : (Try.prog.info? 45).map (fun i => (i.zero, i.size, i.bytes)) = some (some (.agg #[.int .i64 0, .int .i64 0, .string ByteArray.empty, .string ByteArray.empty]), 4, 48) := by kernel_rfl
theorem rec_M (w : World) (base : Nat) (ok : Nat → Prop) (r : Rec) : recK.M w base ok r [.int .i64 r.1, .int .i64 r.2.1, .string r.2.2.1, .string r.2.2.2] :=
  ⟨[.int .i64 r.1], [.int .i64 r.2.1, .string r.2.2.1, .string r.2.2.2], rfl, rfl, [.int .i64 r.2.1], [.string r.2.2.1, .string r.2.2.2], rfl, rfl, [.string r.2.2.1], [.string r.2.2.2], rfl, rfl, rfl⟩
/-- Records out of what was sealed. -/
def recsL : List (List Int) → Bool → Nat → List Rec × Nat × Bool
  | [], cut, at_ => ([], at_, cut)
  | t :: ts, cut, at_ => match parseR t with
    | none => ([], at_, false)
    | some r => (r :: (recsL ts cut (at_ + (12 + t.length))).1, (recsL ts cut (at_ + (12 + t.length))).2)
def rscanL (l : List Int) : List Rec × Nat × Bool := recsL (scanL l).1 (scanL l).2.2 0
theorem recs_none {t : List Int} (h : parseR t = none) (ts : List (List Int)) (cut : Bool) (at_ : Nat) : recsL (t :: ts) cut at_ = ([], at_, false) := by
  rw [recsL, h]
theorem recs_some {t : List Int} {r : Rec} (h : parseR t = some r) (ts : List (List Int)) (cut : Bool) (at_ : Nat) : recsL (t :: ts) cut at_ = (r :: (recsL ts cut (at_ + (12 + t.length))).1, (recsL ts cut (at_ + (12 + t.length))).2) := by
  rw [recsL, h]
theorem first_sub {l : List Int} (h : Bys l) : Bys (firstL l).1 ∧ (firstL l).1.length ≤ l.length := by
  unfold firstL
  have hb : Bys (bodyL l) := by unfold bodyL; exact bys_drop (bys_take h _) _
  have hl : (bodyL l).length ≤ l.length := by unfold bodyL; simp only [List.length_drop, List.length_take]; omega
  repeat' split
  all_goals first | exact ⟨hb, hl⟩ | exact ⟨fun z hz => by simp at hz, by simp⟩
theorem scan_sub {l : List Int} (h : Bys l) : ∀ (f : Nat) (at_ : Nat), (∀ t ∈ (scanF f l at_).1, Bys t ∧ t.length ≤ l.length) ∧ (scanF f l at_).1.length ≤ f := by
  intro f
  induction f with
  | zero => intro at_; exact ⟨fun t ht => by simp [scanF] at ht, by simp [scanF]⟩
  | succ f ih =>
    intro at_
    unfold scanF
    split
    · exact ⟨fun t ht => by simp at ht, by simp⟩
    · obtain ⟨i1, i2⟩ := ih (at_ + (firstL (l.drop at_)).2.1)
      refine ⟨fun t ht => ?_, by simp only [List.length_cons]; omega⟩
      rcases List.mem_cons.1 ht with rfl | ht
      · have := first_sub (bys_drop h at_)
        rw [List.length_drop] at this
        exact ⟨this.1, by omega⟩
      · exact i1 t ht
set_option maxRecDepth 100000 in
theorem recscan_calls (A : Option Addr) (c : Nat) (l : List Int) (hby : Bys l) (w : World) (hr : Kd.C (Kd.int .u8) w A l.length l) (hc : l.length ≤ c) (hl : l.length ≤ 1000000000) :
    Calls Try.prog 37 #[.slice A l.length c] w fun e w' => ∃ v : Value, e = .returned (.tuple #[v, .int .i64 ((rscanL l).2.1 : Int), .bool (rscanL l).2.2]) ∧ Kd.R recK 45 w' w.heap.size (fun _ => True) v (rscanL l).1 ∧ Below w.heap.size w w' := by
  have HSC := Aside0.mk (scan_calls A c l hby w hr hc hl)
  have hsub := scan_sub hby (l.length + 1) 0
  change (∀ t ∈ (scanL l).1, Bys t ∧ t.length ≤ l.length) ∧ (scanL l).1.length ≤ l.length + 1 at hsub
  obtain ⟨E1, h1⟩ : ∃ E1, (recsL (scanL l).1 (scanL l).2.2 0).1 = E1 := ⟨_, rfl⟩
  obtain ⟨E2, h2⟩ : ∃ E2, (recsL (scanL l).1 (scanL l).2.2 0).2 = E2 := ⟨_, rfl⟩
  have HSL : Aside0 (rscanL l = (E1, E2)) := ⟨by rw [← h1, ← h2]; rfl⟩
  obtain ⟨ts, hts⟩ : ∃ ts, (scanL l).1 = ts := ⟨_, rfl⟩
  obtain ⟨cut, hcut⟩ : ∃ ts, (scanL l).2.2 = ts := ⟨_, rfl⟩
  rw [hts, hcut] at h1 h2 HSC
  rw [hts] at hsub
  generalize (scanL l).2.1 = nn at *
  have HE1 := Aside0.mk h1
  have HE2 := Aside0.mk h2
  have HSB : Aside0 (ts.length ≤ 1000000001 ∧ ∀ t ∈ ts, Bys t ∧ t.length ≤ 1000000000) := ⟨by omega, fun t ht => ⟨(hsub.1 t ht).1, by have := (hsub.1 t ht).2; omega⟩⟩
  clear hr h1 h2 hby hts hcut hsub hc hl
  go_enter Try.func37, Try.ntmps37
  go_wp2_with fail
  refine HSC.out.mono ?_
  rintro e_ w1 ⟨v, rfl, ho, hb⟩
  obtain ⟨A1, c1, rfl⟩ := Kd.R_slice ho
  have HS1 := Aside0.mk (Kd.R_reads' ho).2.2
  have HB := Aside0.mk hb
  have HLT := Aside0.mk (Kd.R_reads' ho).2.1
  clear ho hb
  obtain ⟨nt, hnt⟩ : ∃ n, ts.length = n := ⟨_, rfl⟩
  have HNT := Aside0.mk hnt
  rw [hnt] at HS1 HSB HLT ⊢
  clear hnt
  go_wp2_with fail
  go_loopg [8, 9, 11, 12, 13, 22] nt (fun q v8 v9 v11 v12 v13 v22 w' => ∃ (i a : Nat) (acc : List Rec), v9 = .int .i64 (a : Int) ∧ v22 = .int .i64 (i : Int) ∧ Aside0 (i + q = nt ∧ a ≤ i * 1000000012 ∧ acc.length ≤ i ∧ acc ++ (recsL (ts.drop i) cut a).1 = E1 ∧ (recsL (ts.drop i) cut a).2 = E2) ∧ Aside0 (Kd.R recK 45 w' w1.heap.size (fun _ => True) v8 acc) ∧ Aside0 (Below w1.heap.size w1 w'))
  case atStart => exact ⟨0, 0, [], rfl, rfl, ⟨by omega, by omega, Nat.le_refl _, HE1.out, HE2.out⟩, ⟨Kd.R_nil _ _ _ _ _⟩, ⟨Below.refl _ _⟩⟩
  case round =>
    clear HE1 HE2
    obtain ⟨i, a, acc, rfl, rfl, HI, HO, HW⟩ := hrel
    have hi := HI.out
    have hnt := HNT.out
    have hsb := HSB.out
    by_cases hlt : i < nt
    · obtain ⟨f, rfl⟩ : ∃ f, gk = f + 1 := ⟨gk - 1, by omega⟩
      obtain ⟨ad, A2, c2, e1, hcell0, hc2, hC2⟩ := row_at HS1.out i hlt
      have hcell := (HW.out.cell (World.block_lt_of_cell? w1 _ hcell0)).trans hcell0
      clear hcell0
      subst e1
      have hmem := getD_mem (ps := ts) (i := i) (by omega)
      have hdr : ts.drop i = ts.getD i [] :: ts.drop (i + 1) := by
        rw [List.drop_eq_getElem_cons (by omega), List.getD_eq_getElem?_getD, List.getElem?_eq_getElem (by omega)]; rfl
      obtain ⟨hty, htl⟩ := hsb.2 _ hmem
      obtain ⟨t, htt⟩ : ∃ t, ts.getD i [] = t := ⟨_, rfl⟩
      rw [htt] at hcell hc2 hC2 hdr hty htl
      have hslen := sealL_len t
      have HDC := Aside0.mk (decode_calls A2 c2 t hty wr (Kd.C_below hC2 HW.out) hc2 htl)
      have HSE := Aside0.mk (fun w h => seal_calls A2 c2 t hty w h (by omega))
      have HC2 := Aside0.mk hC2
      have kx : i * 1000000012 ≤ 1000000001 * 1000000012 := Nat.mul_le_mul_right _ (by omega)
      have ke : (i + 1) * 1000000012 = i * 1000000012 + 1000000012 := by rw [Nat.add_mul, Nat.one_mul]
      have kw : IntKind.i64.wrap ((i : Int) + 1) = ((i + 1 : Nat) : Int) := by rw [IntKind.wrap_i64]; omega
      obtain ⟨sl, hsl⟩ : ∃ s, sealL t = s := ⟨_, rfl⟩
      rw [hsl] at hslen HSE
      obtain ⟨tl, htle⟩ : ∃ n, t.length = n := ⟨_, rfl⟩
      rw [htle] at hslen htl hcell hc2
      have HTL := Aside0.mk htle
      rw [htle] at HDC HSE HC2
      have HIL : Aside0 (a ≤ i * 1000000012 ∧ acc.length ≤ 1000000001) := ⟨by omega⟩
      have ka : IntKind.i64.wrap ((a : Int) + (sl.length : Int)) = ((a + (12 + tl) : Nat) : Int) := by rw [IntKind.wrap_i64, hslen]; omega
      have k12 : ∀ m : Int, m = m := fun _ => rfl
      have HNX : Aside0 (a + (12 + tl) ≤ (i + 1) * 1000000012) := ⟨by omega⟩
      have HPS : Aside0 (parseR t = if (decB t).2 = true then some (decB t).1 else none) := ⟨rfl⟩
      generalize (decB t).2 = ok at *
      generalize (decB t).1 = r at *
      have HDR := Aside0.mk hdr
      clear hi hnt hsb hmem hdr hty htl hC2 hc2 hsl htle kx ke k12
      obtain ⟨sn, hsn⟩ : ∃ n, sl.length = n := ⟨_, rfl⟩
      rw [hsn] at ka hslen
      have HSN := Aside0.mk hsn
      clear hsn
      unfold recV at HDC
      go_wp2_with fail
      refine HDC.out.mono ?_
      rintro e_ w2 ⟨rfl, hb⟩
      have hx3 := blk_new w2 (.cells #[.int .i64 r.1, .int .i64 r.2.1, .string r.2.2.1, .string r.2.2.2] 45 (0, 0))
      have hbx := (Below.refl w2.heap.size w2).alloc (Nat.le_refl _) (.cells #[.int .i64 r.1, .int .i64 r.2.1, .string r.2.2.1, .string r.2.2.2] 45 (0, 0))
      obtain ⟨w3, hw3⟩ : ∃ z, w2.alloc (.cells #[.int .i64 r.1, .int .i64 r.2.1, .string r.2.2.1, .string r.2.2.2] 45 (0, 0)) = z := ⟨_, rfl⟩
      obtain ⟨x, hx⟩ : ∃ z, w2.heap.size = z := ⟨_, rfl⟩
      have hbb := below_step hb hbx
      rw [hw3] at hbb hx3
      rw [hx] at hx3
      have HO1 := Aside0.mk (Kd.R_below HO.out hbb)
      have HW1 := Aside0.mk (below_step HW.out hbb)
      have x0 : w3.cell? ⟨x, 0, none⟩ = some (.int .i64 r.1) := blk_cell hx3 0
      have x1 : w3.cell? ⟨x, 1, none⟩ = some (.int .i64 r.2.1) := blk_cell hx3 1
      have x2 : w3.cell? ⟨x, 2, none⟩ = some (.string r.2.2.1) := blk_cell hx3 2
      have x3 : w3.cell? ⟨x, 3, none⟩ = some (.string r.2.2.2) := blk_cell hx3 3
      have fx := blk_frozen hx3 3
      have hws : w3.setCell ⟨x, 3, none⟩ (.string r.2.2.2) = w3 := setCell_same hx3 rfl
      clear hb hbx hbb hx3 HO HW
      cases ok with
      | false =>
        have hP := recs_none (HPS.out.trans (if_neg (by decide))) (ts.drop (i + 1)) cut a
        rw [← HDR.out] at hP
        have hE := HI.out.2.2.2
        rw [hP, List.append_nil] at hE
        have HE := Aside0.mk hE
        clear hE hP
        go_wp2
        go_ret3
        have e1 := HE.out.1
        have e2 := HE.out.2
        exact ⟨_, by rw [HSL.out, ← e2]; rfl, by rw [HSL.out, ← e1]; exact Kd.R_lower HO1.out HB.out.size, below_step HB.out HW1.out⟩
      | true =>
        have hP := recs_some (HPS.out.trans (if_pos rfl)) (ts.drop (i + 1)) cut a
        rw [← HDR.out, HTL.out] at hP
        have hE := HI.out.2.2.2
        rw [hP] at hE
        have HE := Aside0.mk hE
        clear hE hP
        go_wp2_with ((with_reducible refine gate_builtin (b := .append) (xs := #[.tmp 35, .tmp 37]) rfl ?_); at_builtin; go_must (refine Kd.R_append recK (w0 := w1) (w1.heap.size) rfl (.tmp 35) (.tmp 37) 52 45 (.agg #[.int .i64 0, .int .i64 0, .string ByteArray.empty, .string ByteArray.empty]) 48 rfl Try.underlying52 info45 rfl (by decide) (by omega) u8 acc r [.int .i64 r.1, .int .i64 r.2.1, .string r.2.2.1, .string r.2.2.2] (fun _ => True) (fun _ => False) ?hs_ ?hx_ (rec_M _ _ _ r) (fun k hk => hk.elim) (fun _ _ => trivial) HO1.out HW1.out (HW1.out).size (by have := HIL.out; omega) ?_; (case hs_ => rfl); (case hx_ => rfl); intro v102 w4 ho hb hg hat; have HO4 := Aside0.mk ho; have HB4 := Aside0.mk hb; clear ho hb hg hat))
        refine (HSE.out w4 (Kd.C_below HC2.out HB4.out)).mono ?_
        rintro e_ w5 ⟨v5, rfl, ho, hb⟩
        obtain ⟨A5, c5, rfl⟩ := Kd.R_slice ho
        have HO5 := Aside0.mk (Kd.R_below HO4.out hb)
        have HB5 := Aside0.mk (below_step HB4.out hb)
        clear ho hb HO4 HB4
        have hsn := HSN.out
        rw [hsn]
        go_wp2_with fail
        go_roundg f
        case measure => omega
        case rel => exact ⟨i + 1, a + (12 + tl), acc ++ [r], by rw [wrap64_id (by omega) (by have := HNX.out; have := HI.out.1; have kx : (i + 1) * 1000000012 ≤ 1000000001 * 1000000012 := Nat.mul_le_mul_right _ (by have := HSB.out.1; omega); omega)]; rfl, rfl, ⟨by have := HI.out; omega, HNX.out, by rw [List.length_append]; have := HI.out; simp; omega, by rw [List.append_assoc]; exact HE.out.1, HE.out.2⟩, HO5, HB5⟩
    · have k0 : ((i : Int) < (nt : Int)) = False := eq_false (by omega)
      have hE := hi.2.2.2
      rw [List.drop_eq_nil_of_le (by omega)] at hE
      have HE : Aside0 (acc = E1 ∧ (a, cut) = E2) := ⟨by have := hE.1; simpa [recsL] using this, hE.2⟩
      clear hi hnt hsb hlt hE
      go_wp2
      go_ret3
      have e1 := HE.out.1
      have e2 := HE.out.2
      exact ⟨_, by rw [HSL.out, ← e2]; rfl, by rw [HSL.out, ← e1]; exact Kd.R_lower HO.out HB.out.size, below_step HB.out HW.out⟩
end Go.Proofs.Ytfojeegepfjbiaa.RdF
