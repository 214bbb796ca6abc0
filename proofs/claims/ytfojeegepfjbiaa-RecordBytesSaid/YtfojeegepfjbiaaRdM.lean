/- Contract of Good. -/
import Derived.Test.YtfojeegepfjbiaaProg
import Derived.Below
import Derived.Deep.Draws
import Derived.Deep.AppendLies
import Derived.Maps.AppendAt
import Derived.OwnWalk
import Derived.Laws.BytesArg
import Derived.Laws.MakeOwn
import Derived.Laws.OwnMore
import Derived.Deep.OwnRows
import Derived.Tactics
import Derived.Lib.ConvBytes
import Derived.Laws.Slices
import Derived.WalkKit
import Derived.KernelRfl
import Derived.RowKit3
import Derived.Deep.LoopGhost
import Derived.Deep.QuietTactic
import Derived.BigQuiet
import Derived.WideLaws
import Derived.Deep.DeepCutAuto
import Derived.Deep.CutBlock
import Derived.Deep.RegionHeld3
import Derived.Laws.Rows
import Derived.Lib.AppendStr
import Derived.ArgAppend
import Derived.Laws.IdiomCopy
import Derived.OrdersHeld
import Derived.Laws.BitsLemmas
import Derived.RowKit
import Derived.Deep.RegionWith
import Derived.WalkSpells
import Derived.Outline
import Derived.Test.YtfojeegepfjbiaaWWords
import Derived.Test.YtfojeegepfjbiaaWLast
import Derived.Test.YtfojeegepfjbiaaWMore
import Derived.Test.YtfojeegepfjbiaaWArr
import Derived.Test.YtfojeegepfjbiaaWTab
import Derived.Test.YtfojeegepfjbiaaWZeros
import Derived.Test.YtfojeegepfjbiaaWRepsOne
import Derived.Test.YtfojeegepfjbiaaRdL
namespace Go.Proofs.Ytfojeegepfjbiaa.RdM
open Go.RowKit Go.Proofs.YtfojeegepfjbiaaW.PrintWords Go.Proofs.YtfojeegepfjbiaaW.PrintLast Go.Proofs.YtfojeegepfjbiaaW.PrintMore Go.Proofs.Ytfojeegepfjbiaa.Nm Go.Proofs.Ytfojeegepfjbiaa.NmA Go.Proofs.Ytfojeegepfjbiaa.NmB Go.Proofs.Ytfojeegepfjbiaa.NmC Go.Proofs.Ytfojeegepfjbiaa.NmD Go.Proofs.Ytfojeegepfjbiaa.NmE Go.Proofs.Ytfojeegepfjbiaa.NmI Go.Proofs.Ytfojeegepfjbiaa.CrP Go.Proofs.Ytfojeegepfjbiaa.CrA Go.Proofs.Ytfojeegepfjbiaa.CrB Go.Proofs.Ytfojeegepfjbiaa.CrC Go.Proofs.Ytfojeegepfjbiaa.CrD Go.Proofs.Ytfojeegepfjbiaa.CrE Go.Proofs.Ytfojeegepfjbiaa.CrG Go.Proofs.Ytfojeegepfjbiaa.CrH Go.Proofs.Ytfojeegepfjbiaa.Mix Go.Proofs.Ytfojeegepfjbiaa.MixT Go.Proofs.Ytfojeegepfjbiaa.RdA Go.Proofs.Ytfojeegepfjbiaa.RdB Go.Proofs.Ytfojeegepfjbiaa.RdC Go.Proofs.Ytfojeegepfjbiaa.RdD Go.Proofs.Ytfojeegepfjbiaa.RdE Go.Proofs.Ytfojeegepfjbiaa.RdF Go.Proofs.Ytfojeegepfjbiaa.RdJ Go.Proofs.Ytfojeegepfjbiaa.RdK Go.Proofs.Ytfojeegepfjbiaa.RdL
set_option linter.unusedSimpArgs false
set_option linter.unusedVariables false
attribute [local go_sem] max2_int min2_int max_two min_two

/-- Records that may be, not more than some. -/
def goodF : List Rec → Nat → List Rec
  | [], _ => []
  | _ :: _, 0 => []
  | r :: l, n + 1 => if chkT (cutR r) = 0 then cutR r :: goodF l n else goodF l (n + 1)
theorem goodF_len : ∀ (l : List Rec) (n : Nat), (goodF l n).length ≤ n := by
  intro l
  induction l with
  | nil => intro n; simp [goodF]
  | cons r l ih =>
    intro n
    cases n with
    | zero => simp [goodF]
    | succ n =>
      unfold goodF
      split
      · simp only [List.length_cons]; have := ih n; omega
      · exact ih (n + 1)
theorem goodF_ok : ∀ (l : List Rec) (n : Nat), ∀ r ∈ goodF l n, chkT r = 0 := by
  intro l
  induction l with
  | nil => intro n r h; simp [goodF] at h
  | cons r l ih =>
    intro n
    cases n with
    | zero => intro r h; simp [goodF] at h
    | succ n =>
      unfold goodF
      split
      · rename_i hc
        intro q hq
        rcases List.mem_cons.1 hq with rfl | hq
        · exact hc
        · exact ih n q hq
      · exact ih (n + 1)
theorem goodF_nil (l : List Rec) : goodF l 0 = [] := by cases l <;> rfl
theorem drop_rec {os : List Rec} {k : Nat} (hk : k < os.length) : os.drop k = os.getD k rec0 :: os.drop (k + 1) := by
  rw [List.drop_eq_getElem_cons hk, List.getD_eq_getElem?_getD, List.getElem?_eq_getElem hk]
  rfl
theorem mem_rec {os : List Rec} {k : Nat} (hk : k < os.length) : os.getD k rec0 ∈ os := by
  rw [List.getD_eq_getElem?_getD, List.getElem?_eq_getElem hk]
  exact List.getElem_mem hk
set_option maxRecDepth 100000 in
theorem good_calls (A : Option Addr) (c : Nat) (l : List Rec) (n : Nat) (hn : n ≤ 60) (w : World) (hr : recK.C w A l.length l) (hl : l.length ≤ 9223372036854775807) (hsz : ∀ r ∈ l, r.2.2.1.size ≤ 9223372036854775807 ∧ r.2.2.2.size ≤ 9223372036854775807) :
    Calls Try.prog 39 #[.slice A l.length c, .int .i64 (n : Int)] w fun e w' => ∃ v : Value, e = .returned v ∧ Kd.R recK 45 w' w.heap.size (fun _ => True) v (goodF l n) ∧ Below w.heap.size w w' := by
  have HR := Aside0.mk hr
  have HSZ := Aside0.mk hsz
  have HB := Aside0.mk (Below.refl w.heap.size w)
  obtain ⟨E, hE⟩ : ∃ E, goodF l n = E := ⟨_, rfl⟩
  rw [hE]
  have HE := Aside0.mk hE
  clear hr hsz hE
  go_enter Try.func39, Try.ntmps39
  go_wp2_with fail
  go_loopg [5, 6, 7] l.length (fun q v5 v6 v7 w' => ∃ (i : Nat) (acc : List Rec), v6 = .int .i64 (i : Int) ∧ Aside0 (i + q = l.length ∧ acc.length ≤ n ∧ acc ++ goodF (l.drop i) (n - acc.length) = E) ∧ Aside0 (Kd.R recK 45 w' w.heap.size (fun _ => True) v5 acc) ∧ Aside0 (Below w.heap.size w w'))
  case atStart => exact ⟨0, [], rfl, ⟨by omega, Nat.zero_le _, by simpa using HE.out⟩, ⟨Kd.R_nil _ _ _ _ _⟩, HB⟩
  case round =>
    clear HB HE
    obtain ⟨i, acc, rfl, HI, HO, HB⟩ := hrel
    have hi := HI.out
    obtain ⟨ra, hra⟩ : ∃ m, acc.length = m := ⟨_, rfl⟩
    obtain ⟨Aa, ca, rfl⟩ := Kd.R_slice HO.out
    rw [hra] at hi HO ⊢
    by_cases hlt : i < l.length
    · have k0 : ((i : Int) < (l.length : Int)) = True := eq_true (by omega)
      by_cases hn2 : ra < n
      · obtain ⟨f, rfl⟩ : ∃ f, gk = f + 1 := ⟨gk - 1, by omega⟩
        have k1 : ((ra : Int) < (n : Int)) = True := eq_true (by omega)
        have hmem := mem_rec hlt
        have hdr := drop_rec hlt
        obtain ⟨ad, e1, p0, p1, p2, p3⟩ := rec_at (Kd.C_below HR.out HB.out) i hlt
        subst e1
        obtain ⟨p, hp⟩ : ∃ p, l.getD i rec0 = p := ⟨_, rfl⟩
        rw [hp] at p0 p1 p2 p3 hmem hdr
        have HCU := Aside0.mk (fun w => cutr_calls p (HSZ.out p hmem).1 (HSZ.out p hmem).2 w)
        have hgo : goodF (l.drop i) (n - ra) = if chkT (cutR p) = 0 then cutR p :: goodF (l.drop (i + 1)) (n - (ra + 1)) else goodF (l.drop (i + 1)) (n - ra) := by
          rw [hdr, show n - ra = (n - (ra + 1)) + 1 by omega]
          rfl
        have hE := hi.2.2
        rw [hgo] at hE
        obtain ⟨r, hrr⟩ : ∃ r, cutR p = r := ⟨_, rfl⟩
        rw [hrr] at hE HCU
        have HE := Aside0.mk hE
        have HCK := Aside0.mk (fun w => rcheck_calls r.1 r.2.1 r.2.2.1 r.2.2.2 w)
        change Aside0 (∀ w, Calls _ _ _ _ fun e w' => e = .returned (.int .i64 (chkT r)) ∧ _) at HCK
        have kw : IntKind.i64.wrap ((i : Int) + 1) = ((i + 1 : Nat) : Int) := by rw [IntKind.wrap_i64]; omega
        have HRA := Aside0.mk hra
        have HIR : Aside0 (ra < n) := ⟨hn2⟩
        clear hi hmem hdr hgo hE hrr hp hra
        unfold recV at HCU HCK
        go_wp2_with fail
        refine (HCU.out wr).mono ?_
        rintro e_ w2 ⟨rfl, hb⟩
        have hx3 := blk_new w2 (.cells #[.int .i64 r.1, .int .i64 r.2.1, .string r.2.2.1, .string r.2.2.2] 45 (0, 0))
        have hbx := (Below.refl w2.heap.size w2).alloc (Nat.le_refl _) (.cells #[.int .i64 r.1, .int .i64 r.2.1, .string r.2.2.1, .string r.2.2.2] 45 (0, 0))
        obtain ⟨w3, hw3⟩ : ∃ z, w2.alloc (.cells #[.int .i64 r.1, .int .i64 r.2.1, .string r.2.2.1, .string r.2.2.2] 45 (0, 0)) = z := ⟨_, rfl⟩
        obtain ⟨x, hx⟩ : ∃ z, w2.heap.size = z := ⟨_, rfl⟩
        have hbb := below_step hb hbx
        rw [hw3] at hbb hx3
        rw [hx] at hx3
        have HO1 := Aside0.mk (Kd.R_below HO.out hbb)
        have HW1 := Aside0.mk (below_step HB.out hbb)
        have HX1 := Aside0.mk hx3
        clear p0 p1 p2 p3
        have x0 : w3.cell? ⟨x, 0, none⟩ = some (.int .i64 r.1) := blk_cell hx3 0
        have x1 : w3.cell? ⟨x, 1, none⟩ = some (.int .i64 r.2.1) := blk_cell hx3 1
        have x2 : w3.cell? ⟨x, 2, none⟩ = some (.string r.2.2.1) := blk_cell hx3 2
        have x3 : w3.cell? ⟨x, 3, none⟩ = some (.string r.2.2.2) := blk_cell hx3 3
        have fx := blk_frozen hx3 3
        have hws : w3.setCell ⟨x, 3, none⟩ (.string r.2.2.2) = w3 := setCell_same hx3 rfl
        clear hb hbx hbb hx3 HO HB
        go_wp2_with fail
        refine (HCK.out w3).mono ?_
        rintro e_ w4 ⟨rfl, hb⟩
        have HO4 := Aside0.mk (Kd.R_below HO1.out hb)
        have HW4 := Aside0.mk (below_step HW1.out hb)
        have HX4 := blk_below HX1.out hb
        clear x0 x1 x2 x3 fx hws hw3 hb
        have x0 : w4.cell? ⟨x, 0, none⟩ = some (.int .i64 r.1) := blk_cell HX4 0
        have x1 : w4.cell? ⟨x, 1, none⟩ = some (.int .i64 r.2.1) := blk_cell HX4 1
        have x2 : w4.cell? ⟨x, 2, none⟩ = some (.string r.2.2.1) := blk_cell HX4 2
        have x3 : w4.cell? ⟨x, 3, none⟩ = some (.string r.2.2.2) := blk_cell HX4 3
        clear HX4
        obtain ⟨ck, hck⟩ : ∃ c, chkT r = c := ⟨_, rfl⟩
        rw [hck] at HE ⊢
        by_cases h0 : ck = 0
        · have HE1 : Aside0 (acc ++ r :: goodF (l.drop (i + 1)) (n - (ra + 1)) = E) := ⟨by have := HE.out; rw [if_pos h0] at this; exact this⟩
          have b0 : (ck == 0) = true := by simp [h0]
          clear h0 hck
          go_wp2_with ((with_reducible refine gate_builtin (b := .append) (xs := #[.tmp 28, .tmp 30]) rfl ?_); at_builtin; go_must (refine Kd.R_append recK (w0 := w) (w.heap.size) rfl (.tmp 28) (.tmp 30) 52 45 (.agg #[.int .i64 0, .int .i64 0, .string ByteArray.empty, .string ByteArray.empty]) 48 rfl Try.underlying52 info45 rfl (by decide) (by omega) (.slice Aa ra ca) acc r [.int .i64 r.1, .int .i64 r.2.1, .string r.2.2.1, .string r.2.2.2] (fun _ => True) (fun _ => False) ?hs_ ?hx_ (rec_M _ _ _ r) (fun k hk => hk.elim) (fun _ _ => trivial) HO4.out HW4.out (HW4.out).size (by have := HRA.out; omega) ?_; (case hs_ => rfl); (case hx_ => rfl); intro v102 w5 ho hb hg hat; have HO5 := Aside0.mk ho; have HB5 := Aside0.mk hb; clear ho hb hg hat))
          go_roundg f
          case measure => omega
          case rel => exact ⟨i + 1, acc ++ [r], by simp, ⟨by have := HI.out; omega, by rw [List.length_append, HRA.out]; exact HIR.out, by rw [List.append_assoc, List.length_append, HRA.out]; exact HE1.out⟩, HO5, HB5⟩
        · have HE1 : Aside0 (acc ++ goodF (l.drop (i + 1)) (n - ra) = E) := ⟨by have := HE.out; rw [if_neg h0] at this; exact this⟩
          have b0 : (ck == 0) = false := beq_eq_false_iff_ne.2 h0
          clear h0 hck
          go_wp2_with fail
          go_roundg f
          case measure => omega
          case rel => exact ⟨i + 1, acc, by simp, ⟨by have := HI.out; omega, HI.out.2.1, by rw [HRA.out]; exact HE1.out⟩, HO4, HW4⟩
      · have k1 : ((ra : Int) < (n : Int)) = False := eq_false (by omega)
        have hE := hi.2.2
        rw [show n - ra = 0 by omega, goodF_nil, List.append_nil] at hE
        have HE := Aside0.mk hE
        clear hi hE hra hn2
        go_wp2
        go_ret
        exact ⟨_, rfl, by rw [← HE.out]; exact HO.out, HB.out⟩
    · have k0 : ((i : Int) < (l.length : Int)) = False := eq_false (by omega)
      have hE := hi.2.2
      rw [List.drop_eq_nil_of_le (by omega)] at hE
      have HE : Aside0 (acc = E) := ⟨by simpa [goodF] using hE⟩
      clear hi hE hra
      go_wp2
      go_ret
      exact ⟨_, rfl, by rw [← HE.out]; exact HO.out, HB.out⟩
end Go.Proofs.Ytfojeegepfjbiaa.RdM
