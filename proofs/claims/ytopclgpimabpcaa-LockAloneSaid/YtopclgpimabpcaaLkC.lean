/- Contract of slices.Delete. -/
import Derived.Test.YtopclgpimabpcaaProg
import Derived.Below
import Derived.Deep.Draws
import Derived.Deep.AppendLies
import Derived.Maps.AppendAt
import Derived.OwnWalk
import Derived.Laws.BytesArg
import Derived.Laws.MakeOwn
import Derived.Laws.OwnMore
import Derived.Deep.OwnRows
import Derived.Tactics
import Derived.Lib.ConvBytes
import Derived.Laws.Slices
import Derived.WalkKit
import Derived.KernelRfl
import Derived.RowKit3
import Derived.Deep.LoopGhost
import Derived.Deep.QuietTactic
import Derived.BigQuiet
import Derived.WideLaws
import Derived.Deep.DeepCutAuto
import Derived.Deep.CutBlock
import Derived.Deep.RegionHeld3
import Derived.Laws.Rows
import Derived.Lib.AppendStr
import Derived.ArgAppend
import Derived.Laws.IdiomCopy
import Derived.OrdersHeld
import Derived.Laws.BitsLemmas
import Derived.RowKit
import Derived.WalkSpells
import Derived.Outline
import Derived.Test.YtopclgpimabpcaaWWords
import Derived.Test.YtopclgpimabpcaaWLast
import Derived.Test.YtopclgpimabpcaaWMore
import Derived.Test.YtopclgpimabpcaaWArr
import Derived.Test.YtopclgpimabpcaaWTab
import Derived.Test.YtopclgpimabpcaaWZeros
import Derived.Test.YtopclgpimabpcaaWRepsOne
import Derived.Test.YtopclgpimabpcaaLkB
namespace Go.Proofs.Ytopclgpimabpcaa.LkC
open Go.RowKit Go.Proofs.YtopclgpimabpcaaW.PrintWords Go.Proofs.YtopclgpimabpcaaW.PrintLast Go.Proofs.YtopclgpimabpcaaW.PrintMore Go.Proofs.Ytopclgpimabpcaa.Mix Go.Proofs.Ytopclgpimabpcaa.MixB Go.Proofs.Ytopclgpimabpcaa.LkA Go.Proofs.Ytopclgpimabpcaa.LkB
set_option linter.unusedSimpArgs false
set_option linter.unusedVariables false
attribute [local go_sem] max2_int min2_int max_two min_two

/-- The cells of a row. -/
def flat (os : List (Int × Bool)) : List Value := os.flatMap (fun o => [.int .i64 o.1, .bool o.2])
theorem flat_cons (o : Int × Bool) (os : List (Int × Bool)) : flat (o :: os) = [.int .i64 o.1, .bool o.2] ++ flat os := by simp [flat]
theorem flat_append (a b : List (Int × Bool)) : flat (a ++ b) = flat a ++ flat b := by simp [flat]
theorem flat_len (os : List (Int × Bool)) : (flat os).length = os.length * 2 := by
  induction os with
  | nil => rfl
  | cons o os ih => rw [flat_cons, List.length_append, ih, List.length_cons]; simp; omega
theorem flat_one (os : List (Int × Bool)) : ∀ u ∈ flat os, u.oneCell' = true := by
  intro u hu
  unfold flat at hu
  obtain ⟨o, _, ho⟩ := List.mem_flatMap.1 hu
  simp at ho
  rcases ho with rfl | rfl <;> rfl
theorem flat_take (os : List (Int × Bool)) (k : Nat) : (flat os).take (k * 2) = flat (os.take k) := by
  induction os generalizing k with
  | nil => simp [flat]
  | cons o os ih =>
    cases k with
    | zero => simp [flat]
    | succ k =>
      rw [List.take_succ_cons, flat_cons, flat_cons, ← ih, show (k + 1) * 2 = k * 2 + 1 + 1 by omega]
      simp
theorem flat_drop (os : List (Int × Bool)) (k : Nat) : (flat os).drop (k * 2) = flat (os.drop k) := by
  induction os generalizing k with
  | nil => simp [flat]
  | cons o os ih =>
    cases k with
    | zero => simp
    | succ k =>
      rw [List.drop_succ_cons, flat_cons, ← ih, show (k + 1) * 2 = k * 2 + 1 + 1 by omega]
      simp
theorem one_M {w : World} {B : Nat} {ok : Nat → Prop} (o : Int × Bool) : KOne.M w B ok o [.int .i64 o.1, .bool o.2] := ⟨[.int .i64 o.1], [.bool o.2], rfl, rfl, rfl⟩
theorem reps_flat {w : World} {B : Nat} {ok : Nat → Prop} : ∀ (os : List (Int × Bool)) (inner : List Value), Reps (KOne.M w B ok) 2 os inner → inner = flat os := by
  intro os
  induction os with
  | nil => intro inner h; exact List.eq_nil_of_length_eq_zero (by rw [h.1]; rfl)
  | cons o os ih =>
    intro inner h
    have h1 := h.2 0 o rfl
    obtain ⟨c0, c1, e1, h2, h3⟩ := h1
    have h2' : c0 = [.int .i64 o.1] := h2
    have h3' : c1 = [.bool o.2] := h3
    subst h2' h3'
    have h4 := ih _ (Kd.reps_drop (m := 1) h)
    rw [flat_cons, ← h4]
    rw [Nat.zero_mul, List.drop_zero] at e1
    have e2 : inner.take 2 = [.int .i64 o.1, .bool o.2] := e1
    rw [← e2]
    exact (List.take_append_drop 2 inner).symm
theorem reps_of_flat {w : World} {B : Nat} {ok : Nat → Prop} (os : List (Int × Bool)) : Reps (KOne.M w B ok) 2 os (flat os) := by
  refine ⟨flat_len os, fun j p hj => ?_⟩
  have hj2 : j < os.length := (List.getElem?_eq_some_iff.1 hj).1
  rw [flat_drop, List.drop_eq_getElem_cons hj2, flat_cons]
  rw [List.getElem?_eq_getElem hj2] at hj
  injection hj with hj
  rw [hj]
  exact one_M p
theorem q_of_Q {E : Nat} {w : World} {B : Nat} {ok : Nat → Prop} {v : Value} {os : List (Int × Bool)} (h : KOne.Q E w B ok v os) : QRow w B E 2 v os.length (flat os) := by
  obtain ⟨h0, inner, hq, hr⟩ := h
  have := reps_flat os inner hr
  subst this
  exact hq
theorem Q_of_q {E : Nat} {w : World} {B : Nat} {ok : Nat → Prop} {v : Value} {os : List (Int × Bool)} (h : QRow w B E 2 v os.length (flat os)) (hok : ∀ k, v.ownBlock = some k → ok k) : KOne.Q E w B ok v os := ⟨hok, _, h, reps_of_flat os⟩
set_option maxRecDepth 100000 in
theorem delete_calls (A : Option Addr) (c : Nat) (os : List (Int × Bool)) (n k : Nat) (hn : os.length = n) (B : Nat) (w : World) (HQ : KOne.Q 76 w B (fun _ => True) (.slice A n c) os) (hk : k < n) (hl : n ≤ 1000000) :
    Calls Try.prog 35 #[.slice A n c, .int .i64 (k : Int), .int .i64 ((k + 1 : Nat) : Int)] w fun e w' => e = .returned (.slice A (n - 1) c) ∧ KOne.Q 76 w' B (fun _ => True) (.slice A (n - 1) c) (os.eraseIdx k) ∧ w.grownBy w' (Value.slice A n c).ownBlock := by
  have hnc := (Kd.Q_reads' HQ).2.1
  obtain ⟨i0, hi, _, hsz, _⟩ := info_parts info76
  have HD := Aside0.mk (fun (wd : World) (hh : wd.heap = w.heap) => q_delete (P := Try.prog) (t := 70) (ty := 70) (ty2 := 0) (e := 76) (z := .agg #[.int .i64 0, .bool false]) (zs := [.int .i64 0, .bool false]) (W := wd) (k := k) Try.underlying70 hi hsz (fun w => by kernel_rfl) rfl rfl (by simp [Value.oneCell']) (n := n) (A := A) (c := c) (base := B) (xs := flat os) (by have := q_move (w1 := wd) (q_of_Q HQ) (fun k _ => by rw [hh]); rw [hn] at this; exact this) hk (flat_one os) (c - (k + 1)) (c - (n - 1)) (A3 := Option.map (fun x => x.add ((n - 1) * 2)) A) (by rw [if_neg (by omega)]) (m3 := n - (n - 1)) (by omega))
  have hs3 := cut_to (P := Try.prog) 70 76 .i64 Try.underlying70 hi A n c (k : Int) (by omega) (by omega) hnc
  have hs4 := cut_from (P := Try.prog) 70 76 .i64 Try.underlying70 hi 2 hsz A n c ((k + 1 : Nat) : Int) (by omega) (by omega)
  rw [Int.toNat_natCast] at hs3 hs4
  have hb1 : ((k : Int) == ((k + 1 : Nat) : Int)) = false := beq_eq_false_iff_ne.2 (by omega)
  have hb2 : ((k : Int) ≤ ((k + 1 : Nat) : Int)) = True := eq_true (by omega)
  have hb3 : (((k + 1 : Nat) : Int) ≤ (n : Int)) = True := eq_true (by omega)
  generalize hk1 : k + 1 = k1 at *
  go_enter Try.func35, Try.ntmps35
  obtain ⟨A2, hA2⟩ : ∃ q, (if c = k1 then A else Option.map (fun x => x.add (k1 * 2)) A) = q := ⟨_, rfl⟩
  rw [hA2] at HD hs4
  obtain ⟨row, hrow⟩ : ∃ q, (Value.slice A n c).ownBlock = q := ⟨_, rfl⟩
  rw [hrow] at HD
  have hnn : n - 1 + 1 = n := by omega
  have HKN := Aside0.mk hk1
  have HROW := Aside0.mk hrow
  have HOS := Aside0.mk hn
  have HBD := Aside0.mk (Below.refl w.heap.size w)
  have hnk : (n = k) = False := eq_false (by omega)
  have hkc : k ≤ c := by omega
  clear hA2 hrow hnn hk1 HQ hn
  go_wp2_with fail
  refine wp_region_mix (fun w_ w1_ => w_.grownBy w1_ row) [(false, 0), (false, 1), (false, 2), (false, 3), (false, 4), (false, 5), (true, 6), (false, 7)] (by kernel_rfl) (by kernel_rfl) (fun _ => World.grownBy.refl _ _) (fun h h' => World.grownBy.trans h h') (fun wd hhp_ hbw_ => ?_)
  obtain ⟨g, w1, w2, e1, e2, hBg, hrun, hclr, hq, g1, g2⟩ := HD.out wd hhp_
  have HG2 := Aside0.mk g2
  have HQ2 := Aside0.mk hq
  rw [← e1] at g1 g2
  have HGW := Aside0.mk (World.grownBy.trans (World.grownBy.trans (grown_of_below hbw_ row) g1) g2)
  (refine mix_read (o := { dst := some 20, op := Op.move (Operand.tmp 0), type := 70, pos := "slices.go:232", after := #[], guard := none }) rfl (by first | rfl | (simp [Region.wanted, yielded]; done)) (by intro w_ hE_; (try dsimp only at hE_); first | (go_simp; done) | (go_simp; rfl)) ?_)
  (try simp only [Act.put, List.setIfInBounds_toArray, List.set_cons_zero, List.set_cons_succ])
  (refine mix_read (o := { dst := some 21, op := Op.move (Operand.tmp 1), type := 3, pos := "slices.go:232", after := #[], guard := none }) rfl (by first | rfl | (simp [Region.wanted, yielded]; done)) (by intro w_ hE_; (try dsimp only at hE_); first | (go_simp; done) | (go_simp; rfl)) ?_)
  (try simp only [Act.put, List.setIfInBounds_toArray, List.set_cons_zero, List.set_cons_succ])
  (refine mix_read (o := { dst := some 22, op := Op.slice 70 (Operand.tmp 20) none (some (Operand.tmp 21)) none, type := 70, pos := "slices.go:232", after := #[{ on := 0, ground := Ground.data }, { on := 1, ground := Ground.data }], guard := none }) rfl (by first | rfl | (simp [Region.wanted, yielded]; done)) (by intro w_ hE_; (try dsimp only at hE_); first | (go_simp; done) | (go_simp; rfl)) ?_)
  (try simp only [Act.put, List.setIfInBounds_toArray, List.set_cons_zero, List.set_cons_succ])
  (refine mix_read (o := { dst := some 23, op := Op.move (Operand.tmp 0), type := 70, pos := "slices.go:232", after := #[], guard := none }) rfl (by first | rfl | (simp [Region.wanted, yielded]; done)) (by intro w_ hE_; (try dsimp only at hE_); first | (go_simp; done) | (go_simp; rfl)) ?_)
  (try simp only [Act.put, List.setIfInBounds_toArray, List.set_cons_zero, List.set_cons_succ])
  (refine mix_read (o := { dst := some 24, op := Op.move (Operand.tmp 2), type := 3, pos := "slices.go:232", after := #[], guard := none }) rfl (by first | rfl | (simp [Region.wanted, yielded]; done)) (by intro w_ hE_; (try dsimp only at hE_); first | (go_simp; done) | (go_simp; rfl)) ?_)
  (try simp only [Act.put, List.setIfInBounds_toArray, List.set_cons_zero, List.set_cons_succ])
  (refine mix_read (o := { dst := some 25, op := Op.slice 70 (Operand.tmp 23) (some (Operand.tmp 24)) none none, type := 70, pos := "slices.go:232", after := #[{ on := 3, ground := Ground.data }, { on := 4, ground := Ground.data }], guard := none }) rfl (by first | rfl | (simp [Region.wanted, yielded]; done)) (by intro w_ hE_; (try dsimp only at hE_); first | (go_simp; done) | (go_simp; rfl)) ?_)
  (try simp only [Act.put, List.setIfInBounds_toArray, List.set_cons_zero, List.set_cons_succ])
  refine mix_val (o := { dst := some 26, op := Op.call { callee := Callee.builtin Builtin.append, args := #[Operand.tmp 22, Operand.tmp 25], argTypes := #[70, 70] }, type := 70, pos := "slices.go:232", after := #[{ on := 2, ground := Ground.data }, { on := 5, ground := Ground.data }], guard := none }) (w1 := w1) rfl (by first | rfl | (simp [Region.wanted, yielded]; done)) (by exact exec_append (.tmp 22) (.tmp 25) 70 rfl rfl rfl hrun) (g1) ?_
  (try simp only [Act.put, List.setIfInBounds_toArray, List.set_cons_zero, List.set_cons_succ])
  (refine mix_read (o := { dst := some 0, op := Op.assign (Operand.tmp 26), type := 70, pos := "slices.go:232", after := #[{ on := 6, ground := Ground.data }, { on := 6, ground := Ground.chain }, { on := 0, ground := Ground.phase }, { on := 1, ground := Ground.phase }, { on := 2, ground := Ground.phase }, { on := 3, ground := Ground.phase }, { on := 4, ground := Ground.phase }, { on := 5, ground := Ground.phase }, { on := 6, ground := Ground.phase }], guard := none }) rfl (by first | rfl | (simp [Region.wanted, yielded]; done)) (by intro w_ hE_; (try dsimp only at hE_); first | (go_simp; done) | (go_simp; rfl)) ?_)
  (try simp only [Act.put, List.setIfInBounds_toArray, List.set_cons_zero, List.set_cons_succ])
  refine mix_nil ?_
  go_wp2
  go_ret
  have hel : (os.eraseIdx k).length = n - 1 := by rw [List.length_eraseIdx_of_lt (by rw [HOS.out]; exact hk), HOS.out]
  refine ⟨rfl, Q_of_q ?_ (fun _ _ => trivial), by rw [HROW.out]; exact HGW.out⟩
  have h2 := HQ2.out
  rw [flat_take, ← HKN.out, flat_drop, ← flat_append, ← List.eraseIdx_eq_take_drop_succ] at h2
  rw [hel]
  exact h2
end Go.Proofs.Ytopclgpimabpcaa.LkC
