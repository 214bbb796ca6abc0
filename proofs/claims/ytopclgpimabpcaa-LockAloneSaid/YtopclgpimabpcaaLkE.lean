/- Contract of Ask. -/
import Derived.Test.YtopclgpimabpcaaProg
import Derived.Below
import Derived.Deep.Draws
import Derived.Deep.AppendLies
import Derived.Maps.AppendAt
import Derived.OwnWalk
import Derived.Laws.BytesArg
import Derived.Laws.MakeOwn
import Derived.Laws.OwnMore
import Derived.Deep.OwnRows
import Derived.Tactics
import Derived.Lib.ConvBytes
import Derived.Laws.Slices
import Derived.WalkKit
import Derived.KernelRfl
import Derived.RowKit3
import Derived.Deep.LoopGhost
import Derived.Deep.QuietTactic
import Derived.BigQuiet
import Derived.WideLaws
import Derived.Deep.DeepCutAuto
import Derived.Deep.CutBlock
import Derived.Deep.RegionHeld3
import Derived.Laws.Rows
import Derived.Lib.AppendStr
import Derived.ArgAppend
import Derived.Laws.IdiomCopy
import Derived.OrdersHeld
import Derived.Laws.BitsLemmas
import Derived.RowKit
import Derived.WalkSpells
import Derived.Outline
import Derived.Test.YtopclgpimabpcaaWWords
import Derived.Test.YtopclgpimabpcaaWLast
import Derived.Test.YtopclgpimabpcaaWMore
import Derived.Test.YtopclgpimabpcaaWArr
import Derived.Test.YtopclgpimabpcaaWTab
import Derived.Test.YtopclgpimabpcaaWZeros
import Derived.Test.YtopclgpimabpcaaWRepsOne
import Derived.Test.YtopclgpimabpcaaLkD
namespace Go.Proofs.Ytopclgpimabpcaa.LkE
open Go.RowKit Go.Proofs.YtopclgpimabpcaaW.PrintWords Go.Proofs.YtopclgpimabpcaaW.PrintLast Go.Proofs.YtopclgpimabpcaaW.PrintMore Go.Proofs.Ytopclgpimabpcaa.Mix Go.Proofs.Ytopclgpimabpcaa.MixB Go.Proofs.Ytopclgpimabpcaa.MixT Go.Proofs.Ytopclgpimabpcaa.LkA Go.Proofs.Ytopclgpimabpcaa.LkB Go.Proofs.Ytopclgpimabpcaa.LkC Go.Proofs.Ytopclgpimabpcaa.LkD
set_option linter.unusedSimpArgs false
set_option linter.unusedVariables false
attribute [local go_sem] max2_int min2_int max_two min_two

/-- Who has a lock, who waits. -/
abbrev LS := List (Int × Bool) × List (Int × Bool)
def askL (s : LS) (who : Int) (wr : Bool) : Bool × LS :=
  if who < 1 ∨ isIn who s.1 = true ∨ isIn who s.2 = true then (false, s)
  else if 0 < s.2.length ∨ mayL s.1 wr = false then (false, (s.1, s.2 ++ [(who, wr)]))
  else (true, (s.1 ++ [(who, wr)], s.2))
theorem lk_put1 {S E : Nat} (hne : E ≠ S) {w : World} {B p : Nat} {hs ws : List (Int × Bool)} {v1 v2 v : Value} (hB : B ≤ p) (hp : w.heap[p]? = some (.cells #[v1, v2] S (0, 0))) (h2 : KOne.Q E w B (fun k => some k ≠ v1.ownBlock) v ws) (h1 : KOne.Q E w B (fun k => some k ≠ v.ownBlock) v1 hs) :
    LkAt S E (w.setCell ⟨p, 1, none⟩ v) B p hs ws :=
  ⟨v1, v, hB, blk_set hp 1 v, Kd.Q_set h1 hp (fun q hq => by have : q ∈ [E] := hq; simp at this; omega) 1 v, Kd.Q_set h2 hp (fun q hq => by have : q ∈ [E] := hq; simp at this; omega) 1 v⟩
theorem lk_put0 {S E : Nat} (hne : E ≠ S) {w : World} {B p : Nat} {hs ws : List (Int × Bool)} {v1 v2 v : Value} (hB : B ≤ p) (hp : w.heap[p]? = some (.cells #[v1, v2] S (0, 0))) (h2 : KOne.Q E w B (fun k => some k ≠ v2.ownBlock) v hs) (h1 : KOne.Q E w B (fun k => some k ≠ v.ownBlock) v2 ws) :
    LkAt S E (w.setCell ⟨p, 0, none⟩ v) B p hs ws :=
  ⟨v, v2, hB, blk_set hp 0 v, Kd.Q_set h2 hp (fun q hq => by have : q ∈ [E] := hq; simp at this; omega) 0 v, Kd.Q_set h1 hp (fun q hq => by have : q ∈ [E] := hq; simp at this; omega) 0 v⟩
theorem ask_nil (who : Int) (wr : Bool) (w : World) : Calls Try.prog 26 #[.pointer none, .int .i64 who, .bool wr] w fun e w' => e = .returned (.bool false) ∧ w = w' := by
  go_enter Try.func26, Try.ntmps26
  go_wp2
  go_ret
  exact ⟨rfl, rfl⟩
set_option maxRecDepth 100000 in
set_option maxHeartbeats 2000000 in
theorem ask_calls {w : World} {B p : Nat} {hs ws : List (Int × Bool)} (h : LkAt 72 76 w B p hs ws) (who : Int) (wr : Bool) (hl : hs.length + ws.length ≤ 100000) :
    Calls Try.prog 26 #[.pointer (some ⟨p, 0, none⟩), .int .i64 who, .bool wr] w fun e w' => e = .returned (.bool (askL (hs, ws) who wr).1) ∧ LkAt 72 76 w' B p (askL (hs, ws) who wr).2.1 (askL (hs, ws) who wr).2.2 ∧ Below B w w' ∧ Kt 72 76 w w' := by
  obtain ⟨A1, c1, A2, c2, h2, l1, l2, r1, r2, hBp, q1, q2⟩ := lk_reads h
  have HLK := Aside0.mk h
  have x0 : w.cell? ⟨p, 0, none⟩ = some (.slice A1 hs.length c1) := blk_cell h2 0
  have x1 : w.cell? ⟨p, 1, none⟩ = some (.slice A2 ws.length c2) := blk_cell h2 1
  have HF1 := Aside0.mk (find_calls A1 c1 hs who w r1 (by omega))
  have HF2 := Aside0.mk (fun w1 (hb : Below w.heap.size w w1) => find_calls A2 c2 ws who w1 (Kd.C_below r2 hb) (by omega))
  have HI1 := Aside0.mk (find_has who hs)
  have HI2 := Aside0.mk (find_has who ws)
  change Aside0 (_ = isIn who hs) at HI1
  change Aside0 (_ = isIn who ws) at HI2
  have HBK := Aside0.mk h2
  have HBP := Aside0.mk hBp
  have hbB : B ≤ w.heap.size := by have := blk_lt h2; omega
  have HBB := Aside0.mk hbB
  have HQ12 := Aside0.mk (And.intro q1 q2)
  have HNB0 := Aside0.mk hl
  clear h h2 r1 r2 q1 q2 hBp hbB
  obtain ⟨R, hR⟩ : ∃ q, askL (hs, ws) who wr = q := ⟨_, rfl⟩
  rw [hR]
  unfold askL at hR
  simp only [] at hR
  have HRR := Aside0.mk hR
  clear hR
  by_cases hw : who < 1
  · have HE := Aside0.mk (HRR.out.symm.trans (if_pos (Or.inl hw)))
    go_enter Try.func26, Try.ntmps26
    go_wp2
    go_ret
    refine ⟨by rw [HE.out]; rfl, ?_⟩
    rw [HE.out]
    exact ⟨HLK.out, Below.refl _ _, Kt.refl _ _ _⟩
  have kw : (who < 1) = False := eq_false hw
  obtain ⟨f1, hf1⟩ : ∃ q, findL who hs = q := ⟨_, rfl⟩
  rw [hf1] at HF1 HI1
  obtain ⟨f2, hf2⟩ : ∃ q, findL who ws = q := ⟨_, rfl⟩
  rw [hf2] at HF2 HI2
  have HW := Aside0.mk hw
  clear hf1 hf2 hw
  by_cases h1 : 0 ≤ f1
  · have HE := Aside0.mk (HRR.out.symm.trans (if_pos (Or.inr (Or.inl (by rw [← HI1.out]; exact decide_eq_true h1)))))
    have k1 : (0 ≤ f1) = True := eq_true h1
    clear h1
    go_enter Try.func26, Try.ntmps26
    go_wp2_with fail
    refine HF1.out.mono ?_
    rintro e_ w1 ⟨rfl, hb⟩
    have HB1 := Aside0.mk hb
    clear hb
    go_wp2
    go_ret
    refine ⟨by rw [HE.out]; rfl, ?_⟩
    rw [HE.out]
    exact ⟨lk_below HLK.out HB1.out, HB1.out.mono HBB.out, Kt.below HB1.out⟩
  have k1 : (0 ≤ f1) = False := eq_false h1
  have HN1 := Aside0.mk (show isIn who hs = false by rw [← HI1.out]; exact decide_eq_false h1)
  clear h1
  by_cases h2 : 0 ≤ f2
  · have HE := Aside0.mk (HRR.out.symm.trans (if_pos (Or.inr (Or.inr (by rw [← HI2.out]; exact decide_eq_true h2)))))
    have k2 : (0 ≤ f2) = True := eq_true h2
    clear h2
    go_enter Try.func26, Try.ntmps26
    go_wp2_with fail
    refine HF1.out.mono ?_
    rintro e_ w1 ⟨rfl, hb⟩
    have HB1 := Aside0.mk hb
    have y1 : w1.cell? ⟨p, 1, none⟩ = some (.slice A2 ws.length c2) := pw_cell_below hb x1
    clear hb
    go_wp2_with fail
    refine (HF2.out w1 HB1.out).mono ?_
    rintro e_ w2 ⟨rfl, hb⟩
    have HB2 := Aside0.mk (below_step HB1.out hb)
    clear hb
    go_wp2
    go_ret
    refine ⟨by rw [HE.out]; rfl, ?_⟩
    rw [HE.out]
    exact ⟨lk_below HLK.out HB2.out, HB2.out.mono HBB.out, Kt.below HB2.out⟩
  have k2 : (0 ≤ f2) = False := eq_false h2
  have HN2 := Aside0.mk (show isIn who ws = false by rw [← HI2.out]; exact decide_eq_false h2)
  have HRS := Aside0.mk ((if_neg (by rintro (a | a | a); exact absurd HW.out (by omega); rw [HN1.out] at a; cases a; rw [HN2.out] at a; cases a)).symm.trans HRR.out)
  clear h2 HRR HI1 HI2 HN1 HN2 HW
  go_enter Try.func26, Try.ntmps26
  go_wp2_with fail
  refine HF1.out.mono ?_
  rintro e_ w1 ⟨rfl, hb⟩
  have HB1 := Aside0.mk hb
  have y1 : w1.cell? ⟨p, 1, none⟩ = some (.slice A2 ws.length c2) := pw_cell_below hb x1
  clear hb
  go_wp2_with fail
  refine (HF2.out w1 HB1.out).mono ?_
  rintro e_ w2 ⟨rfl, hb⟩
  have hba := (Below.refl w2.heap.size w2).alloc (Nat.le_refl _) (.cells #[.int .i64 who, .bool wr] 76 (0, 0))
  have hx3 := blk_new w2 (.cells #[.int .i64 who, .bool wr] 76 (0, 0))
  obtain ⟨w3, hw3⟩ : ∃ q, w2.alloc (.cells #[.int .i64 who, .bool wr] 76 (0, 0)) = q := ⟨_, rfl⟩
  obtain ⟨x, hx⟩ : ∃ q, w2.heap.size = q := ⟨_, rfl⟩
  rw [hw3] at hba hx3
  rw [hx] at hx3
  have hlt : ∀ k, k < w.heap.size → k < x := by intro k hk; have := (below_step HB1.out hb).size; omega
  have HB := Aside0.mk (below_step (below_step HB1.out hb) hba)
  have HXD := Aside0.mk hx3
  have HPB := Aside0.mk (blk_below HBK.out HB.out)
  have HXP : Aside0 (x ≠ p) := ⟨by have := hlt p (blk_lt HBK.out); omega⟩
  have HX1 : Aside0 (some x ≠ (Value.slice A1 hs.length c1).ownBlock) := ⟨fun e_ => by have := hlt x (Kd.Q_lt HQ12.out.1 x e_.symm); omega⟩
  have HX2 : Aside0 (some x ≠ (Value.slice A2 ws.length c2).ownBlock) := ⟨fun e_ => by have := hlt x (Kd.Q_lt HQ12.out.2 x e_.symm); omega⟩
  have HLK3 := Aside0.mk (lk_below HLK.out HB.out)
  have HQA := Aside0.mk (Kd.Q_below HQ12.out.1 HB.out)
  have HQB := Aside0.mk (Kd.Q_below HQ12.out.2 HB.out)
  have HMAY := Aside0.mk (may_calls HLK3.out wr)
  have y0 : w3.cell? ⟨p, 0, none⟩ = some (.slice A1 hs.length c1) := blk_cell HPB.out 0
  have z1 : w3.cell? ⟨p, 1, none⟩ = some (.slice A2 ws.length c2) := blk_cell HPB.out 1
  clear hb hba hx3 hlt y1 x0 x1 HF1 HF2 HB1 HLK HQ12 HBK HLK3
  by_cases hwn : 0 < ws.length
  · have HE := Aside0.mk (HRS.out.symm.trans (if_pos (Or.inl hwn)))
    have kn : (0 < ws.length) = True := eq_true hwn
    clear hwn HRS
    go_wp2_with fail
    have HQ1 := HQB
    have HQ2 := HQA
    have HXN := HX2
    have HNB : Aside0 (ws.length ≤ 100000) := ⟨by have := HNB0.out; omega⟩
    refine wp_region_tree (fun w_ w1_ => w1_.heap[x]? = w_.heap[x]? ∧ w1_.cell? ⟨p, 0, none⟩ = w_.cell? ⟨p, 0, none⟩) (.rd 0 (.rd 1 (.rd 2 (.rd 3 (.rd 5 (.two 4 6 (.ef 6 (.ef 7 (.rd 8 (.rd 9 (.ef 10 .nil))))) (.ef 4 (.ef 7 (.rd 8 (.rd 9 (.ef 10 .nil))))))))))) (by kernel_rfl) (by kernel_rfl) (fun _ => ⟨rfl, rfl⟩) (fun h h' => ⟨h'.1.trans h.1, h'.2.trans h.2⟩) (fun wd hhp_ hbw_ => ?_)
    have HBd := Aside0.mk (below_step HB.out hbw_)
    have hpd := blk_below HPB.out hbw_
    have HPd := Aside0.mk hpd
    have HPa := Aside0.mk (blk_below hpd ((Below.refl wd.heap.size wd).alloc (Nat.le_refl _) (.cells #[.int .i64 who, .bool wr] 76 (0, 0))))
    have HQd := Aside0.mk (Kd.Q_below HQ1.out hbw_)
    have HOd := Aside0.mk (Kd.Q_below HQ2.out hbw_)
    have HXd := Aside0.mk (blk_below HXD.out hbw_)
    have HXa := Aside0.mk (blk_below HXd.out ((Below.refl wd.heap.size wd).alloc (Nat.le_refl _) (.cells #[.int .i64 who, .bool wr] 76 (0, 0))))
    have c_d : wd.cell? ⟨p, 1, none⟩ = some (.slice A2 ws.length c2) := blk_cell HPd.out 1
    have c_a : (wd.alloc (.cells #[.int .i64 who, .bool wr] 76 (0, 0))).cell? ⟨p, 1, none⟩ = some (.slice A2 ws.length c2) := blk_cell HPa.out 1
    clear hhp_ hbw_ hpd
    (refine t_read (o := { dst := some 47, op := Op.move (Operand.tmp 0), type := 43, pos := "lock.go:34", after := #[], guard := none }) rfl (by first | rfl | (simp [Region.wanted, yielded]; done)) (by intro w_ hE_; (try dsimp only at hE_); first | (go_simp; done) | (go_simp; rfl)) ?_)
    (try simp only [Act.put, List.setIfInBounds_toArray, List.set_cons_zero, List.set_cons_succ])
    (refine t_read (o := { dst := some 48, op := Op.move (Operand.tmp 0), type := 43, pos := "lock.go:34", after := #[], guard := none }) rfl (by first | rfl | (simp [Region.wanted, yielded]; done)) (by intro w_ hE_; (try dsimp only at hE_); first | (go_simp; done) | (go_simp; rfl)) ?_)
    (try simp only [Act.put, List.setIfInBounds_toArray, List.set_cons_zero, List.set_cons_succ])
    (refine t_read (o := { dst := some 49, op := Op.nilCheck (Operand.tmp 48), type := 0, pos := "lock.go:34", after := #[{ on := 1, ground := Ground.data }], guard := none }) rfl (by first | rfl | (simp [Region.wanted, yielded]; done)) (by intro w_ hE_; (try dsimp only at hE_); first | (go_simp; done) | (go_simp; rfl)) ?_)
    (try simp only [Act.put, List.setIfInBounds_toArray, List.set_cons_zero, List.set_cons_succ])
    (refine t_read (o := { dst := some 50, op := Op.fieldAddr 72 (Operand.tmp 49) 1, type := 0, pos := "lock.go:34", after := #[{ on := 2, ground := Ground.data }], guard := none }) rfl (by first | rfl | (simp [Region.wanted, yielded]; done)) (by intro w_ hE_; (try dsimp only at hE_); first | (go_simp; done) | (go_simp; rfl)) ?_)
    (try simp only [Act.put, List.setIfInBounds_toArray, List.set_cons_zero, List.set_cons_succ])
    (refine t_read (o := { dst := some 52, op := Op.load 76 (Operand.tmp 7), type := 76, pos := "lock.go:34", after := #[], guard := none }) rfl (by first | rfl | (simp [Region.wanted, yielded]; done)) (by intro w_ hE_; (try dsimp only at hE_); have hx_ := hE_.1.trans HXd.out; have z0_ : w_.cell? ⟨x, 0, none⟩ = some (.int .i64 who) := blk_cell hx_ 0; have z1_ : w_.cell? ⟨x, 1, none⟩ = some (.bool wr) := blk_cell hx_ 1; first | (go_simp; done) | (go_simp; rfl)) ?_)
    (try simp only [Act.put, List.setIfInBounds_toArray, List.set_cons_zero, List.set_cons_succ])
    refine t_two ?_ ?_
    · refine s_val (o := { dst := some 51, op := Op.load 70 (Operand.tmp 50), type := 70, pos := "lock.go:34", after := #[{ on := 3, ground := Ground.data }], guard := none }) (w1 := wd) rfl (by first | rfl | (simp [Region.wanted, yielded]; done)) (by first | (go_simp; done) | (go_simp; rfl)) (⟨rfl, rfl⟩) ?_
      (try simp only [Act.put, List.setIfInBounds_toArray, List.set_cons_zero, List.set_cons_succ])
      refine t_ef ?_
      refine s_val (o := { dst := some 53, op := Op.buildSlice 70 1 #[(0, Operand.tmp 52)], type := 70, pos := "lock.go:34", after := #[{ on := 5, ground := Ground.data }], guard := none }) (w1 := (wd.alloc (.cells #[.int .i64 who, .bool wr] 76 (0, 0)))) rfl (by first | rfl | (simp [Region.wanted, yielded]; done)) (by first | (go_simp; done) | (go_simp; rfl)) (⟨HXa.out.trans HXd.out.symm, (blk_cell HPa.out 0).trans (blk_cell HPd.out 0).symm⟩) ?_
      (try simp only [Act.put, List.setIfInBounds_toArray, List.set_cons_zero, List.set_cons_succ])
      refine t_ef ?_
      refine s_list (o := { dst := some 54, op := Op.call { callee := Callee.builtin Builtin.append, args := #[Operand.tmp 51, Operand.tmp 53], argTypes := #[70, 70] }, type := 70, pos := "lock.go:34", after := #[{ on := 4, ground := Ground.data }, { on := 6, ground := Ground.data }], guard := none }) rfl (by first | rfl | (simp [Region.wanted, yielded]; done)) ?_
      refine Kd.Q_append KOne (w0 := wd) (B) rfl (.tmp 51) (.tmp 53) 70 76 (.agg #[.int .i64 0, .bool false]) 16 rfl Try.underlying70 info76 rfl (by decide) (by decide) (.slice A2 ws.length c2) ws (who, wr) [.int .i64 who, .bool wr] (fun k => some k ≠ ((.slice A1 hs.length c1) : Value).ownBlock) (fun _ => False) rfl rfl (one_M _) (fun _ hk => hk.elim) (fun k hk e_ => by have := Kd.Q_lt HOd.out k e_.symm; omega) HQd.out ⟨rfl, rfl, rfl, Nat.le_refl _, fun _ _ => rfl⟩ (by have := blk_lt HPd.out; have := HBP.out; omega) (by have := HNB.out; omega) ?_
      intro v3 w4 ho hb hg hat
      obtain ⟨os4, hos4⟩ : ∃ q, ws ++ [(who, wr)] = q := ⟨_, rfl⟩
      rw [hos4] at ho
      obtain ⟨A4, c4, e4, _⟩ := Kd.Q_slice ho
      subst e4
      have HEQ4 := Aside0.mk hos4
      clear hos4
      have hpa4 := blk_grown HPd.out hg (Kd.Q_ne HQd.out HPd.out (by decide))
      have hx4 := blk_grown HXd.out hg (fun e_ => HXN.out e_)
      refine ⟨⟨hx4.trans HXa.out.symm, (blk_cell hpa4 0).trans (blk_cell HPa.out 0).symm⟩, ?_⟩
      have HQ4 := Aside0.mk ho
      have HO4 := Aside0.mk (Kd.Q_after (v := (.slice A2 ws.length c2)) (v1 := (.slice A4 os4.length c4)) (Kd.Q_mono HOd.out (fun k hk => hk) |> fun h => Kd.Q_mono (Kd.Q_bound h) (fun k hk => ⟨trivial, hk.1⟩) (ok' := fun k => True ∧ some k ≠ ((.slice A2 ws.length c2) : Value).ownBlock)) hg hat)
      have HB4 := Aside0.mk hb
      have HG4 := Aside0.mk hg
      have HP4 := Aside0.mk hpa4
      have HX4 := Aside0.mk hx4
      have c_4 : w4.cell? ⟨p, 1, none⟩ = some (.slice A2 ws.length c2) := blk_cell hpa4 1
      have f_4 : w4.frozen? ⟨p, 1, none⟩ = false := blk_frozen hpa4 1
      clear ho hb hg hat hpa4 hx4 c_d c_a
      (try simp only [Act.put, List.setIfInBounds_toArray, List.set_cons_zero, List.set_cons_succ])
      (refine t_read (o := { dst := some 55, op := Op.nilCheck (Operand.tmp 47), type := 0, pos := "lock.go:34", after := #[{ on := 0, ground := Ground.data }, { on := 0, ground := Ground.phase }, { on := 1, ground := Ground.phase }, { on := 2, ground := Ground.phase }, { on := 3, ground := Ground.phase }, { on := 4, ground := Ground.phase }, { on := 5, ground := Ground.phase }, { on := 6, ground := Ground.phase }, { on := 7, ground := Ground.phase }], guard := none }) rfl (by first | rfl | (simp [Region.wanted, yielded]; done)) (by intro w_ hE_; (try dsimp only at hE_); first | (go_simp; done) | (go_simp; rfl)) ?_)
      (try simp only [Act.put, List.setIfInBounds_toArray, List.set_cons_zero, List.set_cons_succ])
      (refine t_read (o := { dst := some 56, op := Op.fieldAddr 72 (Operand.tmp 55) 1, type := 0, pos := "lock.go:34", after := #[{ on := 8, ground := Ground.data }, { on := 0, ground := Ground.phase }, { on := 1, ground := Ground.phase }, { on := 2, ground := Ground.phase }, { on := 3, ground := Ground.phase }, { on := 4, ground := Ground.phase }, { on := 5, ground := Ground.phase }, { on := 6, ground := Ground.phase }, { on := 7, ground := Ground.phase }], guard := none }) rfl (by first | rfl | (simp [Region.wanted, yielded]; done)) (by intro w_ hE_; (try dsimp only at hE_); first | (go_simp; done) | (go_simp; rfl)) ?_)
      (try simp only [Act.put, List.setIfInBounds_toArray, List.set_cons_zero, List.set_cons_succ])
      refine t_ef ?_
      refine s_store (o := { dst := none, op := Op.store 70 (Operand.tmp 56) (Operand.tmp 54), type := 0, pos := "lock.go:34", after := #[{ on := 9, ground := Ground.data }, { on := 7, ground := Ground.data }, { on := 7, ground := Ground.chain }, { on := 0, ground := Ground.phase }, { on := 1, ground := Ground.phase }, { on := 2, ground := Ground.phase }, { on := 3, ground := Ground.phase }, { on := 4, ground := Ground.phase }, { on := 5, ground := Ground.phase }, { on := 6, ground := Ground.phase }, { on := 7, ground := Ground.phase }], guard := none }) (w1 := w4.setCell ⟨p, 1, none⟩ (.slice A4 os4.length c4)) rfl (by first | rfl | (simp [Region.wanted, yielded]; done)) (by first | (go_simp; done) | (go_simp; rfl)) (⟨Below.heap_setCell w4 ⟨p, 1, none⟩ (.slice A4 os4.length c4) x HXP.out, (blk_cell (blk_set HP4.out 1 (.slice A4 os4.length c4)) 0).trans (blk_cell HP4.out 0).symm⟩) ?_
      (try simp only [Act.put, List.setIfInBounds_toArray, List.set_cons_zero, List.set_cons_succ])
      refine t_nil ?_
      have HLF := Aside0.mk (lk_put1 (by decide) HBP.out HP4.out HQ4.out (Kd.Q_mono HO4.out (fun _ h_ => h_.2)))
      have HBF : Aside0 (Below B w (w4.setCell ⟨p, 1, none⟩ (.slice A4 os4.length c4))) := ⟨((HBd.out.mono HBB.out).trans HB4.out).setCell HBP.out _⟩
      have HKF : Aside0 (Kt 72 76 w (w4.setCell ⟨p, 1, none⟩ (.slice A4 os4.length c4))) := ⟨((Kt.below HBd.out).trans (Kt.grown HG4.out (fun k hk => Kd.Q_typed HQd.out k hk))).trans (Kt.set HP4.out 1 _)⟩
      clear HBd HPd HPa HQd HOd HXd HXa HQ4 HO4 HB4 HG4 HP4 HX4
      generalize w4.setCell ⟨p, 1, none⟩ (.slice A4 os4.length c4) = w5 at *
      go_wp2
      go_ret
      refine ⟨by rw [HE.out]; rfl, ?_⟩
      rw [HE.out, HEQ4.out]
      exact ⟨HLF.out, HBF.out, HKF.out⟩
    · refine s_val (o := { dst := some 53, op := Op.buildSlice 70 1 #[(0, Operand.tmp 52)], type := 70, pos := "lock.go:34", after := #[{ on := 5, ground := Ground.data }], guard := none }) (w1 := (wd.alloc (.cells #[.int .i64 who, .bool wr] 76 (0, 0)))) rfl (by first | rfl | (simp [Region.wanted, yielded]; done)) (by first | (go_simp; done) | (go_simp; rfl)) (⟨HXa.out.trans HXd.out.symm, (blk_cell HPa.out 0).trans (blk_cell HPd.out 0).symm⟩) ?_
      (try simp only [Act.put, List.setIfInBounds_toArray, List.set_cons_zero, List.set_cons_succ])
      refine t_ef ?_
      refine s_val (o := { dst := some 51, op := Op.load 70 (Operand.tmp 50), type := 70, pos := "lock.go:34", after := #[{ on := 3, ground := Ground.data }], guard := none }) (w1 := (wd.alloc (.cells #[.int .i64 who, .bool wr] 76 (0, 0)))) rfl (by first | rfl | (simp [Region.wanted, yielded]; done)) (by first | (go_simp; done) | (go_simp; rfl)) (⟨rfl, rfl⟩) ?_
      (try simp only [Act.put, List.setIfInBounds_toArray, List.set_cons_zero, List.set_cons_succ])
      refine t_ef ?_
      refine s_list (o := { dst := some 54, op := Op.call { callee := Callee.builtin Builtin.append, args := #[Operand.tmp 51, Operand.tmp 53], argTypes := #[70, 70] }, type := 70, pos := "lock.go:34", after := #[{ on := 4, ground := Ground.data }, { on := 6, ground := Ground.data }], guard := none }) rfl (by first | rfl | (simp [Region.wanted, yielded]; done)) ?_
      refine Kd.Q_append KOne (w0 := wd) (B) rfl (.tmp 51) (.tmp 53) 70 76 (.agg #[.int .i64 0, .bool false]) 16 rfl Try.underlying70 info76 rfl (by decide) (by decide) (.slice A2 ws.length c2) ws (who, wr) [.int .i64 who, .bool wr] (fun k => some k ≠ ((.slice A1 hs.length c1) : Value).ownBlock) (fun _ => False) rfl rfl (one_M _) (fun _ hk => hk.elim) (fun k hk e_ => by have := Kd.Q_lt HOd.out k e_.symm; omega) HQd.out ⟨rfl, rfl, rfl, Nat.le_refl _, fun _ _ => rfl⟩ (by have := blk_lt HPd.out; have := HBP.out; omega) (by have := HNB.out; omega) ?_
      intro v3 w4 ho hb hg hat
      obtain ⟨os4, hos4⟩ : ∃ q, ws ++ [(who, wr)] = q := ⟨_, rfl⟩
      rw [hos4] at ho
      obtain ⟨A4, c4, e4, _⟩ := Kd.Q_slice ho
      subst e4
      have HEQ4 := Aside0.mk hos4
      clear hos4
      have hpa4 := blk_grown HPd.out hg (Kd.Q_ne HQd.out HPd.out (by decide))
      have hx4 := blk_grown HXd.out hg (fun e_ => HXN.out e_)
      refine ⟨⟨hx4.trans HXa.out.symm, (blk_cell hpa4 0).trans (blk_cell HPa.out 0).symm⟩, ?_⟩
      have HQ4 := Aside0.mk ho
      have HO4 := Aside0.mk (Kd.Q_after (v := (.slice A2 ws.length c2)) (v1 := (.slice A4 os4.length c4)) (Kd.Q_mono HOd.out (fun k hk => hk) |> fun h => Kd.Q_mono (Kd.Q_bound h) (fun k hk => ⟨trivial, hk.1⟩) (ok' := fun k => True ∧ some k ≠ ((.slice A2 ws.length c2) : Value).ownBlock)) hg hat)
      have HB4 := Aside0.mk hb
      have HG4 := Aside0.mk hg
      have HP4 := Aside0.mk hpa4
      have HX4 := Aside0.mk hx4
      have c_4 : w4.cell? ⟨p, 1, none⟩ = some (.slice A2 ws.length c2) := blk_cell hpa4 1
      have f_4 : w4.frozen? ⟨p, 1, none⟩ = false := blk_frozen hpa4 1
      clear ho hb hg hat hpa4 hx4 c_d c_a
      (try simp only [Act.put, List.setIfInBounds_toArray, List.set_cons_zero, List.set_cons_succ])
      (refine t_read (o := { dst := some 55, op := Op.nilCheck (Operand.tmp 47), type := 0, pos := "lock.go:34", after := #[{ on := 0, ground := Ground.data }, { on := 0, ground := Ground.phase }, { on := 1, ground := Ground.phase }, { on := 2, ground := Ground.phase }, { on := 3, ground := Ground.phase }, { on := 4, ground := Ground.phase }, { on := 5, ground := Ground.phase }, { on := 6, ground := Ground.phase }, { on := 7, ground := Ground.phase }], guard := none }) rfl (by first | rfl | (simp [Region.wanted, yielded]; done)) (by intro w_ hE_; (try dsimp only at hE_); first | (go_simp; done) | (go_simp; rfl)) ?_)
      (try simp only [Act.put, List.setIfInBounds_toArray, List.set_cons_zero, List.set_cons_succ])
      (refine t_read (o := { dst := some 56, op := Op.fieldAddr 72 (Operand.tmp 55) 1, type := 0, pos := "lock.go:34", after := #[{ on := 8, ground := Ground.data }, { on := 0, ground := Ground.phase }, { on := 1, ground := Ground.phase }, { on := 2, ground := Ground.phase }, { on := 3, ground := Ground.phase }, { on := 4, ground := Ground.phase }, { on := 5, ground := Ground.phase }, { on := 6, ground := Ground.phase }, { on := 7, ground := Ground.phase }], guard := none }) rfl (by first | rfl | (simp [Region.wanted, yielded]; done)) (by intro w_ hE_; (try dsimp only at hE_); first | (go_simp; done) | (go_simp; rfl)) ?_)
      (try simp only [Act.put, List.setIfInBounds_toArray, List.set_cons_zero, List.set_cons_succ])
      refine t_ef ?_
      refine s_store (o := { dst := none, op := Op.store 70 (Operand.tmp 56) (Operand.tmp 54), type := 0, pos := "lock.go:34", after := #[{ on := 9, ground := Ground.data }, { on := 7, ground := Ground.data }, { on := 7, ground := Ground.chain }, { on := 0, ground := Ground.phase }, { on := 1, ground := Ground.phase }, { on := 2, ground := Ground.phase }, { on := 3, ground := Ground.phase }, { on := 4, ground := Ground.phase }, { on := 5, ground := Ground.phase }, { on := 6, ground := Ground.phase }, { on := 7, ground := Ground.phase }], guard := none }) (w1 := w4.setCell ⟨p, 1, none⟩ (.slice A4 os4.length c4)) rfl (by first | rfl | (simp [Region.wanted, yielded]; done)) (by first | (go_simp; done) | (go_simp; rfl)) (⟨Below.heap_setCell w4 ⟨p, 1, none⟩ (.slice A4 os4.length c4) x HXP.out, (blk_cell (blk_set HP4.out 1 (.slice A4 os4.length c4)) 0).trans (blk_cell HP4.out 0).symm⟩) ?_
      (try simp only [Act.put, List.setIfInBounds_toArray, List.set_cons_zero, List.set_cons_succ])
      refine t_nil ?_
      have HLF := Aside0.mk (lk_put1 (by decide) HBP.out HP4.out HQ4.out (Kd.Q_mono HO4.out (fun _ h_ => h_.2)))
      have HBF : Aside0 (Below B w (w4.setCell ⟨p, 1, none⟩ (.slice A4 os4.length c4))) := ⟨((HBd.out.mono HBB.out).trans HB4.out).setCell HBP.out _⟩
      have HKF : Aside0 (Kt 72 76 w (w4.setCell ⟨p, 1, none⟩ (.slice A4 os4.length c4))) := ⟨((Kt.below HBd.out).trans (Kt.grown HG4.out (fun k hk => Kd.Q_typed HQd.out k hk))).trans (Kt.set HP4.out 1 _)⟩
      clear HBd HPd HPa HQd HOd HXd HXa HQ4 HO4 HB4 HG4 HP4 HX4
      generalize w4.setCell ⟨p, 1, none⟩ (.slice A4 os4.length c4) = w5 at *
      go_wp2
      go_ret
      refine ⟨by rw [HE.out]; rfl, ?_⟩
      rw [HE.out, HEQ4.out]
      exact ⟨HLF.out, HBF.out, HKF.out⟩
  · have kn : (0 < ws.length) = False := eq_false hwn
    have HWN := Aside0.mk hwn
    clear hwn
    go_wp2_with fail
    refine HMAY.out.mono ?_
    rintro e_ w6 ⟨rfl, rfl⟩
    have hcase : mayL hs wr = true ∨ mayL hs wr = false := by cases mayL hs wr <;> simp
    rcases hcase with hm | hm
    · have HE := Aside0.mk (HRS.out.symm.trans (if_neg (by rintro (a | a); exact HWN.out a; rw [hm] at a; cases a)))
      rw [hm]
      clear hm HRS
      go_wp2_with fail
      have HQ1 := HQA
      have HQ2 := HQB
      have HXN := HX1
      have HNB : Aside0 (hs.length ≤ 100000) := ⟨by have := HNB0.out; omega⟩
      refine wp_region_tree (fun w_ w1_ => w1_.heap[x]? = w_.heap[x]? ∧ w1_.cell? ⟨p, 1, none⟩ = w_.cell? ⟨p, 1, none⟩) (.rd 0 (.rd 1 (.rd 2 (.rd 3 (.rd 5 (.two 4 6 (.ef 6 (.ef 7 (.rd 8 (.rd 9 (.ef 10 .nil))))) (.ef 4 (.ef 7 (.rd 8 (.rd 9 (.ef 10 .nil))))))))))) (by kernel_rfl) (by kernel_rfl) (fun _ => ⟨rfl, rfl⟩) (fun h h' => ⟨h'.1.trans h.1, h'.2.trans h.2⟩) (fun wd hhp_ hbw_ => ?_)
      have HBd := Aside0.mk (below_step HB.out hbw_)
      have hpd := blk_below HPB.out hbw_
      have HPd := Aside0.mk hpd
      have HPa := Aside0.mk (blk_below hpd ((Below.refl wd.heap.size wd).alloc (Nat.le_refl _) (.cells #[.int .i64 who, .bool wr] 76 (0, 0))))
      have HQd := Aside0.mk (Kd.Q_below HQ1.out hbw_)
      have HOd := Aside0.mk (Kd.Q_below HQ2.out hbw_)
      have HXd := Aside0.mk (blk_below HXD.out hbw_)
      have HXa := Aside0.mk (blk_below HXd.out ((Below.refl wd.heap.size wd).alloc (Nat.le_refl _) (.cells #[.int .i64 who, .bool wr] 76 (0, 0))))
      have c_d : wd.cell? ⟨p, 0, none⟩ = some (.slice A1 hs.length c1) := blk_cell HPd.out 0
      have c_a : (wd.alloc (.cells #[.int .i64 who, .bool wr] 76 (0, 0))).cell? ⟨p, 0, none⟩ = some (.slice A1 hs.length c1) := blk_cell HPa.out 0
      clear hhp_ hbw_ hpd
      (refine t_read (o := { dst := some 57, op := Op.move (Operand.tmp 0), type := 43, pos := "lock.go:37", after := #[], guard := none }) rfl (by first | rfl | (simp [Region.wanted, yielded]; done)) (by intro w_ hE_; (try dsimp only at hE_); first | (go_simp; done) | (go_simp; rfl)) ?_)
      (try simp only [Act.put, List.setIfInBounds_toArray, List.set_cons_zero, List.set_cons_succ])
      (refine t_read (o := { dst := some 58, op := Op.move (Operand.tmp 0), type := 43, pos := "lock.go:37", after := #[], guard := none }) rfl (by first | rfl | (simp [Region.wanted, yielded]; done)) (by intro w_ hE_; (try dsimp only at hE_); first | (go_simp; done) | (go_simp; rfl)) ?_)
      (try simp only [Act.put, List.setIfInBounds_toArray, List.set_cons_zero, List.set_cons_succ])
      (refine t_read (o := { dst := some 59, op := Op.nilCheck (Operand.tmp 58), type := 0, pos := "lock.go:37", after := #[{ on := 1, ground := Ground.data }], guard := none }) rfl (by first | rfl | (simp [Region.wanted, yielded]; done)) (by intro w_ hE_; (try dsimp only at hE_); first | (go_simp; done) | (go_simp; rfl)) ?_)
      (try simp only [Act.put, List.setIfInBounds_toArray, List.set_cons_zero, List.set_cons_succ])
      (refine t_read (o := { dst := some 60, op := Op.fieldAddr 72 (Operand.tmp 59) 0, type := 0, pos := "lock.go:37", after := #[{ on := 2, ground := Ground.data }], guard := none }) rfl (by first | rfl | (simp [Region.wanted, yielded]; done)) (by intro w_ hE_; (try dsimp only at hE_); first | (go_simp; done) | (go_simp; rfl)) ?_)
      (try simp only [Act.put, List.setIfInBounds_toArray, List.set_cons_zero, List.set_cons_succ])
      (refine t_read (o := { dst := some 62, op := Op.load 76 (Operand.tmp 7), type := 76, pos := "lock.go:37", after := #[], guard := none }) rfl (by first | rfl | (simp [Region.wanted, yielded]; done)) (by intro w_ hE_; (try dsimp only at hE_); have hx_ := hE_.1.trans HXd.out; have z0_ : w_.cell? ⟨x, 0, none⟩ = some (.int .i64 who) := blk_cell hx_ 0; have z1_ : w_.cell? ⟨x, 1, none⟩ = some (.bool wr) := blk_cell hx_ 1; first | (go_simp; done) | (go_simp; rfl)) ?_)
      (try simp only [Act.put, List.setIfInBounds_toArray, List.set_cons_zero, List.set_cons_succ])
      refine t_two ?_ ?_
      · refine s_val (o := { dst := some 61, op := Op.load 70 (Operand.tmp 60), type := 70, pos := "lock.go:37", after := #[{ on := 3, ground := Ground.data }], guard := none }) (w1 := wd) rfl (by first | rfl | (simp [Region.wanted, yielded]; done)) (by first | (go_simp; done) | (go_simp; rfl)) (⟨rfl, rfl⟩) ?_
        (try simp only [Act.put, List.setIfInBounds_toArray, List.set_cons_zero, List.set_cons_succ])
        refine t_ef ?_
        refine s_val (o := { dst := some 63, op := Op.buildSlice 70 1 #[(0, Operand.tmp 62)], type := 70, pos := "lock.go:37", after := #[{ on := 5, ground := Ground.data }], guard := none }) (w1 := (wd.alloc (.cells #[.int .i64 who, .bool wr] 76 (0, 0)))) rfl (by first | rfl | (simp [Region.wanted, yielded]; done)) (by first | (go_simp; done) | (go_simp; rfl)) (⟨HXa.out.trans HXd.out.symm, (blk_cell HPa.out 1).trans (blk_cell HPd.out 1).symm⟩) ?_
        (try simp only [Act.put, List.setIfInBounds_toArray, List.set_cons_zero, List.set_cons_succ])
        refine t_ef ?_
        refine s_list (o := { dst := some 64, op := Op.call { callee := Callee.builtin Builtin.append, args := #[Operand.tmp 61, Operand.tmp 63], argTypes := #[70, 70] }, type := 70, pos := "lock.go:37", after := #[{ on := 4, ground := Ground.data }, { on := 6, ground := Ground.data }], guard := none }) rfl (by first | rfl | (simp [Region.wanted, yielded]; done)) ?_
        refine Kd.Q_append KOne (w0 := wd) (B) rfl (.tmp 61) (.tmp 63) 70 76 (.agg #[.int .i64 0, .bool false]) 16 rfl Try.underlying70 info76 rfl (by decide) (by decide) (.slice A1 hs.length c1) hs (who, wr) [.int .i64 who, .bool wr] (fun k => some k ≠ ((.slice A2 ws.length c2) : Value).ownBlock) (fun _ => False) rfl rfl (one_M _) (fun _ hk => hk.elim) (fun k hk e_ => by have := Kd.Q_lt HOd.out k e_.symm; omega) HQd.out ⟨rfl, rfl, rfl, Nat.le_refl _, fun _ _ => rfl⟩ (by have := blk_lt HPd.out; have := HBP.out; omega) (by have := HNB.out; omega) ?_
        intro v3 w4 ho hb hg hat
        obtain ⟨os4, hos4⟩ : ∃ q, hs ++ [(who, wr)] = q := ⟨_, rfl⟩
        rw [hos4] at ho
        obtain ⟨A4, c4, e4, _⟩ := Kd.Q_slice ho
        subst e4
        have HEQ4 := Aside0.mk hos4
        clear hos4
        have hpa4 := blk_grown HPd.out hg (Kd.Q_ne HQd.out HPd.out (by decide))
        have hx4 := blk_grown HXd.out hg (fun e_ => HXN.out e_)
        refine ⟨⟨hx4.trans HXa.out.symm, (blk_cell hpa4 1).trans (blk_cell HPa.out 1).symm⟩, ?_⟩
        have HQ4 := Aside0.mk ho
        have HO4 := Aside0.mk (Kd.Q_after (v := (.slice A1 hs.length c1)) (v1 := (.slice A4 os4.length c4)) (Kd.Q_mono HOd.out (fun k hk => hk) |> fun h => Kd.Q_mono (Kd.Q_bound h) (fun k hk => ⟨trivial, hk.1⟩) (ok' := fun k => True ∧ some k ≠ ((.slice A1 hs.length c1) : Value).ownBlock)) hg hat)
        have HB4 := Aside0.mk hb
        have HG4 := Aside0.mk hg
        have HP4 := Aside0.mk hpa4
        have HX4 := Aside0.mk hx4
        have c_4 : w4.cell? ⟨p, 0, none⟩ = some (.slice A1 hs.length c1) := blk_cell hpa4 0
        have f_4 : w4.frozen? ⟨p, 0, none⟩ = false := blk_frozen hpa4 0
        clear ho hb hg hat hpa4 hx4 c_d c_a
        (try simp only [Act.put, List.setIfInBounds_toArray, List.set_cons_zero, List.set_cons_succ])
        (refine t_read (o := { dst := some 65, op := Op.nilCheck (Operand.tmp 57), type := 0, pos := "lock.go:37", after := #[{ on := 0, ground := Ground.data }, { on := 0, ground := Ground.phase }, { on := 1, ground := Ground.phase }, { on := 2, ground := Ground.phase }, { on := 3, ground := Ground.phase }, { on := 4, ground := Ground.phase }, { on := 5, ground := Ground.phase }, { on := 6, ground := Ground.phase }, { on := 7, ground := Ground.phase }], guard := none }) rfl (by first | rfl | (simp [Region.wanted, yielded]; done)) (by intro w_ hE_; (try dsimp only at hE_); first | (go_simp; done) | (go_simp; rfl)) ?_)
        (try simp only [Act.put, List.setIfInBounds_toArray, List.set_cons_zero, List.set_cons_succ])
        (refine t_read (o := { dst := some 66, op := Op.fieldAddr 72 (Operand.tmp 65) 0, type := 0, pos := "lock.go:37", after := #[{ on := 8, ground := Ground.data }, { on := 0, ground := Ground.phase }, { on := 1, ground := Ground.phase }, { on := 2, ground := Ground.phase }, { on := 3, ground := Ground.phase }, { on := 4, ground := Ground.phase }, { on := 5, ground := Ground.phase }, { on := 6, ground := Ground.phase }, { on := 7, ground := Ground.phase }], guard := none }) rfl (by first | rfl | (simp [Region.wanted, yielded]; done)) (by intro w_ hE_; (try dsimp only at hE_); first | (go_simp; done) | (go_simp; rfl)) ?_)
        (try simp only [Act.put, List.setIfInBounds_toArray, List.set_cons_zero, List.set_cons_succ])
        refine t_ef ?_
        refine s_store (o := { dst := none, op := Op.store 70 (Operand.tmp 66) (Operand.tmp 64), type := 0, pos := "lock.go:37", after := #[{ on := 9, ground := Ground.data }, { on := 7, ground := Ground.data }, { on := 7, ground := Ground.chain }, { on := 0, ground := Ground.phase }, { on := 1, ground := Ground.phase }, { on := 2, ground := Ground.phase }, { on := 3, ground := Ground.phase }, { on := 4, ground := Ground.phase }, { on := 5, ground := Ground.phase }, { on := 6, ground := Ground.phase }, { on := 7, ground := Ground.phase }], guard := none }) (w1 := w4.setCell ⟨p, 0, none⟩ (.slice A4 os4.length c4)) rfl (by first | rfl | (simp [Region.wanted, yielded]; done)) (by first | (go_simp; done) | (go_simp; rfl)) (⟨Below.heap_setCell w4 ⟨p, 0, none⟩ (.slice A4 os4.length c4) x HXP.out, (blk_cell (blk_set HP4.out 0 (.slice A4 os4.length c4)) 1).trans (blk_cell HP4.out 1).symm⟩) ?_
        (try simp only [Act.put, List.setIfInBounds_toArray, List.set_cons_zero, List.set_cons_succ])
        refine t_nil ?_
        have HLF := Aside0.mk (lk_put0 (by decide) HBP.out HP4.out HQ4.out (Kd.Q_mono HO4.out (fun _ h_ => h_.2)))
        have HBF : Aside0 (Below B w (w4.setCell ⟨p, 0, none⟩ (.slice A4 os4.length c4))) := ⟨((HBd.out.mono HBB.out).trans HB4.out).setCell HBP.out _⟩
        have HKF : Aside0 (Kt 72 76 w (w4.setCell ⟨p, 0, none⟩ (.slice A4 os4.length c4))) := ⟨((Kt.below HBd.out).trans (Kt.grown HG4.out (fun k hk => Kd.Q_typed HQd.out k hk))).trans (Kt.set HP4.out 0 _)⟩
        clear HBd HPd HPa HQd HOd HXd HXa HQ4 HO4 HB4 HG4 HP4 HX4
        generalize w4.setCell ⟨p, 0, none⟩ (.slice A4 os4.length c4) = w5 at *
        go_wp2
        go_ret
        refine ⟨by rw [HE.out]; rfl, ?_⟩
        rw [HE.out, HEQ4.out]
        exact ⟨HLF.out, HBF.out, HKF.out⟩
      · refine s_val (o := { dst := some 63, op := Op.buildSlice 70 1 #[(0, Operand.tmp 62)], type := 70, pos := "lock.go:37", after := #[{ on := 5, ground := Ground.data }], guard := none }) (w1 := (wd.alloc (.cells #[.int .i64 who, .bool wr] 76 (0, 0)))) rfl (by first | rfl | (simp [Region.wanted, yielded]; done)) (by first | (go_simp; done) | (go_simp; rfl)) (⟨HXa.out.trans HXd.out.symm, (blk_cell HPa.out 1).trans (blk_cell HPd.out 1).symm⟩) ?_
        (try simp only [Act.put, List.setIfInBounds_toArray, List.set_cons_zero, List.set_cons_succ])
        refine t_ef ?_
        refine s_val (o := { dst := some 61, op := Op.load 70 (Operand.tmp 60), type := 70, pos := "lock.go:37", after := #[{ on := 3, ground := Ground.data }], guard := none }) (w1 := (wd.alloc (.cells #[.int .i64 who, .bool wr] 76 (0, 0)))) rfl (by first | rfl | (simp [Region.wanted, yielded]; done)) (by first | (go_simp; done) | (go_simp; rfl)) (⟨rfl, rfl⟩) ?_
        (try simp only [Act.put, List.setIfInBounds_toArray, List.set_cons_zero, List.set_cons_succ])
        refine t_ef ?_
        refine s_list (o := { dst := some 64, op := Op.call { callee := Callee.builtin Builtin.append, args := #[Operand.tmp 61, Operand.tmp 63], argTypes := #[70, 70] }, type := 70, pos := "lock.go:37", after := #[{ on := 4, ground := Ground.data }, { on := 6, ground := Ground.data }], guard := none }) rfl (by first | rfl | (simp [Region.wanted, yielded]; done)) ?_
        refine Kd.Q_append KOne (w0 := wd) (B) rfl (.tmp 61) (.tmp 63) 70 76 (.agg #[.int .i64 0, .bool false]) 16 rfl Try.underlying70 info76 rfl (by decide) (by decide) (.slice A1 hs.length c1) hs (who, wr) [.int .i64 who, .bool wr] (fun k => some k ≠ ((.slice A2 ws.length c2) : Value).ownBlock) (fun _ => False) rfl rfl (one_M _) (fun _ hk => hk.elim) (fun k hk e_ => by have := Kd.Q_lt HOd.out k e_.symm; omega) HQd.out ⟨rfl, rfl, rfl, Nat.le_refl _, fun _ _ => rfl⟩ (by have := blk_lt HPd.out; have := HBP.out; omega) (by have := HNB.out; omega) ?_
        intro v3 w4 ho hb hg hat
        obtain ⟨os4, hos4⟩ : ∃ q, hs ++ [(who, wr)] = q := ⟨_, rfl⟩
        rw [hos4] at ho
        obtain ⟨A4, c4, e4, _⟩ := Kd.Q_slice ho
        subst e4
        have HEQ4 := Aside0.mk hos4
        clear hos4
        have hpa4 := blk_grown HPd.out hg (Kd.Q_ne HQd.out HPd.out (by decide))
        have hx4 := blk_grown HXd.out hg (fun e_ => HXN.out e_)
        refine ⟨⟨hx4.trans HXa.out.symm, (blk_cell hpa4 1).trans (blk_cell HPa.out 1).symm⟩, ?_⟩
        have HQ4 := Aside0.mk ho
        have HO4 := Aside0.mk (Kd.Q_after (v := (.slice A1 hs.length c1)) (v1 := (.slice A4 os4.length c4)) (Kd.Q_mono HOd.out (fun k hk => hk) |> fun h => Kd.Q_mono (Kd.Q_bound h) (fun k hk => ⟨trivial, hk.1⟩) (ok' := fun k => True ∧ some k ≠ ((.slice A1 hs.length c1) : Value).ownBlock)) hg hat)
        have HB4 := Aside0.mk hb
        have HG4 := Aside0.mk hg
        have HP4 := Aside0.mk hpa4
        have HX4 := Aside0.mk hx4
        have c_4 : w4.cell? ⟨p, 0, none⟩ = some (.slice A1 hs.length c1) := blk_cell hpa4 0
        have f_4 : w4.frozen? ⟨p, 0, none⟩ = false := blk_frozen hpa4 0
        clear ho hb hg hat hpa4 hx4 c_d c_a
        (try simp only [Act.put, List.setIfInBounds_toArray, List.set_cons_zero, List.set_cons_succ])
        (refine t_read (o := { dst := some 65, op := Op.nilCheck (Operand.tmp 57), type := 0, pos := "lock.go:37", after := #[{ on := 0, ground := Ground.data }, { on := 0, ground := Ground.phase }, { on := 1, ground := Ground.phase }, { on := 2, ground := Ground.phase }, { on := 3, ground := Ground.phase }, { on := 4, ground := Ground.phase }, { on := 5, ground := Ground.phase }, { on := 6, ground := Ground.phase }, { on := 7, ground := Ground.phase }], guard := none }) rfl (by first | rfl | (simp [Region.wanted, yielded]; done)) (by intro w_ hE_; (try dsimp only at hE_); first | (go_simp; done) | (go_simp; rfl)) ?_)
        (try simp only [Act.put, List.setIfInBounds_toArray, List.set_cons_zero, List.set_cons_succ])
        (refine t_read (o := { dst := some 66, op := Op.fieldAddr 72 (Operand.tmp 65) 0, type := 0, pos := "lock.go:37", after := #[{ on := 8, ground := Ground.data }, { on := 0, ground := Ground.phase }, { on := 1, ground := Ground.phase }, { on := 2, ground := Ground.phase }, { on := 3, ground := Ground.phase }, { on := 4, ground := Ground.phase }, { on := 5, ground := Ground.phase }, { on := 6, ground := Ground.phase }, { on := 7, ground := Ground.phase }], guard := none }) rfl (by first | rfl | (simp [Region.wanted, yielded]; done)) (by intro w_ hE_; (try dsimp only at hE_); first | (go_simp; done) | (go_simp; rfl)) ?_)
        (try simp only [Act.put, List.setIfInBounds_toArray, List.set_cons_zero, List.set_cons_succ])
        refine t_ef ?_
        refine s_store (o := { dst := none, op := Op.store 70 (Operand.tmp 66) (Operand.tmp 64), type := 0, pos := "lock.go:37", after := #[{ on := 9, ground := Ground.data }, { on := 7, ground := Ground.data }, { on := 7, ground := Ground.chain }, { on := 0, ground := Ground.phase }, { on := 1, ground := Ground.phase }, { on := 2, ground := Ground.phase }, { on := 3, ground := Ground.phase }, { on := 4, ground := Ground.phase }, { on := 5, ground := Ground.phase }, { on := 6, ground := Ground.phase }, { on := 7, ground := Ground.phase }], guard := none }) (w1 := w4.setCell ⟨p, 0, none⟩ (.slice A4 os4.length c4)) rfl (by first | rfl | (simp [Region.wanted, yielded]; done)) (by first | (go_simp; done) | (go_simp; rfl)) (⟨Below.heap_setCell w4 ⟨p, 0, none⟩ (.slice A4 os4.length c4) x HXP.out, (blk_cell (blk_set HP4.out 0 (.slice A4 os4.length c4)) 1).trans (blk_cell HP4.out 1).symm⟩) ?_
        (try simp only [Act.put, List.setIfInBounds_toArray, List.set_cons_zero, List.set_cons_succ])
        refine t_nil ?_
        have HLF := Aside0.mk (lk_put0 (by decide) HBP.out HP4.out HQ4.out (Kd.Q_mono HO4.out (fun _ h_ => h_.2)))
        have HBF : Aside0 (Below B w (w4.setCell ⟨p, 0, none⟩ (.slice A4 os4.length c4))) := ⟨((HBd.out.mono HBB.out).trans HB4.out).setCell HBP.out _⟩
        have HKF : Aside0 (Kt 72 76 w (w4.setCell ⟨p, 0, none⟩ (.slice A4 os4.length c4))) := ⟨((Kt.below HBd.out).trans (Kt.grown HG4.out (fun k hk => Kd.Q_typed HQd.out k hk))).trans (Kt.set HP4.out 0 _)⟩
        clear HBd HPd HPa HQd HOd HXd HXa HQ4 HO4 HB4 HG4 HP4 HX4
        generalize w4.setCell ⟨p, 0, none⟩ (.slice A4 os4.length c4) = w5 at *
        go_wp2
        go_ret
        refine ⟨by rw [HE.out]; rfl, ?_⟩
        rw [HE.out, HEQ4.out]
        exact ⟨HLF.out, HBF.out, HKF.out⟩
    · have HE := Aside0.mk (HRS.out.symm.trans (if_pos (Or.inr hm)))
      rw [hm]
      clear hm HRS
      go_wp2_with fail
      have HQ1 := HQB
      have HQ2 := HQA
      have HXN := HX2
      have HNB : Aside0 (ws.length ≤ 100000) := ⟨by have := HNB0.out; omega⟩
      refine wp_region_tree (fun w_ w1_ => w1_.heap[x]? = w_.heap[x]? ∧ w1_.cell? ⟨p, 0, none⟩ = w_.cell? ⟨p, 0, none⟩) (.rd 0 (.rd 1 (.rd 2 (.rd 3 (.rd 5 (.two 4 6 (.ef 6 (.ef 7 (.rd 8 (.rd 9 (.ef 10 .nil))))) (.ef 4 (.ef 7 (.rd 8 (.rd 9 (.ef 10 .nil))))))))))) (by kernel_rfl) (by kernel_rfl) (fun _ => ⟨rfl, rfl⟩) (fun h h' => ⟨h'.1.trans h.1, h'.2.trans h.2⟩) (fun wd hhp_ hbw_ => ?_)
      have HBd := Aside0.mk (below_step HB.out hbw_)
      have hpd := blk_below HPB.out hbw_
      have HPd := Aside0.mk hpd
      have HPa := Aside0.mk (blk_below hpd ((Below.refl wd.heap.size wd).alloc (Nat.le_refl _) (.cells #[.int .i64 who, .bool wr] 76 (0, 0))))
      have HQd := Aside0.mk (Kd.Q_below HQ1.out hbw_)
      have HOd := Aside0.mk (Kd.Q_below HQ2.out hbw_)
      have HXd := Aside0.mk (blk_below HXD.out hbw_)
      have HXa := Aside0.mk (blk_below HXd.out ((Below.refl wd.heap.size wd).alloc (Nat.le_refl _) (.cells #[.int .i64 who, .bool wr] 76 (0, 0))))
      have c_d : wd.cell? ⟨p, 1, none⟩ = some (.slice A2 ws.length c2) := blk_cell HPd.out 1
      have c_a : (wd.alloc (.cells #[.int .i64 who, .bool wr] 76 (0, 0))).cell? ⟨p, 1, none⟩ = some (.slice A2 ws.length c2) := blk_cell HPa.out 1
      clear hhp_ hbw_ hpd
      (refine t_read (o := { dst := some 47, op := Op.move (Operand.tmp 0), type := 43, pos := "lock.go:34", after := #[], guard := none }) rfl (by first | rfl | (simp [Region.wanted, yielded]; done)) (by intro w_ hE_; (try dsimp only at hE_); first | (go_simp; done) | (go_simp; rfl)) ?_)
      (try simp only [Act.put, List.setIfInBounds_toArray, List.set_cons_zero, List.set_cons_succ])
      (refine t_read (o := { dst := some 48, op := Op.move (Operand.tmp 0), type := 43, pos := "lock.go:34", after := #[], guard := none }) rfl (by first | rfl | (simp [Region.wanted, yielded]; done)) (by intro w_ hE_; (try dsimp only at hE_); first | (go_simp; done) | (go_simp; rfl)) ?_)
      (try simp only [Act.put, List.setIfInBounds_toArray, List.set_cons_zero, List.set_cons_succ])
      (refine t_read (o := { dst := some 49, op := Op.nilCheck (Operand.tmp 48), type := 0, pos := "lock.go:34", after := #[{ on := 1, ground := Ground.data }], guard := none }) rfl (by first | rfl | (simp [Region.wanted, yielded]; done)) (by intro w_ hE_; (try dsimp only at hE_); first | (go_simp; done) | (go_simp; rfl)) ?_)
      (try simp only [Act.put, List.setIfInBounds_toArray, List.set_cons_zero, List.set_cons_succ])
      (refine t_read (o := { dst := some 50, op := Op.fieldAddr 72 (Operand.tmp 49) 1, type := 0, pos := "lock.go:34", after := #[{ on := 2, ground := Ground.data }], guard := none }) rfl (by first | rfl | (simp [Region.wanted, yielded]; done)) (by intro w_ hE_; (try dsimp only at hE_); first | (go_simp; done) | (go_simp; rfl)) ?_)
      (try simp only [Act.put, List.setIfInBounds_toArray, List.set_cons_zero, List.set_cons_succ])
      (refine t_read (o := { dst := some 52, op := Op.load 76 (Operand.tmp 7), type := 76, pos := "lock.go:34", after := #[], guard := none }) rfl (by first | rfl | (simp [Region.wanted, yielded]; done)) (by intro w_ hE_; (try dsimp only at hE_); have hx_ := hE_.1.trans HXd.out; have z0_ : w_.cell? ⟨x, 0, none⟩ = some (.int .i64 who) := blk_cell hx_ 0; have z1_ : w_.cell? ⟨x, 1, none⟩ = some (.bool wr) := blk_cell hx_ 1; first | (go_simp; done) | (go_simp; rfl)) ?_)
      (try simp only [Act.put, List.setIfInBounds_toArray, List.set_cons_zero, List.set_cons_succ])
      refine t_two ?_ ?_
      · refine s_val (o := { dst := some 51, op := Op.load 70 (Operand.tmp 50), type := 70, pos := "lock.go:34", after := #[{ on := 3, ground := Ground.data }], guard := none }) (w1 := wd) rfl (by first | rfl | (simp [Region.wanted, yielded]; done)) (by first | (go_simp; done) | (go_simp; rfl)) (⟨rfl, rfl⟩) ?_
        (try simp only [Act.put, List.setIfInBounds_toArray, List.set_cons_zero, List.set_cons_succ])
        refine t_ef ?_
        refine s_val (o := { dst := some 53, op := Op.buildSlice 70 1 #[(0, Operand.tmp 52)], type := 70, pos := "lock.go:34", after := #[{ on := 5, ground := Ground.data }], guard := none }) (w1 := (wd.alloc (.cells #[.int .i64 who, .bool wr] 76 (0, 0)))) rfl (by first | rfl | (simp [Region.wanted, yielded]; done)) (by first | (go_simp; done) | (go_simp; rfl)) (⟨HXa.out.trans HXd.out.symm, (blk_cell HPa.out 0).trans (blk_cell HPd.out 0).symm⟩) ?_
        (try simp only [Act.put, List.setIfInBounds_toArray, List.set_cons_zero, List.set_cons_succ])
        refine t_ef ?_
        refine s_list (o := { dst := some 54, op := Op.call { callee := Callee.builtin Builtin.append, args := #[Operand.tmp 51, Operand.tmp 53], argTypes := #[70, 70] }, type := 70, pos := "lock.go:34", after := #[{ on := 4, ground := Ground.data }, { on := 6, ground := Ground.data }], guard := none }) rfl (by first | rfl | (simp [Region.wanted, yielded]; done)) ?_
        refine Kd.Q_append KOne (w0 := wd) (B) rfl (.tmp 51) (.tmp 53) 70 76 (.agg #[.int .i64 0, .bool false]) 16 rfl Try.underlying70 info76 rfl (by decide) (by decide) (.slice A2 ws.length c2) ws (who, wr) [.int .i64 who, .bool wr] (fun k => some k ≠ ((.slice A1 hs.length c1) : Value).ownBlock) (fun _ => False) rfl rfl (one_M _) (fun _ hk => hk.elim) (fun k hk e_ => by have := Kd.Q_lt HOd.out k e_.symm; omega) HQd.out ⟨rfl, rfl, rfl, Nat.le_refl _, fun _ _ => rfl⟩ (by have := blk_lt HPd.out; have := HBP.out; omega) (by have := HNB.out; omega) ?_
        intro v3 w4 ho hb hg hat
        obtain ⟨os4, hos4⟩ : ∃ q, ws ++ [(who, wr)] = q := ⟨_, rfl⟩
        rw [hos4] at ho
        obtain ⟨A4, c4, e4, _⟩ := Kd.Q_slice ho
        subst e4
        have HEQ4 := Aside0.mk hos4
        clear hos4
        have hpa4 := blk_grown HPd.out hg (Kd.Q_ne HQd.out HPd.out (by decide))
        have hx4 := blk_grown HXd.out hg (fun e_ => HXN.out e_)
        refine ⟨⟨hx4.trans HXa.out.symm, (blk_cell hpa4 0).trans (blk_cell HPa.out 0).symm⟩, ?_⟩
        have HQ4 := Aside0.mk ho
        have HO4 := Aside0.mk (Kd.Q_after (v := (.slice A2 ws.length c2)) (v1 := (.slice A4 os4.length c4)) (Kd.Q_mono HOd.out (fun k hk => hk) |> fun h => Kd.Q_mono (Kd.Q_bound h) (fun k hk => ⟨trivial, hk.1⟩) (ok' := fun k => True ∧ some k ≠ ((.slice A2 ws.length c2) : Value).ownBlock)) hg hat)
        have HB4 := Aside0.mk hb
        have HG4 := Aside0.mk hg
        have HP4 := Aside0.mk hpa4
        have HX4 := Aside0.mk hx4
        have c_4 : w4.cell? ⟨p, 1, none⟩ = some (.slice A2 ws.length c2) := blk_cell hpa4 1
        have f_4 : w4.frozen? ⟨p, 1, none⟩ = false := blk_frozen hpa4 1
        clear ho hb hg hat hpa4 hx4 c_d c_a
        (try simp only [Act.put, List.setIfInBounds_toArray, List.set_cons_zero, List.set_cons_succ])
        (refine t_read (o := { dst := some 55, op := Op.nilCheck (Operand.tmp 47), type := 0, pos := "lock.go:34", after := #[{ on := 0, ground := Ground.data }, { on := 0, ground := Ground.phase }, { on := 1, ground := Ground.phase }, { on := 2, ground := Ground.phase }, { on := 3, ground := Ground.phase }, { on := 4, ground := Ground.phase }, { on := 5, ground := Ground.phase }, { on := 6, ground := Ground.phase }, { on := 7, ground := Ground.phase }], guard := none }) rfl (by first | rfl | (simp [Region.wanted, yielded]; done)) (by intro w_ hE_; (try dsimp only at hE_); first | (go_simp; done) | (go_simp; rfl)) ?_)
        (try simp only [Act.put, List.setIfInBounds_toArray, List.set_cons_zero, List.set_cons_succ])
        (refine t_read (o := { dst := some 56, op := Op.fieldAddr 72 (Operand.tmp 55) 1, type := 0, pos := "lock.go:34", after := #[{ on := 8, ground := Ground.data }, { on := 0, ground := Ground.phase }, { on := 1, ground := Ground.phase }, { on := 2, ground := Ground.phase }, { on := 3, ground := Ground.phase }, { on := 4, ground := Ground.phase }, { on := 5, ground := Ground.phase }, { on := 6, ground := Ground.phase }, { on := 7, ground := Ground.phase }], guard := none }) rfl (by first | rfl | (simp [Region.wanted, yielded]; done)) (by intro w_ hE_; (try dsimp only at hE_); first | (go_simp; done) | (go_simp; rfl)) ?_)
        (try simp only [Act.put, List.setIfInBounds_toArray, List.set_cons_zero, List.set_cons_succ])
        refine t_ef ?_
        refine s_store (o := { dst := none, op := Op.store 70 (Operand.tmp 56) (Operand.tmp 54), type := 0, pos := "lock.go:34", after := #[{ on := 9, ground := Ground.data }, { on := 7, ground := Ground.data }, { on := 7, ground := Ground.chain }, { on := 0, ground := Ground.phase }, { on := 1, ground := Ground.phase }, { on := 2, ground := Ground.phase }, { on := 3, ground := Ground.phase }, { on := 4, ground := Ground.phase }, { on := 5, ground := Ground.phase }, { on := 6, ground := Ground.phase }, { on := 7, ground := Ground.phase }], guard := none }) (w1 := w4.setCell ⟨p, 1, none⟩ (.slice A4 os4.length c4)) rfl (by first | rfl | (simp [Region.wanted, yielded]; done)) (by first | (go_simp; done) | (go_simp; rfl)) (⟨Below.heap_setCell w4 ⟨p, 1, none⟩ (.slice A4 os4.length c4) x HXP.out, (blk_cell (blk_set HP4.out 1 (.slice A4 os4.length c4)) 0).trans (blk_cell HP4.out 0).symm⟩) ?_
        (try simp only [Act.put, List.setIfInBounds_toArray, List.set_cons_zero, List.set_cons_succ])
        refine t_nil ?_
        have HLF := Aside0.mk (lk_put1 (by decide) HBP.out HP4.out HQ4.out (Kd.Q_mono HO4.out (fun _ h_ => h_.2)))
        have HBF : Aside0 (Below B w (w4.setCell ⟨p, 1, none⟩ (.slice A4 os4.length c4))) := ⟨((HBd.out.mono HBB.out).trans HB4.out).setCell HBP.out _⟩
        have HKF : Aside0 (Kt 72 76 w (w4.setCell ⟨p, 1, none⟩ (.slice A4 os4.length c4))) := ⟨((Kt.below HBd.out).trans (Kt.grown HG4.out (fun k hk => Kd.Q_typed HQd.out k hk))).trans (Kt.set HP4.out 1 _)⟩
        clear HBd HPd HPa HQd HOd HXd HXa HQ4 HO4 HB4 HG4 HP4 HX4
        generalize w4.setCell ⟨p, 1, none⟩ (.slice A4 os4.length c4) = w5 at *
        go_wp2
        go_ret
        refine ⟨by rw [HE.out]; rfl, ?_⟩
        rw [HE.out, HEQ4.out]
        exact ⟨HLF.out, HBF.out, HKF.out⟩
      · refine s_val (o := { dst := some 53, op := Op.buildSlice 70 1 #[(0, Operand.tmp 52)], type := 70, pos := "lock.go:34", after := #[{ on := 5, ground := Ground.data }], guard := none }) (w1 := (wd.alloc (.cells #[.int .i64 who, .bool wr] 76 (0, 0)))) rfl (by first | rfl | (simp [Region.wanted, yielded]; done)) (by first | (go_simp; done) | (go_simp; rfl)) (⟨HXa.out.trans HXd.out.symm, (blk_cell HPa.out 0).trans (blk_cell HPd.out 0).symm⟩) ?_
        (try simp only [Act.put, List.setIfInBounds_toArray, List.set_cons_zero, List.set_cons_succ])
        refine t_ef ?_
        refine s_val (o := { dst := some 51, op := Op.load 70 (Operand.tmp 50), type := 70, pos := "lock.go:34", after := #[{ on := 3, ground := Ground.data }], guard := none }) (w1 := (wd.alloc (.cells #[.int .i64 who, .bool wr] 76 (0, 0)))) rfl (by first | rfl | (simp [Region.wanted, yielded]; done)) (by first | (go_simp; done) | (go_simp; rfl)) (⟨rfl, rfl⟩) ?_
        (try simp only [Act.put, List.setIfInBounds_toArray, List.set_cons_zero, List.set_cons_succ])
        refine t_ef ?_
        refine s_list (o := { dst := some 54, op := Op.call { callee := Callee.builtin Builtin.append, args := #[Operand.tmp 51, Operand.tmp 53], argTypes := #[70, 70] }, type := 70, pos := "lock.go:34", after := #[{ on := 4, ground := Ground.data }, { on := 6, ground := Ground.data }], guard := none }) rfl (by first | rfl | (simp [Region.wanted, yielded]; done)) ?_
        refine Kd.Q_append KOne (w0 := wd) (B) rfl (.tmp 51) (.tmp 53) 70 76 (.agg #[.int .i64 0, .bool false]) 16 rfl Try.underlying70 info76 rfl (by decide) (by decide) (.slice A2 ws.length c2) ws (who, wr) [.int .i64 who, .bool wr] (fun k => some k ≠ ((.slice A1 hs.length c1) : Value).ownBlock) (fun _ => False) rfl rfl (one_M _) (fun _ hk => hk.elim) (fun k hk e_ => by have := Kd.Q_lt HOd.out k e_.symm; omega) HQd.out ⟨rfl, rfl, rfl, Nat.le_refl _, fun _ _ => rfl⟩ (by have := blk_lt HPd.out; have := HBP.out; omega) (by have := HNB.out; omega) ?_
        intro v3 w4 ho hb hg hat
        obtain ⟨os4, hos4⟩ : ∃ q, ws ++ [(who, wr)] = q := ⟨_, rfl⟩
        rw [hos4] at ho
        obtain ⟨A4, c4, e4, _⟩ := Kd.Q_slice ho
        subst e4
        have HEQ4 := Aside0.mk hos4
        clear hos4
        have hpa4 := blk_grown HPd.out hg (Kd.Q_ne HQd.out HPd.out (by decide))
        have hx4 := blk_grown HXd.out hg (fun e_ => HXN.out e_)
        refine ⟨⟨hx4.trans HXa.out.symm, (blk_cell hpa4 0).trans (blk_cell HPa.out 0).symm⟩, ?_⟩
        have HQ4 := Aside0.mk ho
        have HO4 := Aside0.mk (Kd.Q_after (v := (.slice A2 ws.length c2)) (v1 := (.slice A4 os4.length c4)) (Kd.Q_mono HOd.out (fun k hk => hk) |> fun h => Kd.Q_mono (Kd.Q_bound h) (fun k hk => ⟨trivial, hk.1⟩) (ok' := fun k => True ∧ some k ≠ ((.slice A2 ws.length c2) : Value).ownBlock)) hg hat)
        have HB4 := Aside0.mk hb
        have HG4 := Aside0.mk hg
        have HP4 := Aside0.mk hpa4
        have HX4 := Aside0.mk hx4
        have c_4 : w4.cell? ⟨p, 1, none⟩ = some (.slice A2 ws.length c2) := blk_cell hpa4 1
        have f_4 : w4.frozen? ⟨p, 1, none⟩ = false := blk_frozen hpa4 1
        clear ho hb hg hat hpa4 hx4 c_d c_a
        (try simp only [Act.put, List.setIfInBounds_toArray, List.set_cons_zero, List.set_cons_succ])
        (refine t_read (o := { dst := some 55, op := Op.nilCheck (Operand.tmp 47), type := 0, pos := "lock.go:34", after := #[{ on := 0, ground := Ground.data }, { on := 0, ground := Ground.phase }, { on := 1, ground := Ground.phase }, { on := 2, ground := Ground.phase }, { on := 3, ground := Ground.phase }, { on := 4, ground := Ground.phase }, { on := 5, ground := Ground.phase }, { on := 6, ground := Ground.phase }, { on := 7, ground := Ground.phase }], guard := none }) rfl (by first | rfl | (simp [Region.wanted, yielded]; done)) (by intro w_ hE_; (try dsimp only at hE_); first | (go_simp; done) | (go_simp; rfl)) ?_)
        (try simp only [Act.put, List.setIfInBounds_toArray, List.set_cons_zero, List.set_cons_succ])
        (refine t_read (o := { dst := some 56, op := Op.fieldAddr 72 (Operand.tmp 55) 1, type := 0, pos := "lock.go:34", after := #[{ on := 8, ground := Ground.data }, { on := 0, ground := Ground.phase }, { on := 1, ground := Ground.phase }, { on := 2, ground := Ground.phase }, { on := 3, ground := Ground.phase }, { on := 4, ground := Ground.phase }, { on := 5, ground := Ground.phase }, { on := 6, ground := Ground.phase }, { on := 7, ground := Ground.phase }], guard := none }) rfl (by first | rfl | (simp [Region.wanted, yielded]; done)) (by intro w_ hE_; (try dsimp only at hE_); first | (go_simp; done) | (go_simp; rfl)) ?_)
        (try simp only [Act.put, List.setIfInBounds_toArray, List.set_cons_zero, List.set_cons_succ])
        refine t_ef ?_
        refine s_store (o := { dst := none, op := Op.store 70 (Operand.tmp 56) (Operand.tmp 54), type := 0, pos := "lock.go:34", after := #[{ on := 9, ground := Ground.data }, { on := 7, ground := Ground.data }, { on := 7, ground := Ground.chain }, { on := 0, ground := Ground.phase }, { on := 1, ground := Ground.phase }, { on := 2, ground := Ground.phase }, { on := 3, ground := Ground.phase }, { on := 4, ground := Ground.phase }, { on := 5, ground := Ground.phase }, { on := 6, ground := Ground.phase }, { on := 7, ground := Ground.phase }], guard := none }) (w1 := w4.setCell ⟨p, 1, none⟩ (.slice A4 os4.length c4)) rfl (by first | rfl | (simp [Region.wanted, yielded]; done)) (by first | (go_simp; done) | (go_simp; rfl)) (⟨Below.heap_setCell w4 ⟨p, 1, none⟩ (.slice A4 os4.length c4) x HXP.out, (blk_cell (blk_set HP4.out 1 (.slice A4 os4.length c4)) 0).trans (blk_cell HP4.out 0).symm⟩) ?_
        (try simp only [Act.put, List.setIfInBounds_toArray, List.set_cons_zero, List.set_cons_succ])
        refine t_nil ?_
        have HLF := Aside0.mk (lk_put1 (by decide) HBP.out HP4.out HQ4.out (Kd.Q_mono HO4.out (fun _ h_ => h_.2)))
        have HBF : Aside0 (Below B w (w4.setCell ⟨p, 1, none⟩ (.slice A4 os4.length c4))) := ⟨((HBd.out.mono HBB.out).trans HB4.out).setCell HBP.out _⟩
        have HKF : Aside0 (Kt 72 76 w (w4.setCell ⟨p, 1, none⟩ (.slice A4 os4.length c4))) := ⟨((Kt.below HBd.out).trans (Kt.grown HG4.out (fun k hk => Kd.Q_typed HQd.out k hk))).trans (Kt.set HP4.out 1 _)⟩
        clear HBd HPd HPa HQd HOd HXd HXa HQ4 HO4 HB4 HG4 HP4 HX4
        generalize w4.setCell ⟨p, 1, none⟩ (.slice A4 os4.length c4) = w5 at *
        go_wp2
        go_ret
        refine ⟨by rw [HE.out]; rfl, ?_⟩
        rw [HE.out, HEQ4.out]
        exact ⟨HLF.out, HBF.out, HKF.out⟩
end Go.Proofs.Ytopclgpimabpcaa.LkE
