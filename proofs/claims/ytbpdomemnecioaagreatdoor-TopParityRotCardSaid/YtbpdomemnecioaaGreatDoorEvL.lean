/- The evaluator's operations that make a block, against the model's. Own text. No condition of a claim. -/
import Derived.Test.YtbpdomemnecioaaGreatDoorEvK
import Derived.Laws.MakeOwn
import Derived.Great.BuildSlice
import Derived.Laws.World
namespace Go.Proofs.YtbpdomemnecioaaGreatDoor.Ev
open Go Go.MapKept Go.RowKit
set_option linter.unusedVariables false
set_option linter.unusedSimpArgs false
noncomputable section

theorem putl_get {d : Nat} : ∀ (l : List AV) (o : Nat) (t : Dt AV d) (j : Nat), o + l.length ≤ 8 ^ d → j < 8 ^ d → get d j (putl d l o t) = if o ≤ j ∧ j < o + l.length then l.getD (j - o) .un else get d j t
  | [], o, t, j, h, hj => by rw [if_neg (by simp only [List.length_nil]; omega)]; rfl
  | x :: l, o, t, j, h, hj => by
    simp only [List.length_cons] at h
    show get d j (putl d l (o + 1) (put d o x t)) = _
    rw [putl_get l (o + 1) _ j (by omega) hj, get_put d o j x t (by omega) hj]
    by_cases h1 : o + 1 ≤ j ∧ j < o + 1 + l.length
    · rw [if_pos h1, if_pos (by simp; omega)]
      rw [show j - o = (j - (o + 1)) + 1 by omega]; simp
    · rw [if_neg h1]
      by_cases h2 : j = o
      · subst h2; rw [if_pos rfl, if_pos (by simp)]; simp
      · rw [if_neg h2, if_neg (by simp; omega)]
theorem wrl_true {d : Nat} : ∀ {l : List AV} {o : Nat} {t : Dt AV d} {f : Dt AV d → R}, wrl d l o t f = true → (l = [] ∨ o + l.length ≤ 8 ^ d) ∧ f (putl d l o t) = true
  | [], o, t, f, h => ⟨.inl rfl, h⟩
  | x :: l, o, t, f, h => by
    obtain ⟨h1, h2⟩ := pcc_run (show (pcc AV d o).run x (fun t => fc (fun o => wrl d l o t f) (Nat.add o 1)) t = true from h)
    obtain ⟨h3, h4⟩ := wrl_true (l := l) (o := o + 1) h2
    refine ⟨.inr ?_, h4⟩
    rcases h3 with rfl | h3
    · simp; omega
    · simp; omega
theorem BlkR.row {ρ : Ren} {d : Nat} {t : Dt AV d} {l : List AV} {z B X : Nat} {cs : Array Value} {elem : TypeId} {fz : Nat × Nat} (hn : l.length ≤ 8 ^ d) (hg : ∀ (i : Nat) (x : AV), l[i]? = some x → get d i t = x)
    (hv : VRs ρ l (cs.toList.take l.length)) (hX : l.length + X * z ≤ cs.size) (hf : ∀ i, i < l.length + X * z → ¬ (fz.1 ≤ i ∧ i < fz.2)) : BlkR ρ (.c d t l.length z) ⟨B, 0, X⟩ (.cells cs elem fz) := by
  refine ⟨hn, cs, elem, fz, rfl, by show 0 + l.length + X * z ≤ cs.size; omega, fun i hi => ?_, fun i hi => ?_⟩
  · obtain ⟨v, h1, h2⟩ := hv.at i _ (List.getElem?_eq_getElem hi)
    rw [List.getElem?_take_of_lt hi, Array.getElem?_toList] at h1
    refine ⟨v, by show cs[0 + i]? = _; rw [Nat.zero_add]; exact h1, ?_⟩
    rw [hg i _ (List.getElem?_eq_getElem hi)]; exact h2
  · show ¬ (fz.1 ≤ 0 + i ∧ 0 + i < fz.2)
    rw [Nat.zero_add]; exact hf i hi
theorem putl_at {d : Nat} {l : List AV} {t : Dt AV d} (h : l.length ≤ 8 ^ d) (i : Nat) (x : AV) (hx : l[i]? = some x) : get d i (putl d l 0 t) = x := by
  have hi : i < l.length := (List.getElem?_eq_some_iff.1 hx).1
  rw [putl_get l 0 t i (by omega) (by omega), if_pos (by omega), Nat.sub_zero, List.getD_eq_getElem?_getD, hx]; rfl
theorem dOf_ok {n : Nat} (h : n ≤ 32768) : n ≤ 8 ^ dOf n := by
  unfold dOf
  cases h1 : Nat.ble n 8
  · cases h2 : Nat.ble n 64
    · cases h3 : Nat.ble n 512
      · cases h4 : Nat.ble n 4096
        · cases h5 : Nat.ble n 32768
          · exact absurd (Nat.ble_eq_true_of_le h) (by rw [h5]; simp)
          · show n ≤ 8 ^ 5; omega
        · have := Nat.le_of_ble_eq_true h4; show n ≤ 8 ^ 4; omega
      · have := Nat.le_of_ble_eq_true h3; show n ≤ 8 ^ 3; omega
    · have := Nat.le_of_ble_eq_true h2; show n ≤ 8 ^ 2; omega
  · have := Nat.le_of_ble_eq_true h1; show n ≤ 8 ^ 1; omega
/-- A block out of a list. -/
def LaidBy (k : Blk) (l : List AV) (z : Nat) : Prop := ∃ d t, k = .c d t l.length z ∧ l.length ≤ 8 ^ d ∧ ∀ (i : Nat) (x : AV), l[i]? = some x → get d i t = x
theorem mkBlk_true {z : Nat} {l : List AV} {f : Blk → R} (h : mkBlk z l f = true) : ∃ k, f k = true ∧ LaidBy k l z := by
  obtain ⟨h1, h2⟩ := wrl_true (show wrl (dOf (llen l)) l 0 (dflt .un (dOf (llen l))) (fun t => f (.c (dOf (llen l)) t (llen l) z)) = true from h)
  have hle : l.length ≤ 8 ^ dOf (llen l) := by rcases h1 with rfl | h1; exact Nat.zero_le _; simpa using h1
  exact ⟨_, h2, _, _, congrArg (fun n => Blk.c (dOf (llen l)) (putl (dOf (llen l)) l 0 (dflt .un (dOf (llen l)))) n z) (llen_eq l), hle, fun i x hx => putl_at hle i x hx⟩
theorem blkC_laid {z : Nat} {l : List AV} (h : llen l ≤ 32768) : LaidBy (blkC z l) l z := by
  have hle : l.length ≤ 8 ^ dOf (llen l) := by rw [← llen_eq]; exact dOf_ok h
  exact ⟨dOf (llen l), putl (dOf (llen l)) l 0 (dflt AV.un (dOf (llen l))), congrArg (fun n => Blk.c (dOf (llen l)) (putl (dOf (llen l)) l 0 (dflt AV.un (dOf (llen l)))) n z) (llen_eq l), hle, fun i x hx => putl_at hle i x hx⟩
theorem LaidBy.ne {k : Blk} {l : List AV} {z : Nat} (h : LaidBy k l z) : k ≠ .no := by obtain ⟨d, t, rfl, _⟩ := h; simp
theorem LaidBy.blk {k : Blk} {l : List AV} {z : Nat} (h : LaidBy k l z) {ρ : Ren} {cs : Array Value} {elem : TypeId} {B : Nat} (hv : VRs ρ l cs.toList) : BlkR ρ k ⟨B, 0, 0⟩ (.cells cs elem (0, 0)) := by
  obtain ⟨d, t, rfl, h1, h2⟩ := h
  have hl := hv.length
  exact BlkR.row h1 h2 (by rw [← hl, List.take_length]; exact hv) (by rw [← hl, Array.length_toList]; omega) (fun i _ => by simp)

/-- The operation makes a block k, and gives v: n being the new block's number. -/
def Sm (P : Program) (o : Oper) (t : T) (n : Nat) (v : AV) (k : Blk) : Prop :=
  k ≠ .no ∧ ∀ (ρ : Ren) (a : Act) (w : World), ρ n = none → (∀ x ∈ o.op.operands, VR ρ (gv t x) (a.eval x)) →
    ∃ v' w' l ob, (execOp a.eval o).run P w = .ok (.value v') w' ∧ l.B = w.heap.size ∧ w'.heap = w.heap.push ob ∧ Below 0 w w' ∧ BlkR (upd ρ n l) k l ob ∧ VR (upd ρ n l) v v'
theorem onH_true {f : Ht → Nat → R} {h : H} (e : onH f h = true) : f h.t h.nx = true := by cases h; exact e
theorem below_push (w : World) (o : Obj) : Below 0 w (w.alloc o) := (Below.refl 0 w).alloc (Nat.zero_le _) o
theorem VR_newp {ρ : Ren} {n : Nat} {w : World} : VR (upd ρ n ⟨w.heap.size, 0, 0⟩) (.p n 0) (.pointer (some ⟨w.heap.size, 0, none⟩)) := by
  simp only [VR]; exact ⟨_, upd_at _ _ _, rfl⟩
theorem VR_news {ρ : Ren} {n m c : Nat} {w : World} (h : m ≤ c) : VR (upd ρ n ⟨w.heap.size, 0, 0⟩) (.sl n 0 m c) (.slice (some ⟨w.heap.size, 0, none⟩) m c) := by
  simp only [VR]; exact ⟨_, _, _, upd_at _ _ _, rfl, h, .inl rfl, .inl rfl⟩
theorem lrep_get {α : Type} (z : List α) : ∀ (n i : Nat), i < n * z.length → (lrep z n)[i]? = z[i % z.length]?
  | 0, i, h => by omega
  | n + 1, i, h => by
    show (lapp z (lrep z n))[i]? = _
    rw [lapp_eq]
    by_cases hi : i < z.length
    · rw [List.getElem?_append_left hi, Nat.mod_eq_of_lt hi]
    · have h' : i - z.length < n * z.length := by rw [Nat.succ_mul] at h; omega
      rw [List.getElem?_append_right (by omega), lrep_get z n (i - z.length) h', Nat.mod_eq_sub_mod (a := i) (by omega)]
theorem lrep_len {α : Type} (z : List α) : ∀ n, (lrep z n).length = n * z.length
  | 0 => by show ([] : List α).length = _; simp
  | n + 1 => by show (lapp z (lrep z n)).length = _; rw [lapp_eq, List.length_append, lrep_len z n, Nat.add_mul]; omega
theorem made_VRs {ρ : Ren} {z : List AV} {zc : Array Value} (hz : VRs ρ z zc.toList) (n : Nat) : VRs ρ (lrep z n) ((Array.range (n * z.length)).map (zc[· % zc.size]!)).toList := by
  have hl : zc.size = z.length := by rw [← hz.length, Array.length_toList]
  refine VRs.of (by simp [lrep_len]) fun i x v hx hv => ?_
  have hi : i < n * z.length := by rw [← lrep_len]; exact (List.getElem?_eq_some_iff.1 hx).1
  rw [lrep_get z n i hi] at hx
  have hp : 0 < z.length := by
    rcases Nat.eq_zero_or_pos z.length with h0 | h0
    · rw [h0] at hi; omega
    · exact h0
  obtain ⟨u, hu, hr⟩ := hz.at _ x hx
  rw [Array.getElem?_toList] at hu hv
  have hm : i % zc.size < zc.size := by rw [hl]; exact Nat.mod_lt _ hp
  rw [← hl] at hu
  have e1 : zc[i % zc.size]! = u := by rw [getElem!_pos zc _ hm]; rw [Array.getElem?_eq_getElem hm] at hu; simpa using hu
  simp [hi, e1] at hv
  rw [← hv]; exact hr
theorem opAlloc_ok {P : Program} {o : Oper} {ty : TypeId} (ho : o.op = .alloc ty) {t : T} {h : H} {F : Nat → AV → Blk → R} (e : (opAlloc P ty).run t h F = true) : ∃ v k, F h.nx v k = true ∧ Sm P o t h.nx v k := by
  unfold opAlloc at e
  split at e
  · rename_i l hl
    split at e
    · rename_i hs
      obtain ⟨i, zv, hi, hzv, rfl⟩ := zeroL_some hl
      refine ⟨_, _, onH_true (show onH (fun _ nx => F nx (.p nx 0) (blkC 0 (zv.cells.toList.map ofV0))) h = true from e), (blkC_laid hs).ne, fun ρ a w _ _ => ⟨.pointer (some ⟨w.heap.size, 0, none⟩), w.alloc (.cells zv.cells ty), ⟨w.heap.size, 0, 0⟩, .cells zv.cells ty, ?_, rfl, rfl, below_push w _, (blkC_laid hs).blk (zero_VRs _ zv), VR_newp⟩⟩
      simp [execOp, ho, Instr.alloc, zeroValue, run_info hi, hzv, newVar, newRow]
    · exact (Bool.false_ne_true e).elim
  · exact (Bool.false_ne_true e).elim
theorem opBox_ok {P : Program} {o : Oper} {ty : TypeId} {x : Operand} (ho : o.op = .box ty x) {t : T} {h : H} {F : Nat → AV → Blk → R} (e : (opBox ty x).run t h F = true) : ∃ v k, F h.nx v k = true ∧ Sm P o t h.nx v k := by
  have e1 := gt_run (onH_true (f := fun _ nx => (gt x).run (fun v => cellsA v (fun l => mkBlk 0 l (fun k => F nx (.p nx 0) k))) t) e)
  obtain ⟨c, h1, h2⟩ := cellsA_true e1
  obtain ⟨k, h3, h4⟩ := mkBlk_true h1
  refine ⟨_, k, h3, h4.ne, fun ρ a w hn q => ⟨.pointer (some ⟨w.heap.size, 0, none⟩), w.alloc (.cells (a.eval x).cells ty), ⟨w.heap.size, 0, 0⟩, .cells (a.eval x).cells ty, ?_, rfl, rfl, below_push w _, ?_, VR_newp⟩⟩
  · simp [execOp, ho, Instr.box, newVar, newRow]
  · have q1 := (h2 ρ _ (q x (by rw [ho]; simp [Op.operands]))).1
    exact h4.blk (VRs.mono (Sub.upd hn) _ _ q1)
theorem opBuildSlice_ok {P : Program} {o : Oper} {ty len : Nat} {parts : Array (Nat × Operand)} (ho : o.op = .buildSlice ty len parts) {t : T} {h : H} {F : Nat → AV → Blk → R} (e : (opBuildSlice P ty len parts).run t h F = true) : ∃ v k, F h.nx v k = true ∧ Sm P o t h.nx v k := by
  unfold opBuildSlice at e
  split at e
  · rename_i el hu
    split at e
    · rename_i s z hs hz
      split at e
      · rename_i hc
        obtain ⟨hc1, hc2⟩ := hc
        obtain ⟨i, zv, hi, hzv, rfl⟩ := zeroL_some hz
        have hsi : i.size = s := by simpa [szOf, hi] using hs
        obtain ⟨m', h1, hml, h2⟩ := fills_true (onH_true (f := fun _ nx => fills (parts.toList.map fun p => (p.1 * s, s, p.2)) t (lrep (zv.cells.toList.map ofV0) len) (fun m => mkBlk s m (fun k => F nx (.sl nx 0 len len) k))) e)
        obtain ⟨k, h3, h4⟩ := mkBlk_true h1
        have hzl : zv.cells.size = s := by rw [llen_eq] at hc2; simpa using hc2
        refine ⟨_, k, h3, h4.ne, fun ρ a w hn q => ?_⟩
        obtain ⟨r, r1, r2, _⟩ := h2 ρ a (fun i => some (i * s, s)) parts.toList (by simp) (fun j p q' e1 e2 => by
          rw [List.getElem?_map, e1] at e2
          simp at e2
          subst e2
          exact ⟨rfl, rfl⟩) (fun p hp => q p.2 (by rw [ho]; simp [Op.operands]; exact ⟨p.1, by simpa using hp⟩)) ((Array.range (len * s)).map (zv.cells[· % zv.cells.size]!)) (by
            have := made_VRs (zero_VRs ρ zv) len
            simpa [hzl] using this)
        have r1' : Instr.fill (fun i => some (i * s, s)) ((Array.range (len * s)).map (zv.cells[· % zv.cells.size]!)) ((parts.map fun p => (p.1, a.eval p.2)).toList) = some r := by rw [Array.toList_map]; exact r1
        refine ⟨.slice (some ⟨w.heap.size, 0, none⟩) len len, w.alloc (.cells r el), ⟨w.heap.size, 0, 0⟩, .cells r el, ?_, rfl, rfl, below_push w _, h4.blk (VRs.mono (Sub.upd hn) _ _ r2), VR_news (Nat.le_refl _)⟩
        have hrun : (Instr.buildSlice ty len (parts.map fun p => (p.1, a.eval p.2))).run P w = .ok (.slice (some ⟨w.heap.size, 0, none⟩) len len) (w.alloc (.cells r el)) := by
          by_cases hp : len * s = 0
          · have r3 : Instr.fill (fun i => some (i * s, s)) #[] ((parts.map fun p => (p.1, a.eval p.2)).toList) = some r := by simpa [hp, Array.range_zero'] using r1'
            rw [Array.toList_map] at r3
            simp [Instr.buildSlice, run_underlying hu, sizeOf, run_info hi, hsi, hp, r3, newRow, Array.range_zero']
          · exact run_buildSlice w ty el len _ r i zv hu hi hzv (by rw [hsi]; omega) (by rw [hsi]; exact hp) (by rw [hsi]; exact r1')
        rw [show execOp a.eval o = (do pure (.value (← Instr.buildSlice ty len (parts.map fun p => (p.1, a.eval p.2)))) : Sem Next) by simp [execOp, ho]]
        exact run_val hrun
      · exact (Bool.false_ne_true e).elim
    · exact (Bool.false_ne_true e).elim
  · exact (Bool.false_ne_true e).elim

theorem keq_u {k j : IntKind} {r : R} (h : keq k j r = true) : k = j ∧ r = true := keq_true h
theorem zrows_blk {ρ : Ren} {s n : Nat} {z : List AV} {zc : Array Value} {elem : TypeId} {B : Nat} (hz : VRs ρ z zc.toList) (hl : z.length = s) (hn : n * s ≤ 32768) :
    zrows s z n ≠ .no ∧ BlkR ρ (zrows s z n) ⟨B, 0, 0⟩ (.cells (madeCells zc (n * s)) elem (0, 0)) := by
  subst hl
  have hv := made_VRs hz n
  cases z with
  | nil =>
    refine ⟨by show Blk.c _ _ _ _ ≠ _; simp, ?_⟩
    exact BlkR.row (l := []) (Nat.zero_le _) (fun i x h => by simp at h) (by simp only [List.length_nil, List.take_zero, VRs]) (by simp) (fun i _ => by simp)
  | cons z0 r =>
    cases r with
    | nil =>
      refine ⟨by show Blk.c _ _ _ _ ≠ _; simp, ?_⟩
      have hln : (lrep [z0] n).length = n := by rw [lrep_len]; simp
      have hn' : n ≤ 32768 := by simpa using hn
      have := BlkR.row (ρ := ρ) (d := dOf n) (t := dflt z0 (dOf n)) (l := lrep [z0] n) (z := 1) (B := B) (X := 0) (cs := madeCells zc (n * 1)) (elem := elem) (fz := (0, 0)) (by rw [hln]; exact dOf_ok hn') (fun i x hx => by
          have hi : i < n := by rw [← hln]; exact (List.getElem?_eq_some_iff.1 hx).1
          rw [lrep_get [z0] n i (by simpa using hi)] at hx
          simp [Nat.mod_one] at hx
          rw [get_dflt]; exact hx) (by
            rw [hln]
            have : ((madeCells zc (n * 1)).toList.take n) = (madeCells zc (n * 1)).toList := List.take_of_length_le (by rw [Array.length_toList, size_madeCells]; omega)
            rw [this]; exact hv) (by rw [hln, size_madeCells]; omega) (fun i _ => by simp)
      rw [hln] at this
      exact this
    | cons z1 r =>
      have hln : (lrep (z0 :: z1 :: r) n).length = n * (z0 :: z1 :: r).length := lrep_len _ n
      have hlb := blkC_laid (z := (z0 :: z1 :: r).length) (l := lrep (z0 :: z1 :: r) n) (by rw [llen_eq, hln]; exact hn)
      exact ⟨hlb.ne, hlb.blk hv⟩
theorem opMakeSlice_ok {P : Program} {o : Oper} {ty : Nat} {x y : Operand} (ho : o.op = .makeSlice ty x y) {t : T} {h : H} {F : Nat → AV → Blk → R} (e : (opMakeSlice P ty x y).run t h F = true) : ∃ v k, F h.nx v k = true ∧ Sm P o t h.nx v k := by
  unfold opMakeSlice at e
  split at e
  · rename_i el hu
    split at e
    · rename_i s z i hs hz hi
      split at e
      · rename_i hzs
        obtain ⟨k1, a1, hx, h1⟩ := onI_true (gt_run (onH_true (f := fun _ nx => (gt x).run (onI (fun k a => keq k .i64 ((gt y).run (onI (fun j b => keq j .i64 (mkSl s i.bytes z nx a b F))) t))) t) e))
        obtain ⟨rfl, h2⟩ := keq_true h1
        obtain ⟨k2, b1, hy, h3⟩ := onI_true (gt_run h2)
        obtain ⟨rfl, h4⟩ := keq_true h3
        obtain ⟨g1, h5⟩ := gd_true h4
        obtain ⟨g2, h6⟩ := gd_true h5
        obtain ⟨g3, h7⟩ := gd_true h6
        obtain ⟨g4, h7⟩ := gd_true h7
        have g4 : b1 < 4611686018427387904 := by simpa [Nat.blt_eq] using g4
        have g1 := Nat.le_of_ble_eq_true g1
        have g2 : b1 * i.bytes ≤ 281474976710656 := Nat.le_of_ble_eq_true g2
        have g3 : b1 * s ≤ 32768 := Nat.le_of_ble_eq_true g3
        obtain ⟨i', zv, hi', hzv, rfl⟩ := zeroL_some hz
        rw [hi] at hi'; cases hi'
        have hsi : i.size = s := by simpa [szOf, hi] using hs
        have hzl : (zv.cells.toList.map ofV0).length = s := by rw [llen_eq] at hzs; exact hzs
        have hb63 : b1 < 9223372036854775808 := by omega
        refine ⟨_, _, h7, (zrows_blk (ρ := fun _ => none) (elem := 0) (B := 0) (zero_VRs _ zv) hzl g3).1, fun ρ a w hn q => ?_⟩
        have q1 := q x (by rw [ho]; simp [Op.operands])
        have q2 := q y (by rw [ho]; simp [Op.operands])
        rw [hx] at q1
        rw [hy] at q2
        obtain ⟨ha, e1⟩ := VR_i q1
        obtain ⟨hb, e2⟩ := VR_i q2
        have w1 : IntKind.i64.wrap (a1 : Int) = a1 := by rw [IntKind.wrap_i64]; omega
        have w2 : IntKind.i64.wrap (b1 : Int) = b1 := by rw [IntKind.wrap_i64]; omega
        rw [w1] at e1
        rw [w2] at e2
        have hb2 : (i.bytes : Int) * (b1 : Int) ≤ 281474976710656 := by
          have : ((b1 * i.bytes : Nat) : Int) ≤ 281474976710656 := by omega
          rw [Int.natCast_mul] at this
          rwa [Int.mul_comm] at this
        have hrun := run_make (P := P) w ty el i zv hu hi hzv .i64 .i64 a1 b1 (by omega) (by omega) hb2 (by omega)
        rw [Int.toNat_natCast, Int.toNat_natCast] at hrun
        refine ⟨.slice (some ⟨w.heap.size, 0, none⟩) a1 b1, w.alloc (.cells (madeCells zv.cells (b1 * i.size)) el), ⟨w.heap.size, 0, 0⟩, .cells (madeCells zv.cells (b1 * i.size)) el, ?_, rfl, rfl, below_push w _, ?_, VR_news g1⟩
        · rw [show execOp a.eval o = (do pure (.value (← Instr.makeSlice ty (a.eval x) (a.eval y))) : Sem Next) by simp [execOp, ho]]
          rw [e1, e2]
          exact run_val hrun
        · rw [hsi]
          exact (zrows_blk (VRs.mono (Sub.upd hn) _ _ (zero_VRs ρ zv)) hzl g3).2
      · exact (Bool.false_ne_true e).elim
    · exact (Bool.false_ne_true e).elim
  · exact (Bool.false_ne_true e).elim
theorem opMakeMap_ok {P : Program} {o : Oper} {ty : Nat} {r : Option Operand} (ho : o.op = .makeMap ty r) {t : T} {h : H} {F : Nat → AV → Blk → R} (e : (opMakeMap P ty r).run t h F = true) : ∃ v k, F h.nx v k = true ∧ Sm P o t h.nx v k := by
  have fin : ∀ (ρ : Ren) (a : Act) (w : World), (execOp a.eval o).run P w = .ok (.value (.map (some w.heap.size))) (w.alloc (.map #[] 0)) → ∃ v' w' l ob, (execOp a.eval o).run P w = .ok (.value v') w' ∧ l.B = w.heap.size ∧ w'.heap = w.heap.push ob ∧ Below 0 w w' ∧ BlkR (upd ρ h.nx l) (.mp [] 0) l ob ∧ VR (upd ρ h.nx l) (.m h.nx) v' :=
    fun ρ a w hr => ⟨_, _, ⟨w.heap.size, 0, 0⟩, _, hr, rfl, rfl, below_push w _, ⟨#[], rfl, rfl⟩, by simp only [VR]; exact ⟨_, upd_at _ _ _, rfl⟩⟩
  unfold opMakeMap at e
  cases r with
  | none =>
    refine ⟨_, _, onH_true (f := fun _ nx => F nx (.m nx) (.mp [] 0)) e, by simp, fun ρ a w hn q => fin ρ a w ?_⟩
    simp [execOp, ho, Instr.makeMap]
  | some x =>
    simp only at e
    split at e
    · rename_i kt et hu
      obtain ⟨k, n, hx, h1⟩ := onI_true (gt_run e)
      refine ⟨_, _, onH_true (f := fun _ nx => F nx (.m nx) (.mp [] 0)) h1, by simp, fun ρ a w hn q => fin ρ a w ?_⟩
      have q1 := q x (by rw [ho]; simp [Op.operands])
      rw [hx] at q1
      obtain ⟨_, e1⟩ := VR_i q1
      simp [execOp, ho, Instr.makeMap, run_underlying hu, e1, asInt, asIntOf]
    · exact (Bool.false_ne_true e).elim

theorem avs_map : ∀ l : List Nat, avs l = l.map (AV.i .u8)
  | [] => rfl
  | n :: l => by show AV.i .u8 n :: avs l = _; rw [avs_map l]; rfl
theorem avs_VRs {ρ : Ren} (bs : ByteArray) : VRs ρ (avs (toB bs)) (bs.data.toList.map fun b => Value.int .u8 b.toNat) := by
  rw [avs_map]
  show VRs ρ ((bs.data.toList.map UInt8.toNat).map (AV.i .u8)) _
  generalize bs.data.toList = l
  induction l with
  | nil => simp only [List.map_nil, VRs]
  | cons b l ih =>
    simp only [List.map_cons, VRs]
    refine ⟨_, _, rfl, ?_, ih⟩
    have h1 := VR_mki (ρ := ρ) (k := .u8) (n := b.toNat) b.toNat_lt
    have h2 : IntKind.u8.wrap (b.toNat : Int) = b.toNat := by rw [IntKind.wrap_u8']; have := b.toNat_lt; omega
    rwa [h2] at h1
theorem isU8sl_true {P : Program} {ty : Nat} (h : isU8sl P ty = true) : ∃ e, P.underlying ty = some (.slice e) ∧ P.underlying e = some (.int .u8) := by
  unfold isU8sl at h
  split at h
  · rename_i e hu; exact ⟨e, hu, isU8_true h⟩
  · cases h
theorem opBytes_ok {P : Program} {o : Oper} {src dst : Nat} {x : Operand} (ho : o.op = .convert src dst x) (hc : (isU8sl P dst && isStr P src) = true) {t : T} {h : H} {F : Nat → AV → Blk → R} (e : (opBytes x).run t h F = true) : ∃ v k, F h.nx v k = true ∧ Sm P o t h.nx v k := by
  simp only [Bool.and_eq_true] at hc
  obtain ⟨el, hd, hel⟩ := isU8sl_true hc.1
  have hs := isStr_true hc.2
  obtain ⟨l, hx, h1⟩ := onS_true (gt_run (onH_true (f := fun _ nx => (gt x).run (onS (fun l => fc (fun n => gd (Nat.blt n 4611686018427387904) (mkBlk 1 (avs l) (fun k => F nx (.sl nx 0 n n) k))) (llen l))) t) e))
  obtain ⟨h2, h3⟩ := gd_true h1
  have h2 : llen l < 4611686018427387904 := by simpa [Nat.blt_eq] using h2
  obtain ⟨k, h4, h5⟩ := mkBlk_true h3
  refine ⟨_, k, h4, h5.ne, fun ρ a w hn q => ?_⟩
  have q1 := q x (by rw [ho]; simp [Op.operands])
  rw [hx] at q1
  obtain ⟨bs, e1, rfl⟩ := VR_s q1
  have hsz : bs.size = llen (toB bs) := toB_size bs
  obtain ⟨X, hX⟩ : ∃ X, Question.cut (.appendCap bs.size 0 el) (w.tape w.drawn (.appendCap bs.size 0 el)) = bs.size + X := ⟨_, rfl⟩
  have hcs : ((bs.data.map fun b => Value.int .u8 b.toNat) ++ Array.replicate X (Value.int .u8 0)).size = bs.size + X := by simp
  have hrun : (Conv.stringToBytes el bs).run P w = .ok (.slice (some ⟨w.heap.size, 0, none⟩) bs.size (bs.size + X))
      ((w.drew.alloc (.cells ((bs.data.map fun b => Value.int .u8 b.toNat) ++ Array.replicate X (Value.int .u8 0)) el)).freeze ⟨w.heap.size, bs.size + X, none⟩ 1) := by
    have hat : (w.drew.alloc (.cells ((bs.data.map fun b => Value.int .u8 b.toNat) ++ Array.replicate X (Value.int .u8 0)) el)).heap[w.heap.size]? = some (.cells ((bs.data.map fun b => Value.int .u8 b.toNat) ++ Array.replicate X (Value.int .u8 0)) el) := by
      show (w.heap.push _)[w.heap.size]? = _
      simp
    have hsh : (w.drew.alloc (.cells ((bs.data.map fun b => Value.int .u8 b.toNat) ++ Array.replicate X (Value.int .u8 0)) el)).shape? w.heap.size = some (el, bs.size + X) := by
      unfold World.shape?
      rw [hat]
      simp only [hcs]
    simp only [Conv.stringToBytes, Sem.run_bind, run_choose, Question.forced, Bool.false_eq_true, if_false, Result.andThen_ok, hX, newRow, run_newObj, Sem.run_pure, markStringish, run_shape, Nat.add_sub_cancel_left, World.drew_eq, World.alloc_eq]
    have hdw : w.drew.heap.size = w.heap.size := rfl
    simp only [hdw, hsh, run_freeze, Result.andThen_ok]
  have hheap : ((w.drew.alloc (.cells ((bs.data.map fun b => Value.int .u8 b.toNat) ++ Array.replicate X (Value.int .u8 0)) el)).freeze ⟨w.heap.size, bs.size + X, none⟩ 1).heap =
      w.heap.push (.cells ((bs.data.map fun b => Value.int .u8 b.toNat) ++ Array.replicate X (Value.int .u8 0)) el (bs.size + X, bs.size + X + 1)) := by
    simp only [World.freeze, World.alloc, World.drew]
    rw [if_neg (by simp)]
    apply Array.ext_getElem?
    intro i
    simp only [Array.getElem?_modify, Array.getElem?_push]
    by_cases hi : w.heap.size = i
    · subst hi; simp
    · rw [if_neg hi, if_neg (fun h => hi h.symm), if_neg (fun h => hi h.symm)]
  refine ⟨.slice (some ⟨w.heap.size, 0, none⟩) bs.size (bs.size + X), _, ⟨w.heap.size, 0, X⟩, .cells ((bs.data.map fun b => Value.int .u8 b.toNat) ++ Array.replicate X (Value.int .u8 0)) el (bs.size + X, bs.size + X + 1), ?_, rfl, hheap, ?_, ?_, ?_⟩
  · rw [show execOp a.eval o = (do pure (.value (← convert src dst (a.eval x))) : Sem Next) by simp [execOp, ho]]
    refine run_val (Eq.trans ?_ hrun)
    rw [e1]
    have hs' : P.underlying src = some .string := hs
    simp [convert, run_underlying hs', run_underlying hd, run_underlying hel]
  · have b1 : Below 0 w (w.drew.alloc (.cells ((bs.data.map fun b => Value.int .u8 b.toNat) ++ Array.replicate X (Value.int .u8 0)) el)) := ((Below.refl 0 w).drew).alloc (Nat.zero_le _) _
    refine ⟨?_, ?_, ?_, ?_, fun k hk => absurd hk (Nat.not_lt_zero k)⟩
    · simp only [World.freeze]; split <;> rfl
    · simp only [World.freeze]; split <;> rfl
    · simp only [World.freeze]; split <;> rfl
    · rw [hheap]; simp
  · obtain ⟨d, tr, rfl, g1, g2⟩ := h5
    have hl : (avs (toB bs)).length = bs.size := by rw [avs_map, List.length_map, ← llen_eq, ← hsz]
    refine BlkR.row g1 g2 ?_ ?_ ?_
    · have : (((bs.data.map fun b => Value.int .u8 b.toNat) ++ Array.replicate X (Value.int .u8 0)).toList.take (avs (toB bs)).length) = bs.data.toList.map fun b => Value.int .u8 b.toNat := by
        rw [hl, Array.toList_append, List.take_append_of_le_length (by simp), List.take_of_length_le (by simp), Array.toList_map]
      rw [this]; exact avs_VRs bs
    · rw [hcs, hl]; omega
    · intro i hi; rw [hl] at hi; simp only; omega
  · simp only [VR]
    exact ⟨⟨w.heap.size, 0, X⟩, ⟨w.heap.size, 0, none⟩, bs.size + X, upd_at _ _ _, by rw [hsz], by omega, .inr (by show bs.size + X = llen (toB bs) + X; omega), .inl rfl⟩
theorem mop_ok {P : Program} {o : Oper} {g : Mk} (hg : mop P o = some g) {t : T} {h : H} {F : Nat → AV → Blk → R} (e : g.run t h F = true) : ∃ v k, F h.nx v k = true ∧ Sm P o t h.nx v k := by
  unfold mop at hg
  split at hg
  · rename_i ty ho; cases hg; exact opAlloc_ok ho e
  · rename_i ty x ho; cases hg; exact opBox_ok ho e
  · rename_i ty n ps ho; cases hg; exact opBuildSlice_ok ho e
  · rename_i ty l c ho; cases hg; exact opMakeSlice_ok ho e
  · rename_i ty r ho; cases hg; exact opMakeMap_ok ho e
  · rename_i a b x ho
    split at hg
    · rename_i hc; cases hg; exact opBytes_ok ho hc e
    · cases hg
  · cases hg
end
end Go.Proofs.YtbpdomemnecioaaGreatDoor.Ev
