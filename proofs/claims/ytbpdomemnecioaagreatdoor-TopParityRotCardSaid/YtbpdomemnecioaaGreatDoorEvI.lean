/- The evaluator's operations that give a value, against the model's: literals of structs and arrays. Own text. No condition of a claim. -/
import Derived.Test.YtbpdomemnecioaaGreatDoorEvH
import Derived.Great.FillDense
import Derived.Laws.Tables
namespace Go.Proofs.YtbpdomemnecioaaGreatDoor.Ev
open Go
set_option linter.unusedVariables false
set_option linter.unusedSimpArgs false
noncomputable section

theorem flat_true {r : R} {x : AV} (h : flat r x = true) : r = true ∧ ∀ ρ v, VR ρ x v → v.oneCell' = true := by
  cases x <;> try exact (Bool.false_ne_true h).elim
  case ub => exact ⟨h, fun ρ v q => by simp only [VR] at q; obtain ⟨_, rfl⟩ := q; rfl⟩
  case ui => exact ⟨h, fun ρ v q => by simp only [VR] at q; obtain ⟨_, rfl⟩ := q; rfl⟩
  case bx => exact ⟨h, fun ρ v q => by simp only [VR] at q; obtain ⟨_, _, _, _, _, rfl⟩ := q; rfl⟩
  case ne => exact ⟨h, fun ρ v q => by simp only [VR] at q; obtain ⟨_, rfl, _⟩ := q; rfl⟩
  case rg => exact ⟨h, fun ρ v q => by simp only [VR] at q; obtain ⟨_, rfl, _⟩ := q; rfl⟩
  case f0 => exact ⟨h, fun ρ v q => by simp only [VR] at q; subst q; rfl⟩
  case if0 => exact ⟨h, fun ρ v q => by simp only [VR] at q; subst q; rfl⟩
  case m0 => exact ⟨h, fun ρ v q => by simp only [VR] at q; subst q; rfl⟩
  case p0 => exact ⟨h, fun ρ v q => by simp only [VR] at q; subst q; rfl⟩
  case sl0 => exact ⟨h, fun ρ v q => by simp only [VR] at q; subst q; rfl⟩
  case f => exact ⟨h, fun ρ v q => by simp only [VR] at q; obtain ⟨_, _, rfl, _⟩ := q; rfl⟩
  case ifc => exact ⟨h, fun ρ v q => by simp only [VR] at q; obtain ⟨_, rfl, _⟩ := q; rfl⟩
  case m => exact ⟨h, fun ρ v q => by simp only [VR] at q; obtain ⟨_, _, rfl⟩ := q; rfl⟩
  case s => exact ⟨h, fun ρ v q => by simp only [VR] at q; obtain ⟨_, rfl, _⟩ := q; rfl⟩
  case sl => exact ⟨h, fun ρ v q => by simp only [VR] at q; obtain ⟨_, _, _, _, rfl, _⟩ := q; rfl⟩
  case p => exact ⟨h, fun ρ v q => by simp only [VR] at q; obtain ⟨_, _, rfl⟩ := q; rfl⟩
  case b => exact ⟨h, fun ρ v q => by simp only [VR] at q; subst q; rfl⟩
  case i => exact ⟨h, fun ρ v q => by obtain ⟨_, rfl⟩ := VR_i q; rfl⟩
theorem flats_true {r : R} : ∀ {l : List AV}, flats r l = true → r = true ∧ ∀ ρ vs, VRs ρ l vs → ∀ v ∈ vs, v.oneCell' = true
  | [], h => ⟨h, fun ρ vs q v hv => by simp only [VRs] at q; subst q; simp at hv⟩
  | x :: l, h => by
    obtain ⟨h1, h2⟩ := flat_true (show flat (flats r l) x = true from h)
    obtain ⟨h3, h4⟩ := flats_true h1
    refine ⟨h3, fun ρ vs q v hv => ?_⟩
    simp only [VRs] at q
    obtain ⟨u, us, rfl, q1, q2⟩ := q
    rcases List.mem_cons.1 hv with rfl | hv
    · exact h2 ρ v q1
    · exact h4 ρ us q2 v hv
theorem cells_of_one {v : Value} (h : ∀ cs, v ≠ .agg cs) : v.cells = #[v] := by cases v <;> first | exact absurd rfl (h _) | rfl
/-- The cells of a value, each one cell. -/
theorem cellsA_true {x : AV} {f : List AV → R} (h : cellsA x f = true) : ∃ c, f c = true ∧ ∀ ρ v, VR ρ x v → VRs ρ c v.cells.toList ∧ ∀ u ∈ v.cells.toList, u.oneCell' = true := by
  by_cases hag : ∃ l, x = .ag l
  · obtain ⟨l, rfl⟩ := hag
    obtain ⟨h1, h2⟩ := flats_true (show flats (f l) l = true from h)
    refine ⟨l, h1, fun ρ v q => ?_⟩
    obtain ⟨vs, rfl, q1⟩ := VR_ag q
    exact ⟨q1, h2 ρ _ q1⟩
  · have key : flat (f [x]) x = true := by
      cases x <;> first | exact (Bool.false_ne_true h).elim | exact absurd ⟨_, rfl⟩ hag | exact h
    obtain ⟨h1, h2⟩ := flat_true key
    refine ⟨[x], h1, fun ρ v q => ?_⟩
    have hv : v.cells = #[v] := by
      have := h2 ρ v q
      cases v <;> first | rfl | cases this
    rw [hv]
    refine ⟨by simp only [VRs]; exact ⟨v, [], rfl, q, rfl⟩, fun u hu => ?_⟩
    simp at hu; subst hu
    exact h2 ρ _ q
theorem splice_eq (l : List AV) : ∀ (o : Nat) (m : List AV), o + l.length ≤ m.length → splice l o m = m.take o ++ l ++ m.drop (o + l.length)
  | 0, m, h => by show lapp l (m.drop (llen l)) = _; rw [lapp_eq, llen_eq]; simp
  | o + 1, [], h => by simp at h
  | o + 1, x :: m, h => by
    show x :: splice l o m = _
    rw [splice_eq l o m (by simp at h; omega)]
    simp [Nat.add_right_comm]
theorem fold_toList (l : List Value) (off : Nat) (cs : Array Value) (h : off + l.length ≤ cs.size) :
    ((l.zipIdx 0).foldl (fun cs (x : Value × Nat) => cs.setIfInBounds (off + x.2) x.1) cs).toList = cs.toList.take off ++ l ++ cs.toList.drop (off + l.length) := by
  obtain ⟨h1, h2⟩ := Great.foldl_set off l 0 cs
  apply List.ext_getElem?
  intro k
  rw [Array.getElem?_toList, h2 k]
  simp only [Nat.add_zero]
  have e0 : (cs.toList.take off).length = off := by rw [List.length_take, Array.length_toList]; omega
  by_cases hk : off ≤ k ∧ k < off + l.length ∧ k < cs.size
  · rw [if_pos hk, List.append_assoc, List.getElem?_append_right (by omega), e0, List.getElem?_append_left (by omega)]
  · rw [if_neg hk]
    by_cases h3 : k < off
    · rw [List.append_assoc, List.getElem?_append_left (by omega), List.getElem?_take_of_lt h3, Array.getElem?_toList]
    · rw [List.getElem?_append_right (by rw [List.length_append, e0]; omega), List.length_append, e0, List.getElem?_drop, Array.getElem?_toList]
      congr 1
      omega
theorem VRs.splice {ρ : Ren} {l m : List AV} {vs us : List Value} {o : Nat} (h1 : VRs ρ l vs) (h2 : VRs ρ m us) (h : o + l.length ≤ m.length) : VRs ρ (splice l o m) (us.take o ++ vs ++ us.drop (o + vs.length)) := by
  rw [splice_eq l o m h, h1.length, ← lapp_eq, ← lapp_eq]
  exact ((h2.take o).app h1).app (h2.drop _)
/-- Parts filled in. -/
theorem fills_true {t : T} : ∀ {l : List (Nat × Nat × Operand)} {m : List AV} {f : List AV → R}, fills l t m f = true → ∃ m', f m' = true ∧ m'.length = m.length ∧
    ∀ (ρ : Ren) (a : Act) (place : Nat → Option (Nat × Nat)) (ps : List (Nat × Operand)), ps.length = l.length → (∀ (j : Nat) p q, ps[j]? = some p → l[j]? = some q → place p.1 = some (q.1, q.2.1) ∧ p.2 = q.2.2) →
      (∀ p ∈ ps, VR ρ (gv t p.2) (a.eval p.2)) → ∀ cells : Array Value, VRs ρ m cells.toList → ∃ r, Instr.fill place cells (ps.map fun p => (p.1, a.eval p.2)) = some r ∧ VRs ρ m' r.toList ∧ r.size = cells.size
  | [], m, f, h => ⟨m, h, rfl, fun ρ a place ps hl _ _ cells q => by
      have := List.eq_nil_of_length_eq_zero hl
      subst this
      exact ⟨cells, rfl, q, rfl⟩⟩
  | p0 :: l, m, f, h => by
    have h1 := gt_run (show (gt p0.2.2).run (fun v => cellsA v (fun c => gd (Nat.beq (llen c) p0.2.1) (gd (Nat.ble (Nat.add p0.1 p0.2.1) (llen m)) (fills l t (splice c p0.1 m) f)))) t = true from h)
    obtain ⟨c, h2, h3⟩ := cellsA_true h1
    obtain ⟨h4, h5⟩ := gd_true h2
    obtain ⟨h6, h7⟩ := gd_true h5
    have h4 : c.length = p0.2.1 := by rw [← llen_eq]; exact Nat.eq_of_beq_eq_true h4
    have h6 : p0.1 + p0.2.1 ≤ m.length := by rw [← llen_eq]; exact Nat.le_of_ble_eq_true h6
    obtain ⟨m', h8, h9, h10⟩ := fills_true h7
    have hlen : (Ev.splice c p0.1 m).length = m.length := by
      rw [splice_eq c p0.1 m (by omega)]
      simp only [List.length_append, List.length_take, List.length_drop]; omega
    refine ⟨m', h8, by rw [h9, hlen], fun ρ a place ps hl hp hv cells q => ?_⟩
    cases ps with
    | nil => simp at hl
    | cons p ps =>
      obtain ⟨g1, g2⟩ := hp 0 p p0 rfl rfl
      have q0 := hv p List.mem_cons_self
      rw [g2] at q0
      obtain ⟨q1, _⟩ := h3 ρ _ q0
      have hs : (a.eval p0.2.2).cells.size = p0.2.1 := by rw [← h4, ← q1.length, Array.length_toList]
      have hcs : cells.size = m.length := by rw [← q.length, Array.length_toList]
      simp only [List.map_cons, Instr.fill, g1, g2]
      rw [if_neg (by simp [hs]; omega)]
      have hz : (a.eval p0.2.2).cells.zipIdx.foldl (fun cs (x : Value × Nat) => cs.setIfInBounds (p0.1 + x.2) x.1) cells = ((a.eval p0.2.2).cells.toList.zipIdx 0).foldl (fun cs (x : Value × Nat) => cs.setIfInBounds (p0.1 + x.2) x.1) cells := by
        rw [← Array.foldl_toList, Array.toList_zipIdx]
      have hq := h10 ρ a place ps (by simpa using hl) (fun j p' q' e1 e2 => hp (j + 1) p' q' (by simpa using e1) (by simpa using e2)) (fun p' hp' => hv p' (List.mem_cons_of_mem _ hp'))
        ((a.eval p0.2.2).cells.zipIdx.foldl (fun cs (x : Value × Nat) => cs.setIfInBounds (p0.1 + x.2) x.1) cells) (by
          rw [hz, fold_toList _ _ _ (by rw [Array.length_toList]; omega)]
          exact q1.splice q (by omega))
      obtain ⟨r, r1, r2, r3⟩ := hq
      refine ⟨r, r1, r2, ?_⟩
      rw [r3, hz, (Great.foldl_set _ _ _ _).1]
theorem zeroL_some {P : Program} {ty : Nat} {z : List AV} (h : zeroL P ty = some z) : ∃ i v, P.info? ty = some i ∧ i.zero = some v ∧ z = v.cells.toList.map ofV0 := by
  unfold zeroL at h
  split at h
  · rename_i i hi
    cases hz : i.zero with
    | none => rw [hz] at h; cases h
    | some v => rw [hz] at h; simp at h; exact ⟨i, v, hi, hz, h.symm⟩
  · cases h
theorem zero_VRs (ρ : Ren) (v : Value) : VRs ρ (v.cells.toList.map ofV0) v.cells.toList := VRs_map0 ρ _
theorem partsOf_some {P : Program} {fs : Array Field} : ∀ {ps : List (Nat × Operand)} {l : List (Nat × Nat × Operand)}, partsOf P fs ps = some l → l.length = ps.length ∧
    ∀ (j : Nat) (p : Nat × Operand) (q : Nat × Nat × Operand), ps[j]? = some p → l[j]? = some q → p.2 = q.2.2 ∧ ∃ fd, fs[p.1]? = some fd ∧ fd.offset = q.1 ∧ szOf P fd.type = some q.2.1
  | [], l, h => by simp [partsOf] at h; subst h; exact ⟨rfl, fun j p q e => by simp at e⟩
  | (i, x) :: ps, l, h => by
    unfold partsOf at h
    split at h
    · rename_i fd l' hfd hl'
      obtain ⟨h1, h2⟩ := partsOf_some hl'
      cases hs : szOf P fd.type with
      | none => rw [hs] at h; cases h
      | some s =>
        rw [hs] at h
        simp at h
        subst h
        refine ⟨by simp [h1], fun j p q e1 e2 => ?_⟩
        cases j with
        | zero => simp at e1 e2; subst e1; subst e2; exact ⟨rfl, fd, hfd, rfl, hs⟩
        | succ j => simp at e1 e2; exact h2 j p q e1 e2
    · cases h
theorem places_some {P : Program} : ∀ {fs : List Field}, (fs.all fun f => (szOf P f.type).isSome) = true → ∃ places, fs.mapM (fun f => (P.info? f.type).map fun i => (f.offset, i.size)) = some places ∧ places.length = fs.length ∧
    ∀ (j : Nat) (fd : Field) (s : Nat), fs[j]? = some fd → szOf P fd.type = some s → places[j]? = some (fd.offset, s)
  | [], _ => ⟨[], rfl, rfl, fun j fd s e => by simp at e⟩
  | f :: fs, h => by
    simp only [List.all_cons, Bool.and_eq_true] at h
    obtain ⟨pl, h1, h2, h3⟩ := places_some h.2
    cases hi : P.info? f.type with
    | none => simp [szOf, hi] at h
    | some i =>
      refine ⟨(f.offset, i.size) :: pl, by simp [List.mapM_cons, hi, h1], by simp [h2], fun j fd s e1 e2 => ?_⟩
      cases j with
      | zero => simp at e1; subst e1; simp [szOf, hi] at e2; subst e2; rfl
      | succ j => simp at e1; simpa using h3 j fd s e1 e2
theorem opBuild_ok {P : Program} {ty : TypeId} {parts : Array (Nat × Operand)} {t : T} {h : H} {f : AV → R} (e : (opBuild P ty parts).run t h f = true) : ∃ v, f v = true ∧
    ∀ (ρ : Ren) (a : Act) (w : World), (∀ p ∈ parts.toList, VR ρ (gv t p.2) (a.eval p.2)) → ∃ v', (Instr.build ty (parts.map fun p => (p.1, a.eval p.2))).run P w = .ok v' w ∧ VR ρ v v' := by
  unfold opBuild at e
  split at e
  · rename_i fs z hu hz
    obtain ⟨i, zv, hi, hzv, rfl⟩ := zeroL_some hz
    split at e
    · rename_i l hl
      split at e
      · rename_i has
        obtain ⟨m', h1, _, h2⟩ := fills_true (show fills l t _ (fun m => f (.ag m)) = true from e)
        obtain ⟨pl, p1, p2, p3⟩ := places_some has
        obtain ⟨l1, l2⟩ := partsOf_some hl
        refine ⟨_, h1, fun ρ a w q => ?_⟩
        obtain ⟨r, r1, r2, _⟩ := h2 ρ a (pl.toArray[·]?) parts.toList l1.symm (fun j p q' e1 e2 => by
          obtain ⟨g1, fd, g2, g3, g4⟩ := l2 j p q' e1 e2
          have := p3 p.1 fd _ (by simpa using g2) g4
          exact ⟨by simpa [g3] using this, g1⟩) q zv.cells (zero_VRs ρ zv)
        refine ⟨.agg r, run_build w ty _ r ?_, by simp only [VR]; exact ⟨r, rfl, r2⟩⟩
        unfold Program.built
        simp only [hi, hu, hzv, p1]
        rw [Array.toList_map]
        exact r1
      · exact (Bool.false_ne_true e).elim
    · exact (Bool.false_ne_true e).elim
  · rename_i n el z hu hz
    obtain ⟨i, zv, hi, hzv, rfl⟩ := zeroL_some hz
    split at e
    · rename_i s hs
      obtain ⟨m', h1, _, h2⟩ := fills_true (show fills (parts.toList.map fun p => (p.1 * s, s, p.2)) t _ (fun m => f (.ag m)) = true from e)
      refine ⟨_, h1, fun ρ a w q => ?_⟩
      cases hie : P.info? el with
      | none => simp [szOf, hie] at hs
      | some ie =>
        have hse : ie.size = s := by simpa [szOf, hie] using hs
        obtain ⟨r, r1, r2, _⟩ := h2 ρ a (fun i => some (i * s, s)) parts.toList (by simp) (fun j p q' e1 e2 => by
          rw [List.getElem?_map, e1] at e2
          simp at e2
          subst e2
          exact ⟨rfl, rfl⟩) q zv.cells (zero_VRs ρ zv)
        refine ⟨.agg r, run_build w ty _ r ?_, by simp only [VR]; exact ⟨r, rfl, r2⟩⟩
        unfold Program.built
        simp only [hi, hu, hzv, hie]
        rw [Array.toList_map, hse]
        exact r1
    · exact (Bool.false_ne_true e).elim
  · exact (Bool.false_ne_true e).elim
end
end Go.Proofs.YtbpdomemnecioaaGreatDoor.Ev
