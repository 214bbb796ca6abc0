/- The evaluator's operations that give a value, against the model's: places, loads, parts, literals. Own text. No condition of a claim. -/
import Derived.Test.YtbpdomemnecioaaGreatDoorEvG
namespace Go.Proofs.YtbpdomemnecioaaGreatDoor.Ev
open Go
set_option linter.unusedVariables false
set_option linter.unusedSimpArgs false
noncomputable section

/-- Two operands, with the heap. -/
def Oh2 (P : Program) (s : Value → Value → Sem Value) (t : T) (h : H) (x y : Operand) (v : AV) : Prop :=
  ∀ (ρ : Ren) (a : Act) (w : World), HB ρ h w → VR ρ (gv t x) (a.eval x) → VR ρ (gv t y) (a.eval y) → ∃ v', (s (a.eval x) (a.eval y)).run P w = .ok v' w ∧ VR ρ v v'

theorem nth_true : ∀ {n : Nat} {l : List AV} {f : AV → R}, nth n l f = true → ∃ v, l[n]? = some v ∧ f v = true
  | 0, [], f, h => (Bool.false_ne_true h).elim
  | 0, x :: l, f, h => ⟨x, rfl, h⟩
  | n + 1, [], f, h => (Bool.false_ne_true h).elim
  | n + 1, x :: l, f, h => by
    obtain ⟨v, h1, h2⟩ := nth_true (n := n) (l := l) (f := f) h
    exact ⟨v, by simpa using h1, h2⟩
theorem nthN_true : ∀ {n : Nat} {l : List Nat} {f : Nat → R}, nthN n l f = true → ∃ v, l[n]? = some v ∧ f v = true
  | 0, [], f, h => (Bool.false_ne_true h).elim
  | 0, x :: l, f, h => ⟨x, rfl, h⟩
  | n + 1, [], f, h => (Bool.false_ne_true h).elim
  | n + 1, x :: l, f, h => by
    obtain ⟨v, h1, h2⟩ := nthN_true (n := n) (l := l) (f := f) h
    exact ⟨v, by simpa using h1, h2⟩
theorem VR_tu {ρ : Ren} {l : List AV} {v : Value} (h : VR ρ (.tu l) v) : ∃ vs, v = .tuple vs ∧ VRs ρ l vs.toList := by simpa only [VR] using h
theorem VR_p {ρ : Ren} {b o : Nat} {v : Value} (h : VR ρ (.p b o) v) : ∃ l, ρ b = some l ∧ v = .pointer (some ⟨l.B, l.O + o, none⟩) := by simpa only [VR] using h
theorem VR_mkp {ρ : Ren} {b o : Nat} {l : Loc} (h : ρ b = some l) : VR ρ (.p b o) (.pointer (some ⟨l.B, l.O + o, none⟩)) := by simp only [VR]; exact ⟨l, h, rfl⟩
theorem VR_sl {ρ : Ren} {b o n c : Nat} {v : Value} (h : VR ρ (.sl b o n c) v) : ∃ l a c', ρ b = some l ∧ v = .slice (some a) n c' ∧ n ≤ c' ∧ (c' = c ∨ c' = c + l.X) ∧ (a = ⟨l.B, l.O + o, none⟩ ∨ c' = 0) := by simpa only [VR] using h
theorem extract_ok {P : Program} {x : Operand} {i : Nat} {t : T} {h : H} {f : AV → R} (e : (vo1 x ⟨fun v f => onTu (fun l => nth i l f) v⟩).run t h f = true) : ∃ v, f v = true ∧ Ok1 P (fun v => Instr.extract v i) t x v := by
  obtain ⟨l, hx, h1⟩ := onTu_true (vo1_run e)
  obtain ⟨v, hv, h2⟩ := nth_true h1
  refine ⟨v, h2, fun ρ a w q => ?_⟩
  rw [hx] at q
  obtain ⟨vs, e1, q1⟩ := VR_tu q
  rw [e1]
  obtain ⟨u, hu, q2⟩ := q1.at i v hv
  refine ⟨u, ?_, q2⟩
  have : vs[i]? = some u := by simpa using hu
  simp [Instr.extract, this]
theorem run_info {P : Program} {t : TypeId} {i : TypeInfo} (h : P.info? t = some i) (w : World) : (typeInfo t).run P w = .ok i w := by simp [typeInfo, h]
theorem run_size {P : Program} {t : TypeId} {s : Nat} (h : szOf P t = some s) (w : World) : (sizeOf t).run P w = .ok s w := by
  unfold szOf at h
  cases hi : P.info? t with
  | none => rw [hi] at h; cases h
  | some i => rw [hi] at h; simp at h; simp [sizeOf, run_info hi, h]
theorem run_agg {P : Program} {t : TypeId} {d : TypeDesc} (h : P.underlying t = some d) (w : World) : (isAgg t).run P w = .ok (isAggD d) w := by
  cases d <;> simp [isAgg, run_underlying h, isAggD]
theorem shape0 {P : Program} {t : TypeId} (h : shapeOf P t = some none) (w : World) : (isAgg t).run P w = .ok false w := by
  unfold shapeOf at h
  split at h
  · rename_i d i hd hi
    split at h
    · cases h
    · rename_i hn
      rw [run_agg hd]; simp at hn; rw [hn]
  · cases h
theorem shapeS {P : Program} {t m : Nat} (h : shapeOf P t = some (some m)) (w : World) : (isAgg t).run P w = .ok true w ∧ szOf P t = some m := by
  unfold shapeOf at h
  split at h
  · rename_i d i hd hi
    split at h
    · rename_i hn
      simp at h
      exact ⟨by rw [run_agg hd, hn], by simp [szOf, hi, h]⟩
    · cases h
  · cases h
theorem run_part0 {P : Program} {t : TypeId} (h : shapeOf P t = some none) {cs : Array Value} {off : Nat} {v : Value} (hv : cs[off]? = some v) (w : World) : (part t cs off).run P w = .ok v w := by
  simp [part, shape0 h, hv]
theorem run_partS {P : Program} {t : TypeId} {m : Nat} (h : shapeOf P t = some (some m)) {cs : Array Value} {off : Nat} (w : World) : (part t cs off).run P w = .ok (.agg (cs.extract off (off + m))) w := by
  simp [part, (shapeS h w).1, run_size (shapeS h w).2]
theorem VRs.take {ρ : Ren} : ∀ (n : Nat) {l : List AV} {vs : List Value}, VRs ρ l vs → VRs ρ (l.take n) (vs.take n)
  | 0, l, vs, h => by simp only [List.take_zero, VRs]
  | n + 1, [], vs, h => by simp only [VRs] at h; subst h; simp only [List.take_nil, VRs]
  | n + 1, x :: l, vs, h => by
    simp only [VRs] at h
    obtain ⟨v, r, rfl, h1, h2⟩ := h
    simp only [List.take_succ_cons, VRs]
    exact ⟨v, _, rfl, h1, VRs.take n h2⟩
theorem VRs.drop {ρ : Ren} : ∀ (n : Nat) {l : List AV} {vs : List Value}, VRs ρ l vs → VRs ρ (l.drop n) (vs.drop n)
  | 0, l, vs, h => h
  | n + 1, [], vs, h => by simp only [VRs] at h; subst h; simp only [List.drop_nil, VRs]
  | n + 1, x :: l, vs, h => by
    simp only [VRs] at h
    obtain ⟨v, r, rfl, h1, h2⟩ := h
    simp only [List.drop_succ_cons]
    exact VRs.drop n h2
theorem opField_ok {P : Program} {ty : TypeId} {x : Operand} {i : Nat} {t : T} {h : H} {f : AV → R} (e : (opField P ty x i).run t h f = true) : ∃ v, f v = true ∧ Ok1 P (fun v => Instr.field ty v i) t x v := by
  unfold opField at e
  split at e
  · rename_i fs hu
    split at e
    · rename_i fd hfd
      split at e
      · rename_i hsh
        obtain ⟨l, hx, h1⟩ := onAg_true (vo1_run e)
        obtain ⟨v, hv, h2⟩ := nth_true h1
        refine ⟨v, h2, fun ρ a w q => ?_⟩
        rw [hx] at q
        obtain ⟨vs, e1, q1⟩ := VR_ag q
        rw [e1]
        obtain ⟨u, hu2, q2⟩ := q1.at _ v hv
        exact ⟨u, by simp [Instr.field, run_underlying hu, hfd, asAgg, run_part0 hsh (by simpa using hu2 : vs[fd.offset]? = some u)], q2⟩
      · rename_i m hsh
        obtain ⟨l, hx, h1⟩ := onAg_true (vo1_run e)
        refine ⟨_, h1, fun ρ a w q => ?_⟩
        rw [hx] at q
        obtain ⟨vs, e1, q1⟩ := VR_ag q
        rw [e1]
        refine ⟨_, by simp [Instr.field, run_underlying hu, hfd, asAgg, run_partS hsh]; rfl, ?_⟩
        simp only [VR]
        refine ⟨_, rfl, ?_⟩
        rw [Array.toList_extract]
        simpa using (q1.drop fd.offset).take m
      · exact (Bool.false_ne_true e).elim
    · exact (Bool.false_ne_true e).elim
  · exact (Bool.false_ne_true e).elim
theorem opFieldAddr_ok {P : Program} {ty : TypeId} {x : Operand} {i : Nat} {t : T} {h : H} {f : AV → R} (e : (opFieldAddr P ty x i).run t h f = true) : ∃ v, f v = true ∧ Ok1 P (fun v => Instr.fieldAt ty v i) t x v := by
  unfold opFieldAddr at e
  split at e
  · rename_i fs hu
    split at e
    · rename_i fd hfd
      split at e
      · rename_i s hs
        obtain ⟨b, o, hx, h1⟩ := onP_true (vo1_run e)
        refine ⟨_, h1, fun ρ a w q => ?_⟩
        rw [hx] at q
        obtain ⟨l, hb, e1⟩ := VR_p q
        rw [e1]
        refine ⟨_, by simp [Instr.fieldAt, run_underlying hu, hfd, Instr.sureAddr, fieldPlace, run_size hs]; rfl, ?_⟩
        rw [Addr.add_lit]
        have := VR_mkp (o := o + fd.offset) hb
        rw [← Nat.add_assoc] at this
        exact this
      · exact (Bool.false_ne_true e).elim
    · exact (Bool.false_ne_true e).elim
  · exact (Bool.false_ne_true e).elim
theorem ixP_true {sz b o n : Nat} {f : AV → R} {k : IntKind} {a : Nat} (h : ixP sz b o n f k a = true) : a < n ∧ hf k ≤ sx k a ∧ f (.p b (o + a * sz)) = true := by
  obtain ⟨h1, h⟩ := gd_true h
  obtain ⟨h2, h⟩ := gd_true h
  exact ⟨by simpa [Nat.blt_eq] using h1, Nat.le_of_ble_eq_true h2, h⟩
theorem opIndexAddr_ok {P : Program} {ty : TypeId} {x i : Operand} {t : T} {h : H} {f : AV → R} (e : (opIndexAddr P ty x i).run t h f = true) : ∃ v, f v = true ∧ Ok2 P (Instr.indexAt ty) t x i v := by
  unfold opIndexAddr at e
  split at e
  · rename_i el hu
    split at e
    · rename_i sz hs
      obtain ⟨b, o, n, c, hx, h1⟩ := onSl_true (vo2_run e)
      obtain ⟨k, j, hi, h2⟩ := onI_true h1
      obtain ⟨h3, h4, h5⟩ := ixP_true h2
      refine ⟨_, h5, fun ρ a w q1 q2 => ?_⟩
      rw [hx] at q1
      rw [hi] at q2
      obtain ⟨l, ad, c', hb, e1, hnc, _, had⟩ := VR_sl q1
      obtain ⟨hj, e2⟩ := VR_i q2
      rw [e1, e2, wrap_nn hj h4]
      have had : ad = ⟨l.B, l.O + o, none⟩ := had.resolve_right (by omega)
      subst had
      have hel : P.elem ty = el := by simp [Program.elem, hu]
      refine ⟨_, by rw [run_indexAt_slice w ty _ _ _ _ _ (by rw [hel]; exact hu), if_pos (by omega), hel, run_size hs]; rfl, ?_⟩
      rw [Addr.add_lit, Int.toNat_natCast, Nat.add_assoc]
      exact VR_mkp hb
    · exact (Bool.false_ne_true e).elim
  · rename_i len el hu
    split at e
    · rename_i sz hs
      obtain ⟨b, o, hx, h1⟩ := onP_true (vo2_run e)
      obtain ⟨k, j, hi, h2⟩ := onI_true h1
      obtain ⟨h3, h4, h5⟩ := ixP_true h2
      refine ⟨_, h5, fun ρ a w q1 q2 => ?_⟩
      rw [hx] at q1
      rw [hi] at q2
      obtain ⟨l, hb, e1⟩ := VR_p q1
      obtain ⟨hj, e2⟩ := VR_i q2
      rw [e1, e2, wrap_nn hj h4]
      have hel : P.elem ty = el := by simp [Program.elem, hu]
      have hal : P.arrayLen ty = len := by simp [Program.arrayLen, hu]
      refine ⟨_, by rw [run_indexAt_array w ty _ _ _ (by rw [hel, hal]; exact hu), hal, if_pos (by omega), hel, run_size hs]; rfl, ?_⟩
      rw [Addr.add_lit, Int.toNat_natCast, Nat.add_assoc]
      exact VR_mkp hb
    · exact (Bool.false_ne_true e).elim
  · exact (Bool.false_ne_true e).elim
theorem opIndex_ok {P : Program} {ty : TypeId} {x i : Operand} {t : T} {h : H} {f : AV → R} (e : (opIndex P ty x i).run t h f = true) : ∃ v, f v = true ∧ Ok2 P (Instr.index ty) t x i v := by
  unfold opIndex at e
  split at e
  · rename_i hu
    have hu := isStr_true hu
    obtain ⟨l, hx, h1⟩ := onS_true (vo2_run e)
    obtain ⟨k, j, hi, h2⟩ := onI_true h1
    obtain ⟨h3, h4⟩ := gd_true h2
    obtain ⟨c, hc, h5⟩ := nthN_true h4
    refine ⟨_, h5, fun ρ a w q1 q2 => ?_⟩
    rw [hx] at q1
    rw [hi] at q2
    obtain ⟨bs, e1, rfl⟩ := VR_s q1
    obtain ⟨hj, e2⟩ := VR_i q2
    rw [e1, e2, wrap_nn hj (Nat.le_of_ble_eq_true h3)]
    have hlt : j < bs.size := by
      rw [toB_size, llen_eq]
      exact (List.getElem?_eq_some_iff.1 hc).1
    have hv : (bs[j]'hlt).toNat = c := by
      have := hc
      simp only [toB, List.getElem?_map, Array.getElem?_toList] at this
      rw [Array.getElem?_eq_getElem (show j < bs.data.size from hlt)] at this
      have h9 : (bs.data[j]'hlt).toNat = c := by simpa using this
      exact h9
    refine ⟨.int .u8 (c : Int), ?_, ?_⟩
    · rw [run_index_string w ty _ _ _ hu, dif_pos ⟨by omega, by omega⟩]
      congr 2
      rw [← hv]; rfl
    · have h6 : c < 256 := by rw [← hv]; exact (bs[j]'hlt).toNat_lt
      have h7 := VR_mki (ρ := ρ) (k := .u8) (n := c) h6
      have h8 : IntKind.u8.wrap (c : Int) = c := by rw [IntKind.wrap_u8']; omega
      rwa [h8] at h7
  · exact (Bool.false_ne_true e).elim
theorem opLoad_ok {P : Program} {ty : TypeId} {x : Operand} {t : T} {h : H} {f : AV → R} (e : (opLoad P ty x).run t h f = true) : ∃ v, f v = true ∧ Oh1 P (Instr.loadAt ty) t h x v := by
  unfold opLoad at e
  split at e
  · rename_i hsh
    obtain ⟨b, o, hx, h1⟩ := onP_true (gt_run e)
    obtain ⟨d, tr, n, z, hk, ho, h2⟩ := ldc_true h1
    refine ⟨_, h2, fun ρ a w hr q => ?_⟩
    rw [hx] at q
    obtain ⟨l, hb, e1⟩ := VR_p q
    rw [e1]
    obtain ⟨v, hv, q1, _⟩ := cell_at hr hb hk ho
    exact ⟨v, by simp [Instr.loadAt, Instr.sureAddr, loadVar, shape0 hsh, hv], q1⟩
  · rename_i m hsh
    obtain ⟨b, o, hx, h1⟩ := onP_true (gt_run e)
    obtain ⟨d, tr, n, z, hk, ho, h2⟩ := lds_true h1
    refine ⟨_, h2, fun ρ a w hr q => ?_⟩
    rw [hx] at q
    obtain ⟨l, hb, e1⟩ := VR_p q
    rw [e1]
    obtain ⟨cs, q1, h3⟩ := loadCells_at (P := P) hr hb hk ho
    refine ⟨.agg cs.toArray, by simp [Instr.loadAt, Instr.sureAddr, loadVar, (shapeS hsh w).1, run_size (shapeS hsh w).2, h3], ?_⟩
    simp only [VR]
    exact ⟨_, rfl, q1⟩
  · exact (Bool.false_ne_true e).elim
theorem opNilCheck_ok {P : Program} {x : Operand} {t : T} {h : H} {f : AV → R} (e : (opNilCheck x).run t h f = true) :
    ∃ v, f v = true ∧ ∀ (ρ : Ren) (a : Act), VR ρ (gv t x) (a.eval x) → ((∃ ad, a.eval x = .pointer (some ad)) ∨ (∃ ty u, a.eval x = .iface ty u) ∨ (∃ g b c, a.eval x = .func (.func g) b c)) ∧ VR ρ v (a.eval x) := by
  have e2 := vo1_run (h := h) e
  cases hx : gv t x <;> rw [hx] at e2 <;> try exact (Bool.false_ne_true e2).elim
  case p b o =>
    refine ⟨_, e2, fun ρ a q => ⟨?_, q⟩⟩
    obtain ⟨l, _, e1⟩ := VR_p q
    exact .inl ⟨_, e1⟩
  case ifc ty u =>
    refine ⟨_, e2, fun ρ a q => ⟨?_, q⟩⟩
    simp only [VR] at q
    obtain ⟨u', e1, _⟩ := q
    exact .inr (.inl ⟨_, _, e1⟩)
  case f fn b c =>
    cases fn <;> try exact (Bool.false_ne_true e2).elim
    rename_i g
    refine ⟨_, e2, fun ρ a q => ⟨?_, q⟩⟩
    simp only [VR] at q
    obtain ⟨_, _, e1, _⟩ := q
    exact .inr (.inr ⟨_, _, _, e1⟩)
theorem opIface_ok {P : Program} {ty : TypeId} {x : Operand} {t : T} {h : H} {f : AV → R} (e : (opIface P ty x).run t h f = true) : ∃ v, f v = true ∧ Ok1 P (Instr.makeInterface ty) t x v := by
  unfold opIface at e
  split at e
  · exact (Bool.false_ne_true e).elim
  · exact (Bool.false_ne_true e).elim
  · rename_i hni hnn
    refine ⟨_, gt_run (f := fun v => f (.ifc ty v)) e, fun ρ a w q => ⟨.iface ty (a.eval x), ?_, by simp only [VR]; exact ⟨_, rfl, q⟩⟩⟩
    cases hu : P.underlying ty with
    | none => exact absurd hu hnn
    | some d =>
      cases d <;> first | exact absurd hu (hni _) | simp [Instr.makeInterface, run_underlying hu]
theorem opAssert_ok {P : Program} {x : Operand} {xt ty : TypeId} {ok : Bool} {t : T} {h : H} {f : AV → R} (e : (opAssert P x ty ok).run t h f = true) : ∃ v, f v = true ∧ Ok1 P (fun v => Instr.typeAssert v xt ty ok) t x v := by
  unfold opAssert at e
  split at e
  · exact (Bool.false_ne_true e).elim
  · rename_i hni
    have e2 := vo1_run (h := h) e
    cases hx : gv t x <;> rw [hx] at e2 <;> try exact (Bool.false_ne_true e2).elim
    case ifc tx u =>
      obtain ⟨h1, h2⟩ := gd_true (show gd (Nat.beq tx ty) (Bool.rec (f u) (f (.tu [u, .b true])) ok) = true from e2)
      have h1 : tx = ty := Nat.eq_of_beq_eq_true h1
      subst h1
      have key : ∀ v', (Instr.typeAssert (.iface tx v') xt tx ok) = (do let _ ← underlying tx; pure (if ok then .tuple #[v', .bool true] else v') : Sem Value) ∨ True := fun _ => .inr trivial
      have run : ∀ v' w, (Instr.typeAssert (.iface tx v') xt tx ok).run P w = .ok (if ok then .tuple #[v', .bool true] else v') w := by
        intro v' w
        cases hu : P.underlying tx with
        | none => simp [isIfaceD, hu] at hni
        | some d =>
          cases d <;> first | (simp [isIfaceD, hu] at hni; done) | simp [Instr.typeAssert, run_underlying hu]
      cases ok
      · refine ⟨u, h2, fun ρ a w q => ?_⟩
        rw [hx] at q
        simp only [VR] at q
        obtain ⟨v', e1, q1⟩ := q
        rw [e1]
        exact ⟨_, run v' w, q1⟩
      · refine ⟨_, h2, fun ρ a w q => ?_⟩
        rw [hx] at q
        simp only [VR] at q
        obtain ⟨v', e1, q1⟩ := q
        rw [e1]
        refine ⟨_, run v' w, ?_⟩
        simp only [VR, VRs, if_true]
        exact ⟨_, rfl, v', _, rfl, q1, _, _, rfl, rfl, rfl⟩
end
end Go.Proofs.YtbpdomemnecioaaGreatDoor.Ev
