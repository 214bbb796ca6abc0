/- The evaluator's operations that give a value, against the model's: lengths, slicings; all of them together. Own text. No condition of a claim. -/
import Derived.Test.YtbpdomemnecioaaGreatDoorEvJ
namespace Go.Proofs.YtbpdomemnecioaaGreatDoor.Ev
open Go Go.MapKept
set_option linter.unusedVariables false
set_option linter.unusedSimpArgs false
noncomputable section

theorem li_true {f : AV → R} {n : Nat} (h : li f n = true) : n < 4611686018427387904 ∧ f (.i .i64 n) = true := by
  obtain ⟨h1, h2⟩ := gd_true h
  exact ⟨by simpa [Nat.blt_eq] using h1, h2⟩
theorem lenB_ok {P : Program} {ty rt : TypeId} {x : Operand} {t : T} {h : H} {f : AV → R} (e : (lenB P ty x).run t h f = true) : ∃ v, f v = true ∧ Oh1 P (fun v => Builtin.len_ #[ty] rt #[v]) t h x v := by
  unfold lenB at e
  split at e
  · rename_i hu
    obtain ⟨l, hx, h1⟩ := onS_true (vo1_run (h := h) e)
    obtain ⟨h2, h3⟩ := li_true h1
    refine ⟨_, h3, fun ρ a w _ q => ?_⟩
    rw [hx] at q
    obtain ⟨bs, e1, rfl⟩ := VR_s q
    refine ⟨.int .i64 (llen (toB bs) : Nat), ?_, i64_small (by omega)⟩
    simp only [e1]
    rw [← toB_size]
    simp [Builtin.len_, run_underlying hu, goInt]
  · rename_i n el hu
    obtain ⟨h2, h3⟩ := li_true (show li f n = true from vo1_run (h := h) e)
    refine ⟨_, h3, fun ρ a w _ q => ⟨.int .i64 (n : Nat), ?_, i64_small (by omega)⟩⟩
    simp [Builtin.len_, run_underlying hu, goInt]
  · rename_i el hu
    have e2 := vo1_run (h := h) e
    cases hx : gv t x <;> rw [hx] at e2 <;> try exact (Bool.false_ne_true e2).elim
    case sl0 =>
      obtain ⟨h2, h3⟩ := li_true (show li f 0 = true from e2)
      refine ⟨_, h3, fun ρ a w _ q => ⟨.int .i64 (0 : Nat), ?_, i64_small (by omega)⟩⟩
      rw [hx] at q
      simp only [VR] at q
      simp only [q]
      simp [Builtin.len_, run_underlying hu, goInt]
    case sl b o n c =>
      obtain ⟨h2, h3⟩ := li_true (show li f n = true from e2)
      refine ⟨_, h3, fun ρ a w _ q => ⟨.int .i64 (n : Nat), ?_, i64_small (by omega)⟩⟩
      rw [hx] at q
      obtain ⟨_, _, _, _, e1, _⟩ := VR_sl q
      simp only [e1]
      simp [Builtin.len_, run_underlying hu, goInt]
  · rename_i kt et hu
    have e2 := gt_run e
    cases hx : gv t x <;> rw [hx] at e2 <;> try exact (Bool.false_ne_true e2).elim
    case m0 =>
      obtain ⟨h2, h3⟩ := li_true (show li f 0 = true from e2)
      refine ⟨_, h3, fun ρ a w _ q => ⟨.int .i64 (0 : Nat), ?_, i64_small (by omega)⟩⟩
      rw [hx] at q
      simp only [VR] at q
      simp only [q]
      simp [Builtin.len_, run_underlying hu, goInt]
    case m r =>
      obtain ⟨es, c, hat, e3⟩ := ldM_true (show ldM h r (fun es _ => li f (llen es)) = true from e2)
      obtain ⟨h2, h3⟩ := li_true e3
      refine ⟨_, h3, fun ρ a w hr q => ⟨.int .i64 (llen es : Nat), ?_, i64_small (by omega)⟩⟩
      rw [hx] at q
      obtain ⟨l, hl, e1⟩ := VR_m q
      obtain ⟨arr, h4, h5⟩ := map_at hr hl hat
      have h6 : arr.size = llen es := by rw [llen_eq, ← h5.length, Array.length_toList]
      simp only [e1]
      simp [Builtin.len_, run_underlying hu, goInt, getObj, Sem.run, h4, h6]
  · exact (Bool.false_ne_true e).elim

/-! ### min, max -/
def mmV (mx : Bool) (x y : Value) : Sem Value := if mx then Builtin.max2 x y else Builtin.min2 x y
theorem mm2_true {P : Program} {mx : Bool} {x y : AV} {f : AV → R} (h : mm2 mx x y f = true) : ∃ v, f v = true ∧ Gv2 P (mmV mx) x y v := by
  rcases onII_true (show onII (fun _ => false) _ x y = true from h) with ⟨k, a, b, rfl, rfl, h'⟩ | ⟨k, hx, hy, h'⟩
  · refine ⟨_, h', fun ρ x' y' w q1 q2 => ?_⟩
    obtain ⟨ha, rfl⟩ := VR_i q1
    obtain ⟨hb, rfl⟩ := VR_i q2
    cases mx
    · have hc : Nat.blt (sx k b) (sx k a) = decide (k.wrap b < k.wrap a) := by rw [Bool.eq_iff_iff, decide_eq_true_iff, Nat.blt_eq]; exact (cmp_lt hb ha).symm
      show ∃ v', (Builtin.min2 (.int k (k.wrap a)) (.int k (k.wrap b))).run P w = .ok v' w ∧ VR ρ (.i k (Bool.rec (motive := fun _ => Nat) a b (Nat.blt (sx k b) (sx k a)))) v'
      rw [hc]
      by_cases hlt : k.wrap b < k.wrap a
      · exact ⟨_, by simp [Builtin.min2, hlt]; rfl, by rw [decide_eq_true hlt]; exact VR_mki hb⟩
      · exact ⟨_, by simp [Builtin.min2, hlt]; rfl, by rw [decide_eq_false hlt]; exact VR_mki ha⟩
    · have hc : Nat.blt (sx k a) (sx k b) = decide (k.wrap a < k.wrap b) := by rw [Bool.eq_iff_iff, decide_eq_true_iff, Nat.blt_eq]; exact (cmp_lt ha hb).symm
      show ∃ v', (Builtin.max2 (.int k (k.wrap a)) (.int k (k.wrap b))).run P w = .ok v' w ∧ VR ρ (.i k (Bool.rec (motive := fun _ => Nat) a b (Nat.blt (sx k a) (sx k b)))) v'
      rw [hc]
      by_cases hlt : k.wrap a < k.wrap b
      · exact ⟨_, by simp [Builtin.max2, hlt]; rfl, by rw [decide_eq_true hlt]; exact VR_mki hb⟩
      · exact ⟨_, by simp [Builtin.max2, hlt]; rfl, by rw [decide_eq_false hlt]; exact VR_mki ha⟩
  · exact (Bool.false_ne_true h').elim
theorem mmL_true {P : Program} {mx : Bool} : ∀ {l : List AV} {x : AV} {f : AV → R}, mmL mx l x f = true → ∃ v, f v = true ∧ ∀ (ρ : Ren) (x' : Value) (vs : List Value) (w : World), VR ρ x x' → VRs ρ l vs →
    ∃ v', (vs.foldlM (mmV mx) x').run P w = .ok v' w ∧ VR ρ v v'
  | [], x, f, h => ⟨x, h, fun ρ x' vs w q1 q2 => by simp only [VRs] at q2; subst q2; exact ⟨x', rfl, q1⟩⟩
  | y :: l, x, f, h => by
    obtain ⟨u, h1, h2⟩ := mm2_true (P := P) (show mm2 mx x y (fun v => mmL mx l v f) = true from h)
    obtain ⟨v, h3, h4⟩ := mmL_true (P := P) h1
    refine ⟨v, h3, fun ρ x' vs w q1 q2 => ?_⟩
    simp only [VRs] at q2
    obtain ⟨y', r, rfl, q3, q4⟩ := q2
    obtain ⟨u', g1, g2⟩ := h2 ρ x' y' w q1 q3
    obtain ⟨v', g3, g4⟩ := h4 ρ u' r w g2 q4
    exact ⟨v', by simp [List.foldlM_cons, g1, g3], g4⟩
theorem opMm_ok {P : Program} {mx : Bool} {args : List Operand} {at_ : Array TypeId} {rt : TypeId} {t : T} {h : H} {f : AV → R} (e : (opMm mx args).run t h f = true) : ∃ v, f v = true ∧
    ∀ (ρ : Ren) (a : Act) (w : World), (∀ x ∈ args, VR ρ (gv t x) (a.eval x)) → ∃ v', ((if mx then Builtin.max_ else Builtin.min_) at_ rt (args.map a.eval).toArray).run P w = .ok v' w ∧ VR ρ v v' := by
  cases args with
  | nil => exact (Bool.false_ne_true e).elim
  | cons x r =>
    have h1 := gts_run (gt_run (show (gt x).run (fun v => (gts r).run (fun l => mmL mx l v f) t) t = true from e))
    obtain ⟨v, h2, h3⟩ := mmL_true (P := P) h1
    refine ⟨v, h2, fun ρ a w q => ?_⟩
    obtain ⟨v', g1, g2⟩ := h3 ρ _ _ w (q x List.mem_cons_self) (VRs_ops fun y hy => q y (List.mem_cons_of_mem _ hy))
    refine ⟨v', ?_, g2⟩
    cases mx
    · have g3 : ((r.map a.eval).foldlM Builtin.min2 (a.eval x)).run P w = .ok v' w := g1
      simpa [Builtin.min_] using g3
    · have g3 : ((r.map a.eval).foldlM Builtin.max2 (a.eval x)).run P w = .ok v' w := g1
      simpa [Builtin.max_] using g3

/-! ### Slicings -/
/-- A bound: none, or a number. -/
def BndV (x : Option Value) (dv n : Nat) : Prop := (x = none ∧ n = dv) ∨ ∃ k : IntKind, x = some (.int k (n : Int))
theorem bnd_true {x : Option Operand} {dv : Nat} {t : T} {f : Nat → R} (h : bnd x dv t f = true) : ∃ n, f n = true ∧ ∀ (ρ : Ren) (a : Act), (∀ y ∈ x.toList, VR ρ (gv t y) (a.eval y)) → BndV (x.map a.eval) dv n := by
  cases x with
  | none => exact ⟨dv, h, fun ρ a _ => .inl ⟨rfl, rfl⟩⟩
  | some y =>
    obtain ⟨k, n, hy, h1⟩ := onI_true (gt_run (show (gt y).run (onI (fun k a => gd (Nat.ble (hf k) (sx k a)) (f a))) t = true from h))
    obtain ⟨h2, h3⟩ := gd_true h1
    refine ⟨n, h3, fun ρ a q => .inr ⟨k, ?_⟩⟩
    have q := q y (by simp)
    rw [hy] at q
    obtain ⟨hn, e1⟩ := VR_i q
    rw [Option.map_some, e1, wrap_nn hn (Nat.le_of_ble_eq_true h2)]
theorem run_sb {P : Program} {w : World} (k : IntKind) {i y : Nat} (code : BoundsCode) (h : i ≤ y) : (Instr.sliceBound (.int k (i : Int)) y code).run P w = .ok i w := by
  rw [run_sliceBound w k _ y code (by omega) (by omega), Int.toNat_natCast]
theorem run_bounds {P : Program} {w : World} {sl : Bool} {n c l h m : Nat} {lo hi mx : Option Value} (h1 : BndV lo 0 l) (h2 : BndV hi n h) (h3 : BndV mx c m) (hx : mx.isSome = true → hi.isSome = true)
    (hl : l ≤ h) (hh : h ≤ m) (hm : m ≤ c) : (Instr.sliceBounds sl n c lo hi mx).run P w = .ok (l, h, m) w := by
  have hc : h ≤ c := Nat.le_trans hh hm
  rcases h3 with ⟨rfl, e3⟩ | ⟨km, rfl⟩
  · rcases h2 with ⟨rfl, e2⟩ | ⟨kh, rfl⟩ <;> rcases h1 with ⟨rfl, e1⟩ | ⟨kl, rfl⟩
    · subst e1; subst e2; subst e3; simp [Instr.sliceBounds]
    · subst e2; subst e3; simp [Instr.sliceBounds, run_sb kl _ hl]
    · subst e1; subst e3; simp [Instr.sliceBounds, run_sb kh _ hc]
    · subst e3; simp [Instr.sliceBounds, run_sb kh _ hc, run_sb kl _ hl]
  · rcases h2 with ⟨rfl, e2⟩ | ⟨kh, rfl⟩
    · cases hx rfl
    · rcases h1 with ⟨rfl, e1⟩ | ⟨kl, rfl⟩
      · subst e1; simp [Instr.sliceBounds, run_sb kh _ hh, run_sb km _ hm]
      · simp [Instr.sliceBounds, run_sb kh _ hh, run_sb km _ hm, run_sb kl _ hl]
theorem drp_eq : ∀ (n : Nat) (l : List Nat), drp n l = l.drop n
  | 0, l => rfl
  | n + 1, [] => rfl
  | n + 1, x :: l => by show drp n l = _; rw [drp_eq n l]; rfl
theorem tke_eq : ∀ (n : Nat) (l : List Nat), tke n l = l.take n
  | 0, l => by show ([] : List Nat) = l.take 0; simp
  | n + 1, [] => rfl
  | n + 1, x :: l => by show x :: tke n l = _; rw [tke_eq n l]; rfl
/-- A slicing, its bounds being operands. -/
def OkS (P : Program) (ty : TypeId) (t : T) (x : Operand) (lo hi mx : Option Operand) (v : AV) : Prop :=
  ∀ (ρ : Ren) (a : Act) (w : World), VR ρ (gv t x) (a.eval x) → (∀ y ∈ lo.toList, VR ρ (gv t y) (a.eval y)) → (∀ y ∈ hi.toList, VR ρ (gv t y) (a.eval y)) → (∀ y ∈ mx.toList, VR ρ (gv t y) (a.eval y)) →
    ∃ v', (Instr.sliceAt ty (a.eval x) (lo.map a.eval) (hi.map a.eval) (mx.map a.eval)).run P w = .ok v' w ∧ VR ρ v v'
theorem slX_true {sz b o n c : Nat} {lo hi mx : Option Operand} {t : T} {f : AV → R} (h : slX sz b o n c lo hi mx t f = true) : ∃ l e m, f (.sl b (o + l * sz) (e - l) (m - l)) = true ∧ m ≤ c ∧ e ≤ m ∧ l ≤ e ∧
    ∀ (ρ : Ren) (a : Act), (∀ y ∈ lo.toList, VR ρ (gv t y) (a.eval y)) → (∀ y ∈ hi.toList, VR ρ (gv t y) (a.eval y)) → (∀ y ∈ mx.toList, VR ρ (gv t y) (a.eval y)) →
      BndV (lo.map a.eval) 0 l ∧ BndV (hi.map a.eval) n e ∧ BndV (mx.map a.eval) c m := by
  obtain ⟨l, h1, k1⟩ := bnd_true h
  obtain ⟨e, h2, k2⟩ := bnd_true h1
  obtain ⟨m, h3, k3⟩ := bnd_true h2
  obtain ⟨g1, h4⟩ := gd_true h3
  obtain ⟨g2, h5⟩ := gd_true h4
  obtain ⟨g3, h6⟩ := gd_true h5
  exact ⟨l, e, m, h6, Nat.le_of_ble_eq_true g1, Nat.le_of_ble_eq_true g2, Nat.le_of_ble_eq_true g3, fun ρ a q1 q2 q3 => ⟨k1 ρ a q1, k2 ρ a q2, k3 ρ a q3⟩⟩
theorem opSlice_ok {P : Program} {ty : TypeId} {x : Operand} {lo hi mx : Option Operand} {t : T} {h : H} {f : AV → R} (e : (opSlice P ty x lo hi mx).run t h f = true) : ∃ v, f v = true ∧ OkS P ty t x lo hi mx v := by
  unfold opSlice at e
  split at e
  · exact (Bool.false_ne_true e).elim
  · rename_i hmh
    have hmh : mx.isSome = true → hi.isSome = true := by
      cases mx <;> cases hi <;> simp at hmh ⊢
    split at e
    · rename_i hu
      split at e
      · rename_i hn
        have hn : mx = none := by cases mx <;> simp at hn ⊢
        subst hn
        obtain ⟨s, hx, h1⟩ := onS_true (gt_run e)
        obtain ⟨l, h2, k1⟩ := bnd_true (show bnd lo 0 t (fun a => bnd hi (llen s) t (fun c => gd (Nat.ble c (llen s)) (gd (Nat.ble a c) (fc (fun q => f (.s (tke q (drp a s)))) (Nat.sub c a))))) = true from h1)
        obtain ⟨m, h3, k2⟩ := bnd_true h2
        obtain ⟨g1, h4⟩ := gd_true h3
        obtain ⟨g2, h5⟩ := gd_true h4
        refine ⟨_, h5, fun ρ a w q q1 q2 _ => ?_⟩
        rw [hx] at q
        obtain ⟨bs, e1, rfl⟩ := VR_s q
        have g1 := Nat.le_of_ble_eq_true g1
        have g2 := Nat.le_of_ble_eq_true g2
        rw [← toB_size] at g1
        have hb := run_bounds (P := P) (w := w) (sl := false) (n := bs.size) (c := bs.size) (mx := none) (k1 ρ a q1) (by rw [toB_size]; exact k2 ρ a q2) (.inl ⟨rfl, rfl⟩) (by simp) g2 g1 (Nat.le_refl _)
        refine ⟨.string (bs.extract l m), ?_, ?_⟩
        · rw [e1]; simp [Instr.sliceAt, Instr.slice, run_underlying hu, hb]
        · simp only [VR]
          refine ⟨_, rfl, ?_⟩
          show (bs.extract l m).data.toList.map UInt8.toNat = tke (m - l) (drp l (bs.data.toList.map UInt8.toNat))
          rw [ByteArray.data_extract, Array.toList_extract, tke_eq, drp_eq]
          simp [List.map_take, List.map_drop]
      · exact (Bool.false_ne_true e).elim
    · rename_i el hu
      split at e
      · rename_i sz hs
        have e2 := gt_run e
        cases hx : gv t x <;> rw [hx] at e2 <;> try exact (Bool.false_ne_true e2).elim
        case sl0 =>
          cases mx with
          | some y => exact (Bool.false_ne_true e2).elim
          | none =>
            obtain ⟨l, h2, k1⟩ := bnd_true (show bnd lo 0 t (fun a => bnd hi 0 t (fun e => gd (Nat.ble e 0) (gd (Nat.ble a e) (f .sl0)))) = true from e2)
            obtain ⟨m, h3, k2⟩ := bnd_true h2
            obtain ⟨g1, h4⟩ := gd_true h3
            obtain ⟨g2, h5⟩ := gd_true h4
            refine ⟨_, h5, fun ρ a w q q1 q2 _ => ?_⟩
            rw [hx] at q
            simp only [VR] at q
            have g1 := Nat.le_of_ble_eq_true g1
            have g2 := Nat.le_of_ble_eq_true g2
            have hb := run_bounds (P := P) (w := w) (sl := true) (n := 0) (c := 0) (mx := none) (k1 ρ a q1) (k2 ρ a q2) (.inl ⟨rfl, rfl⟩) (by simp) g2 g1 (Nat.le_refl _)
            refine ⟨.slice none 0 0, ?_, by simp only [VR]⟩
            rw [q]
            simp [Instr.sliceAt, Instr.slice, run_underlying hu, hb, run_size hs]
            omega
        case sl b o n c =>
          obtain ⟨l, e', m, h1, g1, g2, g3, k⟩ := slX_true (show slX sz b o n c lo hi mx t f = true from e2)
          refine ⟨_, h1, fun ρ a w q q1 q2 q3 => ?_⟩
          rw [hx] at q
          obtain ⟨lc, ad, c', hb, e1, hnc, hc, had⟩ := VR_sl q
          obtain ⟨b1, b2, b3⟩ := k ρ a q1 q2 q3
          have hcc : c ≤ c' := by omega
          -- the room that the model knows
          obtain ⟨m', hm', hb3, hle⟩ : ∃ m', (m' - l = m - l ∨ m' - l = m - l + lc.X) ∧ BndV (mx.map a.eval) c' m' ∧ m ≤ m' ∧ m' ≤ c' := by
            rcases b3 with ⟨e3, e4⟩ | ⟨km, e3⟩
            · exact ⟨c', by omega, .inl ⟨e3, rfl⟩, by omega, Nat.le_refl _⟩
            · exact ⟨m, .inl rfl, .inr ⟨km, e3⟩, Nat.le_refl _, by omega⟩
          have hbd := run_bounds (P := P) (w := w) (sl := true) b1 b2 hb3 (by simpa using hmh) g3 (by omega) hle.2
          refine ⟨.slice (some (if m' = l then ad else ad.add (l * sz))) (e' - l) (m' - l), ?_, ?_⟩
          · rw [e1]
            simp [Instr.sliceAt, Instr.slice, run_underlying hu, hbd, run_size hs]
            split <;> rfl
          · simp only [VR]
            refine ⟨lc, _, _, hb, rfl, by omega, hm', ?_⟩
            by_cases hml : m' = l
            · exact .inr (by omega)
            · refine .inl ?_
              rw [if_neg hml]
              have had : ad = ⟨lc.B, lc.O + o, none⟩ := had.resolve_right (by omega)
              rw [had, Addr.add_lit, Nat.add_assoc]
      · exact (Bool.false_ne_true e).elim
    · rename_i n el hu
      split at e
      · rename_i sz hs
        obtain ⟨b, o, hx, h0⟩ := onP_true (gt_run e)
        obtain ⟨l, e', m, h1, g1, g2, g3, k⟩ := slX_true h0
        refine ⟨_, h1, fun ρ a w q q1 q2 q3 => ?_⟩
        rw [hx] at q
        obtain ⟨lc, hb, e1⟩ := VR_p q
        obtain ⟨b1, b2, b3⟩ := k ρ a q1 q2 q3
        have hbd := run_bounds (P := P) (w := w) (sl := false) b1 b2 b3 (by simpa using hmh) g3 g2 g1
        refine ⟨.slice (some (if m = l then ⟨lc.B, lc.O + o, none⟩ else (⟨lc.B, lc.O + o, none⟩ : Addr).add (l * sz))) (e' - l) (m - l), ?_, ?_⟩
        · rw [e1]
          simp [Instr.sliceAt, Instr.sureAddr, run_underlying hu, hbd, run_size hs]
        · simp only [VR]
          refine ⟨lc, _, _, hb, rfl, by omega, .inl rfl, ?_⟩
          by_cases hml : m = l
          · exact .inr (by omega)
          · refine .inl ?_
            rw [if_neg hml, Addr.add_lit, Nat.add_assoc]
      · exact (Bool.false_ne_true e).elim
    · exact (Bool.false_ne_true e).elim

/-! ### All operations that give a value -/
def isRd (o : Oper) : Bool :=
  match o.op with
  | .load _ _ | .lookup _ _ _ _ | .convert _ _ _ => true
  | .call c =>
    match c.callee with
    | .builtin .len => true
    | _ => false
  | _ => false
/-- The operation gives v (with the heap h, if it reads it). -/
def Sv (P : Program) (o : Oper) (t : T) (h : H) (v : AV) : Prop :=
  ∀ (ρ : Ren) (a : Act) (w : World), (isRd o = true → HB ρ h w) → (∀ x ∈ o.op.operands, VR ρ (gv t x) (a.eval x)) → ∃ v', (execOp a.eval o).run P w = .ok (.value v') w ∧ VR ρ v v'
theorem run_val {P : Program} {s : Sem Value} {w w' : World} {v : Value} (h : s.run P w = .ok v w') : (do pure (.value (← s)) : Sem Next).run P w = .ok (.value v) w' := by simp [h]
theorem nil_ops {x : Operand} {l : Array Operand} (h : l = #[x]) {p : Operand → Prop} (hp : ∀ y ∈ l, p y) : p x := hp x (by rw [h]; simp)
theorem vop_ok {P : Program} {o : Oper} {g : Vo} (hv : vop P o = some g) {t : T} {h : H} {f : AV → R} (e : g.run t h f = true) : ∃ v, f v = true ∧ Sv P o t h v := by
  obtain ⟨dst, op, type, pos, after, guard⟩ := o
  unfold vop at hv
  cases op <;> simp only [reduceCtorEq] at hv <;> try (cases hv; done)
  case move x =>
    cases hv
    exact ⟨_, gt_run e, fun ρ a w _ q => ⟨a.eval x, rfl, q x (by simp [Op.operands])⟩⟩
  case pick c x y =>
    cases hv
    obtain ⟨b, hc, h1⟩ := onB_true (gt_run e)
    cases b
    · refine ⟨_, gt_run h1, fun ρ a w _ q => ⟨a.eval y, ?_, q y (by simp [Op.operands])⟩⟩
      have q1 := q c (by simp [Op.operands])
      rw [hc] at q1
      simp only [VR] at q1
      simp [execOp, q1, asBool]
    · refine ⟨_, gt_run h1, fun ρ a w _ q => ⟨a.eval x, ?_, q x (by simp [Op.operands])⟩⟩
      have q1 := q c (by simp [Op.operands])
      rw [hc] at q1
      simp only [VR] at q1
      simp [execOp, q1, asBool]
  case build ty ps =>
    cases hv
    obtain ⟨v, h1, h2⟩ := opBuild_ok (P := P) e
    refine ⟨v, h1, fun ρ a w _ q => ?_⟩
    obtain ⟨v', g1, g2⟩ := h2 ρ a w (fun p hp => q p.2 (by simp [Op.operands]; exact ⟨p.1, by simpa using hp⟩))
    exact ⟨v', run_val g1, g2⟩
  case load ty x =>
    cases hv
    obtain ⟨v, h1, h2⟩ := opLoad_ok (P := P) e
    refine ⟨v, h1, fun ρ a w hr q => ?_⟩
    obtain ⟨v', g1, g2⟩ := h2 ρ a w (hr rfl) (q x (by simp [Op.operands]))
    exact ⟨v', run_val g1, g2⟩
  case nilCheck x =>
    cases hv
    obtain ⟨v, h1, h2⟩ := opNilCheck_ok (P := P) e
    refine ⟨v, h1, fun ρ a w _ q => ?_⟩
    obtain ⟨hk, g2⟩ := h2 ρ a (q x (by simp [Op.operands]))
    refine ⟨a.eval x, ?_, g2⟩
    rcases hk with ⟨ad, e1⟩ | ⟨ty, u, e1⟩ | ⟨g, b, c, e1⟩ <;> simp [execOp, e1]
  case binOp op ty x y yt =>
    cases hv
    obtain ⟨v, h1, h2⟩ := opBin_ok (P := P) e
    refine ⟨v, h1, fun ρ a w _ q => ?_⟩
    obtain ⟨v', g1, g2⟩ := h2 ρ a w (q x (by simp [Op.operands])) (q y (by simp [Op.operands]))
    exact ⟨v', run_val g1, g2⟩
  case unOp op ty x =>
    cases hv
    obtain ⟨v, h1, h2⟩ := opUn_ok (P := P) e
    refine ⟨v, h1, fun ρ a w _ q => ?_⟩
    obtain ⟨v', g1, g2⟩ := h2 ρ a w (q x (by simp [Op.operands]))
    exact ⟨v', run_val g1, g2⟩
  case convert a b x =>
    split at hv
    · cases hv
    · cases hv
      obtain ⟨v, h1, h2⟩ := opConv_ok (P := P) e
      refine ⟨v, h1, fun ρ a w hr q => ?_⟩
      obtain ⟨v', g1, g2⟩ := h2 ρ a w (hr rfl) (q x (by simp [Op.operands]))
      exact ⟨v', run_val g1, g2⟩
  case makeInterface ty x =>
    cases hv
    obtain ⟨v, h1, h2⟩ := opIface_ok (P := P) e
    refine ⟨v, h1, fun ρ a w _ q => ?_⟩
    obtain ⟨v', g1, g2⟩ := h2 ρ a w (q x (by simp [Op.operands]))
    exact ⟨v', run_val g1, g2⟩
  case makeFunc fn x y =>
    cases hv
    obtain ⟨v, h1, h2⟩ := opFunc_ok (P := P) e
    refine ⟨v, h1, fun ρ a w _ q => ?_⟩
    obtain ⟨v', g1, g2⟩ := h2 ρ a w (fun z hz => q z (by simpa [Op.operands] using hz))
    exact ⟨v', run_val g1, g2⟩
  case slice ty x lo hi mx =>
    cases hv
    obtain ⟨v, h1, h2⟩ := opSlice_ok (P := P) e
    refine ⟨v, h1, fun ρ a w _ q => ?_⟩
    obtain ⟨v', g1, g2⟩ := h2 ρ a w (q x (by simp [Op.operands])) (fun y hy => q y (by simp [Op.operands]; simp at hy; simp [hy])) (fun y hy => q y (by simp [Op.operands]; simp at hy; simp [hy])) (fun y hy => q y (by simp [Op.operands]; simp at hy; simp [hy]))
    exact ⟨v', run_val g1, g2⟩
  case fieldAddr ty x i =>
    cases hv
    obtain ⟨v, h1, h2⟩ := opFieldAddr_ok (P := P) e
    refine ⟨v, h1, fun ρ a w _ q => ?_⟩
    obtain ⟨v', g1, g2⟩ := h2 ρ a w (q x (by simp [Op.operands]))
    exact ⟨v', run_val g1, g2⟩
  case field ty x i =>
    cases hv
    obtain ⟨v, h1, h2⟩ := opField_ok (P := P) e
    refine ⟨v, h1, fun ρ a w _ q => ?_⟩
    obtain ⟨v', g1, g2⟩ := h2 ρ a w (q x (by simp [Op.operands]))
    exact ⟨v', run_val g1, g2⟩
  case indexAddr ty x i =>
    cases hv
    obtain ⟨v, h1, h2⟩ := opIndexAddr_ok (P := P) e
    refine ⟨v, h1, fun ρ a w _ q => ?_⟩
    obtain ⟨v', g1, g2⟩ := h2 ρ a w (q x (by simp [Op.operands])) (q i (by simp [Op.operands]))
    exact ⟨v', run_val g1, g2⟩
  case index ty x i =>
    cases hv
    obtain ⟨v, h1, h2⟩ := opIndex_ok (P := P) e
    refine ⟨v, h1, fun ρ a w _ q => ?_⟩
    obtain ⟨v', g1, g2⟩ := h2 ρ a w (q x (by simp [Op.operands])) (q i (by simp [Op.operands]))
    exact ⟨v', run_val g1, g2⟩
  case lookup ty x k ok =>
    cases hv
    obtain ⟨v, h1, h2⟩ := opLookup_ok (P := P) e
    refine ⟨v, h1, fun ρ a w hr q => ?_⟩
    obtain ⟨v', g1, g2⟩ := h2 ρ a w (hr rfl) (q x (by simp [Op.operands])) (q k (by simp [Op.operands]))
    exact ⟨v', run_val g1, g2⟩
  case typeAssert x xt ty ok =>
    cases hv
    obtain ⟨v, h1, h2⟩ := opAssert_ok (P := P) (xt := xt) e
    refine ⟨v, h1, fun ρ a w _ q => ?_⟩
    obtain ⟨v', g1, g2⟩ := h2 ρ a w (q x (by simp [Op.operands]))
    exact ⟨v', run_val g1, g2⟩
  case extract x i =>
    cases hv
    obtain ⟨v, h1, h2⟩ := extract_ok (P := P) e
    refine ⟨v, h1, fun ρ a w _ q => ?_⟩
    obtain ⟨v', g1, g2⟩ := h2 ρ a w (q x (by simp [Op.operands]))
    exact ⟨v', run_val g1, g2⟩
  case call c =>
    obtain ⟨callee, args, at_⟩ := c
    cases callee <;> simp only [reduceCtorEq] at hv <;> try (cases hv; done)
    case builtin b =>
      cases b <;> simp only [reduceCtorEq] at hv <;> try (cases hv; done)
      case len =>
        split at hv
        · rename_i x ty h1 h2
          cases hv
          obtain ⟨v, h3, h4⟩ := lenB_ok (P := P) (rt := type) e
          refine ⟨v, h3, fun ρ a w hr q => ?_⟩
          have hargs : args = #[x] := by cases args; simp at h1; simp [h1]
          obtain ⟨v', g1, g2⟩ := h4 ρ a w (hr rfl) (q x (by simp [Op.operands, Call.operands, hargs]))
          refine ⟨v', ?_, g2⟩
          have g3 : Builtin.len_ at_ type #[a.eval x] = Builtin.len_ #[ty] type #[a.eval x] := by
            unfold Builtin.len_
            rw [h2]; rfl
          simp only at g1
          rw [← g3] at g1
          simp [execOp, resolve, invoke, builtin, hargs, g1]
        · cases hv; exact (Bool.false_ne_true e).elim
      case min =>
        cases hv
        obtain ⟨v, h3, h4⟩ := opMm_ok (P := P) (at_ := at_) (rt := type) e
        refine ⟨v, h3, fun ρ a w _ q => ?_⟩
        obtain ⟨v', g1, g2⟩ := h4 ρ a w (fun y hy => q y (show y ∈ (#[] ++ args : Array Operand) by simpa using hy))
        refine ⟨v', ?_, g2⟩
        have g3 : (Builtin.min_ at_ type (args.map a.eval)).run P w = .ok v' w := by
          have e0 : (List.map a.eval args.toList).toArray = args.map a.eval := by rw [← Array.toList_map]
          rw [← e0]; exact g1
        simp [execOp, resolve, invoke, builtin, g3]
      case max =>
        cases hv
        obtain ⟨v, h3, h4⟩ := opMm_ok (P := P) (at_ := at_) (rt := type) e
        refine ⟨v, h3, fun ρ a w _ q => ?_⟩
        obtain ⟨v', g1, g2⟩ := h4 ρ a w (fun y hy => q y (show y ∈ (#[] ++ args : Array Operand) by simpa using hy))
        refine ⟨v', ?_, g2⟩
        have g3 : (Builtin.max_ at_ type (args.map a.eval)).run P w = .ok v' w := by
          have e0 : (List.map a.eval args.toList).toArray = args.map a.eval := by rw [← Array.toList_map]
          rw [← e0]; exact g1
        simp [execOp, resolve, invoke, builtin, g3]
end
end Go.Proofs.YtbpdomemnecioaaGreatDoor.Ev
