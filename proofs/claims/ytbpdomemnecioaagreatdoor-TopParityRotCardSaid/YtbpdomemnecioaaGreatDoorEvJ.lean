/- The evaluator's operations that give a value, against the model's: maps, slicings, lengths. Own text. No condition of a claim. -/
import Derived.Test.YtbpdomemnecioaaGreatDoorEvI
import Derived.MapKept
namespace Go.Proofs.YtbpdomemnecioaaGreatDoor.Ev
open Go Go.MapKept
set_option linter.unusedVariables false
set_option linter.unusedSimpArgs false
noncomputable section

theorem VRs_ops {ρ : Ren} {t : T} {a : Act} : ∀ {l : List Operand}, (∀ x ∈ l, VR ρ (gv t x) (a.eval x)) → VRs ρ (l.map (gv t)) (l.map a.eval)
  | [], _ => by simp only [List.map_nil, VRs]
  | x :: l, h => by
    simp only [List.map_cons, VRs]
    exact ⟨_, _, rfl, h x List.mem_cons_self, VRs_ops fun y hy => h y (List.mem_cons_of_mem _ hy)⟩
theorem opFunc_ok {P : Program} {fn : Fn} {first cap : Array Operand} {t : T} {h : H} {f : AV → R} (e : (opFunc fn first cap).run t h f = true) : ∃ v, f v = true ∧
    ∀ (ρ : Ren) (a : Act) (w : World), (∀ x ∈ (first ++ cap).toList, VR ρ (gv t x) (a.eval x)) → ∃ v', (Instr.makeFunc fn (first.map a.eval) (cap.map a.eval)).run P w = .ok v' w ∧ VR ρ v v' := by
  have h1 := gts_run (show (gts first.toList).run (fun a => (gts cap.toList).run (fun c => f (.f fn a c)) t) t = true from e)
  have h2 := gts_run h1
  refine ⟨_, h2, fun ρ a w q => ⟨_, rfl, ?_⟩⟩
  simp only [VR]
  refine ⟨_, _, rfl, ?_, ?_⟩
  · rw [Array.toList_map]; exact VRs_ops fun x hx => q x (by simp [Array.mem_toList_iff.1 hx])
  · rw [Array.toList_map]; exact VRs_ops fun x hx => q x (by simp [Array.mem_toList_iff.1 hx])

/-! ### Maps -/
theorem ldM_true {h : H} {r : Nat} {f : List ME → Nat → R} (e : ldM h r f = true) : ∃ es c, h.at r = .mp es c ∧ f es c = true := by
  cases h with
  | mk ht nx =>
    obtain ⟨hb, e⟩ := acc_run (show (acc Blk 5 r).run _ ht = true from e)
    obtain ⟨es, c, hk, e⟩ := onMp_true e
    exact ⟨es, c, H.at_of hb hk, e⟩
theorem map_at {ρ : Ren} {h : H} {w : World} (a : HB ρ h w) {r : Nat} {l : Loc} (hr : ρ r = some l) {es : List ME} {c : Nat} (hk : h.at r = .mp es c) : ∃ arr : Array MapEntry, w.heap[l.B]? = some (.map arr c) ∧ MERs ρ es arr.toList := by
  obtain ⟨o, h1, h2⟩ := a r l hr (by rw [hk]; simp)
  rw [hk] at h2
  obtain ⟨arr, rfl, h3⟩ := h2
  exact ⟨arr, h1, h3⟩
theorem MERs.length {ρ : Ren} : ∀ {l : List ME} {es : List MapEntry}, MERs ρ l es → es.length = l.length
  | [], es, h => by rw [show es = [] from h]; rfl
  | x :: l, es, h => by
    obtain ⟨e, r, rfl, _, h2⟩ := h
    simp [h2.length]
/-- A key of the kind that the map's type says. -/
def KeyAt (d : TypeDesc) (k : AV) : Prop := (∃ j n, d = .int j ∧ k = .i j n) ∨ ∃ l, d = .string ∧ k = .s l
theorem KeyAt.isKey {ρ : Ren} {d : TypeDesc} {k : AV} {v : Value} (h : KeyAt d k) (q : VR ρ k v) : IsKey d v := by
  rcases h with ⟨j, n, rfl, rfl⟩ | ⟨l, rfl, rfl⟩
  · obtain ⟨_, rfl⟩ := VR_i q; trivial
  · obtain ⟨bs, rfl, _⟩ := VR_s q; trivial
theorem keyOk_true {P : Program} {ty : Nat} {k : AV} {f : AV → R} (h : (keyOk P ty).run k f = true) : ∃ kt et d, P.underlying ty = some (.map kt et) ∧ P.underlying kt = some d ∧ KeyAt d k ∧ f k = true := by
  unfold keyOk at h
  split at h
  · rename_i kt et hu
    split at h
    · rename_i j hk
      obtain ⟨i, n, rfl, h1⟩ := onI_true (show onI (fun i n => keq i j (f k)) k = true from h)
      obtain ⟨rfl, h2⟩ := keq_true h1
      exact ⟨kt, et, _, hu, hk, .inl ⟨_, _, rfl, rfl⟩, h2⟩
    · rename_i hk
      obtain ⟨l, rfl, h1⟩ := onS_true (show onS (fun _ => f k) k = true from h)
      exact ⟨kt, et, _, hu, hk, .inr ⟨_, rfl, rfl⟩, h1⟩
    · exact (Bool.false_ne_true h).elim
  · exact (Bool.false_ne_true h).elim
theorem eqK_true {d : TypeDesc} {x y : AV} {f : Bool → R} (hx : KeyAt d x) (h : eqK x y f = true) : ∃ e, f e = true ∧ ∀ ρ x' y', VR ρ x x' → VR ρ y y' → Instr.sameNow d x' y' = some e ∧ (e = true → x' = y') := by
  rcases hx with ⟨j, n, rfl, rfl⟩ | ⟨l, rfl, rfl⟩
  · cases y <;> try exact (Bool.false_ne_true h).elim
    case i k m =>
      obtain ⟨rfl, h1⟩ := keq_true (r := f (Nat.beq n m)) h
      refine ⟨_, h1, fun ρ x' y' q1 q2 => ?_⟩
      obtain ⟨hn, rfl⟩ := VR_i q1
      obtain ⟨hm, rfl⟩ := VR_i q2
      refine ⟨?_, fun e => by rw [Nat.eq_of_beq_eq_true e]⟩
      show (if j = j then some (j.wrap n == j.wrap m) else none) = _
      rw [if_pos rfl, beq_wrap hn hm]
  · obtain ⟨m, rfl, h1⟩ := onS_true (show onS (fun b => f (leq l b)) y = true from h)
    refine ⟨_, h1, fun ρ x' y' q1 q2 => ?_⟩
    obtain ⟨bs, rfl, rfl⟩ := VR_s q1
    obtain ⟨cs, rfl, rfl⟩ := VR_s q2
    refine ⟨?_, fun e => ?_⟩
    · show some (bs == cs) = _
      rw [beq_toListBytes, leq_toB]
    · rw [leq_eq, decide_eq_true_iff, toB_eq] at e
      rw [e]
theorem findM_true {d : TypeDesc} {k : AV} (hk : KeyAt d k) : ∀ {es : List ME} {no : R} {yes : AV → R}, findM k es no yes = true → ∃ ov : Option AV, (match ov with | some v => yes v = true | none => no = true) ∧
    ∀ ρ k' es' i0, VR ρ k k' → MERs ρ es es' → ∃ r, Instr.findNow d k' es' i0 = some r ∧ (match ov, r with | some v, some (_, u) => VR ρ v u | none, none => True | _, _ => False)
  | [], no, yes, h => ⟨none, h, fun ρ k' es' i0 _ q => by rw [show es' = [] from q]; exact ⟨none, rfl, trivial⟩⟩
  | .mk k2 v b :: es, no, yes, h => by
    obtain ⟨e, h1, h2⟩ := eqK_true hk (show eqK k k2 (fun b => Bool.rec (findM k es no yes) (yes v) b) = true from h)
    cases e
    · obtain ⟨ov, h3, h4⟩ := findM_true hk (show findM k es no yes = true from h1)
      refine ⟨ov, h3, fun ρ k' es' i0 q1 q2 => ?_⟩
      obtain ⟨en, r, rfl, q3, q4⟩ := q2
      obtain ⟨g1, _⟩ := h2 ρ k' en.key q1 q3.1
      obtain ⟨r2, g2, g3⟩ := h4 ρ k' r (i0 + 1) q1 q4
      exact ⟨r2, by simp [Instr.findNow, g1, g2], g3⟩
    · refine ⟨some v, h1, fun ρ k' es' i0 q1 q2 => ?_⟩
      obtain ⟨en, r, rfl, q3, q4⟩ := q2
      obtain ⟨g1, _⟩ := h2 ρ k' en.key q1 q3.1
      exact ⟨some (i0, en.val), by simp [Instr.findNow, g1], q3.2.1⟩
theorem mapKV_some {P : Program} {ty : Nat} {z : AV} (h : mapKV P ty = some z) : ∃ kt et i zv, P.underlying ty = some (.map kt et) ∧ P.info? et = some i ∧ i.zero = some zv ∧ z = ofV zv := by
  unfold mapKV at h
  split at h
  · rename_i kt et hu
    split at h
    · rename_i i hi
      cases hz : i.zero with
      | none => rw [hz] at h; cases h
      | some zv => rw [hz] at h; simp at h; exact ⟨kt, et, i, zv, hu, hi, hz, h.symm⟩
    · cases h
  · cases h
theorem VR_m {ρ : Ren} {r : Nat} {v : Value} (h : VR ρ (.m r) v) : ∃ l, ρ r = some l ∧ v = .map (some l.B) := by simpa only [VR] using h
/-- What a lookup gives: a value, or a value and whether it is there. -/
theorem VR_ok {ρ : Ren} {v : AV} {u : Value} {b ok : Bool} (h : VR ρ v u) : VR ρ (Bool.rec v (.tu [v, .b b]) ok) (if ok then .tuple #[u, .bool b] else u) := by
  cases ok
  · exact h
  · simp only [VR, VRs, if_true]
    exact ⟨_, rfl, u, _, rfl, h, _, _, rfl, rfl, rfl⟩
theorem ok_rec {f : AV → R} {v : AV} {b ok : Bool} (h : (Bool.rec (f v) (f (.tu [v, .b b])) ok : R) = true) : f (Bool.rec v (.tu [v, .b b]) ok) = true := by cases ok <;> exact h
theorem opLookup_ok {P : Program} {ty : TypeId} {x k : Operand} {ok : Bool} {t : T} {h : H} {f : AV → R} (e : (opLookup P ty x k ok).run t h f = true) : ∃ v, f v = true ∧ Oh2 P (fun m k => Instr.lookup ty m k ok) t h x k v := by
  unfold opLookup at e
  split at e
  · rename_i z hz
    obtain ⟨kt0, et, i, zv, hu0, hi, hzv, rfl⟩ := mapKV_some hz
    have e2 := gt_run (gt_run (x := x) e)
    obtain ⟨kt, et', d, hu, hkt, hka, e3⟩ := keyOk_true e2
    rw [hu0] at hu
    cases hu
    cases hx : gv t x <;> rw [hx] at e3 <;> try exact (Bool.false_ne_true e3).elim
    case m0 =>
      refine ⟨_, ok_rec e3, fun ρ a w hr q1 q2 => ?_⟩
      rw [hx] at q1
      simp only [VR] at q1
      simp only [q1]
      refine ⟨_, ?_, VR_ok (ofV_ok ρ zv)⟩
      have hck := run_checkKey (P := P) (w := w) hkt (hka.isKey q2) true 9999
      have hfk := run_findKey (P := P) (w := w) (l := []) hkt (show Instr.findNow d (a.eval k) [] 0 = some none from rfl)
      simp [Instr.lookup, run_underlying hu0, hck, hfk, zeroValue, run_info hi, hzv]
    case m r =>
      obtain ⟨es, c, hat, e4⟩ := ldM_true (show ldM h r _ = true from e3)
      obtain ⟨ov, h1, h2⟩ := findM_true hka e4
      cases ov with
      | none =>
        refine ⟨_, ok_rec h1, fun ρ a w hr q1 q2 => ?_⟩
        rw [hx] at q1
        obtain ⟨l, hl, e5⟩ := VR_m q1
        obtain ⟨arr, h3, h4⟩ := map_at hr hl hat
        obtain ⟨r2, g1, g2⟩ := h2 ρ _ _ 0 q2 h4
        cases r2 with
        | some p => exact g2.elim
        | none =>
          simp only [e5]
          refine ⟨_, ?_, VR_ok (ofV_ok ρ zv)⟩
          have hck := run_checkKey (P := P) (w := w) hkt (hka.isKey q2) arr.isEmpty 9999
          have hfk := run_findKey (P := P) (w := w) hkt g1
          simp [Instr.lookup, run_underlying hu0, getObj, Sem.run, h3, hck, hfk, zeroValue, run_info hi, hzv]
      | some v =>
        refine ⟨_, ok_rec h1, fun ρ a w hr q1 q2 => ?_⟩
        rw [hx] at q1
        obtain ⟨l, hl, e5⟩ := VR_m q1
        obtain ⟨arr, h3, h4⟩ := map_at hr hl hat
        obtain ⟨r2, g1, g2⟩ := h2 ρ _ _ 0 q2 h4
        cases r2 with
        | none => exact g2.elim
        | some p =>
          simp only [e5]
          refine ⟨_, ?_, VR_ok g2⟩
          have hck := run_checkKey (P := P) (w := w) hkt (hka.isKey q2) arr.isEmpty 9999
          have hfk := run_findKey (P := P) (w := w) hkt g1
          simp [Instr.lookup, run_underlying hu0, getObj, Sem.run, h3, hck, hfk]
  · exact (Bool.false_ne_true e).elim
theorem i64_small {ρ : Ren} {n : Nat} (h : n < 9223372036854775808) : VR ρ (.i .i64 n) (.int .i64 n) := by
  have h1 := VR_mki (ρ := ρ) (k := .i64) (n := n) (show n < 18446744073709551616 by omega)
  have h2 : IntKind.i64.wrap (n : Int) = n := by rw [IntKind.wrap_i64]; omega
  rwa [h2] at h1
end
end Go.Proofs.YtbpdomemnecioaaGreatDoor.Ev
