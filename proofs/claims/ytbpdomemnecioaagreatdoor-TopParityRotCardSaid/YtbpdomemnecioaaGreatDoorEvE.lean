/- The evaluator's operations that give a value, against the model's: binary, unary, conversions. Own text. No condition of a claim. -/
import Derived.Test.YtbpdomemnecioaaGreatDoorEvD
import Derived.Laws.StructEq
import Derived.Laws.Entries
namespace Go.Proofs.YtbpdomemnecioaaGreatDoor.Ev
open Go
set_option linter.unusedVariables false
set_option linter.unusedSimpArgs false
noncomputable section

/-- The value of an operand. -/
def gv (t : T) : Operand → AV
  | .tmp n => if n < 8 ^ 3 then get 3 n t else .un
  | .const v => ofV v
  | .global _ => .un
  | .func g => .f (.func g) [] []
theorem gt_run {x : Operand} {f : AV → R} {t : T} (h : (gt x).run f t = true) : f (gv t x) = true := by
  cases x with
  | tmp n =>
    obtain ⟨h1, h2⟩ := acc_run (show (acc AV 3 n).run f t = true from h)
    show f (if n < 8 ^ 3 then get 3 n t else .un) = true
    rw [if_pos h1]; exact h2
  | const v => exact h
  | global g => exact (Bool.false_ne_true h).elim
  | func g => exact h
theorem gts_run {l : List Operand} {f : List AV → R} {t : T} (h : (gts l).run f t = true) : f (l.map (gv t)) = true := by
  induction l generalizing f with
  | nil => exact h
  | cons x l ih =>
    have h1 := gt_run (show (gt x).run (fun v => (gts l).run (fun vs => f (v :: vs)) t) t = true from h)
    exact ih h1
theorem vo1_run {x : Operand} {g : V1} {t : T} {h : H} {f : AV → R} (e : (vo1 x g).run t h f = true) : g.run (gv t x) f = true := gt_run e
theorem vo2_run {x y : Operand} {g : V2} {t : T} {h : H} {f : AV → R} (e : (vo2 x y g).run t h f = true) : g.run (gv t x) (gv t y) f = true := gt_run (gt_run (x := x) e)

theorem ofV0_ok (ρ : Ren) (v : Value) : VR ρ (ofV0 v) v := by
  unfold ofV0
  split <;> try simp only [VR]
  · rename_i k n
    split
    · rename_i hw
      have hp := md_pos k
      have h1 : 0 ≤ n % (md k : Int) := Int.emod_nonneg _ (by omega)
      have h2 : n % (md k : Int) < md k := Int.emod_lt_of_pos _ (by omega)
      have h3 : k.wrap ((n % (md k : Int)).toNat : Int) = n := by
        rw [Int.toNat_of_nonneg h1]
        exact (wrap_congr (by simp)).trans hw
      have := VR_mki (ρ := ρ) (k := k) (n := (n % (md k : Int)).toNat) (by omega)
      rwa [h3] at this
    · simp only [VR]
  · exact ⟨_, rfl, rfl⟩
theorem VRs_map0 (ρ : Ren) : ∀ l : List Value, VRs ρ (l.map ofV0) l
  | [] => by simp only [List.map_nil, VRs]
  | v :: l => by simp only [List.map_cons, VRs]; exact ⟨v, l, rfl, ofV0_ok ρ v, VRs_map0 ρ l⟩
theorem ofV_ok (ρ : Ren) (v : Value) : VR ρ (ofV v) v := by
  unfold ofV
  split
  · simp only [VR]; exact ⟨_, rfl, VRs_map0 ρ _⟩
  · exact ofV0_ok ρ _

/-- A program's operation with two operands. -/
def Ok2 (P : Program) (s : Value → Value → Sem Value) (t : T) (x y : Operand) (v : AV) : Prop :=
  ∀ (ρ : Ren) (a : Act) (w : World), VR ρ (gv t x) (a.eval x) → VR ρ (gv t y) (a.eval y) → ∃ v', (s (a.eval x) (a.eval y)).run P w = .ok v' w ∧ VR ρ v v'
theorem Gv2.ok {P : Program} {s : Value → Value → Sem Value} {t : T} {x y : Operand} {v : AV} (h : Gv2 P s (gv t x) (gv t y) v) : Ok2 P s t x y v := fun ρ a w h1 h2 => h ρ _ _ w h1 h2

/-! ### Lists of numbers and strings -/
theorem toB_eq {a b : ByteArray} : toB a = toB b ↔ a = b := by
  constructor
  · intro h
    have h1 : a.data.toList = b.data.toList := by
      have : ∀ l m : List UInt8, l.map UInt8.toNat = m.map UInt8.toNat → l = m := by
        intro l
        induction l with
        | nil => intro m hm; cases m <;> simp at hm ⊢
        | cons x l ih =>
          intro m hm
          cases m with
          | nil => simp at hm
          | cons y m =>
            simp at hm
            rw [UInt8.toNat_inj.1 hm.1, ih m hm.2]
      exact this _ _ h
    have h2 : a.data = b.data := Array.toList_inj.1 h1
    cases a; cases b; simp at h2; rw [h2]
  · rintro rfl; rfl
theorem leq_eq : ∀ (l m : List Nat), leq l m = decide (l = m)
  | [], [] => rfl
  | [], y :: m => by simp [leq]
  | x :: l, [] => by simp [leq]
  | x :: l, y :: m => by
    show (Bool.rec false (leq l m) (Nat.beq x y) : Bool) = _
    rw [leq_eq l m]
    by_cases h : x = y
    · subst h; simp
    · have : Nat.beq x y = false := by cases hb : Nat.beq x y with | false => rfl | true => exact absurd (Nat.eq_of_beq_eq_true hb) h
      rw [this]; simp [h]
theorem lless_eq : ∀ (l m : List UInt8), lless (l.map UInt8.toNat) (m.map UInt8.toNat) = Op.bytesLess l m
  | l, [] => by cases l <;> rfl
  | [], y :: m => rfl
  | x :: l, y :: m => by
    show (Bool.rec (Bool.rec false (lless (l.map UInt8.toNat) (m.map UInt8.toNat)) (Nat.beq x.toNat y.toNat)) true (Nat.blt x.toNat y.toNat) : Bool) = (x < y || (x == y && Op.bytesLess l m))
    rw [lless_eq l m]
    have h1 : Nat.blt x.toNat y.toNat = decide (x < y) := by
      rw [Bool.eq_iff_iff, Nat.blt_eq, decide_eq_true_iff]; exact UInt8.lt_iff_toNat_lt.symm
    have h2 : Nat.beq x.toNat y.toNat = (x == y) := by
      rw [Bool.eq_iff_iff, beq_iff_eq, ← UInt8.toNat_inj]; exact ⟨Nat.eq_of_beq_eq_true, fun h => by rw [h]; exact Nat.beq_refl _⟩
    rw [h1, h2]
    cases decide (x < y) <;> cases (x == y) <;> simp
theorem toB_toList (a : ByteArray) : toB a = a.toList.map UInt8.toNat := by rw [ByteArray.toList_eq]; rfl
theorem toB_size (a : ByteArray) : a.size = llen (toB a) := by rw [llen_eq]; show a.data.size = (a.data.toList.map UInt8.toNat).length; rw [List.length_map, Array.length_toList]
theorem toB_app (a b : ByteArray) : toB (a ++ b) = lapp (toB a) (toB b) := by rw [lapp_eq]; show (a ++ b).data.toList.map UInt8.toNat = a.data.toList.map UInt8.toNat ++ b.data.toList.map UInt8.toNat; rw [ByteArray.data_append, Array.toList_append, List.map_append]
theorem nt_eq (x : Bool) : nt x = !x := by cases x <;> rfl
theorem xneg_eq (n x : Bool) : xneg n x = (n ^^ x) := by cases n <;> cases x <;> rfl

/-! ### Binary operations -/
/-- The whole of a binary operation. -/
def bin (op : BinOp) (ty : TypeId) (x y : Operand) (a b : Value) : Sem Value := do eqGuard op ty x y a b; binOp op ty a b
theorem bin_plain {op : BinOp} (h1 : op ≠ .eql) (h2 : op ≠ .neq) (ty : TypeId) (x y : Operand) (a b : Value) : bin op ty x y a b = binOp op ty a b := by
  cases op <;> first | exact absurd rfl h1 | exact absurd rfl h2 | rfl
theorem isStr_true {P : Program} {ty : TypeId} (h : isStr P ty = true) : P.underlying ty = some .string := by
  unfold isStr at h; split at h <;> first | assumption | cases h
theorem VR_s {ρ : Ren} {l : List Nat} {v : Value} (h : VR ρ (.s l) v) : ∃ bs, v = .string bs ∧ toB bs = l := by simpa only [VR] using h
theorem VR_mkb {ρ : Ren} {b : Bool} : VR ρ (.b b) (.bool b) := by simp only [VR]
theorem strAdd_ok {P : Program} {ty : TypeId} {x y : AV} {f : AV → R} (h : strAdd.run x y f = true) : ∃ v, f v = true ∧ Gv2 P (binOp .add ty) x y v := by
  obtain ⟨l, rfl, h⟩ := onS_true (show onS (fun l => onS (fun m => gd (Nat.blt (Nat.add (llen l) (llen m)) 4611686018427387904) (f (.s (lapp l m)))) y) x = true from h)
  obtain ⟨m, rfl, h⟩ := onS_true h
  obtain ⟨h1, h⟩ := gd_true h
  refine ⟨_, h, fun ρ x' y' w q1 q2 => ?_⟩
  obtain ⟨bs, rfl, rfl⟩ := VR_s q1
  obtain ⟨cs, rfl, rfl⟩ := VR_s q2
  refine ⟨.string (bs ++ cs), ?_, by simp only [VR]; exact ⟨_, rfl, toB_app bs cs⟩⟩
  have h2 : llen (toB bs) + llen (toB cs) < 4611686018427387904 := by simpa [Nat.blt_eq] using h1
  rw [← toB_size, ← toB_size] at h2
  rw [binOp_string_add]
  simp only [Op.stringOp]
  rw [if_neg]
  · rfl
  · have e : IntKind.i64.max = 9223372036854775807 := by decide
    rw [e]; omega
theorem arith_bits {P : Program} {op : BinOp} {ty : TypeId} {g : Nat → Nat → Nat} (f : (k : IntKind) → BitVec k.bits → BitVec k.bits → BitVec k.bits)
    (hop : ∀ k x y, binOp op ty (.int k x) (.int k y) = (pure (.int k (k.wrap (f k (BitVec.ofInt k.bits x) (BitVec.ofInt k.bits y)).toNat)) : Sem Value)) :
    ∀ k (y z : Int) (w : World), ∃ q : Int, (binOp op ty (.int k (k.wrap y)) (.int k (k.wrap z))).run P w = .ok (.int k (k.wrap q)) w :=
  fun k y z w => ⟨_, by rw [hop]; rfl⟩
theorem binOp_int (op : BinOp) (ty : TypeId) (k : IntKind) (x y : Int) (h1 : op ≠ .shl) (h2 : op ≠ .shr) : binOp op ty (.int k x) (.int k y) =
    (match op with
    | .add | .sub | .mul => Op.intArith op k x y
    | .quo | .rem => Op.intDiv op k x y
    | .and | .or | .xor | .andNot => Op.intBits op k x y
    | _ => Op.intCmp op x y) := by
  cases op <;> first | exact absurd rfl h1 | exact absurd rfl h2 | simp [binOp]
theorem cmp_lt {k : IntKind} {a b : Nat} (ha : a < md k) (hb : b < md k) : (k.wrap a < k.wrap b) ↔ sx k a < sx k b := by rw [wrap_sx ha, wrap_sx hb]; omega
theorem cmp_le {k : IntKind} {a b : Nat} (ha : a < md k) (hb : b < md k) : (k.wrap a ≤ k.wrap b) ↔ sx k a ≤ sx k b := by rw [wrap_sx ha, wrap_sx hb]; omega
theorem cmpS_ok {P : Program} {op : BinOp} {ty : TypeId} {gs : List Nat → List Nat → Bool} {x y : AV} {f : AV → R} (h : (onS (fun l => onS (fun m => f (.b (gs l m))) y) x) = true)
    (hg : ∀ a b w, (binOp op ty (.string a) (.string b)).run P w = .ok (.bool (gs (toB a) (toB b))) w) : ∃ v, f v = true ∧ Gv2 P (binOp op ty) x y v := by
  obtain ⟨l, rfl, h1⟩ := onS_true h
  obtain ⟨m, rfl, h2⟩ := onS_true h1
  refine ⟨_, h2, fun ρ x' y' w q1 q2 => ?_⟩
  obtain ⟨bs, rfl, rfl⟩ := VR_s q1
  obtain ⟨cs, rfl, rfl⟩ := VR_s q2
  exact ⟨_, hg bs cs w, VR_mkb⟩
theorem opCmp_ok {P : Program} {op : BinOp} {ty : TypeId} {gi : IntKind → Nat → Nat → Bool} {gs : List Nat → List Nat → Bool} {x y : Operand} {t : T} {h : H} {f : AV → R}
    (e : (opCmp P ty gi gs x y).run t h f = true)
    (hi : ∀ k (y z : Int) (w : World), ∃ q : Bool, (binOp op ty (.int k (k.wrap y)) (.int k (k.wrap z))).run P w = .ok (.bool q) w)
    (hgi : ∀ k a b w, a < md k → b < md k → (binOp op ty (.int k (k.wrap a)) (.int k (k.wrap b))).run P w = .ok (.bool (gi k a b)) w)
    (hgs : ∀ a b w, (binOp op ty (.string a) (.string b)).run P w = .ok (.bool (gs (toB a) (toB b))) w)
    (hm : ∀ k m, (∀ a b, sx k a ≤ sx k b → gi k a m = true → gi k b m = true) ∨ (∀ a b, sx k a ≤ sx k b → gi k b m = true → gi k a m = true)) :
    ∃ v, f v = true ∧ Ok2 P (binOp op ty) t x y v := by
  unfold opCmp at e
  split at e
  · obtain ⟨v, h1, h2⟩ := cmpS_ok (P := P) (op := op) (ty := ty) (vo2_run e) hgs
    exact ⟨v, h1, h2.ok⟩
  · obtain ⟨v, h1, h2⟩ := cmpR_ok (P := P) (s := binOp op ty) (vo2_run e) hi hgi hm
    exact ⟨v, h1, h2.ok⟩

/-! ### Equality -/
theorem beq_wrap {k : IntKind} {a b : Nat} (ha : a < md k) (hb : b < md k) : Nat.beq a b = (k.wrap a == k.wrap b) := by
  rw [Bool.eq_iff_iff, beq_iff_eq]
  exact ⟨fun h => by rw [Nat.eq_of_beq_eq_true h], fun h => by rw [wrap_inj ha hb h]; exact Nat.beq_refl _⟩
theorem leq_toB (a b : ByteArray) : leq (toB a) (toB b) = (a.toList == b.toList) := by
  rw [leq_eq, Bool.eq_iff_iff, decide_eq_true_iff, beq_iff_eq, toB_eq]
  constructor
  · rintro rfl; rfl
  · intro h
    rw [ByteArray.toList_eq, ByteArray.toList_eq] at h
    have h2 : a.data = b.data := Array.toList_inj.1 h
    cases a; cases b; simp at h2; rw [h2]
/-- Two cells of a plain type. -/
theorem eqF_run {P : Program} {ty : TypeId} {x y : AV} {f : Bool → R} (hp : plainD (P.underlying ty) = true) (h : eqF (dcode (P.underlying ty)) x y f = true) :
    ∃ e, f e = true ∧ ∀ (ρ : Ren) (n : Nat) (x' y' : Value) (w : World), VR ρ x x' → VR ρ y y' → (Op.equalIn (n + 1) ty x' y').run P w = .ok e w := by
  unfold plainD at hp
  split at hp
  · rename_i k hu
    rw [hu] at h
    obtain ⟨k, a, rfl, h1⟩ := onI_true (show onI (fun k a => onI (fun j b => keq k j (f (Nat.beq a b))) y) x = true from h)
    obtain ⟨j, b, rfl, h2⟩ := onI_true h1
    obtain ⟨rfl, h3⟩ := keq_true h2
    refine ⟨_, h3, fun ρ n x' y' w q1 q2 => ?_⟩
    obtain ⟨ha, rfl⟩ := VR_i q1
    obtain ⟨hb, rfl⟩ := VR_i q2
    rw [run_equalIn_int w n ty _ _ _ _ hu, beq_wrap ha hb]
  · rename_i hu
    rw [hu] at h
    obtain ⟨l, rfl, h1⟩ := onS_true (show onS (fun l => onS (fun m => f (leq l m)) y) x = true from h)
    obtain ⟨m, rfl, h2⟩ := onS_true h1
    refine ⟨_, h2, fun ρ n x' y' w q1 q2 => ?_⟩
    obtain ⟨bs, rfl, rfl⟩ := VR_s q1
    obtain ⟨cs, rfl, rfl⟩ := VR_s q2
    rw [run_equalIn_string w n ty _ _ hu, leq_toB]
  · rename_i hu
    rw [hu] at h
    obtain ⟨a, rfl, h1⟩ := onB_true (show onB (fun a => onB (fun b => f (beqB a b)) y) x = true from h)
    obtain ⟨b, rfl, h2⟩ := onB_true h1
    refine ⟨_, h2, fun ρ n x' y' w q1 q2 => ?_⟩
    simp only [VR] at q1 q2
    subst q1; subst q2
    rw [run_equalIn_bool' w n ty _ _ hu, beqB_eq]
  · cases hp
theorem plainD_agg {P : Program} {ty : TypeId} {cs : Array Value} {off : Nat} {v : Value} {w : World} (hp : plainD (P.underlying ty) = true) (hv : cs[off]? = some v) : (part ty cs off).run P w = .ok v w := by
  have hi : (isAgg ty).run P w = .ok false w := by
    unfold plainD at hp
    split at hp <;> first | (rename_i hu; simp [isAgg, run_underlying hu]; done) | cases hp
  simp [part, hi, hv]
theorem eqL_run {P : Program} (d : Nat) : ∀ (fs : List Field) (off : Nat) (l m : List AV) (f : Bool → R),
    fs.all (fun f => plainD (P.underlying f.type) && f.name != "_") = true → offsOk off fs = true → eqL (fs.map (fun f => dcode (P.underlying f.type))) l m f = true →
    ∃ e, f e = true ∧ ∀ (xs ys : Array Value) (ρ : Ren) (w : World), VRs ρ l (xs.toList.drop off) → VRs ρ m (ys.toList.drop off) → (Op.eqFields (d + 1) xs ys fs).run P w = .ok e w
  | [], off, l, m, f, _, _, h => ⟨true, h, fun _ _ _ _ _ _ => rfl⟩
  | fd :: fs, off, l, m, f, h1, h2, h => by
    simp only [List.all_cons, Bool.and_eq_true, bne_iff_ne, ne_eq] at h1
    simp only [offsOk, Bool.and_eq_true, beq_iff_eq] at h2
    cases l with
    | nil => exact (Bool.false_ne_true h).elim
    | cons x l =>
      cases m with
      | nil => exact (Bool.false_ne_true h).elim
      | cons y m =>
        obtain ⟨e, he, hr⟩ := eqF_run h1.1.1 (show eqF (dcode (P.underlying fd.type)) x y (fun e => eqL (fs.map (fun f => dcode (P.underlying f.type))) l m (fun r => f (Bool.rec false r e))) = true from h)
        obtain ⟨r, hf, hr2⟩ := eqL_run d fs (off + 1) l m _ h1.2 h2.2 he
        refine ⟨_, hf, fun xs ys ρ w q1 q2 => ?_⟩
        simp only [VRs] at q1 q2
        obtain ⟨v1, r1, e1, k1, k2⟩ := q1
        obtain ⟨v2, r2, e2, k3, k4⟩ := q2
        have g1 : xs[off]? = some v1 := by rw [← Array.getElem?_toList]; have := congrArg (·[0]?) e1; simpa using this
        have g2 : ys[off]? = some v2 := by rw [← Array.getElem?_toList]; have := congrArg (·[0]?) e2; simpa using this
        have t1 : xs.toList.drop (off + 1) = r1 := by rw [← List.tail_drop, e1]; rfl
        have t2 : ys.toList.drop (off + 1) = r2 := by rw [← List.tail_drop, e2]; rfl
        have := hr2 xs ys ρ w (by rw [t1]; exact k2) (by rw [t2]; exact k4)
        simp only [Op.eqFields]
        rw [if_pos h1.1.2, h2.1]
        simp only [Sem.run_bind, plainD_agg h1.1.1 g1, plainD_agg h1.1.1 g2, Result.andThen_ok, hr ρ d v1 v2 w k1 k3, Sem.run_ite]
        cases e
        · simp
        · simpa using this
end
end Go.Proofs.YtbpdomemnecioaaGreatDoor.Ev
