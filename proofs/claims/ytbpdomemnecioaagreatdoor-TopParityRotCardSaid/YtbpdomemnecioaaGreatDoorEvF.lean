/- The evaluator's operations that give a value, against the model's: all binary and unary ones, conversions. Own text. No condition of a claim. -/
import Derived.Test.YtbpdomemnecioaaGreatDoorEvE
import Derived.Laws.Pointers
namespace Go.Proofs.YtbpdomemnecioaaGreatDoor.Ev
open Go
set_option linter.unusedVariables false
set_option linter.unusedSimpArgs false
noncomputable section

/-- What v is, by e: nil, or not. -/
def NilIs (v : Value) (e : Bool) : Prop :=
  match v with
  | .pointer a => e = a.isNone
  | .slice a _ _ => e = a.isNone
  | .map r => e = r.isNone
  | .nilFunc => e = true
  | .func _ _ _ => e = false
  | .nilIface => e = true
  | .iface _ _ => e = false
  | _ => False
/-- Kinds that go together: a value, nil, the type. -/
def Fits (v c : Value) (d : TypeDesc) : Prop := ((∃ a el, v = .pointer a ∧ c = .pointer none ∧ d = .pointer el) ∨ (∃ a x y x' y' el, v = .slice a x y ∧ c = .slice none x' y' ∧ d = .slice el) ∨ (∃ r a b, v = .map r ∧ c = .map none ∧ d = .map a b) ∨ (∃ a b q, (v = .nilFunc ∨ ∃ f x y, v = .func f x y) ∧ c = .nilFunc ∧ d = .func a b q) ∨ (∃ ms, (v = .nilIface ∨ ∃ t u, v = .iface t u) ∧ c = .nilIface ∧ d = .interface ms))
theorem equalIn_nilR {P : Program} {ty : TypeId} {c v : Value} {e : Bool} {w : World} {d : TypeDesc} (n : Nat) (hu : P.underlying ty = some d) (hk : Fits v c d) (he : NilIs v e) :
    (Op.equalIn (n + 1) ty v c).run P w = .ok e w := by
  rcases hk with ⟨a, el, rfl, rfl, rfl⟩ | ⟨a, x, y, x', y', el, rfl, rfl, rfl⟩ | ⟨r, a, b, rfl, rfl, rfl⟩ | ⟨a, b, q, rfl | ⟨f, x, y, rfl⟩, rfl, rfl⟩ | ⟨ms, rfl | ⟨t, u, rfl⟩, rfl, rfl⟩ <;> simp only [NilIs] at he <;> subst he
  · cases a <;> simp [Op.equalIn, run_underlying hu]
  · cases a <;> simp [Op.equalIn, run_underlying hu]
  · cases r <;> simp [Op.equalIn, run_underlying hu]
  all_goals simp [Op.equalIn, run_underlying hu]
theorem equalIn_nilL {P : Program} {ty : TypeId} {c v : Value} {e : Bool} {w : World} {d : TypeDesc} (n : Nat) (hu : P.underlying ty = some d) (hk : Fits v c d) (he : NilIs v e) :
    (Op.equalIn (n + 1) ty c v).run P w = .ok e w := by
  rcases hk with ⟨a, el, rfl, rfl, rfl⟩ | ⟨a, x, y, x', y', el, rfl, rfl, rfl⟩ | ⟨r, a, b, rfl, rfl, rfl⟩ | ⟨a, b, q, rfl | ⟨f, x, y, rfl⟩, rfl, rfl⟩ | ⟨ms, rfl | ⟨t, u, rfl⟩, rfl, rfl⟩ <;> simp only [NilIs] at he <;> subst he
  · cases a <;> simp [Op.equalIn, run_underlying hu]
  · cases a <;> simp [Op.equalIn, run_underlying hu]
  · cases r <;> simp [Op.equalIn, run_underlying hu]
  all_goals simp [Op.equalIn, run_underlying hu]
theorem nilV_true {od : Option TypeDesc} {c : Value} {x : AV} {f : AV → R} (h : (nilV od c).run x f = true) : ∃ d e, od = some d ∧ f (.b e) = true ∧ ∀ ρ x', VR ρ x x' → Fits x' c d ∧ NilIs x' e := by
  unfold nilV at h
  split at h
  · rename_i el
    cases x <;> try exact (Bool.false_ne_true h).elim
    case p0 => exact ⟨_, true, rfl, h, fun ρ x' q => by simp only [VR] at q; subst q; exact ⟨.inl ⟨_, _, rfl, rfl, rfl⟩, rfl⟩⟩
    case p => exact ⟨_, false, rfl, h, fun ρ x' q => by simp only [VR] at q; obtain ⟨_, _, rfl⟩ := q; exact ⟨.inl ⟨_, _, rfl, rfl, rfl⟩, rfl⟩⟩
  · cases x <;> try exact (Bool.false_ne_true h).elim
    case sl0 => exact ⟨_, true, rfl, h, fun ρ x' q => by simp only [VR] at q; subst q; exact ⟨.inr (.inl ⟨_, _, _, _, _, _, rfl, rfl, rfl⟩), rfl⟩⟩
    case sl => exact ⟨_, false, rfl, h, fun ρ x' q => by simp only [VR] at q; obtain ⟨_, _, _, _, rfl, _⟩ := q; exact ⟨.inr (.inl ⟨_, _, _, _, _, _, rfl, rfl, rfl⟩), rfl⟩⟩
  · cases x <;> try exact (Bool.false_ne_true h).elim
    case m0 => exact ⟨_, true, rfl, h, fun ρ x' q => by simp only [VR] at q; subst q; exact ⟨.inr (.inr (.inl ⟨_, _, _, rfl, rfl, rfl⟩)), rfl⟩⟩
    case m => exact ⟨_, false, rfl, h, fun ρ x' q => by simp only [VR] at q; obtain ⟨_, _, rfl⟩ := q; exact ⟨.inr (.inr (.inl ⟨_, _, _, rfl, rfl, rfl⟩)), rfl⟩⟩
  · cases x <;> try exact (Bool.false_ne_true h).elim
    case f0 => exact ⟨_, true, rfl, h, fun ρ x' q => by simp only [VR] at q; subst q; exact ⟨.inr (.inr (.inr (.inl ⟨_, _, _, .inl rfl, rfl, rfl⟩))), rfl⟩⟩
    case f => exact ⟨_, false, rfl, h, fun ρ x' q => by simp only [VR] at q; obtain ⟨_, _, rfl, _⟩ := q; exact ⟨.inr (.inr (.inr (.inl ⟨_, _, _, .inr ⟨_, _, _, rfl⟩, rfl, rfl⟩))), rfl⟩⟩
  · cases x <;> try exact (Bool.false_ne_true h).elim
    case if0 => exact ⟨_, true, rfl, h, fun ρ x' q => by simp only [VR] at q; subst q; exact ⟨.inr (.inr (.inr (.inr ⟨_, .inl rfl, rfl, rfl⟩))), rfl⟩⟩
    case ifc => exact ⟨_, false, rfl, h, fun ρ x' q => by simp only [VR] at q; obtain ⟨_, rfl, _⟩ := q; exact ⟨.inr (.inr (.inr (.inr ⟨_, .inr ⟨_, _, rfl⟩, rfl, rfl⟩))), rfl⟩⟩
  · exact (Bool.false_ne_true h).elim
/-- == or !=, out of what is equal. -/
theorem bin_eq {P : Program} {ty : TypeId} {neg : Bool} {x y : Operand} {v u : Value} {e : Bool} {w : World} (hg : (eqGuard (if neg then .neq else .eql) ty x y v u).run P w = .ok () w)
    (hn : ∀ k a b, ¬ (v = .int k a ∧ u = .int k b)) (hk : (∃ c, u = c ∧ ∃ d, Fits v c d) ∨ (∃ c, v = c ∧ ∃ d, Fits u c d))
    (he : (Op.equalIn (9999 + 1) ty v u).run P w = .ok e w) : (bin (if neg then .neq else .eql) ty x y v u).run P w = .ok (.bool (xneg neg e)) w := by
  have hb : ∀ op, op = BinOp.eql ∨ op = .neq → binOp op ty v u = (if op = .eql then (do pure (.bool (← Op.equal ty v u))) else (do pure (.bool (!(← Op.equal ty v u)))) : Sem Value) := by
    intro op hop
    rcases hk with ⟨c, rfl, d, hf⟩ | ⟨c, rfl, d, hf⟩ <;> rcases hf with ⟨a, el, rfl, rfl, rfl⟩ | ⟨a, x, y, x', y', el, rfl, rfl, rfl⟩ | ⟨r, a, b, rfl, rfl, rfl⟩ | ⟨a, b, q, rfl | ⟨f, x, y, rfl⟩, rfl, rfl⟩ | ⟨ms, rfl | ⟨t, u, rfl⟩, rfl, rfl⟩ <;> rcases hop with rfl | rfl <;> rfl
  cases neg
  · have := hb .eql (.inl rfl)
    simp only [if_true] at this
    simp only [bin, Sem.run_bind, hg, Result.andThen_ok, Bool.false_eq_true, if_false]
    simp only [Bool.false_eq_true, if_false] at hg
    simp only [this, Sem.run_bind, Op.equal, Op.maxDepth, he, Result.andThen_ok, Sem.run_pure, xneg_eq, hg, Bool.false_bne]
  · have := hb .neq (.inr rfl)
    simp only [reduceCtorEq, if_false] at this
    simp only [if_true] at hg
    simp only [bin, Sem.run_bind, if_true, hg, Result.andThen_ok, this, Op.equal, Op.maxDepth, he, Sem.run_pure, xneg_eq, Bool.true_bne]

theorem bin_int {P : Program} {neg : Bool} {ty : TypeId} {x y : Operand} {k : IntKind} {a b : Int} {w : World} : (bin (if neg then .neq else .eql) ty x y (.int k a) (.int k b)).run P w = .ok (.bool (xneg neg (a == b))) w := by
  cases neg <;> simp [bin, eqGuard_at_int, binOp_eql, binOp_neq, xneg_eq, bne]
theorem bin_str {P : Program} {neg : Bool} {ty : TypeId} {x y : Operand} {a b : ByteArray} {w : World} : (bin (if neg then .neq else .eql) ty x y (.string a) (.string b)).run P w = .ok (.bool (xneg neg (a.toList == b.toList))) w := by
  cases neg <;> simp [bin, eqGuard_at_string, binOp_string_eql, binOp_string_neq, xneg_eq]
theorem bin_bool {P : Program} {neg : Bool} {ty : TypeId} {x y : Operand} {a b : Bool} {w : World} (hu : P.underlying ty = some .bool) : (bin (if neg then .neq else .eql) ty x y (.bool a) (.bool b)).run P w = .ok (.bool (xneg neg (a == b))) w := by
  have h1 := run_equalIn_bool' w 9999 ty a b hu
  have hb : binOp .eql ty (.bool a) (.bool b) = (do pure (.bool (← Op.equal ty (.bool a) (.bool b))) : Sem Value) := rfl
  have hc : binOp .neq ty (.bool a) (.bool b) = (do pure (.bool (!(← Op.equal ty (.bool a) (.bool b)))) : Sem Value) := rfl
  cases neg
  · simp only [bin, Bool.false_eq_true, if_false, eqGuard_at_bool, Sem.run_bind, Sem.run_pure, Result.andThen_ok, hb, Op.equal, Op.maxDepth, h1, xneg_eq, Bool.false_bne]
  · simp only [bin, if_true, eqGuard_at_bool, Sem.run_bind, Sem.run_pure, Result.andThen_ok, hc, Op.equal, Op.maxDepth, h1, xneg_eq, Bool.true_bne]
theorem VR_ag {ρ : Ren} {l : List AV} {v : Value} (h : VR ρ (.ag l) v) : ∃ vs, v = .agg vs ∧ VRs ρ l vs.toList := by simpa only [VR] using h
theorem intBits_ui {P : Program} {op : BinOp} {k : IntKind} {x y : Int} {w : World} (h : op = .and ∨ op = .or ∨ op = .xor ∨ op = .andNot) : ∃ q : Int, (Op.intBits op k x y).run P w = .ok (.int k (k.wrap q)) w := by
  rcases h with rfl | rfl | rfl | rfl <;> exact ⟨_, rfl⟩
theorem eqI_ok {P : Program} {neg : Bool} {ty : TypeId} {x y : Operand} {a b : AV} {f : AV → R} (h : eqI neg a b f = true) : ∃ v, f v = true ∧ Gv2 P (bin (if neg then .neq else .eql) ty x y) a b v := by
  have hk : ∀ {a : AV}, cmpI (fun _ a b => xneg neg (Nat.beq a b)) a b f = true → ∃ v, f v = true ∧ Gv2 P (bin (if neg then .neq else .eql) ty x y) a b v := fun h =>
    cmp_ok (P := P) (s := bin (if neg then .neq else .eql) ty x y) h (fun k y z w => ⟨_, bin_int⟩) (fun k a b w ha hb => by rw [bin_int, beq_wrap ha hb])
  cases a <;> try exact hk (show cmpI (fun _ a b => xneg neg (Nat.beq a b)) _ b f = true from h)
  case bx n c =>
    obtain ⟨k, m, rfl, h1⟩ := onI_true (show onI (fun k m => keq k .u8 (gd (Nat.beq n 0) (gd (Nat.beq c 0) (gd (Nat.beq m 0) (f (.b (xneg neg false))))))) b = true from h)
    obtain ⟨rfl, h2⟩ := keq_true h1
    obtain ⟨g1, h3⟩ := gd_true h2
    obtain ⟨g2, h4⟩ := gd_true h3
    obtain ⟨g3, h5⟩ := gd_true h4
    obtain rfl : n = 0 := Nat.eq_of_beq_eq_true g1
    obtain rfl : c = 0 := Nat.eq_of_beq_eq_true g2
    obtain rfl : m = 0 := Nat.eq_of_beq_eq_true g3
    refine ⟨_, h5, fun ρ x' y' w q1 q2 => ?_⟩
    obtain ⟨l, _, p1, p2, _, rfl⟩ := VR_bx q1
    obtain ⟨_, rfl⟩ := VR_i q2
    have hne : (((bxv l.B 0 0 : Nat) : Int) == IntKind.u8.wrap ((0 : Nat) : Int)) = false := by
      have := bxv_00 p1 p2
      rw [beq_eq_false_iff_ne, show IntKind.u8.wrap ((0 : Nat) : Int) = 0 from by decide]
      omega
    exact ⟨_, bin_int, by rw [hne]; exact VR_mkb⟩
  case ne j n =>
    obtain ⟨k, m, rfl, h1⟩ := onI_true (show onI (fun k m => keq k j (gd (Nat.beq n m) (f (.b (xneg neg false))))) b = true from h)
    obtain ⟨rfl, h2⟩ := keq_true h1
    obtain ⟨g1, h3⟩ := gd_true h2
    obtain rfl : n = m := Nat.eq_of_beq_eq_true g1
    refine ⟨_, h3, fun ρ x' y' w q1 q2 => ?_⟩
    obtain ⟨z, rfl, hz⟩ := VR_ne q1
    obtain ⟨_, rfl⟩ := VR_i q2
    exact ⟨_, bin_int, by rw [show (k.wrap z == k.wrap (n : Int)) = false from beq_eq_false_iff_ne.2 hz]; exact VR_mkb⟩
  case rg j lo n =>
    obtain ⟨k, m, rfl, h1⟩ := onI_true (show onI (fun k m => keq k j (f .ub)) b = true from h)
    obtain ⟨rfl, h2⟩ := keq_true h1
    refine ⟨_, h2, fun ρ x' y' w q1 q2 => ?_⟩
    obtain ⟨z, rfl, hz⟩ := VR_rg q1
    obtain ⟨_, rfl⟩ := VR_i q2
    exact ⟨_, bin_int, by simp only [VR]; exact ⟨_, rfl⟩⟩
theorem addA_ok {P : Program} {ty : TypeId} {x y : AV} {f : AV → R} (h : (arith (fun k a b => Nat.mod (Nat.add a b) (md k))).run x y f = true) : ∃ v, f v = true ∧ Gv2 P (binOp .add ty) x y v :=
  arith_ok (P := P) (s := binOp .add ty) h (fun k y z w => ⟨_, by rw [binOp_add]; rfl⟩)
    (fun k a b w ha hb => ⟨Nat.mod_lt _ (md_pos k), by rw [binOp_add]; show Result.ok (Value.int k (k.wrap (k.wrap a + k.wrap b))) w = _; rw [add_ok]; rfl⟩)
theorem addR_ok {P : Program} {ty : TypeId} {x y : AV} {f : AV → R} (h : addR x y f = true) : ∃ v, f v = true ∧ Gv2 P (binOp .add ty) x y v := by
  cases y <;> try exact addA_ok (show (arith (fun k a b => Nat.mod (Nat.add a b) (md k))).run x _ f = true from h)
  case rg k lo n =>
    obtain ⟨j, m, rfl, h1⟩ := onI_true (show onI (fun j m => keq j k (gd (Nat.ble (hf k) (sx k m)) (gd (Nat.blt 0 n) (gd (Nat.ble (m + (lo + n)) (md k)) (f (.rg k (m + lo) n)))))) x = true from h)
    obtain ⟨hjk, h2⟩ := keq_true h1
    subst hjk
    obtain ⟨g0, h3⟩ := gd_true h2
    obtain ⟨g1, h4⟩ := gd_true h3
    obtain ⟨g2, h5⟩ := gd_true h4
    have g1 : 0 < n := by simpa [Nat.blt_eq] using g1
    have g2 : m + (lo + n) ≤ md j := Nat.le_of_ble_eq_true g2
    refine ⟨_, h5, fun ρ x' y' w q1 q2 => ?_⟩
    obtain ⟨hm, rfl⟩ := VR_i q1
    obtain ⟨z, rfl, hz⟩ := VR_rg q2
    have hz := hz.resolve_left (by omega)
    rw [binOp_add]
    refine ⟨_, rfl, ?_⟩
    simp only [VR]
    refine ⟨_, rfl, .inr ?_⟩
    rw [wrap_nn hm (Nat.le_of_ble_eq_true g0)]
    have hw : j.wrap ((m : Int) + j.wrap z) = (m : Int) + j.wrap z := wrap_id (by omega) (by omega)
    rw [hw]
    omega
theorem addI_ok {P : Program} {ty : TypeId} {x y : AV} {f : AV → R} (h : addI.run x y f = true) : ∃ v, f v = true ∧ Gv2 P (binOp .add ty) x y v := by
  cases x <;> try exact addR_ok (show addR _ y f = true from h)
  case bx n c =>
    obtain ⟨k, m, rfl, h1⟩ := onI_true (show onI (fun k m => gd (Nat.beq n 0) (keq k .u8 (f (.bx 0 ((c + m) % 256))))) y = true from h)
    obtain ⟨g1, h2⟩ := gd_true h1
    obtain ⟨rfl, h3⟩ := keq_true h2
    obtain rfl : n = 0 := Nat.eq_of_beq_eq_true g1
    refine ⟨_, h3, fun ρ x' y' w q1 q2 => ?_⟩
    obtain ⟨l, p0, p1, p2, _, rfl⟩ := VR_bx q1
    obtain ⟨hm, rfl⟩ := VR_i q2
    have hm : m < 256 := hm
    rw [binOp_add]
    refine ⟨_, rfl, ?_⟩
    simp only [VR]
    refine ⟨l, p0, p1, p2, by decide, ?_⟩
    show Value.int .u8 (IntKind.u8.wrap (((bxv l.B 0 c : Nat) : Int) + IntKind.u8.wrap (m : Int))) = _
    rw [wrap_u8n hm, bxv_0, bxv_0, IntKind.wrap_u8]
    congr 1
    omega
theorem xorI_ok {P : Program} {ty : TypeId} {x y : AV} {f : AV → R} (h : xorI.run x y f = true) : ∃ v, f v = true ∧ Gv2 P (binOp .xor ty) x y v := by
  have hk : ∀ {y : AV}, (arith (fun _ a b => Nat.xor a b)).run x y f = true → ∃ v, f v = true ∧ Gv2 P (binOp .xor ty) x y v := fun h =>
    arith_ok (P := P) (s := binOp .xor ty) h (fun k y z w => by rw [binOp_xor]; exact intBits_ui (.inr (.inr (.inl rfl))))
      (fun k a b w ha hb => ⟨xor_lt ha hb, by rw [binOp_xor]; show Result.ok (Value.int k (k.wrap ((BitVec.ofInt k.bits (k.wrap a) ^^^ BitVec.ofInt k.bits (k.wrap b)).toNat : Nat))) w = _; rw [bits_xor k ha hb]⟩)
  cases y <;> try exact hk (show (arith (fun _ a b => Nat.xor a b)).run x _ f = true from h)
  case bx z c =>
    obtain ⟨k, n, rfl, h1⟩ := onI_true (show onI (fun k n => gd (Nat.beq z 0) (keq k .u8 (f (.bx n c)))) x = true from h)
    obtain ⟨g1, h2⟩ := gd_true h1
    obtain ⟨rfl, h3⟩ := keq_true h2
    obtain rfl : z = 0 := Nat.eq_of_beq_eq_true g1
    refine ⟨_, h3, fun ρ x' y' w q1 q2 => ?_⟩
    obtain ⟨hn, rfl⟩ := VR_i q1
    obtain ⟨l, p0, p1, p2, _, rfl⟩ := VR_bx q2
    have hn : n < 256 := hn
    have hb := bxv_lt l.B c (show 0 < 256 by decide)
    rw [binOp_xor, ← wrap_u8n hb]
    refine ⟨_, rfl, ?_⟩
    simp only [VR]
    refine ⟨l, p0, p1, p2, hn, ?_⟩
    show Value.int .u8 (IntKind.u8.wrap ((BitVec.ofInt IntKind.u8.bits (IntKind.u8.wrap n) ^^^ BitVec.ofInt IntKind.u8.bits (IntKind.u8.wrap (bxv l.B 0 c))).toNat : Nat)) = _
    rw [bits_xor .u8 hn hb, show Nat.xor n (bxv l.B 0 c) = bxv l.B n c from by rw [bxv_0]; rfl, wrap_u8n (bxv_lt l.B c hn)]
theorem rem_known {P : Program} {ty : TypeId} {x y : AV} {f : AV → R} (h : (divs Nat.mod).run x y f = true) : ∃ v, f v = true ∧ Gv2 P (binOp .rem ty) x y v :=
  divs_ok (P := P) (s := binOp .rem ty) h
      (fun k a b w ha hb ea eb hp => by
        have hl : a % b < md k := Nat.lt_of_lt_of_le (Nat.mod_lt _ hp) (Nat.le_of_lt hb)
        refine ⟨hl, ?_⟩
        rw [binOp_rem, ea, eb]
        simp only [Op.intDiv]
        rw [if_neg (by omega)]
        show Result.ok (Value.int k (Int.tmod a b)) w = .ok (Value.int k (k.wrap ((a % b : Nat) : Int))) w
        have hle : a % b ≤ a := Nat.mod_le _ _
        have : k.wrap ((a % b : Nat) : Int) = ((a % b : Nat) : Int) := by
          have h4 := wrap_sx ha
          have h5 := wrap_sx hl
          rw [ea] at h4
          rw [h5]
          have e1 : sx k a = (a + hf k) % md k := rfl
          have e2 : sx k (a % b) = (a % b + hf k) % md k := rfl
          rw [e1] at h4
          rw [e2]
          generalize a % b = c at hle hl ⊢
          clear h5 e1 e2 ea eb
          cases k <;> simp only [md, hf] at ha hl h4 ⊢ <;> omega
        rw [this, Int.ofNat_tmod])
theorem remI_ok {P : Program} {ty : TypeId} {x y : AV} {f : AV → R} (h : remI.run x y f = true) : ∃ v, f v = true ∧ Gv2 P (binOp .rem ty) x y v := by
  cases x <;> try exact rem_known (show (divs Nat.mod).run _ y f = true from h)
  case rg k lo n =>
    obtain ⟨j, m, rfl, h1⟩ := onI_true (show onI (fun j m => keq j k (gd (Nat.blt 0 n) (gd (Nat.ble (hf k) lo) (gd (Nat.blt 0 m) (gd (Nat.blt m 64) (f (.rg k (hf k) m))))))) y = true from h)
    obtain ⟨hjk, h2⟩ := keq_true h1
    subst hjk
    obtain ⟨g0, h3⟩ := gd_true h2
    obtain ⟨g1, h4⟩ := gd_true h3
    obtain ⟨g2, h5⟩ := gd_true h4
    obtain ⟨g3, h6⟩ := gd_true h5
    simp only [Nat.blt_eq] at g0 g2 g3
    have g1 : hf j ≤ lo := Nat.le_of_ble_eq_true g1
    refine ⟨_, h6, fun ρ x' y' w q1 q2 => ?_⟩
    obtain ⟨z, rfl, hz⟩ := VR_rg q1
    obtain ⟨hm, rfl⟩ := VR_i q2
    have hz := hz.resolve_left (by omega)
    have h64 : m + hf j < md j := by cases j <;> simp only [md, hf] <;> omega
    have hwm : j.wrap (m : Int) = (m : Int) := wrap_id (by omega) (by omega)
    obtain ⟨u, hu⟩ : ∃ u : Nat, j.wrap z = (u : Int) := ⟨(j.wrap z).toNat, by omega⟩
    rw [binOp_rem, hwm, hu]
    simp only [Op.intDiv]
    rw [if_neg (by omega)]
    have hr : Int.tmod (u : Int) (m : Int) = ((u % m : Nat) : Int) := (Int.ofNat_tmod u m).symm
    have hrl : u % m < m := Nat.mod_lt _ g2
    have hwr : j.wrap ((u % m : Nat) : Int) = ((u % m : Nat) : Int) := wrap_id (by omega) (by omega)
    refine ⟨_, rfl, ?_⟩
    simp only [VR]
    refine ⟨((u % m : Nat) : Int), ?_, .inr ?_⟩
    · rw [hr, hwr]
    · rw [hwr]; omega
theorem opEq_ok {P : Program} {neg : Bool} {ty : TypeId} {x y : Operand} {t : T} {h : H} {f : AV → R} (e : (opEq P neg ty x y).run t h f = true) :
    ∃ v, f v = true ∧ Ok2 P (bin (if neg then .neq else .eql) ty x y) t x y v := by
  unfold opEq at e
  split at e
  · obtain ⟨v, h1, h2⟩ := eqI_ok (P := P) (ty := ty) (x := x) (y := y) (vo2_run e)
    exact ⟨v, h1, h2.ok⟩
  · have e2 := vo2_run e
    obtain ⟨l, h1, e3⟩ := onS_true (show onS (fun l => onS (fun m => f (.b (xneg neg (leq l m)))) (gv t y)) (gv t x) = true from e2)
    obtain ⟨m, h2, e4⟩ := onS_true e3
    refine ⟨_, e4, fun ρ a w q1 q2 => ?_⟩
    rw [h1] at q1
    rw [h2] at q2
    obtain ⟨bs, r1, rfl⟩ := VR_s q1
    obtain ⟨cs, r2, rfl⟩ := VR_s q2
    rw [r1, r2]
    exact ⟨_, bin_str, by rw [leq_toB]; exact VR_mkb⟩
  · rename_i hu
    have e2 := vo2_run e
    obtain ⟨l, h1, e3⟩ := onB_true (show onB (fun l => onB (fun m => f (.b (xneg neg (beqB l m)))) (gv t y)) (gv t x) = true from e2)
    obtain ⟨m, h2, e4⟩ := onB_true e3
    refine ⟨_, e4, fun ρ a w q1 q2 => ?_⟩
    rw [h1] at q1
    rw [h2] at q2
    simp only [VR] at q1 q2
    rw [q1, q2]
    exact ⟨_, bin_bool hu, by rw [beqB_eq]; exact VR_mkb⟩
  · rename_i fs hu
    split at e
    · rename_i hp
      unfold plainS at hp
      simp only [Bool.and_eq_true, Bool.not_eq_true'] at hp
      obtain ⟨⟨⟨hp1, hp2⟩, hp3⟩, hp4⟩ := hp
      have e2 := vo2_run e
      obtain ⟨l, h1, e3⟩ := onAg_true (show onAg (fun l => onAg (fun m => eqL (fs.toList.map (fun f => dcode (P.underlying f.type))) l m (fun e => f (.b (xneg neg e)))) (gv t y)) (gv t x) = true from e2)
      obtain ⟨m, h2, e4⟩ := onAg_true e3
      have hfs : P.fieldsOf ty = fs := by simp [Program.fieldsOf, hu]
      have key : ∃ q, f (.b (xneg neg q)) = true ∧ ∀ (xs ys : Array Value) (ρ : Ren) (w : World), VRs ρ l xs.toList → VRs ρ m ys.toList → (Op.eqFields (9998 + 1) xs ys fs.toList).run P w = .ok q w := by
        obtain ⟨q, hq, hr⟩ := eqL_run (P := P) 9998 fs.toList 0 l m _ (by simpa using hp1) hp2 e4
        exact ⟨q, hq, fun xs ys ρ w k1 k2 => hr xs ys ρ w k1 k2⟩
      obtain ⟨q, hq, hr⟩ := key
      refine ⟨_, hq, fun ρ a w q1 q2 => ?_⟩
      rw [h1] at q1
      rw [h2] at q2
      obtain ⟨xs, r1, k1⟩ := VR_ag q1
      obtain ⟨ys, r2, k2⟩ := VR_ag q2
      rw [r1, r2]
      have h3 := run_equalIn_struct w 9999 ty xs ys (by rw [hfs]; exact hu) hp3
      rw [hfs, hr xs ys ρ w k1 k2] at h3
      have hgd := run_eqGuard_agg (w := w) (if neg then .neq else .eql) ty x y xs ys hp4
      refine ⟨_, ?_, VR_mkb⟩
      cases neg
      · have := run_eql_struct (P := P) w ty xs ys
        simp only [bin, Bool.false_eq_true, if_false] at hgd ⊢
        rw [Sem.run_bind, hgd, Result.andThen_ok, this, h3]; simp [xneg_eq]
      · have := run_neq_struct (P := P) w ty xs ys
        simp only [bin, if_true] at hgd ⊢
        rw [Sem.run_bind, hgd, Result.andThen_ok, this, h3]; simp [xneg_eq]
    · exact (Bool.false_ne_true e).elim
  · split at e
    · rename_i c
      obtain ⟨d, q, hu, h1, h2⟩ := nilV_true (vo1_run (h := h) e)
      obtain ⟨b, hb, h3⟩ := onB_true h1
      cases hb
      refine ⟨_, h3, fun ρ a w q1 q2 => ?_⟩
      obtain ⟨h4, h5⟩ := h2 ρ _ q1
      refine ⟨_, bin_eq ?_ ?_ (.inl ⟨_, rfl, d, h4⟩) (equalIn_nilR 9999 hu h4 h5), VR_mkb⟩
      · show (eqGuard _ ty x (.const c) (a.eval x) c).run P w = .ok () w
        rcases h4 with ⟨a, el, g1, g2, rfl⟩ | ⟨a, x, y, x', y', el, g1, g2, rfl⟩ | ⟨r, a, b, g1, g2, rfl⟩ | ⟨a, b, q, g1 | ⟨f, x, y, g1⟩, g2, rfl⟩ | ⟨ms, g1 | ⟨t, u, g1⟩, g2, rfl⟩ <;> rw [g1] <;> (try rw [g2]) <;> cases neg <;> first | rfl | (rw [eqGuard_nil_constR]; rfl)
      · rintro k a b ⟨g, _⟩
        rcases h4 with ⟨a, el, g1, g2, rfl⟩ | ⟨a, x, y, x', y', el, g1, g2, rfl⟩ | ⟨r, a, b, g1, g2, rfl⟩ | ⟨a, b, q, g1 | ⟨f, x, y, g1⟩, g2, rfl⟩ | ⟨ms, g1 | ⟨t, u, g1⟩, g2, rfl⟩ <;> rw [g1] at g <;> cases g
    · rename_i c _
      obtain ⟨d, q, hu, h1, h2⟩ := nilV_true (vo1_run (h := h) e)
      obtain ⟨b, hb, h3⟩ := onB_true h1
      cases hb
      refine ⟨_, h3, fun ρ a w q1 q2 => ?_⟩
      obtain ⟨h4, h5⟩ := h2 ρ _ q2
      refine ⟨_, bin_eq ?_ ?_ (.inr ⟨_, rfl, d, h4⟩) (equalIn_nilL 9999 hu h4 h5), VR_mkb⟩
      · show (eqGuard _ ty (.const c) y c (a.eval y)).run P w = .ok () w
        rcases h4 with ⟨a, el, g1, g2, rfl⟩ | ⟨a, x, y, x', y', el, g1, g2, rfl⟩ | ⟨r, a, b, g1, g2, rfl⟩ | ⟨a, b, q, g1 | ⟨f, x, y, g1⟩, g2, rfl⟩ | ⟨ms, g1 | ⟨t, u, g1⟩, g2, rfl⟩ <;> rw [g1] <;> (try rw [g2]) <;> cases neg <;> first | rfl | (rw [eqGuard_nil_constL]; rfl)
      · rintro k a b ⟨_, g⟩
        rcases h4 with ⟨a, el, g1, g2, rfl⟩ | ⟨a, x, y, x', y', el, g1, g2, rfl⟩ | ⟨r, a, b, g1, g2, rfl⟩ | ⟨a, b, q, g1 | ⟨f, x, y, g1⟩, g2, rfl⟩ | ⟨ms, g1 | ⟨t, u, g1⟩, g2, rfl⟩ <;> rw [g1] at g <;> cases g
    · exact (Bool.false_ne_true e).elim
theorem opBin_ok {P : Program} {op : BinOp} {ty : TypeId} {x y : Operand} {t : T} {h : H} {f : AV → R} (e : (opBin P op ty x y).run t h f = true) :
    ∃ v, f v = true ∧ Ok2 P (bin op ty x y) t x y v := by
  have out : ∀ op', op' = op → op' ≠ .eql → op' ≠ .neq → (∃ v, f v = true ∧ Ok2 P (binOp op' ty) t x y v) → ∃ v, f v = true ∧ Ok2 P (bin op ty x y) t x y v := by
    rintro op' rfl h1 h2 ⟨v, hv, ho⟩
    exact ⟨v, hv, fun ρ a w q1 q2 => by rw [bin_plain h1 h2]; exact ho ρ a w q1 q2⟩
  cases op
  case eql => exact opEq_ok (neg := false) e
  case neq => exact opEq_ok (neg := true) e
  case add =>
    refine out .add rfl (by simp) (by simp) ?_
    unfold opBin at e
    simp only at e
    split at e
    · obtain ⟨v, h1, h2⟩ := strAdd_ok (P := P) (ty := ty) (vo2_run e)
      exact ⟨v, h1, h2.ok⟩
    · obtain ⟨v, h1, h2⟩ := addI_ok (P := P) (ty := ty) (vo2_run e)
      exact ⟨v, h1, h2.ok⟩
  case sub =>
    refine out .sub rfl (by simp) (by simp) ?_
    obtain ⟨v, h1, h2⟩ := arith_ok (P := P) (s := binOp .sub ty) (vo2_run e) (fun k y z w => ⟨_, by rw [binOp_sub]; rfl⟩)
      (fun k a b w ha hb => ⟨Nat.mod_lt _ (md_pos k), by rw [binOp_sub]; show Result.ok (Value.int k (k.wrap (k.wrap a - k.wrap b))) w = _; rw [sub_ok k a b hb]⟩)
    exact ⟨v, h1, h2.ok⟩
  case mul =>
    refine out .mul rfl (by simp) (by simp) ?_
    obtain ⟨v, h1, h2⟩ := arith_ok (P := P) (s := binOp .mul ty) (vo2_run e) (fun k y z w => ⟨_, by rw [binOp_mul]; rfl⟩)
      (fun k a b w ha hb => ⟨Nat.mod_lt _ (md_pos k), by rw [binOp_mul]; show Result.ok (Value.int k (k.wrap (k.wrap a * k.wrap b))) w = _; rw [mul_ok]; rfl⟩)
    exact ⟨v, h1, h2.ok⟩
  case and =>
    refine out .and rfl (by simp) (by simp) ?_
    obtain ⟨v, h1, h2⟩ := arith_ok (P := P) (s := binOp .and ty) (vo2_run e) (fun k y z w => by rw [binOp_and]; exact intBits_ui (.inl rfl))
      (fun k a b w ha hb => ⟨land_lt ha, by rw [binOp_and]; show Result.ok (Value.int k (k.wrap ((BitVec.ofInt k.bits (k.wrap a) &&& BitVec.ofInt k.bits (k.wrap b)).toNat : Nat))) w = _; rw [bits_and k ha hb]⟩)
    exact ⟨v, h1, h2.ok⟩
  case or =>
    refine out .or rfl (by simp) (by simp) ?_
    obtain ⟨v, h1, h2⟩ := arith_ok (P := P) (s := binOp .or ty) (vo2_run e) (fun k y z w => by rw [binOp_or]; exact intBits_ui (.inr (.inl rfl)))
      (fun k a b w ha hb => ⟨lor_lt ha hb, by rw [binOp_or]; show Result.ok (Value.int k (k.wrap ((BitVec.ofInt k.bits (k.wrap a) ||| BitVec.ofInt k.bits (k.wrap b)).toNat : Nat))) w = _; rw [bits_or k ha hb]⟩)
    exact ⟨v, h1, h2.ok⟩
  case xor =>
    refine out .xor rfl (by simp) (by simp) ?_
    obtain ⟨v, h1, h2⟩ := xorI_ok (P := P) (ty := ty) (vo2_run e)
    exact ⟨v, h1, h2.ok⟩
  case andNot =>
    refine out .andNot rfl (by simp) (by simp) ?_
    obtain ⟨v, h1, h2⟩ := arith_ok (P := P) (s := binOp .andNot ty) (vo2_run e) (fun k y z w => by rw [binOp_andNot]; exact intBits_ui (.inr (.inr (.inr rfl))))
      (fun k a b w ha hb => ⟨land_lt ha, by rw [binOp_andNot]; show Result.ok (Value.int k (k.wrap ((BitVec.ofInt k.bits (k.wrap a) &&& ~~~ BitVec.ofInt k.bits (k.wrap b)).toNat : Nat))) w = _; rw [bits_andNot k ha hb]⟩)
    exact ⟨v, h1, h2.ok⟩
  case shl =>
    refine out .shl rfl (by simp) (by simp) ?_
    obtain ⟨v, h1, h2⟩ := shl_ok (P := P) (ty := ty) (vo2_run e)
    exact ⟨v, h1, h2.ok⟩
  case shr =>
    refine out .shr rfl (by simp) (by simp) ?_
    obtain ⟨v, h1, h2⟩ := shr_ok (P := P) (ty := ty) (vo2_run e)
    exact ⟨v, h1, h2.ok⟩
  case quo =>
    refine out .quo rfl (by simp) (by simp) ?_
    obtain ⟨v, h1, h2⟩ := divs_ok (P := P) (s := binOp .quo ty) (vo2_run e)
      (fun k a b w ha hb ea eb hp => ⟨Nat.lt_of_le_of_lt (Nat.div_le_self a b) ha, by
        rw [binOp_quo, ea, eb]
        simp only [Op.intDiv]
        rw [if_neg (by omega)]
        show Result.ok (Value.int k (k.wrap (Int.tdiv a b))) w = .ok (Value.int k (k.wrap ((a / b : Nat) : Int))) w
        rw [Int.ofNat_tdiv]⟩)
    exact ⟨v, h1, h2.ok⟩
  case rem =>
    refine out .rem rfl (by simp) (by simp) ?_
    obtain ⟨v, h1, h2⟩ := remI_ok (P := P) (ty := ty) (vo2_run e)
    exact ⟨v, h1, h2.ok⟩
  case lss =>
    refine out .lss rfl (by simp) (by simp) ?_
    refine opCmp_ok e (fun k y z w => ⟨_, by rw [binOp_lss]; rfl⟩) (fun k a b w ha hb => ?_) (fun a b w => ?_) (fun k m => .inr fun a b h1 h2 => by simp only [Nat.blt_eq] at h2 ⊢; omega)
    · rw [binOp_lss]; show Result.ok (Value.bool (decide (k.wrap a < k.wrap b))) w = _; have e0 : decide (k.wrap a < k.wrap b) = Nat.blt (sx k a) (sx k b) := (by rw [Bool.eq_iff_iff, decide_eq_true_iff, Nat.blt_eq]; exact cmp_lt ha hb); rw [e0]
    · rw [binOp_string_lss, toB_toList, toB_toList, lless_eq]; rfl
  case leq =>
    refine out .leq rfl (by simp) (by simp) ?_
    refine opCmp_ok e (fun k y z w => ⟨_, by rw [binOp_leq]; rfl⟩) (fun k a b w ha hb => ?_) (fun a b w => ?_) (fun k m => .inr fun a b h1 h2 => by simp only [Nat.ble_eq] at h2 ⊢; omega)
    · rw [binOp_leq]; show Result.ok (Value.bool (decide (k.wrap a ≤ k.wrap b))) w = _; have e0 : decide (k.wrap a ≤ k.wrap b) = Nat.ble (sx k a) (sx k b) := (by rw [Bool.eq_iff_iff, decide_eq_true_iff, Nat.ble_eq]; exact cmp_le ha hb); rw [e0]
    · rw [toB_toList, toB_toList, lless_eq, ← toB_toList, ← toB_toList, leq_toB]; simp only [binOp, Op.stringOp]; cases Op.bytesLess a.toList b.toList <;> cases (a.toList == b.toList) <;> rfl
  case gtr =>
    refine out .gtr rfl (by simp) (by simp) ?_
    refine opCmp_ok e (fun k y z w => ⟨_, by rw [binOp_gtr]; rfl⟩) (fun k a b w ha hb => ?_) (fun a b w => ?_) (fun k m => .inl fun a b h1 h2 => by simp only [Nat.blt_eq] at h2 ⊢; omega)
    · rw [binOp_gtr]; show Result.ok (Value.bool (decide (k.wrap a > k.wrap b))) w = _; have e0 : decide (k.wrap a > k.wrap b) = Nat.blt (sx k b) (sx k a) := (by rw [Bool.eq_iff_iff, decide_eq_true_iff, Nat.blt_eq]; exact cmp_lt hb ha); rw [e0]
    · rw [toB_toList, toB_toList, lless_eq, ← toB_toList, ← toB_toList, leq_toB]; simp only [binOp, Op.stringOp]; cases Op.bytesLess a.toList b.toList <;> cases (a.toList == b.toList) <;> rfl
  case geq =>
    refine out .geq rfl (by simp) (by simp) ?_
    refine opCmp_ok e (fun k y z w => ⟨_, by rw [binOp_geq]; rfl⟩) (fun k a b w ha hb => ?_) (fun a b w => ?_) (fun k m => .inl fun a b h1 h2 => by simp only [Nat.ble_eq] at h2 ⊢; omega)
    · rw [binOp_geq]; show Result.ok (Value.bool (decide (k.wrap a ≥ k.wrap b))) w = _; have e0 : decide (k.wrap a ≥ k.wrap b) = Nat.ble (sx k b) (sx k a) := (by rw [Bool.eq_iff_iff, decide_eq_true_iff, Nat.ble_eq]; exact cmp_le hb ha); rw [e0]
    · rw [toB_toList, toB_toList, lless_eq]; simp only [binOp, Op.stringOp]; cases Op.bytesLess a.toList b.toList <;> rfl
end
end Go.Proofs.YtbpdomemnecioaaGreatDoor.Ev
