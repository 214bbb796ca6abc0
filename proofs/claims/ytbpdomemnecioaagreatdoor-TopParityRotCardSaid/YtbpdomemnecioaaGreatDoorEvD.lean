/- The evaluator's numbers against the model's. Own text. No condition of a claim. -/
import Derived.Test.YtbpdomemnecioaaGreatDoorEvC
import Derived.Laws.Sem
import Derived.Laws.Shifts
import Derived.Laws.Strings
namespace Go.Proofs.YtbpdomemnecioaaGreatDoor.Ev
open Go
set_option linter.unusedVariables false
set_option linter.unusedSimpArgs false
noncomputable section

theorem wrap_emod (k : IntKind) (z : Int) : k.wrap z % (md k : Int) = z % (md k : Int) := by
  cases k <;> simp only [IntKind.wrap, IntKind.bits, IntKind.signed, md] <;> simp <;> (try split) <;> omega
theorem wrap_congr {k : IntKind} {y z : Int} (h : y % (md k : Int) = z % (md k : Int)) : k.wrap y = k.wrap z := by
  have e : (2 ^ k.bits : Int) = (md k : Int) := by rw [md_eq]; simp
  unfold IntKind.wrap
  simp only [e, h]
theorem wrap_mod (k : IntKind) (n : Nat) : k.wrap ((n % md k : Nat) : Int) = k.wrap n := wrap_congr (by simp)
theorem wrap_inj {k : IntKind} {a b : Nat} (ha : a < md k) (hb : b < md k) (h : k.wrap a = k.wrap b) : a = b := by
  have h1 := wrap_emod k a
  have h2 := wrap_emod k b
  rw [h] at h1
  rw [h1] at h2
  have h3 : ((a % md k : Nat) : Int) = ((b % md k : Nat) : Int) := by simpa using h2
  have h4 : a % md k = b % md k := by omega
  rwa [Nat.mod_eq_of_lt ha, Nat.mod_eq_of_lt hb] at h4
theorem wrap_sx {k : IntKind} {a : Nat} (ha : a < md k) : k.wrap a = (sx k a : Int) - (hf k : Int) := by
  have e : sx k a = (a + hf k) % md k := rfl
  rw [e]
  cases k <;> simp only [IntKind.wrap, IntKind.bits, IntKind.signed, md, hf] at * <;> simp <;> (try split) <;> omega
theorem wrap_nn {k : IntKind} {a : Nat} (ha : a < md k) (h : hf k ≤ sx k a) : k.wrap a = (a : Int) := by
  have e : sx k a = (a + hf k) % md k := rfl
  have h1 := wrap_sx ha
  rw [h1]
  rw [e] at h ⊢
  cases k <;> simp only [md, hf] at * <;> omega
theorem wrap_range {k : IntKind} {z : Int} : k.wrap (k.wrap z) = k.wrap z := wrap_congr (wrap_emod k z)

theorem add_ok (k : IntKind) (a b : Nat) : k.wrap (k.wrap a + k.wrap b) = k.wrap (((a + b) % md k : Nat) : Int) := by
  rw [wrap_mod]
  refine wrap_congr ?_
  rw [Int.add_emod, wrap_emod, wrap_emod, ← Int.add_emod]; simp
theorem mul_ok (k : IntKind) (a b : Nat) : k.wrap (k.wrap a * k.wrap b) = k.wrap (((a * b) % md k : Nat) : Int) := by
  rw [wrap_mod]
  refine wrap_congr ?_
  rw [Int.mul_emod, wrap_emod, wrap_emod, ← Int.mul_emod]; simp
theorem sub_ok (k : IntKind) (a b : Nat) (hb : b < md k) : k.wrap (k.wrap a - k.wrap b) = k.wrap ((subN k a b : Nat) : Int) := by
  have e : subN k a b = (a + (md k - b)) % md k := rfl
  rw [e, wrap_mod]
  refine wrap_congr ?_
  rw [Int.sub_emod, wrap_emod, wrap_emod, ← Int.sub_emod]
  have : ((a + (md k - b) : Nat) : Int) = (a : Int) - b + md k := by omega
  rw [this, Int.add_emod_right]
theorem ofInt_wrap (k : IntKind) (a : Nat) : BitVec.ofInt k.bits (k.wrap a) = BitVec.ofNat k.bits a := by
  apply BitVec.eq_of_toNat_eq
  have h := wrap_emod k a
  rw [md_eq] at h
  rw [BitVec.toNat_ofInt, BitVec.toNat_ofNat, h]
  rfl
theorem bits_and (k : IntKind) {a b : Nat} (ha : a < md k) (hb : b < md k) : (BitVec.ofInt k.bits (k.wrap a) &&& BitVec.ofInt k.bits (k.wrap b)).toNat = Nat.land a b := by
  rw [ofInt_wrap, ofInt_wrap, BitVec.toNat_and, BitVec.toNat_ofNat, BitVec.toNat_ofNat, ← md_eq, Nat.mod_eq_of_lt ha, Nat.mod_eq_of_lt hb]; rfl
theorem bits_or (k : IntKind) {a b : Nat} (ha : a < md k) (hb : b < md k) : (BitVec.ofInt k.bits (k.wrap a) ||| BitVec.ofInt k.bits (k.wrap b)).toNat = Nat.lor a b := by
  rw [ofInt_wrap, ofInt_wrap, BitVec.toNat_or, BitVec.toNat_ofNat, BitVec.toNat_ofNat, ← md_eq, Nat.mod_eq_of_lt ha, Nat.mod_eq_of_lt hb]; rfl
theorem bits_xor (k : IntKind) {a b : Nat} (ha : a < md k) (hb : b < md k) : (BitVec.ofInt k.bits (k.wrap a) ^^^ BitVec.ofInt k.bits (k.wrap b)).toNat = Nat.xor a b := by
  rw [ofInt_wrap, ofInt_wrap, BitVec.toNat_xor, BitVec.toNat_ofNat, BitVec.toNat_ofNat, ← md_eq, Nat.mod_eq_of_lt ha, Nat.mod_eq_of_lt hb]; rfl
theorem bits_not (k : IntKind) {b : Nat} (hb : b < md k) : (~~~ BitVec.ofInt k.bits (k.wrap b)).toNat = md k - 1 - b := by
  rw [ofInt_wrap, BitVec.toNat_not, BitVec.toNat_ofNat, ← md_eq, Nat.mod_eq_of_lt hb]
theorem xor_all (k : IntKind) {b : Nat} (hb : b < md k) : Nat.xor b (md k - 1) = md k - 1 - b := by
  have h1 := bits_not k hb
  have h2 : ~~~ BitVec.ofNat k.bits b = BitVec.ofNat k.bits b ^^^ BitVec.allOnes k.bits := by simp
  rw [ofInt_wrap, h2, BitVec.toNat_xor, BitVec.toNat_ofNat, BitVec.toNat_allOnes, ← md_eq, Nat.mod_eq_of_lt hb] at h1
  exact h1
theorem bits_andNot (k : IntKind) {a b : Nat} (ha : a < md k) (hb : b < md k) : (BitVec.ofInt k.bits (k.wrap a) &&& ~~~ BitVec.ofInt k.bits (k.wrap b)).toNat = Nat.land a (Nat.xor b (Nat.sub (md k) 1)) := by
  rw [BitVec.toNat_and, bits_not k hb, ofInt_wrap, BitVec.toNat_ofNat, ← md_eq, Nat.mod_eq_of_lt ha]
  show _ = Nat.land a (Nat.xor b (md k - 1))
  rw [xor_all k hb]; rfl
theorem land_lt {k : IntKind} {a b : Nat} (ha : a < md k) : Nat.land a b < md k := Nat.lt_of_le_of_lt (Nat.and_le_left (n := a) (m := b)) ha
theorem lor_lt {k : IntKind} {a b : Nat} (ha : a < md k) (hb : b < md k) : Nat.lor a b < md k := by
  rw [md_eq] at *; exact Nat.or_lt_two_pow ha hb
theorem xor_lt {k : IntKind} {a b : Nat} (ha : a < md k) (hb : b < md k) : Nat.xor a b < md k := by
  rw [md_eq] at *; exact Nat.xor_lt_two_pow ha hb

/-- What an operation of two values gives. -/
def Gv2 (P : Program) (s : Value → Value → Sem Value) (x y v : AV) : Prop := ∀ (ρ : Ren) (x' y' : Value) (w : World), VR ρ x x' → VR ρ y y' → ∃ v', (s x' y').run P w = .ok v' w ∧ VR ρ v v'
theorem VR_i {ρ : Ren} {k : IntKind} {n : Nat} {v : Value} (h : VR ρ (.i k n) v) : n < md k ∧ v = .int k (k.wrap n) := by simpa only [VR] using h
theorem VR_mki {ρ : Ren} {k : IntKind} {n : Nat} (h : n < md k) : VR ρ (.i k n) (.int k (k.wrap n)) := by simp only [VR]; exact ⟨h, trivial⟩
/-- Whatever a number is, it is one of its kind. -/
theorem VR_int {ρ : Ren} {k : IntKind} {x : AV} {v : Value} (h : x = .ui k ∨ ∃ a, x = .i k a) (hv : VR ρ x v) : ∃ n : Int, v = .int k (k.wrap n) := by
  rcases h with rfl | ⟨a, rfl⟩
  · simpa only [VR] using hv
  · exact ⟨a, (VR_i hv).2⟩
theorem VR_mkui {ρ : Ren} {k : IntKind} {z : Int} : VR ρ (.ui k) (.int k (k.wrap z)) := by simp only [VR]; exact ⟨z, rfl⟩

theorem arith_ok {P : Program} {s : Value → Value → Sem Value} {g : IntKind → Nat → Nat → Nat} {x y : AV} {f : AV → R} (h : (arith g).run x y f = true)
    (hs : ∀ k (y z : Int) w, ∃ q : Int, (s (.int k (k.wrap y)) (.int k (k.wrap z))).run P w = .ok (.int k (k.wrap q)) w)
    (hg : ∀ k a b w, a < md k → b < md k → g k a b < md k ∧ (s (.int k (k.wrap a)) (.int k (k.wrap b))).run P w = .ok (.int k (k.wrap (g k a b : Nat))) w) :
    ∃ v, f v = true ∧ Gv2 P s x y v := by
  rcases onII_true (show onII (fun k => f (.ui k)) (fun k a b => fi k f (g k a b)) x y = true from h) with ⟨k, a, b, rfl, rfl, h'⟩ | ⟨k, hx, hy, h'⟩
  · refine ⟨_, h', fun ρ x' y' w h1 h2 => ?_⟩
    obtain ⟨ha, rfl⟩ := VR_i h1
    obtain ⟨hb, rfl⟩ := VR_i h2
    obtain ⟨h3, h4⟩ := hg k a b w ha hb
    exact ⟨_, h4, VR_mki h3⟩
  · refine ⟨_, h', fun ρ x' y' w h1 h2 => ?_⟩
    obtain ⟨n, rfl⟩ := VR_int hx h1
    obtain ⟨m, rfl⟩ := VR_int hy h2
    obtain ⟨q, hq⟩ := hs k n m w
    exact ⟨_, hq, VR_mkui⟩
theorem cmp_ok {P : Program} {s : Value → Value → Sem Value} {g : IntKind → Nat → Nat → Bool} {x y : AV} {f : AV → R} (h : cmpI g x y f = true)
    (hs : ∀ k (y z : Int) w, ∃ q : Bool, (s (.int k (k.wrap y)) (.int k (k.wrap z))).run P w = .ok (.bool q) w)
    (hg : ∀ k a b w, a < md k → b < md k → (s (.int k (k.wrap a)) (.int k (k.wrap b))).run P w = .ok (.bool (g k a b)) w) :
    ∃ v, f v = true ∧ Gv2 P s x y v := by
  rcases onII_true (show onII (fun _ => f .ub) (fun k a b => f (.b (g k a b))) x y = true from h) with ⟨k, a, b, rfl, rfl, h'⟩ | ⟨k, hx, hy, h'⟩
  · refine ⟨_, h', fun ρ x' y' w h1 h2 => ?_⟩
    obtain ⟨ha, rfl⟩ := VR_i h1
    obtain ⟨hb, rfl⟩ := VR_i h2
    exact ⟨_, hg k a b w ha hb, by simp only [VR]⟩
  · refine ⟨_, h', fun ρ x' y' w h1 h2 => ?_⟩
    obtain ⟨n, rfl⟩ := VR_int hx h1
    obtain ⟨m, rfl⟩ := VR_int hy h2
    obtain ⟨q, hq⟩ := hs k n m w
    exact ⟨_, hq, by simp only [VR]; exact ⟨q, rfl⟩⟩
theorem VR_bx {ρ : Ren} {n c : Nat} {v : Value} (h : VR ρ (.bx n c) v) : ∃ l, ρ 0 = some l ∧ 0 < l.B ∧ l.B < 256 ∧ n < 256 ∧ v = .int .u8 (bxv l.B n c : Nat) := by simpa only [VR] using h
theorem VR_ne {ρ : Ren} {k : IntKind} {n : Nat} {v : Value} (h : VR ρ (.ne k n) v) : ∃ z : Int, v = .int k (k.wrap z) ∧ k.wrap z ≠ k.wrap n := by simpa only [VR] using h
theorem VR_rg {ρ : Ren} {k : IntKind} {lo n : Nat} {v : Value} (h : VR ρ (.rg k lo n) v) : ∃ z : Int, v = .int k (k.wrap z) ∧ (n = 0 ∨ (lo : Int) ≤ k.wrap z + hf k ∧ k.wrap z + hf k < lo + n) := by simpa only [VR] using h
theorem bxv_0 (x c : Nat) : bxv x 0 c = (x + c) % 256 := by unfold bxv; exact Nat.zero_xor _
theorem bxv_00 {x : Nat} (h1 : 0 < x) (h2 : x < 256) : bxv x 0 0 ≠ 0 := by
  rw [bxv_0]
  omega
theorem bxv_lt {n : Nat} (x c : Nat) (h : n < 256) : bxv x n c < 256 := Nat.xor_lt_two_pow (n := 8) h (Nat.mod_lt _ (by decide))
theorem wrap_u8n {n : Nat} (h : n < 256) : IntKind.u8.wrap (n : Int) = (n : Int) := by rw [IntKind.wrap_u8]; omega
theorem sx_lt (k : IntKind) (a : Nat) : sx k a < md k := Nat.mod_lt _ (md_pos k)
theorem sx_sx {k : IntKind} {a : Nat} (h : a < md k) : sx k (sx k a) = a := by
  show ((a + hf k) % md k + hf k) % md k = a
  cases k <;> simp only [md, hf] at h ⊢ <;> omega
/-- A number, by its place in its kind's order. -/
theorem wrap_place {k : IntKind} {z : Int} {q : Nat} (h : k.wrap z + hf k = (q : Int)) : q < md k ∧ k.wrap z = k.wrap ((sx k q : Nat) : Int) := by
  have hp := md_pos k
  have h1 : 0 ≤ z % (md k : Int) := Int.emod_nonneg _ (by omega)
  have h2 : z % (md k : Int) < md k := Int.emod_lt_of_pos _ (by omega)
  obtain ⟨a, ha⟩ : ∃ a : Nat, z % (md k : Int) = (a : Int) := ⟨(z % (md k : Int)).toNat, by omega⟩
  have hlt : a < md k := by omega
  have hw : k.wrap z = k.wrap (a : Int) := wrap_congr (by rw [← ha, Int.emod_emod])
  have hs := wrap_sx hlt
  have hq : q = sx k a := by omega
  subst hq
  exact ⟨sx_lt k a, by rw [sx_sx hlt]; exact hw⟩
theorem wrap_id {k : IntKind} {u : Int} (h0 : 0 ≤ u + hf k) (h1 : u + hf k < md k) : k.wrap u = u := by
  obtain ⟨q, hq⟩ : ∃ q : Nat, u + hf k = (q : Int) := ⟨(u + hf k).toNat, by omega⟩
  have hs := wrap_sx (sx_lt k q)
  rw [sx_sx (show q < md k by omega)] at hs
  have hu : u = k.wrap ((sx k q : Nat) : Int) := by omega
  have := wrap_range (k := k) (z := ((sx k q : Nat) : Int))
  rw [← hu] at this
  exact this
theorem beqB_eq (x y : Bool) : beqB x y = (x == y) := by cases x <;> cases y <;> rfl
theorem cmpR_ok {P : Program} {s : Value → Value → Sem Value} {g : IntKind → Nat → Nat → Bool} {x y : AV} {f : AV → R} (h : cmpR g x y f = true)
    (hs : ∀ k (y z : Int) w, ∃ q : Bool, (s (.int k (k.wrap y)) (.int k (k.wrap z))).run P w = .ok (.bool q) w)
    (hg : ∀ k a b w, a < md k → b < md k → (s (.int k (k.wrap a)) (.int k (k.wrap b))).run P w = .ok (.bool (g k a b)) w)
    (hm : ∀ k m, (∀ a b, sx k a ≤ sx k b → g k a m = true → g k b m = true) ∨ (∀ a b, sx k a ≤ sx k b → g k b m = true → g k a m = true)) :
    ∃ v, f v = true ∧ Gv2 P s x y v := by
  cases x <;> try exact cmp_ok (show cmpI g _ y f = true from h) hs hg
  case rg k lo n =>
    obtain ⟨j, m, rfl, h1⟩ := onI_true (show onI (fun j m => keq j k (gd (Nat.blt 0 n) (gd (Nat.ble (lo + n) (md k)) (gd (beqB (g k (sx k lo) m) (g k (sx k (lo + n - 1)) m)) (f (.b (g k (sx k lo) m))))))) y = true from h)
    obtain ⟨hjk, h2⟩ := keq_true h1
    subst hjk
    obtain ⟨g1, h3⟩ := gd_true h2
    obtain ⟨g2, h4⟩ := gd_true h3
    obtain ⟨g3, h5⟩ := gd_true h4
    have g1 : 0 < n := by simpa [Nat.blt_eq] using g1
    have g2 : lo + n ≤ md j := Nat.le_of_ble_eq_true g2
    have g3 : g j (sx j lo) m = g j (sx j (lo + n - 1)) m := by
      rw [beqB_eq] at g3; exact eq_of_beq g3
    refine ⟨_, h5, fun ρ x' y' w q1 q2 => ?_⟩
    obtain ⟨z, rfl, hz⟩ := VR_rg q1
    obtain ⟨hmm, rfl⟩ := VR_i q2
    have hz := hz.resolve_left (by omega)
    obtain ⟨q, hq⟩ : ∃ q : Nat, j.wrap z + hf j = (q : Int) := ⟨(j.wrap z + hf j).toNat, by omega⟩
    obtain ⟨hqm, hw⟩ := wrap_place hq
    have e1 : sx j (sx j lo) = lo := sx_sx (by omega)
    have e2 : sx j (sx j (lo + n - 1)) = lo + n - 1 := sx_sx (by omega)
    have e3 : sx j (sx j q) = q := sx_sx hqm
    have key : g j (sx j q) m = g j (sx j lo) m := by
      rcases hm j m with hm | hm
      · cases hb : g j (sx j lo) m with
        | true => exact hm _ _ (by rw [e1, e3]; omega) hb
        | false =>
          cases hc : g j (sx j q) m with
          | false => rfl
          | true =>
            have := hm (sx j q) (sx j (lo + n - 1)) (by rw [e2, e3]; omega) hc
            rw [← g3, hb] at this
            exact absurd this (by decide)
      · cases hb : g j (sx j lo) m with
        | true => exact hm (sx j q) (sx j (lo + n - 1)) (by rw [e2, e3]; omega) (by rw [← g3]; exact hb)
        | false =>
          cases hc : g j (sx j q) m with
          | false => rfl
          | true =>
            have := hm (sx j lo) (sx j q) (by rw [e1, e3]; omega) hc
            rw [hb] at this
            exact absurd this (by decide)
    rw [hw]
    exact ⟨_, hg j (sx j q) m w (sx_lt j q) hmm, by rw [key]; simp only [VR]⟩
theorem divs_ok {P : Program} {s : Value → Value → Sem Value} {g : Nat → Nat → Nat} {x y : AV} {f : AV → R} (h : (divs g).run x y f = true)
    (hg : ∀ k a b w, a < md k → b < md k → k.wrap a = a → k.wrap b = b → 0 < b → g a b < md k ∧ (s (.int k (k.wrap a)) (.int k (k.wrap b))).run P w = .ok (.int k (k.wrap (g a b : Nat))) w) :
    ∃ v, f v = true ∧ Gv2 P s x y v := by
  rcases onII_true (show onII (fun _ => false) (fun k a b => gd (Nat.ble (hf k) (sx k a)) (gd (Nat.ble (hf k) (sx k b)) (gd (Nat.blt 0 b) (fi k f (g a b))))) x y = true from h) with ⟨k, a, b, rfl, rfl, h'⟩ | ⟨k, hx, hy, h'⟩
  · obtain ⟨h1, h'⟩ := gd_true h'
    obtain ⟨h2, h'⟩ := gd_true h'
    obtain ⟨h3, h'⟩ := gd_true h'
    refine ⟨_, h', fun ρ x' y' w q1 q2 => ?_⟩
    obtain ⟨ha, rfl⟩ := VR_i q1
    obtain ⟨hb, rfl⟩ := VR_i q2
    obtain ⟨h3, h4⟩ := hg k a b w ha hb (wrap_nn ha (Nat.le_of_ble_eq_true h1)) (wrap_nn hb (Nat.le_of_ble_eq_true h2)) (by simpa [Nat.blt_eq] using h3)
    exact ⟨_, h4, VR_mki h3⟩
  · exact (Bool.false_ne_true h').elim
theorem shl_ok {P : Program} {ty : TypeId} {x y : AV} {f : AV → R} (h : shl2.run x y f = true) : ∃ v, f v = true ∧ Gv2 P (binOp .shl ty) x y v := by
  obtain ⟨k, a, rfl, h⟩ := onI_true (show onI (fun k a => onI (fun j b => gd (Nat.ble (hf j) (sx j b)) (gd (Nat.blt b 64) (fi k f (Nat.mod (Nat.shiftLeft a b) (md k))))) y) x = true from h)
  obtain ⟨j, b, rfl, h⟩ := onI_true h
  obtain ⟨h1, h⟩ := gd_true h
  obtain ⟨h2, h⟩ := gd_true h
  refine ⟨_, h, fun ρ x' y' w q1 q2 => ?_⟩
  obtain ⟨ha, rfl⟩ := VR_i q1
  obtain ⟨hb, rfl⟩ := VR_i q2
  have e : j.wrap b = (b : Int) := wrap_nn hb (Nat.le_of_ble_eq_true h1)
  refine ⟨_, ?_, VR_mki (Nat.mod_lt _ (md_pos k))⟩
  show (Op.shift .shl k (k.wrap a) j (j.wrap b)).run P w = _
  rw [e, shift_shl_any k j _ _ (by omega)]
  show Result.ok (Value.int k (k.wrap (k.wrap a * 2 ^ min (Int.toNat (b : Int)) k.bits))) w = .ok (.int k (k.wrap ((a <<< b % md k : Nat) : Int))) w
  rw [wrap_mod]
  congr 2
  refine wrap_congr ?_
  rw [Int.mul_emod, wrap_emod, ← Int.mul_emod, Int.toNat_natCast, Nat.shiftLeft_eq]
  by_cases hle : b ≤ k.bits
  · rw [Nat.min_eq_left hle]; simp
  · rw [Nat.min_eq_right (by omega)]
    have e1 : (2 ^ k.bits : Int) = (md k : Int) := by rw [md_eq]; simp
    have e2 : (2 ^ b : Nat) = md k * 2 ^ (b - k.bits) := by rw [md_eq, ← Nat.pow_add]; congr 1; omega
    have e3 : a * 2 ^ b = md k * (a * 2 ^ (b - k.bits)) := by rw [e2, Nat.mul_left_comm]
    rw [e1, e3]
    simp
theorem shr_ok {P : Program} {ty : TypeId} {x y : AV} {f : AV → R} (h : shr2.run x y f = true) : ∃ v, f v = true ∧ Gv2 P (binOp .shr ty) x y v := by
  obtain ⟨k, a, rfl, h⟩ := onI_true (show onI (fun k a => onI (fun j b => gd (Nat.ble (hf k) (sx k a)) (gd (Nat.ble (hf j) (sx j b)) (gd (Nat.blt b 64) (fi k f (Nat.shiftRight a b))))) y) x = true from h)
  obtain ⟨j, b, rfl, h⟩ := onI_true h
  obtain ⟨h0, h⟩ := gd_true h
  obtain ⟨h1, h⟩ := gd_true h
  obtain ⟨h2, h⟩ := gd_true h
  refine ⟨_, h, fun ρ x' y' w q1 q2 => ?_⟩
  obtain ⟨ha, rfl⟩ := VR_i q1
  obtain ⟨hb, rfl⟩ := VR_i q2
  have e : j.wrap b = (b : Int) := wrap_nn hb (Nat.le_of_ble_eq_true h1)
  have e0 : k.wrap a = (a : Int) := wrap_nn ha (Nat.le_of_ble_eq_true h0)
  have hle : a >>> b ≤ a := by rw [Nat.shiftRight_eq_div_pow]; exact Nat.div_le_self _ _
  refine ⟨_, ?_, VR_mki (Nat.lt_of_le_of_lt hle ha)⟩
  show (Op.shift .shr k (k.wrap a) j (j.wrap b)).run P w = _
  rw [e, e0, shift_shr_any k j _ _ (by omega)]
  have hw : k.wrap ((a >>> b : Nat) : Int) = ((a >>> b : Nat) : Int) := by
    refine wrap_nn (Nat.lt_of_le_of_lt hle ha) ?_
    have h4 : hf k ≤ (a + hf k) % md k := Nat.le_of_ble_eq_true h0
    show hf k ≤ (a >>> b + hf k) % md k
    clear e e0 h0 h1 hb q1 q2 h h2
    generalize a >>> b = c at hle ⊢
    cases k <;> simp only [md, hf] at ha h4 ⊢ <;> omega
  show Result.ok (Value.int k ((a : Int) / 2 ^ min (Int.toNat (b : Int)) k.bits)) w = .ok (.int k (k.wrap ((a >>> b : Nat) : Int))) w
  rw [hw, Int.toNat_natCast, Nat.shiftRight_eq_div_pow]
  congr 2
  by_cases hle : b ≤ k.bits
  · rw [Nat.min_eq_left hle]; simp
  · rw [Nat.min_eq_right (by omega)]
    have e1 : (2 ^ k.bits : Int) = (md k : Int) := by rw [md_eq]; simp
    have hp : md k ≤ 2 ^ b := by rw [md_eq]; exact Nat.pow_le_pow_right (by decide) (by omega)
    rw [e1, Int.ediv_eq_zero_of_lt (by omega) (by omega), Nat.div_eq_of_lt (by omega)]; rfl
end
end Go.Proofs.YtbpdomemnecioaaGreatDoor.Ev
