/- Plain facts on the printed functions of package number: what Put writes, what Get reads. No walk. -/
import Derived.Test.YtfojeegepfjbiaaWMore
import Derived.Test.YtfojeegepfjbiaaWWords
import Derived.Test.YtfojeegepfjbiaaWLast
import Derived.Laws.BitsLemmas
import Derived.RowKit
namespace Go.Proofs.Ytfojeegepfjbiaa.Nm
open Go.RowKit Go.Proofs.YtfojeegepfjbiaaW.PrintWords Go.Proofs.YtfojeegepfjbiaaW.PrintLast Go.Proofs.YtfojeegepfjbiaaW.PrintMore

theorem wrap64_id {n : Int} (h : -9223372036854775808 ≤ n) (h' : n < 9223372036854775808) : wrap64 n = n := by
  unfold wrap64; omega
theorem u64_wrap (n : Int) : IntKind.u64.wrap n = n % 18446744073709551616 := by
  simp [IntKind.wrap, IntKind.bits, IntKind.signed]
theorem u64_id {n : Int} (h : 0 ≤ n) (h' : n < 18446744073709551616) : IntKind.u64.wrap n = n := by
  rw [u64_wrap]; omega
theorem wraps_u64 (n : Int) (h₀ : 0 ≤ n) (h₁ : n < 2 ^ 64) : IntKind.u64.wrap n = n := u64_id h₀ (by simpa using h₁)

theorem or128_fin : ∀ b : Fin 256, Go.bits .or .u8 ((b.val : Nat) : Int) 128 = ((b.val : Nat) : Int) % 128 + 128 := by decide +kernel
theorem or128 {x : Int} (h : 0 ≤ x) (h' : x < 256) : Go.bits .or .u8 x 128 = x % 128 + 128 := by
  obtain ⟨n, rfl⟩ := Int.eq_ofNat_of_zero_le h
  exact or128_fin ⟨n, by omega⟩
theorem and127_fin : ∀ b : Fin 256, Go.bits .and .u8 ((b.val : Nat) : Int) 127 = ((b.val : Nat) : Int) % 128 := by decide +kernel
theorem and127 {x : Int} (h : 0 ≤ x) (h' : x < 256) : Go.bits .and .u8 x 127 = x % 128 := by
  obtain ⟨n, rfl⟩ := Int.eq_ofNat_of_zero_le h
  exact and127_fin ⟨n, by omega⟩

theorem bits_or_comm (k : IntKind) (x y : Int) : Go.bits .or k x y = Go.bits .or k y x := by
  simp only [Go.bits, BitVec.or_comm]

/-- The bytes of a number: seven bits each, the lowest first. -/
def enc (n : Nat) : List Int := if n < 128 then [(n : Int)] else ((n % 128 + 128 : Nat) : Int) :: enc (n / 128)
termination_by n
decreasing_by omega

theorem enc_small {n : Nat} (h : n < 128) : enc n = [(n : Int)] := by rw [enc, if_pos h]
theorem enc_large {n : Nat} (h : ¬ n < 128) : enc n = ((n % 128 + 128 : Nat) : Int) :: enc (n / 128) := by rw [enc, if_neg h]

/-- Bytes, all of them. -/
def Bys (l : List Int) : Prop := ∀ c ∈ l, 0 ≤ c ∧ c < 256

theorem enc_len (d : Nat) : ∀ n, n < 128 ^ (d + 1) → (enc n).length ≤ d + 1 := by
  induction d with
  | zero => intro n h; rw [enc_small (by simpa using h)]; simp
  | succ d ih =>
    intro n h
    by_cases hs : n < 128
    · rw [enc_small hs]; simp
    · rw [enc_large hs]
      have := ih (n / 128) (by rw [Nat.div_lt_iff_lt_mul (by decide)]; rwa [Nat.pow_succ] at h)
      simp; omega
theorem enc_pos (n : Nat) : 0 < (enc n).length := by
  by_cases hs : n < 128
  · rw [enc_small hs]; simp
  · rw [enc_large hs]; simp
theorem enc_bys (d : Nat) : ∀ n, n < 128 ^ (d + 1) → Bys (enc n) := by
  induction d with
  | zero => intro n h c hc; rw [enc_small (by simpa using h)] at hc; simp at hc h; subst hc; omega
  | succ d ih =>
    intro n h
    by_cases hs : n < 128
    · intro c hc; rw [enc_small hs] at hc; simp at hc; subst hc; omega
    · intro c hc; rw [enc_large hs] at hc
      simp only [List.mem_cons] at hc
      rcases hc with rfl | hc
      · omega
      · exact ih (n / 128) (by rw [Nat.div_lt_iff_lt_mul (by decide)]; rwa [Nat.pow_succ] at h) c hc

/-- How many bytes ahead go on (128 or more). -/
def stop : List Int → Nat
  | [] => 0
  | c :: t => if c > 127 then stop t + 1 else 0
/-- What bytes are worth: seven bits each, the lowest first. -/
def val : List Int → Int
  | [] => 0
  | c :: t => c % 128 + 128 * val t
/-- What Get tells of bytes. -/
def getS (b : List Int) : Int × Int :=
  if stop b < 10 ∧ stop b < b.length then
    (if (0 < stop b ∧ rd b (stop b) = 0) ∨ (stop b = 9 ∧ rd b (stop b) > 1) then (0, 0) else (val (b.take (stop b + 1)), (stop b : Int) + 1))
  else (0, 0)

theorem stop_le (b : List Int) : stop b ≤ b.length := by
  induction b with
  | nil => simp [stop]
  | cons c t ih => simp only [stop]; split <;> simp <;> omega
theorem stop_get (b : List Int) (h : stop b < b.length) : ¬ rd b (stop b) > 127 := by
  induction b with
  | nil => simp at h
  | cons c t ih =>
    simp only [stop] at h ⊢
    split
    · rename_i hc; rw [if_pos hc] at h; simp at h
      have := ih h
      simpa [rd] using this
    · rename_i hc; simpa [rd] using hc
theorem stop_append_all (a t : List Int) (h : ∀ c ∈ a, c > 127) : stop (a ++ t) = a.length + stop t := by
  induction a with
  | nil => simp
  | cons c a ih =>
    simp only [List.cons_append, stop]
    rw [if_pos (h c (by simp)), ih (fun x hx => h x (by simp [hx]))]; simp; omega
theorem stop_take (b : List Int) : ∀ n, stop (b.take n) = min (stop b) n := by
  induction b with
  | nil => intro n; simp [stop]
  | cons c t ih =>
    intro n
    cases n with
    | zero => simp [stop]
    | succ n =>
      simp only [List.take_succ_cons, stop, ih]
      split <;> omega
theorem val_append (a b : List Int) : val (a ++ b) = val a + 128 ^ a.length * val b := by
  induction a with
  | nil => simp [val]
  | cons c a ih =>
    simp only [List.cons_append, val, ih, List.length_cons, Int.pow_succ]
    rw [Int.mul_add, Int.add_assoc, Int.mul_comm (128 ^ a.length) 128, Int.mul_assoc]
theorem val_bd (a : List Int) : 0 ≤ val a ∧ val a < 128 ^ a.length := by
  induction a with
  | nil => simp [val]
  | cons c a ih =>
    simp only [val, List.length_cons, Int.pow_succ]
    omega
theorem rd_append {a : List Int} {c : Int} {t : List Int} : rd (a ++ c :: t) (a.length : Int) = c := by
  unfold rd; simp
theorem rd_take {b : List Int} {n i : Nat} (h : i < n) : rd (b.take n) (i : Int) = rd b (i : Int) := by
  unfold rd
  rw [List.getD_eq_getElem?_getD, List.getD_eq_getElem?_getD, List.getElem?_take_of_lt (by simpa using h)]
theorem pow7 (i : Nat) : (2 : Int) ^ (7 * i) = 128 ^ i := by rw [Int.pow_mul]; rfl
theorem or_shl {acc m : Int} {i : Nat} (hi : i ≤ 9) (h0 : 0 ≤ acc) (h1 : acc < 128 ^ i) (hm : 0 ≤ m) (hb : m * 128 ^ i < 18446744073709551616) :
    Go.bits .or .u64 acc (shl .u64 m (wrap64 (7 * (i : Int)))) = acc + 128 ^ i * m := by
  have hw : wrap64 (7 * (i : Int)) = ((7 * i : Nat) : Int) := by rw [wrap64_id] <;> omega
  have hp : (0 : Int) < 128 ^ i := by rw [← pow7]; exact Int.pow_pos (by decide)
  have hlt : (128 : Int) ^ i < 18446744073709551616 := by
    rw [← pow7]
    have : (2 : Int) ^ (7 * i) ≤ 2 ^ 63 := by exact_mod_cast Nat.pow_le_pow_right (by decide) (by omega)
    have h63 : (2 : Int) ^ 63 = 9223372036854775808 := by decide
    omega
  have hx0 : 0 ≤ m * 128 ^ i := Int.mul_nonneg hm (Int.le_of_lt hp)
  rw [hw]
  unfold shl
  have hmin : min (((7 * i : Nat) : Int).toNat) (IntKind.u64.bits) = 7 * i := by
    have : IntKind.u64.bits = 64 := rfl
    rw [this]; simp; omega
  rw [hmin, pow7, u64_id hx0 hb, bits_or_comm]
  have h64 : (2 : Int) ^ 64 = 18446744073709551616 := by decide
  rw [bits_join .u64 64 (by decide) wraps_u64 (7 * i) (m * 128 ^ i) acc hx0 (by rw [pow7]; exact Int.mul_emod_left _ _) (by rw [h64]; exact hb) h0 (by rw [pow7]; exact h1) (by rw [h64]; omega)]
  rw [Int.mul_comm m, Int.add_comm]
theorem getS_short {b : List Int} (h : ¬ (stop b < 10 ∧ stop b < b.length)) : getS b = (0, 0) := by
  unfold getS; rw [if_neg h]
theorem getS_take (b : List Int) : getS (b.take 10) = getS b := by
  by_cases h : stop b < 10 ∧ stop b < b.length
  · have hs : stop (b.take 10) = stop b := by rw [stop_take]; omega
    unfold getS
    rw [hs, if_pos ⟨h.1, by rw [List.length_take]; omega⟩, if_pos h, rd_take h.1, List.take_take]
    have : min (stop b + 1) 10 = stop b + 1 := by omega
    rw [this]
  · rw [getS_short h, getS_short]
    rw [stop_take, List.length_take]; have := stop_le b; omega
theorem or_step {acc x : Int} {i : Nat} (hi : i ≤ 9) (h0 : 0 ≤ acc) (h1 : acc < 128 ^ i) (hx : 0 ≤ x ∧ x < 256) (hb : i ≤ 8 ∨ x % 128 ≤ 1) :
    Go.bits .or .u64 acc (IntKind.u64.wrap (IntKind.u64.wrap (Go.bits .and .u8 x 127) * 2 ^ min (7 * i) 64)) = acc + 128 ^ i * (x % 128) := by
  have hw : wrap64 (7 * (i : Int)) = ((7 * i : Nat) : Int) := by rw [wrap64_id] <;> omega
  have h := or_shl (acc := acc) (m := x % 128) hi h0 h1 (by omega) ?_
  · rw [hw] at h
    unfold shl at h
    rw [Int.toNat_natCast] at h
    rw [and127 hx.1 hx.2, u64_id (n := x % 128) (by omega) (by omega)]
    exact h
  · have hpp : (0 : Int) < 128 ^ i := by rw [← pow7]; exact Int.pow_pos (by decide)
    rcases hb with hb | hb
    · have : (128 : Int) ^ i ≤ 128 ^ 8 := by exact_mod_cast Nat.pow_le_pow_right (by decide) hb
      have h63 : (128 : Int) ^ 8 = 72057594037927936 := by decide
      have h2 : x % 128 * 128 ^ i ≤ 127 * 128 ^ i := Int.mul_le_mul_of_nonneg_right (by omega) (by omega)
      omega
    · have : (128 : Int) ^ i ≤ 128 ^ 9 := by exact_mod_cast Nat.pow_le_pow_right (by decide) hi
      have h63 : (128 : Int) ^ 9 = 9223372036854775808 := by decide
      have h2 : x % 128 * 128 ^ i ≤ 1 * 128 ^ i := Int.mul_le_mul_of_nonneg_right hb (by omega)
      omega
theorem or_val {x : Int} {pre : List Int} (hi : pre.length ≤ 9) (hx : 0 ≤ x ∧ x < 256) (hb : pre.length ≤ 8 ∨ x % 128 ≤ 1) :
    Go.bits .or .u64 (val pre) (IntKind.u64.wrap (IntKind.u64.wrap (Go.bits .and .u8 x 127) * 2 ^ min (7 * pre.length) 64)) = val (pre ++ [x]) := by
  have hbd := val_bd pre
  rw [or_step hi hbd.1 hbd.2 hx hb, val_append]; simp [val]
theorem getS_all (pre : List Int) (ha : ∀ c ∈ pre, c > 127) : getS pre = (0, 0) := by
  rw [getS_short]
  have := stop_append_all pre [] ha
  simp [stop] at this; omega
theorem getS_at (pre rest : List Int) (x : Int) (ha : ∀ c ∈ pre, c > 127) (hx : ¬ x > 127) (hl : pre.length ≤ 9) :
    getS (pre ++ x :: rest) = if (0 < pre.length ∧ x = 0) ∨ (pre.length = 9 ∧ x > 1) then (0, 0) else (val (pre ++ [x]), (pre.length : Int) + 1) := by
  have hs : stop (pre ++ x :: rest) = pre.length := by rw [stop_append_all pre _ ha]; simp [stop, hx]
  unfold getS
  rw [hs, if_pos ⟨by omega, by simp⟩, rd_append]
  have : List.take (pre.length + 1) (pre ++ x :: rest) = pre ++ [x] := by
    rw [List.take_append, List.take_of_length_le (by omega)]; simp
  rw [this]
theorem split_at {l : List Int} {m i : Nat} (h : i < m) (hm : m ≤ l.length) :
    l.take m = (l.take m).take i ++ rd l i :: (l.take m).drop (i + 1) ∧ ((l.take m).take i).length = i ∧ (l.take m).take (i + 1) = (l.take m).take i ++ [rd l i] := by
  have hl : i < (l.take m).length := by rw [List.length_take]; omega
  have hg : (l.take m)[i] = rd l i := by
    unfold rd; rw [List.getElem_take, List.getD_eq_getElem?_getD, Int.toNat_natCast, List.getElem?_eq_getElem (by omega)]; rfl
  refine ⟨?_, by rw [List.length_take]; omega, ?_⟩
  · have := List.take_append_drop i (l.take m)
    rw [List.drop_eq_getElem_cons hl, hg] at this
    exact this.symm
  · rw [List.take_succ_eq_append_getElem hl, hg]
theorem rd_bys {l : List Int} (h : Bys l) {i : Nat} (hi : i < l.length) : 0 ≤ rd l i ∧ rd l i < 256 := by
  unfold rd; rw [Int.toNat_natCast, List.getD_eq_getElem?_getD, List.getElem?_eq_getElem hi]
  exact h _ (List.getElem_mem _)
theorem getS_bd {l : List Int} (hby : Bys l) : 0 ≤ (getS l).1 ∧ (getS l).1 < 18446744073709551616 ∧ 0 ≤ (getS l).2 ∧ (getS l).2 ≤ 10 ∧ (getS l).2 ≤ l.length := by
  by_cases h : stop l < 10 ∧ stop l < l.length
  · by_cases h2 : (0 < stop l ∧ rd l (stop l) = 0) ∨ (stop l = 9 ∧ rd l (stop l) > 1)
    · have : getS l = (0, 0) := by unfold getS; rw [if_pos h, if_pos h2]
      rw [this]; simp
    · have e : getS l = (val (l.take (stop l + 1)), (stop l : Int) + 1) := by unfold getS; rw [if_pos h, if_neg h2]
      rw [e]
      have hb := val_bd (l.take (stop l + 1))
      have hl : (l.take (stop l + 1)).length = stop l + 1 := by rw [List.length_take]; omega
      refine ⟨hb.1, ?_, by omega, by omega, by omega⟩
      show val (l.take (stop l + 1)) < 18446744073709551616
      by_cases h9 : stop l ≤ 8
      · rw [hl] at hb
        have : (128 : Int) ^ (stop l + 1) ≤ 128 ^ 9 := by exact_mod_cast Nat.pow_le_pow_right (by decide) (by omega)
        have h63 : (128 : Int) ^ 9 = 9223372036854775808 := by decide
        omega
      · have hs : stop l = 9 := by omega
        have hr : rd l (stop l) ≤ 1 := by omega
        obtain ⟨e1, e2, e3⟩ := split_at (l := l) (m := l.length) (i := 9) (by omega) (by omega)
        rw [List.take_length] at e2 e3
        rw [hs] at hr ⊢
        rw [e3, val_append, e2]
        have hb2 := val_bd (l.take 9)
        rw [e2] at hb2
        have h63 : (128 : Int) ^ 9 = 9223372036854775808 := by decide
        have hm : val [rd l ((9 : Nat) : Int)] ≤ 1 := by
          have := rd_bys hby (i := 9) (by omega)
          simp only [val]; omega
        rw [h63] at hb2 ⊢
        omega
  · rw [getS_short h]; simp
theorem stop_ge {l : List Int} {i : Nat} (h : ∀ c ∈ l.take i, c > 127) (hi : i ≤ l.length) : i ≤ stop l := by
  have e := List.take_append_drop i l
  have := stop_append_all (l.take i) (l.drop i) h
  rw [e, List.length_take] at this; omega
theorem getS_far {l : List Int} {i : Nat} (h : ∀ c ∈ l.take i, c > 127) (hi : i ≤ l.length) (he : i = l.length ∨ i = 10) : getS l = (0, 0) := by
  apply getS_short
  have := stop_ge h hi
  have := stop_le l; omega
/-- What the bytes from the i-th on to the k-th are worth, from the top. -/
theorem val_drop {l : List Int} {k j : Nat} (hj : j < k) (hk : k ≤ l.length) : val ((l.take k).drop j) = rd l j % 128 + 128 * val ((l.take k).drop (j + 1)) := by
  have hl : j < (l.take k).length := by rw [List.length_take]; omega
  rw [List.drop_eq_getElem_cons hl]
  have hg : (l.take k)[j] = rd l j := by
    unfold rd; rw [List.getElem_take, List.getD_eq_getElem?_getD, Int.toNat_natCast, List.getElem?_eq_getElem (by omega)]; rfl
  rw [hg]; rfl
theorem val_drop_bd {l : List Int} {k j : Nat} (hk : k ≤ l.length) : 0 ≤ val ((l.take k).drop j) ∧ val ((l.take k).drop j) < 128 ^ (k - j) := by
  have h := val_bd ((l.take k).drop j)
  rw [List.length_drop, List.length_take, Nat.min_eq_left hk] at h
  exact h
theorem small_digits {l : List Int} {k j : Nat} (hk : k ≤ l.length) (h : k ≤ j + 8) : val ((l.take k).drop j) < 144115188075855872 := by
  have h1 := (val_drop_bd (l := l) (j := j) hk).2
  have : (128 : Int) ^ (k - j) ≤ 128 ^ 8 := by exact_mod_cast Nat.pow_le_pow_right (by decide) (by omega)
  have h63 : (128 : Int) ^ 8 = 72057594037927936 := by decide
  omega
theorem val_drop_end {l : List Int} {k : Nat} (hk : k < l.length) : val ((l.take (k + 1)).drop k) = rd l k % 128 := by
  rw [val_drop (by omega) (by omega)]
  have : (l.take (k + 1)).drop (k + 1) = [] := by rw [List.drop_eq_nil_iff, List.length_take]; omega
  rw [this]; simp [val]
/-- Nine digits: from 2^57 on just where the highest is 2 or more. -/
theorem nine {l : List Int} (hk : 10 ≤ l.length) (h0 : 0 ≤ rd l ((9 : Nat) : Int)) (h1 : rd l ((9 : Nat) : Int) < 128) : 144115188075855872 ≤ val ((l.take 10).drop 1) ↔ 1 < rd l ((9 : Nat) : Int) := by
  have e : val ((l.take 10).drop 1) = val (((l.take 10).drop 1).take 8) + 128 ^ 8 * rd l ((9 : Nat) : Int) := by
    have h := List.take_append_drop 8 ((l.take 10).drop 1)
    have hl : (((l.take 10).drop 1).take 8).length = 8 := by simp; omega
    have hv := val_append (((l.take 10).drop 1).take 8) (((l.take 10).drop 1).drop 8)
    rw [h, hl, List.drop_drop] at hv
    have h9 := val_drop_end (l := l) (k := 9) (by omega)
    simp only [Nat.reduceAdd] at hv h9
    rw [h9] at hv
    rw [hv, Int.emod_eq_of_lt h0 h1]
  have hb := val_bd (((l.take 10).drop 1).take 8)
  have hl : (((l.take 10).drop 1).take 8).length = 8 := by simp; omega
  rw [hl] at hb
  have h63 : (128 : Int) ^ 8 = 72057594037927936 := by decide
  rw [h63] at hb e
  omega
theorem bys_of {l : List Int} (h : l.all (fun c => decide (0 ≤ c) && decide (c < 256)) = true) : Bys l := by
  intro c hc
  have := List.all_eq_true.1 h c hc
  simp at this; exact this
theorem bys_append {a b : List Int} (ha : Bys a) (hb : Bys b) : Bys (a ++ b) := by
  intro c hc; rcases List.mem_append.1 hc with h | h
  · exact ha c h
  · exact hb c h
theorem bys_take {a : List Int} (ha : Bys a) (n : Nat) : Bys (a.take n) := fun c hc => ha c (List.mem_of_mem_take hc)
theorem bys_drop {a : List Int} (ha : Bys a) (n : Nat) : Bys (a.drop n) := fun c hc => ha c (List.mem_of_mem_drop hc)
theorem bys_bytesOf (s : ByteArray) : Bys (bytesOf s) := by
  intro c hc
  unfold bytesOf at hc
  obtain ⟨b, _, rfl⟩ := List.mem_map.1 hc
  have := b.toNat_lt; omega
theorem bys_enc {n : Nat} (h : n < 18446744073709551616) : Bys (enc n) := enc_bys 9 n (Nat.lt_of_lt_of_le h (by decide))
end Go.Proofs.Ytfojeegepfjbiaa.Nm
