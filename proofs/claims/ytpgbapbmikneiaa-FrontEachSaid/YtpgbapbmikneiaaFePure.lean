/- FrontEach: lists alone. -/
import Derived.Test.YtpgbapbmikneiaaMt
namespace Go.Proofs.Ytpgbapbmikneiaa.FePure
open Go.RowKit Go.Proofs.YtpgbapbmikneiaaW.PrintWords Go.Proofs.YtpgbapbmikneiaaW.PrintLast Go.Proofs.YtpgbapbmikneiaaW.PrintMore Go.Proofs.Ytpgbapbmikneiaa.Nm Go.Proofs.Ytpgbapbmikneiaa.Mt

theorem pos_del {L : List Int} {c : Int} {k : Nat} (hk : k < L.length) (h : rd L (k : Int) ≠ c) : pos (L.take k ++ L.drop (k + 1)) c + (if pos L c < k then 0 else 1) = pos L c := by
  induction L generalizing k with
  | nil => simp at hk
  | cons x L ih =>
    cases k with
    | zero =>
      have hx : x ≠ c := by simpa [rd] using h
      simp [pos, hx]
    | succ k =>
      by_cases e : x = c
      · simp [pos, e]
      · have h2 : rd L (k : Int) ≠ c := by
          unfold rd at h ⊢
          rw [Int.toNat_natCast] at h ⊢
          simpa using h
        have := ih (by simpa using hk) h2
        simp only [List.take_succ_cons, List.drop_succ_cons, List.cons_append, pos, if_neg e]
        by_cases hp : pos L c < k
        · rw [if_pos hp] at this; rw [if_pos (by omega)]; omega
        · rw [if_neg hp] at this; rw [if_neg (by omega)]; omega
theorem pos_mvf {L : List Int} {c : Int} {k : Nat} (hk : k < L.length) (h : rd L (k : Int) ≠ c) : pos (mvf L k) c = pos L c + (if pos L c < k then 1 else 0) := by
  have h1 := pos_del hk h
  unfold mvf
  rw [pos, if_neg h]
  by_cases hp : pos L c < k
  · rw [if_pos hp] at h1 ⊢; omega
  · rw [if_neg hp] at h1 ⊢; omega
/-- How many greater ones stand ahead. -/
def cnt (b : List Int) (c : Int) : Nat → Nat
  | 0 => 0
  | i + 1 => cnt b c i + if c < rd b (i : Int) then 1 else 0
theorem cnt_le (b : List Int) (c : Int) (i : Nat) : cnt b c i ≤ i := by
  induction i with
  | zero => exact Nat.le_refl _
  | succ i ih => unfold cnt; split <;> omega
theorem pos_initL {c : Int} (h0 : 0 ≤ c) (h1 : c < 256) : (pos initL c : Int) = c := by
  obtain ⟨k, rfl⟩ := Int.eq_ofNat_of_zero_le h0
  have hk : k < initL.length := by rw [ok_initL.len]; omega
  have e : rd initL (k : Int) = k := by unfold rd; rw [Int.toNat_natCast, List.getD_eq_getElem?_getD]; simp [initL, show k < 256 by omega]
  have := pos_rd initL_nodup hk
  rw [e] at this
  rw [this]
theorem inv {b : List Int} (hb : Bys b) (hd : ∀ i j, i < j → j < b.length → rd b (i : Int) ≠ rd b (j : Int)) (i : Nat) (hi : i ≤ b.length) :
    (∀ c, 0 ≤ c → c < 256 → (∀ j, j < i → rd b (j : Int) ≠ c) → (pos (stM initL b i) c : Int) = c + cnt b c i) ∧
    (∀ c d, 0 ≤ c → c < d → d < 256 → (∀ j, j < i → rd b (j : Int) ≠ c) → (∀ j, j < i → rd b (j : Int) ≠ d) → pos (stM initL b i) c < pos (stM initL b i) d) := by
  induction i with
  | zero =>
    refine ⟨fun c h0 h1 _ => by simp [Mt.stM, cnt, pos_initL h0 h1], fun c d h0 h1 h2 _ _ => ?_⟩
    have e1 := pos_initL h0 (by omega : c < 256)
    have e2 := pos_initL (by omega : 0 ≤ d) h2
    simp only [Mt.stM]; omega
  | succ i ih =>
    obtain ⟨I1, I2⟩ := ih (by omega)
    have hOk := ok_stM ok_initL hb i (by omega)
    have hbe := rd_bys hb (by omega : i < b.length)
    have hue : ∀ j, j < i → rd b (j : Int) ≠ rd b (i : Int) := fun j hj => hd j i hj (by omega)
    obtain ⟨p1, p2⟩ := pos_spec (hOk.mem.2 hbe)
    have key : ∀ c, 0 ≤ c → c < 256 → (∀ j, j < i + 1 → rd b (j : Int) ≠ c) → pos (stM initL b (i + 1)) c = pos (stM initL b i) c + (if c < rd b (i : Int) then 1 else 0) := by
      intro c h0 h1 hu
      have hce : rd b (i : Int) ≠ c := hu i (by omega)
      rw [Mt.stM, pos_mvf p1 (by rw [p2]; exact hce)]
      congr 1
      rcases Int.lt_or_gt_of_ne hce with h | h
      · have := I2 _ _ hbe.1 h h1 hue (fun j hj => hu j (by omega))
        rw [if_neg (by omega), if_neg (by omega)]
      · have := I2 _ _ h0 h hbe.2 (fun j hj => hu j (by omega)) hue
        rw [if_pos this, if_pos h]
    refine ⟨fun c h0 h1 hu => ?_, fun c d h0 h1 h2 hu hv => ?_⟩
    · rw [key c h0 h1 hu]
      have := I1 c h0 h1 (fun j hj => hu j (by omega))
      rw [cnt]
      push_cast
      rw [this]
      split <;> simp <;> omega
    · rw [key c h0 (by omega) hu, key d (by omega) h2 hv]
      have h3 := I2 c d h0 h1 h2 (fun j hj => hu j (by omega)) (fun j hj => hv j (by omega))
      have hde : rd b (i : Int) ≠ d := hv i (by omega)
      by_cases hc : c < rd b (i : Int)
      · rw [if_pos hc]
        by_cases hd2 : d < rd b (i : Int)
        · rw [if_pos hd2]; omega
        · rw [if_neg hd2]
          have h4 := I2 _ _ h0 hc hbe.2 (fun j hj => hu j (by omega)) hue
          have h5 := I2 _ _ hbe.1 (by omega : rd b (i : Int) < d) h2 hue (fun j hj => hv j (by omega))
          omega
      · rw [if_neg hc]; split <;> omega
theorem each {b : List Int} (hb : Bys b) (hd : ∀ i j, i < j → j < b.length → rd b (i : Int) ≠ rd b (j : Int)) (i : Nat) (hi : i < b.length) : rd (encM initL b) (i : Int) = rd b (i : Int) + cnt b (rd b (i : Int)) i := by
  rw [encM_rd _ _ _ hi]
  have h := rd_bys hb hi
  exact (inv hb hd i (by omega)).1 _ h.1 h.2 (fun j hj => hd j i hj hi)

/-- The bytes that the law lays. -/
def bL (s i : Nat) : List Int := (List.range i).map fun j : Nat => ((j * s % 256 : Nat) : Int)
theorem bL_succ (s i : Nat) : bL s (i + 1) = bL s i ++ [((i * s % 256 : Nat) : Int)] := by simp [bL, List.range_succ]
theorem bL_len (s i : Nat) : (bL s i).length = i := by simp [bL]
theorem bL_rd (s i j : Nat) (h : j < i) : rd (bL s i) (j : Int) = ((j * s % 256 : Nat) : Int) := by
  unfold rd; rw [Int.toNat_natCast, List.getD_eq_getElem?_getD]; simp [bL, h]
theorem bys_bL (s i : Nat) : Bys (bL s i) := by
  intro x hx
  obtain ⟨j, _, rfl⟩ := List.mem_map.1 hx
  omega
theorem odd_inv : ∀ s : Fin 256, s.val % 2 = 1 → s.val * (s.val ^ 63 % 256) % 256 = 1 := by decide +kernel
theorem step_inj {s i j : Nat} (hs : s < 256) (ho : s % 2 = 1) (hi : i < 256) (hj : j < 256) (h : i * s % 256 = j * s % 256) : i = j := by
  have e := odd_inv ⟨s, hs⟩ ho
  dsimp only at e
  generalize s ^ 63 % 256 = t at e
  have key : ∀ i, i < 256 → (i * s % 256) * t % 256 = i := by
    intro i hi
    rw [Nat.mul_mod, Nat.mod_mod, ← Nat.mul_mod, Nat.mul_assoc, Nat.mul_mod, e, Nat.mul_one, Nat.mod_mod]
    exact Nat.mod_eq_of_lt hi
  rw [← key i hi, ← key j hj, h]
theorem bL_ne {s : Nat} (hs : s < 256) (ho : s % 2 = 1) : ∀ i j, i < j → j < (bL s 256).length → rd (bL s 256) (i : Int) ≠ rd (bL s 256) (j : Int) := by
  intro i j hij hj e
  rw [bL_len] at hj
  rw [bL_rd s 256 i (by omega), bL_rd s 256 j hj] at e
  have := step_inj hs ho (by omega) hj (by omega : i * s % 256 = j * s % 256)
  omega
end Go.Proofs.Ytpgbapbmikneiaa.FePure
