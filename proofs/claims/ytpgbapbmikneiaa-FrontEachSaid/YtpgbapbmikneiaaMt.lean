/- Moving to the front: lists alone. -/
import Derived.Test.YtpgbapbmikneiaaNmG
namespace Go.Proofs.Ytpgbapbmikneiaa.Mt
open Go.RowKit Go.Proofs.YtpgbapbmikneiaaW.PrintWords Go.Proofs.YtpgbapbmikneiaaW.PrintLast Go.Proofs.YtpgbapbmikneiaaW.PrintMore Go.Proofs.Ytpgbapbmikneiaa.Nm

/-- The bytes, rising. -/
def initL : List Int := (List.range 256).map fun n : Nat => (n : Int)
/-- The one at a place to the front. -/
def mvf (L : List Int) (k : Nat) : List Int := rd L (k : Int) :: (L.take k ++ L.drop (k + 1))
/-- Where one stands. -/
def pos : List Int → Int → Nat
  | [], _ => 0
  | x :: L, c => if x = c then 0 else pos L c + 1
def encM (L : List Int) : List Int → List Int
  | [] => []
  | c :: cs => (pos L c : Int) :: encM (mvf L (pos L c)) cs
def decM (L : List Int) : List Int → List Int
  | [] => []
  | k :: ks => rd L k :: decM (mvf L k.toNat) ks
/-- A row of all the bytes, in some order. -/
def Ok (L : List Int) : Prop := L.Perm initL

theorem Ok.len {L : List Int} (h : Ok L) : L.length = 256 := by rw [h.length_eq]; simp [initL]
theorem mem_initL {c : Int} : c ∈ initL ↔ 0 ≤ c ∧ c < 256 := by
  unfold initL
  rw [List.mem_map]
  constructor
  · rintro ⟨n, hn, rfl⟩; rw [List.mem_range] at hn; omega
  · intro h; exact ⟨c.toNat, by rw [List.mem_range]; omega, by omega⟩
theorem Ok.mem {L : List Int} (h : Ok L) {c : Int} : c ∈ L ↔ 0 ≤ c ∧ c < 256 := by rw [h.mem_iff, mem_initL]
theorem ok_initL : Ok initL := List.Perm.refl _
theorem initL_nodup : initL.Nodup := by
  unfold initL
  refine List.Pairwise.map _ ?_ List.nodup_range
  intro a b h e; exact h (by omega)
theorem Ok.nodup {L : List Int} (h : Ok L) : L.Nodup := h.nodup_iff.2 initL_nodup
theorem split_rd {L : List Int} {k : Nat} (h : k < L.length) : L = L.take k ++ rd L (k : Int) :: L.drop (k + 1) := by
  have e := List.take_append_drop k L
  rw [List.drop_eq_getElem_cons h] at e
  have : rd L (k : Int) = L[k] := by unfold rd; rw [Int.toNat_natCast, List.getD_eq_getElem?_getD, List.getElem?_eq_getElem h]; rfl
  rw [this]; exact e.symm
theorem mvf_perm {L : List Int} {k : Nat} (h : k < L.length) : (mvf L k).Perm L := by
  conv => rhs; rw [split_rd h]
  exact List.perm_middle.symm
theorem Ok.mvf {L : List Int} (h : Ok L) {k : Nat} (hk : k < 256) : Ok (mvf L k) := (mvf_perm (by rw [h.len]; exact hk)).trans h
theorem pos_spec {L : List Int} {c : Int} (h : c ∈ L) : pos L c < L.length ∧ rd L (pos L c : Int) = c := by
  induction L with
  | nil => simp at h
  | cons x L ih =>
    unfold pos
    by_cases e : x = c
    · rw [if_pos e]; simp [rd, e]
    · rw [if_neg e]
      have hm : c ∈ L := by simpa [Ne.symm e] using h
      obtain ⟨h1, h2⟩ := ih hm
      refine ⟨by simp; omega, ?_⟩
      unfold rd at h2 ⊢
      rw [Int.toNat_natCast] at h2 ⊢
      simpa using h2
theorem pos_before {L : List Int} {c : Int} {j : Nat} (h : j < pos L c) : rd L (j : Int) ≠ c := by
  induction L generalizing j with
  | nil => simp [pos] at h
  | cons x L ih =>
    unfold pos at h
    by_cases e : x = c
    · rw [if_pos e] at h; omega
    · rw [if_neg e] at h
      cases j with
      | zero => simpa [rd] using e
      | succ j =>
        have := ih (j := j) (by omega)
        unfold rd at this ⊢
        rw [Int.toNat_natCast] at this ⊢
        simpa using this
theorem pos_of {L : List Int} {c : Int} {k : Nat} (hk : k < L.length) (h1 : rd L (k : Int) = c) (h2 : ∀ j, j < k → rd L (j : Int) ≠ c) : pos L c = k := by
  have hm : c ∈ L := by
    rw [split_rd hk, h1]; simp
  obtain ⟨h3, h4⟩ := pos_spec hm
  rcases Nat.lt_trichotomy (pos L c) k with h | h | h
  · exact absurd h4 (h2 _ h)
  · exact h
  · exact absurd h1 (pos_before h)
theorem encM_len (L : List Int) (b : List Int) : (encM L b).length = b.length := by
  induction b generalizing L with
  | nil => rfl
  | cons c cs ih => simp [encM, ih]
theorem decM_len (L : List Int) (b : List Int) : (decM L b).length = b.length := by
  induction b generalizing L with
  | nil => rfl
  | cons c cs ih => simp [decM, ih]
theorem rd_mem {L : List Int} {k : Nat} (h : k < L.length) : rd L (k : Int) ∈ L := by
  have : rd L (k : Int) = L[k] := by unfold rd; rw [Int.toNat_natCast, List.getD_eq_getElem?_getD, List.getElem?_eq_getElem h]; rfl
  rw [this]; exact List.getElem_mem h
theorem bys_encM {L : List Int} (h : Ok L) {b : List Int} (hb : Bys b) : Bys (encM L b) := by
  induction b generalizing L with
  | nil => exact bys_of rfl
  | cons c cs ih =>
    have hc := (pos_spec (h.mem.2 (hb c (by simp)))).1
    rw [h.len] at hc
    intro x hx
    simp only [encM, List.mem_cons] at hx
    rcases hx with rfl | hx
    · omega
    · exact ih (h.mvf hc) (fun y hy => hb y (by simp [hy])) x hx
theorem bys_decM {L : List Int} (h : Ok L) {b : List Int} (hb : Bys b) : Bys (decM L b) := by
  induction b generalizing L with
  | nil => exact bys_of rfl
  | cons c cs ih =>
    have hc := hb c (by simp)
    obtain ⟨k, rfl⟩ := Int.eq_ofNat_of_zero_le hc.1
    have hk : k < 256 := by omega
    intro x hx
    simp only [decM, List.mem_cons] at hx
    rcases hx with rfl | hx
    · exact h.mem.1 (rd_mem (by rw [h.len]; exact hk))
    · rw [Int.toNat_natCast] at hx
      exact ih (h.mvf hk) (fun y hy => hb y (by simp [hy])) x hx
/-- Back again. -/
theorem decM_encM {L : List Int} (h : Ok L) {b : List Int} (hb : Bys b) : decM L (encM L b) = b := by
  induction b generalizing L with
  | nil => rfl
  | cons c cs ih =>
    obtain ⟨h1, h2⟩ := pos_spec (h.mem.2 (hb c (by simp)))
    rw [h.len] at h1
    simp only [encM, decM, Int.toNat_natCast]
    rw [h2, ih (h.mvf h1) (fun y hy => hb y (by simp [hy]))]
theorem pos_rd {L : List Int} (h : L.Nodup) {k : Nat} (hk : k < L.length) : pos L (rd L (k : Int)) = k := by
  refine pos_of hk rfl fun j hj e => ?_
  have hj2 : j < L.length := by omega
  have e1 : rd L (j : Int) = L[j] := by unfold rd; rw [Int.toNat_natCast, List.getD_eq_getElem?_getD, List.getElem?_eq_getElem hj2]; rfl
  have e2 : rd L (k : Int) = L[k] := by unfold rd; rw [Int.toNat_natCast, List.getD_eq_getElem?_getD, List.getElem?_eq_getElem hk]; rfl
  rw [e1, e2] at e
  exact absurd e (List.pairwise_iff_getElem.1 h j k hj2 hk hj)
theorem encM_decM {L : List Int} (h : Ok L) {b : List Int} (hb : Bys b) : encM L (decM L b) = b := by
  induction b generalizing L with
  | nil => rfl
  | cons c cs ih =>
    have hc := hb c (by simp)
    obtain ⟨k, rfl⟩ := Int.eq_ofNat_of_zero_le hc.1
    have hk : k < 256 := by omega
    simp only [encM, decM, Int.toNat_natCast]
    rw [pos_rd h.nodup (by rw [h.len]; exact hk), ih (h.mvf hk) (fun y hy => hb y (by simp [hy]))]
theorem encM_append (L a b : List Int) : ∃ L', encM L (a ++ b) = encM L a ++ encM L' b := by
  induction a generalizing L with
  | nil => exact ⟨L, rfl⟩
  | cons c cs ih =>
    obtain ⟨L', h⟩ := ih (mvf L (pos L c))
    exact ⟨L', by simp [encM, h]⟩
/-- The row behind i bytes. -/
def stM (L b : List Int) : Nat → List Int
  | 0 => L
  | i + 1 => mvf (stM L b i) (pos (stM L b i) (rd b (i : Int)))
theorem stM_cons (L b : List Int) (c : Int) (i : Nat) : stM L (c :: b) (i + 1) = stM (mvf L (pos L c)) b i := by
  induction i with
  | zero => simp [stM, rd]
  | succ i ih =>
    rw [stM, ih]
    have : rd (c :: b) ((i + 1 : Nat) : Int) = rd b (i : Int) := by unfold rd; rw [Int.toNat_natCast, Int.toNat_natCast]; simp
    rw [this]; rfl
theorem ok_stM {L b : List Int} (h : Ok L) (hb : Bys b) (i : Nat) (hi : i ≤ b.length) : Ok (stM L b i) := by
  induction i with
  | zero => exact h
  | succ i ih =>
    have h1 := ih (by omega)
    have := (pos_spec (h1.mem.2 (rd_bys hb (by omega : i < b.length)))).1
    rw [h1.len] at this
    exact h1.mvf this
theorem encM_rd (L b : List Int) (i : Nat) (hi : i < b.length) : rd (encM L b) (i : Int) = (pos (stM L b i) (rd b (i : Int)) : Int) := by
  induction b generalizing L i with
  | nil => simp at hi
  | cons c cs ih =>
    cases i with
    | zero => simp [encM, rd, stM]
    | succ i =>
      rw [stM_cons]
      have h1 := ih (mvf L (pos L c)) i (by simpa using hi)
      unfold rd at h1 ⊢
      rw [Int.toNat_natCast] at h1 ⊢
      simp only [encM, List.getD_cons_succ]
      exact h1
theorem stM_head {L b : List Int} (h : Ok L) (hb : Bys b) (i : Nat) (hi : i < b.length) : rd (stM L b (i + 1)) 0 = rd b (i : Int) := by
  have h1 := ok_stM h hb i (by omega)
  have h2 := (pos_spec (h1.mem.2 (rd_bys hb hi))).2
  rw [stM]
  show rd (stM L b i) (pos (stM L b i) (rd b (i : Int)) : Int) = _
  exact h2
theorem pos_zero {L : List Int} {c : Int} (h : 0 < L.length) : pos L c = 0 ↔ rd L 0 = c := by
  cases L with
  | nil => simp at h
  | cons x L =>
    unfold pos
    by_cases e : x = c
    · rw [if_pos e]; simp [rd, e]
    · rw [if_neg e]; simp [rd, e]
/-- A byte that comes again at once has the place 0, and no other. -/
theorem runs {b : List Int} (hb : Bys b) (i : Nat) (hi : i + 1 < b.length) : (rd b ((i + 1 : Nat) : Int) = rd b (i : Int)) ↔ rd (encM initL b) ((i + 1 : Nat) : Int) = 0 := by
  rw [encM_rd _ _ _ hi]
  have h1 := stM_head ok_initL hb i (by omega)
  have h2 := ok_stM ok_initL hb (i + 1) (by omega)
  have h3 := pos_zero (L := stM initL b (i + 1)) (c := rd b ((i + 1 : Nat) : Int)) (by rw [h2.len]; decide)
  rw [h1] at h3
  constructor
  · intro e; rw [h3.2 e.symm]; rfl
  · intro e; exact (h3.1 (by omega)).symm
end Go.Proofs.Ytpgbapbmikneiaa.Mt
