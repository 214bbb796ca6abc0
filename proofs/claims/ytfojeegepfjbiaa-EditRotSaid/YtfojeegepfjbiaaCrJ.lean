/- Seals of which a byte was changed: lists alone. -/
import Derived.Test.YtfojeegepfjbiaaCrI
import Derived.Test.YtfojeegepfjbiaaCrL
namespace Go.Proofs.Ytfojeegepfjbiaa.CrJ
open Go.RowKit Go.Proofs.YtfojeegepfjbiaaW.PrintWords Go.Proofs.YtfojeegepfjbiaaW.PrintLast Go.Proofs.YtfojeegepfjbiaaW.PrintMore Go.Proofs.Ytfojeegepfjbiaa.Nm Go.Proofs.Ytfojeegepfjbiaa.NmC Go.Proofs.Ytfojeegepfjbiaa.CrP Go.Proofs.Ytfojeegepfjbiaa.CrA Go.Proofs.Ytfojeegepfjbiaa.CrB Go.Proofs.Ytfojeegepfjbiaa.CrC Go.Proofs.Ytfojeegepfjbiaa.CrD Go.Proofs.Ytfojeegepfjbiaa.CrE Go.Proofs.Ytfojeegepfjbiaa.CrG Go.Proofs.Ytfojeegepfjbiaa.CrH Go.Proofs.Ytfojeegepfjbiaa.CrI Go.Proofs.Ytfojeegepfjbiaa.CrL
theorem crc_set {t : List Int} {k : Nat} {z : Int} (hb : Bys t) (hk : k < t.length) (hz : 0 ≤ z ∧ z < 256) (hne : z ≠ rd t (k : Int)) : crc (t.set k z) ≠ crc t := by
  have hset : t.set k z = t.take k ++ z :: t.drop (k + 1) := List.set_eq_take_append_cons_drop.trans (if_pos hk)
  have hsp : t = t.take k ++ rd t (k : Int) :: t.drop (k + 1) := by
    have e := List.take_append_drop k t
    rw [drop_rd hk] at e
    exact e.symm
  have h3 := crc_one (a := t.take k) (b := t.drop (k + 1)) (bys_take hb k) (bys_drop hb _) hz (rd_bys hb hk) hne
  rw [← hset, ← hsp] at h3
  exact h3
theorem bys_set {t : List Int} {k : Nat} {z : Int} (hb : Bys t) (hz : 0 ≤ z ∧ z < 256) : Bys (t.set k z) := by
  intro c hc
  rcases List.mem_or_eq_of_mem_set hc with h | h
  · exact hb c h
  · subst h; exact hz
theorem fourV_app {f r : List Int} (h : f.length = 4) : fourV (f ++ r) = fourV f := by
  match f, h with
  | [a, b, c, d], _ => simp [fourV, rd]; intro hh; omega
theorem fourV_set {f : List Int} (h : f.length = 4) {i : Nat} (hi : i < 4) {z : Int} (hne : z ≠ rd f (i : Int)) : fourV (f.set i z) ≠ fourV f := by
  match f, h with
  | [a, b, c, d], _ =>
    match i, hi with
    | 0, _ => simp [fourV, rd] at *; omega
    | 1, _ => simp [fourV, rd] at *; omega
    | 2, _ => simp [fourV, rd] at *; omega
    | 3, _ => simp [fourV, rd] at *; omega
theorem fourV_four {n : Int} (h0 : 0 ≤ n) (h1 : n < 4294967296) : fourV (fourL n) = n := by
  have := fourV_fourL h0 h1 []
  rwa [List.append_nil] at this
theorem first_bad1 {f1 f2 q : List Int} (h1 : f1.length = 4) (h2 : f2.length = 4) (hq : 4 ≤ q.length) (h : fourV f2 ≠ (crc f1 : Int)) : firstL (f1 ++ (f2 ++ q)) = ([], 0, false) := by
  unfold firstL
  rw [if_neg (by simp only [List.length_append]; omega), List.drop_left' h1, List.take_left' h1, fourV_app h2, if_pos h]
theorem first_bad2 {f1 f2 f3 t r : List Int} (h1 : f1.length = 4) (h2 : f2.length = 4) (h3 : f3.length = 4) (hv : fourV f1 = (t.length : Int)) (ha : fourV f2 = (crc f1 : Int)) (h : fourV f3 ≠ (crc t : Int)) : firstL (f1 ++ (f2 ++ (f3 ++ (t ++ r)))) = ([], 0, false) := by
  have d8 : (f1 ++ (f2 ++ (f3 ++ (t ++ r)))).drop 8 = f3 ++ (t ++ r) := by
    rw [show 8 = 4 + 4 from rfl, ← List.drop_drop, List.drop_left' h1, List.drop_left' h2]
  have hbo : bodyL (f1 ++ (f2 ++ (f3 ++ (t ++ r)))) = t := by
    unfold bodyL
    rw [fourV_app h1, hv, Int.toNat_natCast]
    have e : f1 ++ (f2 ++ (f3 ++ (t ++ r))) = (f1 ++ (f2 ++ (f3 ++ t))) ++ r := by simp
    rw [e, List.take_left' (by simp only [List.length_append]; omega), show 12 = 4 + (4 + 4) from rfl, ← List.drop_drop, List.drop_left' h1, ← List.drop_drop, List.drop_left' h2, List.drop_left' h3]
  unfold firstL
  rw [if_neg (by simp only [List.length_append]; omega), List.drop_left' h1, List.take_left' h1, fourV_app h2, if_neg (fun hh => hh ha), fourV_app h1, hv, if_neg (by simp only [List.length_append]; omega), d8, fourV_app h3, hbo, if_pos h]
theorem rd_left {a b : List Int} {i : Nat} (h : i < a.length) : rd (a ++ b) (i : Int) = rd a (i : Int) := by
  unfold rd
  rw [Int.toNat_natCast, List.getD_eq_getElem?_getD, List.getD_eq_getElem?_getD, List.getElem?_append_left h]
theorem rd_right {a b : List Int} {i : Nat} (h : a.length ≤ i) : rd (a ++ b) (i : Int) = rd b ((i - a.length : Nat) : Int) := by
  unfold rd
  rw [Int.toNat_natCast, Int.toNat_natCast, List.getD_eq_getElem?_getD, List.getD_eq_getElem?_getD, List.getElem?_append_right h]
theorem set_left {a b : List Int} {i : Nat} {z : Int} (h : i < a.length) : (a ++ b).set i z = a.set i z ++ b := by rw [List.set_append, if_pos h]
theorem set_right {a b : List Int} {i : Nat} {z : Int} (h : a.length ≤ i) : (a ++ b).set i z = a ++ b.set (i - a.length) z := by rw [List.set_append, if_neg (by omega)]
theorem sealL_parts (t r : List Int) : sealL t ++ r = fourL (t.length : Int) ++ (fourL (crc (fourL (t.length : Int)) : Int) ++ (fourL (crc t : Int) ++ (t ++ r))) := by simp [sealL]
theorem first_rot {t r : List Int} (hb : Bys t) (hl : t.length < 4294967296) {j : Nat} {z : Int} (hj : j < 12 + t.length) (hz : 0 ≤ z ∧ z < 256) (hne : z ≠ rd (sealL t ++ r) (j : Int)) : firstL ((sealL t ++ r).set j z) = ([], 0, false) := by
  have h4 : ∀ n : Int, (fourL n).length = 4 := fun _ => rfl
  rw [sealL_parts] at hne ⊢
  have hcf := crc_lt (bys_fourL (t.length : Int))
  have hct := crc_lt hb
  have v1 := fourV_four (n := (t.length : Int)) (by omega) (by omega)
  have b1 := bys_fourL (t.length : Int)
  have l1 := h4 (t.length : Int)
  have v2 := fourV_four (n := (crc (fourL (t.length : Int)) : Int)) (by omega) (by omega)
  have l2 := h4 (crc (fourL (t.length : Int)) : Int)
  have v3 := fourV_four (n := (crc t : Int)) (by omega) (by omega)
  have l3 := h4 (crc t : Int)
  generalize fourL (crc (fourL (t.length : Int)) : Int) = f2 at *
  generalize fourL (t.length : Int) = f1 at *
  generalize fourL (crc t : Int) = f3 at *
  by_cases h1 : j < 4
  · rw [rd_left (by omega)] at hne
    rw [set_left (by omega)]
    refine first_bad1 (by rw [List.length_set]; exact l1) l2 (by simp only [List.length_append]; omega) ?_
    rw [v2]
    have := crc_set b1 (k := j) (by omega) hz hne
    omega
  · rw [rd_right (by omega)] at hne
    rw [set_right (by omega)]
    by_cases h2 : j < 8
    · rw [rd_left (by omega)] at hne
      rw [set_left (by omega)]
      refine first_bad1 l1 (by rw [List.length_set]; exact l2) (by simp only [List.length_append]; omega) ?_
      rw [← v2]
      exact fourV_set l2 (by omega) hne
    · rw [rd_right (by omega)] at hne
      rw [set_right (by omega)]
      by_cases h3 : j < 12
      · rw [rd_left (by omega)] at hne
        rw [set_left (by omega)]
        refine first_bad2 l1 l2 (by rw [List.length_set]; exact l3) v1 v2 ?_
        rw [← v3]
        exact fourV_set l3 (by omega) hne
      · rw [rd_right (by omega), rd_left (by omega)] at hne
        rw [set_right (by omega), set_left (by omega)]
        refine first_bad2 l1 l2 l3 (by rw [List.length_set]; exact v1) v2 ?_
        rw [v3]
        have := crc_set hb (k := j - f1.length - f2.length - f3.length) (by omega) hz hne
        omega
theorem seal_of {ts : List (List Int)} : ∀ {i : Nat}, i < (sealsL ts).length → ∃ k, k < ts.length ∧ (sealsL (ts.take k)).length ≤ i ∧ i < (sealsL (ts.take k)).length + (12 + (ts.getD k []).length) := by
  induction ts with
  | nil => intro i h; simp [sealsL] at h
  | cons t ts ih =>
    intro i h
    rw [sealsL_cons, List.length_append, sealL_len] at h
    by_cases h1 : i < 12 + t.length
    · exact ⟨0, by simp, by simp [sealsL], by simpa [sealsL] using h1⟩
    · obtain ⟨k, hk, h2, h3⟩ := ih (i := i - (12 + t.length)) (by omega)
      refine ⟨k + 1, by simpa using hk, ?_, ?_⟩
      · rw [List.take_succ_cons, sealsL_cons, List.length_append, sealL_len]; omega
      · rw [List.take_succ_cons, sealsL_cons, List.length_append, sealL_len]
        have : (t :: ts).getD (k + 1) [] = ts.getD k [] := rfl
        rw [this]; omega
/-- A byte of seals was changed: those ahead are told, and it is spoilt. -/
theorem rot_law {ts : List (List Int)} (hok : Okt ts) {i : Nat} (hi : i < (sealsL ts).length) {z : Int} (hz : 0 ≤ z ∧ z < 256) (hne : z ≠ rd (sealsL ts) (i : Int)) :
    ∃ k, k < ts.length ∧ (sealsL (ts.take k)).length ≤ i ∧ scanL ((sealsL ts).set i z) = (ts.take k, (sealsL (ts.take k)).length, false) := by
  obtain ⟨k, hk, h1, h2⟩ := seal_of hi
  refine ⟨k, hk, h1, ?_⟩
  have hsp : ts = ts.take k ++ ts.getD k [] :: ts.drop (k + 1) := by
    rw [List.getD_eq_getElem?_getD, List.getElem?_eq_getElem hk]
    simp
  have hokt := hok _ (getD_mem hk)
  have hokk : Okt (ts.take k) := fun x hx => hok x (List.mem_of_mem_take hx)
  generalize ts.getD k [] = t at *
  have e : sealsL ts = sealsL (ts.take k) ++ (sealL t ++ sealsL (ts.drop (k + 1))) := by
    conv => lhs; rw [hsp]
    rw [sealsL_append, sealsL_cons]
  generalize sealsL (ts.drop (k + 1)) = r at *
  rw [e, rd_right h1] at hne
  have hf := first_rot (r := r) hokt.1 hokt.2 (j := i - (sealsL (ts.take k)).length) (z := z) (by omega) hz hne
  rw [e, set_right h1, scan_end hokk (by rw [hf]), hf]
end Go.Proofs.Ytfojeegepfjbiaa.CrJ
