/- Seals: lists alone. -/
import Derived.Test.YtfojeegepfjbiaaCrE
namespace Go.Proofs.Ytfojeegepfjbiaa.CrG
open Go.RowKit Go.Proofs.YtfojeegepfjbiaaW.PrintWords Go.Proofs.YtfojeegepfjbiaaW.PrintLast Go.Proofs.YtfojeegepfjbiaaW.PrintMore Go.Proofs.Ytfojeegepfjbiaa.Nm Go.Proofs.Ytfojeegepfjbiaa.NmC Go.Proofs.Ytfojeegepfjbiaa.CrP Go.Proofs.Ytfojeegepfjbiaa.CrB Go.Proofs.Ytfojeegepfjbiaa.CrC Go.Proofs.Ytfojeegepfjbiaa.CrD Go.Proofs.Ytfojeegepfjbiaa.CrE
theorem fourV_fourL {n : Int} (h0 : 0 ≤ n) (h1 : n < 4294967296) (r : List Int) : fourV (fourL n ++ r) = n := by
  simp [fourV, fourL, rd]; omega
theorem sealL_len (t : List Int) : (sealL t).length = 12 + t.length := by simp [sealL, fourL]; omega
theorem first_seal {t : List Int} (hb : Bys t) (hl : t.length < 4294967296) (r : List Int) : firstL (sealL t ++ r) = (t, 12 + t.length, true) := by
  have e : sealL t ++ r = fourL (t.length : Int) ++ (fourL (crc (fourL (t.length : Int)) : Int) ++ (fourL (crc t : Int) ++ (t ++ r))) := by simp [sealL]
  have h4 : ∀ n : Int, (fourL n).length = 4 := fun _ => rfl
  have hf : fourV (sealL t ++ r) = (t.length : Int) := by rw [e]; exact fourV_fourL (by omega) (by omega) _
  have d4 : (sealL t ++ r).drop 4 = fourL (crc (fourL (t.length : Int)) : Int) ++ (fourL (crc t : Int) ++ (t ++ r)) := by rw [e]; exact List.drop_left' (h4 _)
  have t4 : (sealL t ++ r).take 4 = fourL (t.length : Int) := by rw [e]; exact List.take_left' (h4 _)
  have d8 : (sealL t ++ r).drop 8 = fourL (crc t : Int) ++ (t ++ r) := by
    rw [show 8 = 4 + 4 from rfl, ← List.drop_drop, d4]; exact List.drop_left' (h4 _)
  have hbo : bodyL (sealL t ++ r) = t := by
    unfold bodyL
    rw [hf, Int.toNat_natCast, List.take_left' (sealL_len t)]
    show (fourL (t.length : Int) ++ fourL (crc (fourL (t.length : Int)) : Int) ++ fourL (crc t : Int) ++ t).drop 12 = t
    exact List.drop_left' rfl
  have hlen : (sealL t ++ r).length = 12 + t.length + r.length := by rw [List.length_append, sealL_len]
  have hcf := crc_lt (bys_fourL (t.length : Int))
  have hct := crc_lt hb
  unfold firstL
  rw [if_neg (by omega), d4, t4, if_neg (by rw [fourV_fourL (by omega) (by omega)]; simp), hf, hlen, if_neg (by omega), d8, hbo, if_neg (by rw [fourV_fourL (by omega) (by omega)]; simp), Int.toNat_natCast]
theorem open_seal {t : List Int} (hb : Bys t) (hl : t.length < 4294967296) : openL (sealL t) = (t, true) := by
  have h := first_seal hb hl []
  rw [List.append_nil] at h
  unfold openL
  rw [h, if_neg (by rw [sealL_len]; simp)]
theorem open_seal_more {t : List Int} (hb : Bys t) (hl : t.length < 4294967296) (x : Int) : openL (sealL t ++ [x]) = ([], false) := by
  have h := first_seal hb hl [x]
  unfold openL
  rw [h, if_pos (by right; rw [List.length_append, sealL_len]; simp)]
theorem bys_sealL {t : List Int} (hb : Bys t) : Bys (sealL t) := by
  unfold sealL
  exact bys_append (bys_append (bys_append (bys_fourL _) (bys_fourL _)) (bys_fourL _)) hb
end Go.Proofs.Ytfojeegepfjbiaa.CrG
