/- Plain facts: what Put and Text write, Get and GetText read again. -/
import Derived.Test.YtfojeegepfjbiaaNmD
namespace Go.Proofs.Ytfojeegepfjbiaa.NmI
open Go.RowKit Go.Proofs.YtfojeegepfjbiaaW.PrintWords Go.Proofs.YtfojeegepfjbiaaW.PrintLast Go.Proofs.YtfojeegepfjbiaaW.PrintMore Go.Proofs.Ytfojeegepfjbiaa.Nm Go.Proofs.Ytfojeegepfjbiaa.NmD Go.Proofs.Ytfojeegepfjbiaa.NmA Go.Proofs.Ytfojeegepfjbiaa.NmB Go.Proofs.Ytfojeegepfjbiaa.NmC Go.Proofs.Ytfojeegepfjbiaa.NmE

theorem enc_split (d : Nat) : ∀ n, n < 128 ^ (d + 1) → ∃ a x, enc n = a ++ [x] ∧ (∀ c ∈ a, c > 127 ∧ c < 256) ∧ 0 ≤ x ∧ x < 128 ∧ a.length ≤ d := by
  induction d with
  | zero => intro n h; exact ⟨[], n, by rw [enc_small (by simpa using h)]; rfl, by simp, by omega, by simp at h; omega, by simp⟩
  | succ d ih =>
    intro n h
    by_cases hs : n < 128
    · exact ⟨[], n, by rw [enc_small hs]; rfl, by simp, by omega, by omega, by simp⟩
    · obtain ⟨a, x, e, ha, hx⟩ := ih (n / 128) (by rw [Nat.div_lt_iff_lt_mul (by decide)]; rwa [Nat.pow_succ] at h)
      refine ⟨((n % 128 + 128 : Nat) : Int) :: a, x, by rw [enc_large hs, e]; rfl, ?_, hx.1, hx.2.1, by simp; omega⟩
      intro c hc; simp only [List.mem_cons] at hc
      rcases hc with rfl | hc
      · omega
      · exact ha c hc
theorem val_enc (d : Nat) : ∀ n, n < 128 ^ (d + 1) → val (enc n) = n := by
  induction d with
  | zero => intro n h; rw [enc_small (by simpa using h)]; simp [val] at h ⊢; omega
  | succ d ih =>
    intro n h
    by_cases hs : n < 128
    · rw [enc_small hs]; simp [val]; omega
    · rw [enc_large hs]
      simp only [val]
      rw [ih (n / 128) (by rw [Nat.div_lt_iff_lt_mul (by decide)]; rwa [Nat.pow_succ] at h)]
      omega
/-- The last byte is no nought, but of nought itself. -/
theorem enc_last (d : Nat) : ∀ n, n < 128 ^ (d + 1) → ∀ a x, enc n = a ++ [x] → 0 < a.length → x ≠ 0 := by
  induction d with
  | zero =>
    intro n h a x e hp
    rw [enc_small (by simpa using h)] at e
    cases a with
    | nil => simp at hp
    | cons y a => simp at e
  | succ d ih =>
    intro n h a x e hp
    by_cases hs : n < 128
    · rw [enc_small hs] at e
      cases a with
      | nil => simp at hp
      | cons y a => simp at e
    · rw [enc_large hs] at e
      cases a with
      | nil => simp at hp
      | cons y a =>
        simp only [List.cons_append, List.cons.injEq] at e
        by_cases ha : 0 < a.length
        · exact ih (n / 128) (by rw [Nat.div_lt_iff_lt_mul (by decide)]; rwa [Nat.pow_succ] at h) a x e.2 ha
        · have : a = [] := by cases a with
            | nil => rfl
            | cons _ _ => simp at ha
          subst this
          by_cases hs2 : n / 128 < 128
          · rw [enc_small hs2] at e
            have := e.2
            simp at this
            omega
          · rw [enc_large hs2] at e
            have := e.2
            have hp := enc_pos (n / 128 / 128)
            simp at this
            rw [this.2] at hp
            simp at hp
theorem getS_enc {n : Nat} (hn : n < 18446744073709551616) (t : List Int) : getS (enc n ++ t) = ((n : Int), ((enc n).length : Int)) := by
  have hn2 : n < 128 ^ (9 + 1) := Nat.lt_of_lt_of_le hn (by decide)
  obtain ⟨a, x, e, ha, hx0, hx1, hal⟩ := enc_split 9 n hn2
  have hv := val_enc 9 n hn2
  have hlast := enc_last 9 n hn2 a x e
  rw [e, List.append_assoc, List.singleton_append, getS_at a t x (fun c hc => (ha c hc).1) (by omega) hal]
  rw [e] at hv
  rw [if_neg, hv]
  · simp
  · rintro (⟨h1, h2⟩ | ⟨h1, h2⟩)
    · exact hlast h1 h2
    · rw [val_append, h1] at hv
      have hb := val_bd a
      have h63 : (128 : Int) ^ 9 = 9223372036854775808 := by decide
      simp only [val] at hv
      omega
theorem strOfNums_bytesOf (s : ByteArray) : strOfNums (bytesOf s) = s := by
  unfold strOfNums bytesOf
  rw [List.map_map]
  have : ((fun n : Int => UInt8.ofNat n.toNat) ∘ fun b : UInt8 => (b.toNat : Int)) = id := by
    funext b; simp
  rw [this, List.map_id]
theorem textV_text {s : ByteArray} (hs : s.size ≤ 140737488351232) (t : List Int) : textV ((enc s.size ++ bytesOf s) ++ t) = (s, ((enc s.size ++ bytesOf s).length : Int)) := by
  have hg := getS_enc (n := s.size) (by omega) (bytesOf s ++ t)
  rw [← List.append_assoc] at hg
  have hp := enc_pos s.size
  have hlen : (enc s.size ++ bytesOf s ++ t).length = (enc s.size).length + s.size + t.length := by simp [bytesOf_length]; omega
  unfold textV
  rw [hg]
  simp only
  rw [if_neg (by rw [hlen]; omega)]
  have h1 : (((enc s.size).length : Int) + (s.size : Int)).toNat = (enc s.size ++ bytesOf s).length := by simp [bytesOf_length]; omega
  rw [h1, List.take_left', Int.toNat_natCast, List.drop_left', strOfNums_bytesOf]
  · simp [bytesOf_length]
  · rfl
  · rfl
end Go.Proofs.Ytfojeegepfjbiaa.NmI
