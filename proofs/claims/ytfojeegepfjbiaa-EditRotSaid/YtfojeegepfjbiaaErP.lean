/- Edits' bytes that were cut, or of which one was changed: lists alone. -/
import Derived.Test.YtfojeegepfjbiaaCrJ
import Derived.Test.YtfojeegepfjbiaaEdQ
namespace Go.Proofs.Ytfojeegepfjbiaa.ErP
open Go.RowKit Go.Proofs.YtfojeegepfjbiaaW.PrintWords Go.Proofs.YtfojeegepfjbiaaW.PrintLast Go.Proofs.YtfojeegepfjbiaaW.PrintMore Go.Proofs.Ytfojeegepfjbiaa.Nm Go.Proofs.Ytfojeegepfjbiaa.NmC Go.Proofs.Ytfojeegepfjbiaa.CrP Go.Proofs.Ytfojeegepfjbiaa.CrA Go.Proofs.Ytfojeegepfjbiaa.CrB Go.Proofs.Ytfojeegepfjbiaa.CrC Go.Proofs.Ytfojeegepfjbiaa.CrD Go.Proofs.Ytfojeegepfjbiaa.CrE Go.Proofs.Ytfojeegepfjbiaa.CrG Go.Proofs.Ytfojeegepfjbiaa.CrH Go.Proofs.Ytfojeegepfjbiaa.CrI Go.Proofs.Ytfojeegepfjbiaa.CrL Go.Proofs.Ytfojeegepfjbiaa.EdZ Go.Proofs.Ytfojeegepfjbiaa.EdA Go.Proofs.Ytfojeegepfjbiaa.EdD Go.Proofs.Ytfojeegepfjbiaa.EdF Go.Proofs.Ytfojeegepfjbiaa.EdJ Go.Proofs.Ytfojeegepfjbiaa.EdL Go.Proofs.Ytfojeegepfjbiaa.EdN Go.Proofs.Ytfojeegepfjbiaa.EdQ
set_option linter.unusedSimpArgs false
set_option linter.unusedVariables false
theorem first_cut {t : List Int} (hl : t.length < 4294967296) {m : Nat} (hm : m < 12 + t.length) : firstL ((sealL t).take m) = ([], 0, true) := by
  have hlen : ((sealL t).take m).length = m := by rw [List.length_take, sealL_len]; omega
  by_cases h12 : m < 12
  · unfold firstL
    rw [if_pos (by omega)]
  · have h4 : ∀ n : Int, (fourL n).length = 4 := fun _ => rfl
    have e : (sealL t).take m = fourL (t.length : Int) ++ (fourL (crc (fourL (t.length : Int)) : Int) ++ (fourL (crc t : Int) ++ t.take (m - 12))) := by
      show ((fourL (t.length : Int) ++ fourL (crc (fourL (t.length : Int)) : Int) ++ fourL (crc t : Int)) ++ t).take m = _
      rw [List.take_append, List.take_of_length_le (by simp [fourL]; omega)]
      simp [fourL]
    have hf : fourV ((sealL t).take m) = (t.length : Int) := by rw [e]; exact fourV_fourL (by omega) (by omega) _
    have d4 : ((sealL t).take m).drop 4 = fourL (crc (fourL (t.length : Int)) : Int) ++ (fourL (crc t : Int) ++ t.take (m - 12)) := by rw [e]; exact List.drop_left' (h4 _)
    have t4 : ((sealL t).take m).take 4 = fourL (t.length : Int) := by rw [e]; exact List.take_left' (h4 _)
    have hcf := crc_lt (bys_fourL (t.length : Int))
    unfold firstL
    rw [if_neg (by omega), d4, t4, if_neg (by rw [fourV_fourL (by omega) (by omega)]; simp), hf, hlen, if_pos (by omega)]
theorem cut_law {ts : List (List Int)} (hok : Okt ts) {m k : Nat} (hk : k ≤ ts.length) (h1 : (sealsL (ts.take k)).length ≤ m) (h2 : k = ts.length ∨ m < (sealsL (ts.take (k + 1))).length) (h3 : m ≤ (sealsL ts).length) :
    scanL ((sealsL ts).take m) = (ts.take k, (sealsL (ts.take k)).length, true) := by
  rcases Nat.lt_or_ge k ts.length with hlt | hge
  · have h2' : m < (sealsL (ts.take (k + 1))).length := by rcases h2 with h | h; omega; exact h
    have hsp : ts = ts.take k ++ ts.getD k [] :: ts.drop (k + 1) := by
      rw [List.getD_eq_getElem?_getD, List.getElem?_eq_getElem hlt]
      simp
    have hts := take_snoc hlt
    have hokt := hok _ (getD_mem hlt)
    have hokk : Okt (ts.take k) := fun x hx => hok x (List.mem_of_mem_take hx)
    generalize ts.getD k [] = t at *
    rw [hts, sealsL_append, List.length_append, sealsL_cons, List.length_append, sealL_len] at h2'
    have h0 : (sealsL ([] : List (List Int))).length = 0 := rfl
    have e : (sealsL ts).take m = sealsL (ts.take k) ++ (sealL t).take (m - (sealsL (ts.take k)).length) := by
      conv => lhs; rw [hsp]
      rw [sealsL_append, sealsL_cons, List.take_append, List.take_of_length_le h1, List.take_append]
      rw [show m - (sealsL (ts.take k)).length - (sealL t).length = 0 by rw [sealL_len]; omega, List.take_zero, List.append_nil]
    have hf := first_cut (t := t) hokt.2 (m := m - (sealsL (ts.take k)).length) (by omega)
    rw [e, scan_end hokk (by rw [hf]), hf]
  · have hke : k = ts.length := by omega
    subst hke
    rw [List.take_of_length_le (Nat.le_refl ts.length)] at h1 ⊢
    rw [List.take_of_length_le h1, scan_all hok]
theorem set_at {pre suf : List Int} {i : Nat} {z : Int} (h : pre.length ≤ i) : (pre ++ suf).set i z = pre ++ suf.set (i - pre.length) z := CrJ.set_right h
/-- A front of a seal that is no seal, of which a byte was changed. -/
theorem first_cut_rot {t : List Int} (hb : Bys t) (hl : t.length < 4294967296) {m j : Nat} (hm : m < 12 + t.length) {z : Int} (hj : j < m) (hz : 0 ≤ z ∧ z < 256) (hne : z ≠ rd ((sealL t).take m) (j : Int)) : (firstL (((sealL t).take m).set j z)).2.1 = 0 := by
  have hlen : ((sealL t).take m).length = m := by rw [List.length_take, sealL_len]; omega
  by_cases h12 : m < 12
  · unfold firstL
    rw [if_pos (by rw [List.length_set]; omega)]
  · have h4 : ∀ n : Int, (fourL n).length = 4 := fun _ => rfl
    have e : (sealL t).take m = fourL (t.length : Int) ++ (fourL (crc (fourL (t.length : Int)) : Int) ++ (fourL (crc t : Int) ++ t.take (m - 12))) := by
      show ((fourL (t.length : Int) ++ fourL (crc (fourL (t.length : Int)) : Int) ++ fourL (crc t : Int)) ++ t).take m = _
      rw [List.take_append, List.take_of_length_le (by simp [fourL]; omega)]
      simp [fourL]
    rw [e] at hne ⊢
    have hl3 : (t.take (m - 12)).length = m - 12 := by rw [List.length_take]; omega
    have hcf := crc_lt (bys_fourL (t.length : Int))
    have v1 := CrJ.fourV_four (n := (t.length : Int)) (by omega) (by omega)
    have b1 := bys_fourL (t.length : Int)
    have l1 := h4 (t.length : Int)
    have v2 := CrJ.fourV_four (n := (crc (fourL (t.length : Int)) : Int)) (by omega) (by omega)
    have l2 := h4 (crc (fourL (t.length : Int)) : Int)
    have l3 := h4 (crc t : Int)
    generalize fourL (crc (fourL (t.length : Int)) : Int) = f2 at *
    generalize fourL (t.length : Int) = f1 at *
    generalize fourL (crc t : Int) = f3 at *
    generalize t.take (m - 12) = r at *
    by_cases h1 : j < 4
    · rw [CrJ.rd_left (by omega)] at hne
      rw [CrJ.set_left (by omega), CrJ.first_bad1 (by rw [List.length_set]; exact l1) l2 (by simp only [List.length_append]; omega) (by rw [v2]; have := CrJ.crc_set b1 (k := j) (by omega) hz hne; omega)]
    · rw [CrJ.rd_right (by omega)] at hne
      rw [CrJ.set_right (by omega)]
      by_cases h2 : j < 8
      · rw [CrJ.rd_left (by omega)] at hne
        rw [CrJ.set_left (by omega), CrJ.first_bad1 l1 (by rw [List.length_set]; exact l2) (by simp only [List.length_append]; omega) (by rw [← v2]; exact CrJ.fourV_set l2 (by omega) hne)]
      · rw [CrJ.set_right (by omega)]
        generalize hq : (f3 ++ r).set (j - f1.length - f2.length) z = q
        have hql : q.length = 4 + (m - 12) := by rw [← hq, List.length_set, List.length_append]; omega
        unfold firstL
        rw [if_neg (by simp only [List.length_append]; omega), List.drop_left' l1, List.take_left' l1, CrJ.fourV_app l2, if_neg (by rw [v2]; simp), CrJ.fourV_app l1, v1, if_pos (by simp only [List.length_append]; omega)]
def EE (es : List EdT) (j : Nat) : Nat := (sealsL ((es.take j).map textL)).length
theorem EE_mono {es : List EdT} {i j : Nat} (h : i ≤ j) : EE es i ≤ EE es j := by
  unfold EE
  have e : es.take j = es.take i ++ (es.take j).drop i := by
    conv => lhs; rw [← List.take_append_drop i (es.take j)]
    rw [List.take_take, Nat.min_eq_left h]
  rw [e, List.map_append, sealsL_append, List.length_append]
  omega
/-- How many whole ones stand ahead of a place. -/
theorem whole {es : List EdT} (m : Nat) : ∀ n, n ≤ es.length → ∃ k, k ≤ n ∧ EE es k ≤ m ∧ (k = n ∨ m < EE es (k + 1)) := by
  intro n
  induction n with
  | zero => intro _; exact ⟨0, Nat.le_refl _, by simp [EE, sealsL], .inl rfl⟩
  | succ n ih =>
    intro hn
    obtain ⟨k, h1, h2, h3⟩ := ih (by omega)
    rcases h3 with rfl | h3
    · by_cases h : EE es (k + 1) ≤ m
      · exact ⟨k + 1, Nat.le_refl _, h, .inl rfl⟩
      · exact ⟨k, by omega, h2, .inr (by omega)⟩
    · exact ⟨k, by omega, h2, .inr h3⟩
theorem whole_lt {es : List EdT} {m k : Nat} (h : EE es k ≤ m) : ∀ j, j < k → EE es (j + 1) ≤ m := fun j hj => Nat.le_trans (EE_mono (by omega)) h
theorem escan_of {es : List EdT} (h : ∀ e ∈ es, EdW e) {b : List Int} {k : Nat} {ok : Bool} (hs : scanL b = ((es.map textL).take k, (sealsL ((es.map textL).take k)).length, ok)) : escanL b = (es.take k, EE es k, ok) := by
  unfold escanL
  rw [hs]
  simp only []
  rw [← List.map_take, eds_all (es.take k) (fun e he => h e (List.mem_of_mem_take he)), Nat.zero_add]
  rfl
theorem er_cut {es : List EdT} (h : ∀ e ∈ es, EdW e) {m : Nat} (hm : m ≤ (sealsL (es.map textL)).length) :
    ∃ k, k ≤ es.length ∧ (∀ j, j < k → EE es (j + 1) ≤ m) ∧ (k < es.length → m < EE es (k + 1)) ∧ escanL ((sealsL (es.map textL)).take m) = (es.take k, EE es k, true) := by
  obtain ⟨k, h1, h2, h3⟩ := whole (es := es) m es.length (Nat.le_refl _)
  have hl : (es.map textL).length = es.length := List.length_map ..
  refine ⟨k, h1, whole_lt h2, fun hk => by rcases h3 with h3 | h3; omega; exact h3, escan_of h ?_⟩
  refine cut_law (okt_eds h) (by omega) (by rw [← List.map_take]; exact h2) ?_ hm
  rcases h3 with h3 | h3
  · exact .inl (by omega)
  · exact .inr (by rw [← List.map_take]; exact h3)
theorem rd_take {l : List Int} {m i : Nat} (h : i < m) : rd (l.take m) (i : Int) = rd l (i : Int) := by
  unfold rd
  rw [Int.toNat_natCast, List.getD_eq_getElem?_getD, List.getD_eq_getElem?_getD, List.getElem?_take_of_lt h]
theorem split_at {ts : List (List Int)} {k : Nat} (hk : k < ts.length) : ts = ts.take k ++ ts.getD k [] :: ts.drop (k + 1) := by
  rw [List.getD_eq_getElem?_getD, List.getElem?_eq_getElem hk]
  simp
theorem er_rot {es : List EdT} (h : ∀ e ∈ es, EdW e) {m i : Nat} (hm : m ≤ (sealsL (es.map textL)).length) (hi : i < m) {z : Int} (hz : 0 ≤ z ∧ z < 256) (hne : z ≠ rd ((sealsL (es.map textL)).take m) (i : Int)) :
    ∃ k, k ≤ es.length ∧ (∀ j, j < k → EE es (j + 1) ≤ m ∧ EE es (j + 1) ≤ i) ∧ (k < es.length → m < EE es (k + 1) ∨ i < EE es (k + 1)) ∧ ∃ ok, escanL (((sealsL (es.map textL)).take m).set i z) = (es.take k, EE es k, ok) := by
  have hl : (es.map textL).length = es.length := List.length_map ..
  have hokt := okt_eds h
  rw [rd_take hi] at hne
  -- the seal that was hit
  obtain ⟨k, hk, h1, h2⟩ := CrJ.seal_of (ts := es.map textL) (i := i) (by omega)
  have hsp := split_at hk
  have hEk : EE es k = (sealsL ((es.map textL).take k)).length := by rw [← List.map_take]; rfl
  have hEk1 : EE es (k + 1) = EE es k + (12 + ((es.map textL).getD k []).length) := by
    unfold EE
    rw [List.map_take, List.map_take, take_snoc hk, sealsL_append, List.length_append, sealsL_cons, List.length_append, sealL_len]
    rfl
  have ht := hokt _ (getD_mem hk)
  have hokk : Okt ((es.map textL).take k) := fun x hx => hokt x (List.mem_of_mem_take hx)
  refine ⟨k, by omega, fun j hj => ⟨whole_lt (m := m) (by omega) j hj, whole_lt (m := i) (by omega) j hj⟩, fun _ => .inr (by omega), ?_⟩
  rw [← hEk] at h1 h2
  generalize (es.map textL).getD k [] = t at *
  have e : sealsL (es.map textL) = sealsL ((es.map textL).take k) ++ (sealL t ++ sealsL ((es.map textL).drop (k + 1))) := by
    conv => lhs; rw [hsp]
    rw [sealsL_append, sealsL_cons]
  generalize sealsL ((es.map textL).drop (k + 1)) = r at *
  have e2 : (sealsL (es.map textL)).take m = sealsL ((es.map textL).take k) ++ (sealL t ++ r).take (m - EE es k) := by
    rw [e, List.take_append, List.take_of_length_le (by omega), ← hEk]
  rw [e, CrJ.rd_right (by omega), ← hEk] at hne
  have hf : (firstL (((sealL t ++ r).take (m - EE es k)).set (i - EE es k) z)).2.1 = 0 := by
    by_cases hw : 12 + t.length ≤ m - EE es k
    · have e3 : (sealL t ++ r).take (m - EE es k) = sealL t ++ r.take (m - EE es k - (12 + t.length)) := by
        rw [List.take_append, List.take_of_length_le (by rw [sealL_len]; exact hw), sealL_len]
      rw [e3, CrJ.first_rot ht.1 ht.2 (j := i - EE es k) (by omega) hz ?_]
      rw [CrJ.rd_left (by rw [sealL_len]; omega)] at hne ⊢
      exact hne
    · have e3 : (sealL t ++ r).take (m - EE es k) = (sealL t).take (m - EE es k) := by
        rw [List.take_append, sealL_len, show m - EE es k - (12 + t.length) = 0 by omega, List.take_zero, List.append_nil]
      rw [e3]
      refine first_cut_rot ht.1 ht.2 (by omega) (by omega) hz ?_
      rw [rd_take (by omega)]
      rw [CrJ.rd_left (by rw [sealL_len]; omega)] at hne
      exact hne
  have hfin := scan_end hokk hf
  rw [e2, set_at (by omega), ← hEk]
  exact ⟨_, escan_of h hfin⟩
/-- Those of the first edits, cut, that may be. -/
def gF (l : List EdT) (i : Nat) : List EdT := ((l.take i).map cutE).filter edOk
theorem gF_bad {l : List EdT} {i : Nat} (h : i < l.length) (hb : edOk (cutE (l.getD i ed0)) = false) : gF l (i + 1) = gF l i := by
  unfold gF
  rw [EdE.take_getD (d := ed0) h, List.map_append, List.filter_append, List.map_cons, List.map_nil, List.filter_cons, hb]
  simp
theorem gF_ok {l : List EdT} {i : Nat} (h : i < l.length) (hb : edOk (cutE (l.getD i ed0)) = true) : gF l (i + 1) = gF l i ++ [cutE (l.getD i ed0)] := by
  unfold gF
  rw [EdE.take_getD (d := ed0) h, List.map_append, List.filter_append, List.map_cons, List.map_nil, List.filter_cons, hb]
  simp
theorem gF_w {l : List EdT} (hg : ∀ e ∈ l, EdGd e) (i : Nat) : ∀ e ∈ gF l i, EdW e := by
  intro e he
  obtain ⟨h1, h2⟩ := List.mem_filter.1 he
  obtain ⟨q, hq, rfl⟩ := List.mem_map.1 h1
  exact ⟨h2, good_cut (hg q (List.mem_of_mem_take hq))⟩
theorem gF_len (l : List EdT) (i : Nat) : (gF l i).length ≤ i := by
  unfold gF
  refine Nat.le_trans (List.length_filter_le _ _) ?_
  rw [List.length_map, List.length_take]
  omega
def endsE (g : List EdT) : List Int := (List.range g.length).map (fun j => ((EE g (j + 1) : Nat) : Int))
theorem endsE_len (g : List EdT) : (endsE g).length = g.length := by simp [endsE]
theorem endsE_snoc (g : List EdT) (e : EdT) : endsE (g ++ [e]) = endsE g ++ [((sealsL (g.map textL) ++ sealL (textL e)).length : Int)] := by
  unfold endsE
  rw [List.length_append, List.length_singleton, List.range_succ, List.map_append, List.map_cons, List.map_nil]
  congr 1
  · refine List.map_congr_left (fun j hj => ?_)
    have := List.mem_range.1 hj
    unfold EE
    rw [List.take_append, show j + 1 - g.length = 0 by omega, List.take_zero, List.append_nil]
  · unfold EE
    rw [List.take_of_length_le (by simp), List.map_append, sealsL_append]
    simp [sealsL]
theorem endsE_getD {g : List EdT} {j : Nat} (h : j < g.length) : (endsE g).getD j 0 = ((EE g (j + 1) : Nat) : Int) := by
  unfold endsE
  rw [List.getD_eq_getElem?_getD, List.getElem?_map, List.getElem?_range h]
  rfl
theorem seals_bound : ∀ (g : List EdT), (∀ e ∈ g, EdW e) → (sealsL (g.map textL)).length ≤ 15012 * g.length := by
  intro g
  induction g with
  | nil => intro _; simp [sealsL]
  | cons e g ih =>
    intro h
    have h1 := (bys_text (h e (by simp)).1 (h e (by simp)).2).2
    have h2 := ih (fun q hq => h q (by simp [hq]))
    rw [List.map_cons, sealsL_cons, List.length_append, sealL_len, List.length_cons]
    omega
theorem seals_g_snoc (g : List EdT) (e : EdT) : sealsL ((g ++ [e]).map textL) = sealsL (g.map textL) ++ sealL (textL e) := by
  rw [List.map_append, sealsL_append]
  simp [sealsL]
theorem take_getD_lt {g : List EdT} {K t : Nat} (h : t < K) : (g.take K).getD t ed0 = g.getD t ed0 := by
  rw [List.getD_eq_getElem?_getD, List.getD_eq_getElem?_getD, List.getElem?_take_of_lt h]
theorem km_ne {w0 : World} {t : Nat} (h1 : 66 ≠ t) (h2 : 90 ≠ t) : ∀ q : Nat, q ∈ 66 :: (KM w0).E → q ≠ t := fun q hq => by
  change q ∈ [66, 90] at hq
  rcases List.mem_cons.1 hq with rfl | hq
  · exact h1
  · rw [List.mem_singleton.1 hq]; exact h2
theorem km_at {w0 w : World} {A : Option Addr} {n : Nat} {os : List EdT} (h : (KM w0).C w A n os) (hb : Below w0.heap.size w0 w) (i : Nat) (hi : i < n) : ∃ (ad : Addr) (i0 i1 : Int) (A2 : Option Addr) (l2 c2 : Nat) (A3 : Option Addr) (l3 c3 : Nat) (A4 : Option Addr) (l4 c4 : Nat) (A5 : Option Addr) (l5 c5 : Nat), A = some ad ∧ w.cell? (ad.add (i * 6)) = some (.int .i64 i0) ∧ w.cell? ⟨(ad.add (i * 6)).block, (ad.add (i * 6)).off + 1, none⟩ = some (.int .i64 i1) ∧
    w.cell? ⟨(ad.add (i * 6)).block, (ad.add (i * 6)).off + 2, none⟩ = some (.slice A2 l2 c2) ∧ w.cell? ⟨(ad.add (i * 6)).block, (ad.add (i * 6)).off + 3, none⟩ = some (.slice A3 l3 c3) ∧ w.cell? ⟨(ad.add (i * 6)).block, (ad.add (i * 6)).off + 4, none⟩ = some (.slice A4 l4 c4) ∧ w.cell? ⟨(ad.add (i * 6)).block, (ad.add (i * 6)).off + 5, none⟩ = some (.slice A5 l5 c5) ∧
    EdAt w (.agg #[.int .i64 i0, .int .i64 i1, .slice A2 l2 c2, .slice A3 l3 c3, .slice A4 l4 c4, .slice A5 l5 c5]) (os.getD i ed0) := by
  obtain ⟨ad, cs, e1, hs, hk, hcell⟩ := ReadsRow.get_ h ed0 (i : Int) (by omega) (by omega)
  rw [Int.toNat_natCast] at hk hcell
  have hed := km_ed (cs := cs.toArray) hk hb
  obtain ⟨i0, i1, A2, l2, c2, A3, l3, c3, A4, l4, c4, A5, l5, c5, hv⟩ := ed_six hed
  injection hv with hv
  have hcs : cs = [.int .i64 i0, .int .i64 i1, .slice A2 l2 c2, .slice A3 l3 c3, .slice A4 l4 c4, .slice A5 l5 c5] := by
    have := congrArg Array.toList hv
    simpa using this
  rw [hv] at hed
  subst hcs
  have hz : (KM w0).sz = 6 := rfl
  rw [hz] at hcell
  have q1 := hcell 1 _ rfl
  have q2 := hcell 2 _ rfl
  have q3 := hcell 3 _ rfl
  have q4 := hcell 4 _ rfl
  have q5 := hcell 5 _ rfl
  rw [add_field ad (i * 6) 1 (by decide)] at q1
  rw [add_field ad (i * 6) 2 (by decide)] at q2
  rw [add_field ad (i * 6) 3 (by decide)] at q3
  rw [add_field ad (i * 6) 4 (by decide)] at q4
  rw [add_field ad (i * 6) 5 (by decide)] at q5
  exact ⟨ad, _, _, _, _, _, _, _, _, _, _, _, _, _, _, e1, hcell 0 _ rfl, q1, q2, q3, q4, q5, hed⟩
end Go.Proofs.Ytfojeegepfjbiaa.ErP
