/- The evaluator's operations that give a value, against the model's: reads, places, parts. Own text. No condition of a claim. -/
import Derived.Test.YtbpdomemnecioaaGreatDoorEvF
import Derived.Laws.Cells
import Derived.Laws.BytesString
import Derived.Laws.Slices
import Derived.Laws.Entries
namespace Go.Proofs.YtbpdomemnecioaaGreatDoor.Ev
open Go
set_option linter.unusedVariables false
set_option linter.unusedSimpArgs false
noncomputable section

/-! ### Reading rows -/
def rlist (d : Nat) (t : Dt AV d) : Nat → Nat → List AV
  | _, 0 => []
  | o, m + 1 => get d o t :: rlist d t (o + 1) m
theorem rlist_len (d : Nat) (t : Dt AV d) : ∀ m o, (rlist d t o m).length = m
  | 0, o => rfl
  | m + 1, o => by simp [rlist, rlist_len d t m]
theorem rdl_true {d : Nat} {t : Dt AV d} : ∀ {m o : Nat} {f : List AV → R}, rdl d t m o f = true → f (rlist d t o m) = true
  | 0, o, f, h => h
  | m + 1, o, f, h => by
    obtain ⟨_, h1⟩ := acc_run (show (acc AV d o).run (fun v => fc (fun o => rdl d t m o (fun vs => f (v :: vs))) (Nat.add o 1)) t = true from h)
    exact rdl_true (m := m) (o := o + 1) h1
theorem lds_true {h : H} {b o m : Nat} {f : List AV → R} (e : lds h b o m f = true) : ∃ d t n z, h.at b = .c d t n z ∧ o + m ≤ n ∧ f (rlist d t o m) = true := by
  cases h with
  | mk ht nx =>
    obtain ⟨hb, e⟩ := acc_run (show (acc Blk 5 b).run _ ht = true from e)
    obtain ⟨d, t, n, z, hk, e⟩ := onC_true e
    obtain ⟨h1, e⟩ := gd_true e
    exact ⟨d, t, n, z, H.at_of hb hk, Nat.le_of_ble_eq_true h1, rdl_true e⟩
theorem cells_at {ρ : Ren} {h : H} {w : World} (a : HB ρ h w) {b : Nat} {l : Loc} (hb : ρ b = some l) {d : Nat} {t : Dt AV d} {n z : Nat} (hk : h.at b = .c d t n z) : ∀ (m o : Nat), o + m ≤ n →
    ∃ cs : List Value, cs.length = m ∧ VRs ρ (rlist d t o m) cs ∧ ∀ (j : Nat) (v : Value), cs[j]? = some v → w.cell? ((⟨l.B, l.O + o, none⟩ : Addr).add j) = some v
  | 0, o, _ => ⟨[], rfl, by simp only [rlist, VRs], fun j v h => by simp at h⟩
  | m + 1, o, ho => by
    obtain ⟨v, hv, hr, _⟩ := cell_at a hb hk (o := o) (by omega)
    obtain ⟨cs, h1, h2, h3⟩ := cells_at a hb hk m (o + 1) (by omega)
    refine ⟨v :: cs, by simp [h1], by simp only [rlist, VRs]; exact ⟨v, cs, rfl, hr, h2⟩, fun j u hj => ?_⟩
    cases j with
    | zero => simp at hj; subst hj; simpa [Addr.add_zero'] using hv
    | succ j =>
      simp at hj
      have := h3 j u hj
      rw [Addr.add_lit] at this ⊢
      rw [show l.O + o + (j + 1) = l.O + (o + 1) + j by omega]; exact this
theorem loadCells_at {P : Program} {ρ : Ren} {h : H} {w : World} (a : HB ρ h w) {b : Nat} {l : Loc} (hb : ρ b = some l) {d : Nat} {t : Dt AV d} {n z : Nat} (hk : h.at b = .c d t n z) {m o : Nat} (ho : o + m ≤ n) :
    ∃ cs : List Value, VRs ρ (rlist d t o m) cs ∧ (loadCells ⟨l.B, l.O + o, none⟩ m).run P w = .ok cs.toArray w := by
  obtain ⟨cs, h1, h2, h3⟩ := cells_at a hb hk m o ho
  exact ⟨cs, h2, by rw [← h1]; exact run_loadCells_list w _ cs h3⟩

/-! ### One operand -/
def Ok1 (P : Program) (s : Value → Sem Value) (t : T) (x : Operand) (v : AV) : Prop :=
  ∀ (ρ : Ren) (a : Act) (w : World), VR ρ (gv t x) (a.eval x) → ∃ v', (s (a.eval x)).run P w = .ok v' w ∧ VR ρ v v'
/-- With the heap. -/
def Oh1 (P : Program) (s : Value → Sem Value) (t : T) (h : H) (x : Operand) (v : AV) : Prop :=
  ∀ (ρ : Ren) (a : Act) (w : World), HB ρ h w → VR ρ (gv t x) (a.eval x) → ∃ v', (s (a.eval x)).run P w = .ok v' w ∧ VR ρ v v'

theorem allOnes_eq (k : IntKind) : BitVec.ofInt k.bits (if k.signed then -1 else k.max) = BitVec.allOnes k.bits := by cases k <;> decide
theorem opUn_ok {P : Program} {op : UnOp} {x : Operand} {t : T} {h : H} {f : AV → R} (e : (opUn op x).run t h f = true) : ∃ v, f v = true ∧ Ok1 P (Op.unary op) t x v := by
  cases op
  case neg =>
    rcases onIu_true (show onIu (fun k => f (.ui k)) (fun k a => fi k f (subN k 0 a)) (gv t x) = true from vo1_run (h := h) e) with ⟨k, n, hx, h1⟩ | ⟨k, hx, h1⟩
    · refine ⟨_, h1, fun ρ a w q => ?_⟩
      rw [hx] at q
      obtain ⟨hn, e1⟩ := VR_i q
      rw [e1]
      refine ⟨_, ?_, VR_mki (Nat.mod_lt _ (md_pos k))⟩
      have h0 : k.wrap ((0 : Nat) : Int) = 0 := by cases k <;> decide
      have := sub_ok k 0 n hn
      rw [h0] at this
      show Result.ok (Value.int k (k.wrap (0 - k.wrap n))) w = _
      rw [this]
    · refine ⟨_, h1, fun ρ a w q => ?_⟩
      rw [hx] at q
      obtain ⟨n, e1⟩ := VR_int (.inl rfl) q
      rw [e1]
      exact ⟨_, rfl, VR_mkui⟩
  case xor =>
    rcases onIu_true (show onIu (fun k => f (.ui k)) (fun k a => fi k f (Nat.sub (Nat.sub (md k) 1) a)) (gv t x) = true from vo1_run (h := h) e) with ⟨k, n, hx, h1⟩ | ⟨k, hx, h1⟩
    · refine ⟨_, h1, fun ρ a w q => ?_⟩
      rw [hx] at q
      obtain ⟨hn, e1⟩ := VR_i q
      rw [e1]
      refine ⟨.int k (k.wrap ((md k - 1 - n : Nat) : Int)), ?_, VR_mki (show md k - 1 - n < md k by have := md_pos k; omega)⟩
      show Result.ok (Value.int k (k.wrap ((BitVec.ofInt k.bits (if k.signed then -1 else k.max) ^^^ BitVec.ofInt k.bits (k.wrap n)).toNat : Nat))) w = _
      rw [allOnes_eq, ← bits_not k hn]
      congr 4
    · refine ⟨_, h1, fun ρ a w q => ?_⟩
      rw [hx] at q
      obtain ⟨n, e1⟩ := VR_int (.inl rfl) q
      rw [e1]
      exact ⟨_, rfl, VR_mkui⟩
  case not =>
    rcases onBu_true (show onBu (f .ub) (fun x => f (.b (nt x))) (gv t x) = true from vo1_run (h := h) e) with ⟨b, hx, h1⟩ | ⟨hx, h1⟩
    · refine ⟨_, h1, fun ρ a w q => ?_⟩
      rw [hx] at q
      simp only [VR] at q
      rw [q]
      exact ⟨_, rfl, by rw [nt_eq]; exact VR_mkb⟩
    · refine ⟨_, h1, fun ρ a w q => ?_⟩
      rw [hx] at q
      simp only [VR] at q
      obtain ⟨b, q⟩ := q
      rw [q]
      exact ⟨_, rfl, by simp only [VR]; exact ⟨_, rfl⟩⟩
  case plus => exact (Bool.false_ne_true e).elim
theorem cvt_lt (j k : IntKind) (n : Nat) : cvt j k n < md k := by
  unfold cvt
  cases Nat.ble (hf j) (sx j n)
  · exact Nat.mod_lt _ (md_pos k)
  · exact Nat.mod_lt _ (md_pos k)
theorem cvt_ok (j k : IntKind) (n : Nat) (hn : n < md j) : k.wrap (j.wrap n) = k.wrap ((cvt j k n : Nat) : Int) := by
  unfold cvt
  cases hb : Nat.ble (hf j) (sx j n)
  · have h1 : ¬ hf j ≤ sx j n := fun h => by rw [Nat.ble_eq_true_of_le h] at hb; cases hb
    have h2 := wrap_sx hn
    have e1 : sx j n = (n + hf j) % md j := rfl
    have h3 : j.wrap n = (n : Int) - md j := by
      rw [h2]
      rw [e1] at h1 ⊢
      clear h2 hb e1
      cases j <;> simp only [md, hf] at hn h1 ⊢ <;> omega
    show k.wrap (j.wrap n) = k.wrap (((n + (md k - md j % md k)) % md k : Nat) : Int)
    rw [wrap_mod, h3]
    refine wrap_congr ?_
    clear h1 h2 h3 hb e1
    cases j <;> cases k <;> simp only [md] at hn ⊢ <;> omega
  · have h1 := wrap_nn hn (Nat.le_of_ble_eq_true hb)
    show k.wrap (j.wrap n) = k.wrap ((n % md k : Nat) : Int)
    rw [h1, wrap_mod]
theorem bytesOf_true {l : List AV} : ∀ {f : List Nat → R}, bytesOf l f = true → ∃ ns : List Nat, l = ns.map (AV.i .u8) ∧ f ns = true := by
  induction l with
  | nil => intro f h; exact ⟨[], rfl, h⟩
  | cons x l ih =>
    intro f h
    obtain ⟨k, n, rfl, h1⟩ := onI_true (show onI (fun k n => keq k .u8 (bytesOf l (fun l => f (n :: l)))) x = true from h)
    obtain ⟨rfl, h2⟩ := keq_true h1
    obtain ⟨ns, rfl, h3⟩ := ih h2
    exact ⟨n :: ns, rfl, h3⟩
theorem VRs_u8 {ρ : Ren} : ∀ {ns : List Nat} {vs : List Value}, VRs ρ (ns.map (AV.i .u8)) vs → (∀ n ∈ ns, n < 256) ∧ vs = ns.map (fun n : Nat => Value.int .u8 (n : Int))
  | [], vs, h => by simp only [List.map_nil, VRs] at h; exact ⟨by simp, h⟩
  | n :: ns, vs, h => by
    simp only [List.map_cons, VRs] at h
    obtain ⟨v, r, rfl, h1, h2⟩ := h
    obtain ⟨hn, rfl⟩ := VR_i h1
    obtain ⟨h3, rfl⟩ := VRs_u8 h2
    have hn' : n < 256 := hn
    refine ⟨by intro m hm; rcases List.mem_cons.1 hm with rfl | hm; exact hn'; exact h3 m hm, ?_⟩
    have : IntKind.u8.wrap (n : Int) = n := by rw [IntKind.wrap_u8']; omega
    rw [this]; rfl
theorem push_all (ns : List Int) : ∀ s : ByteArray, toB (ns.foldl (fun r n => r.push (UInt8.ofNat n.toNat)) s) = toB s ++ ns.map (fun n => n.toNat % 256) := by
  induction ns with
  | nil => intro s; simp
  | cons n ns ih =>
    intro s
    rw [List.foldl_cons, ih]
    have : toB (s.push (UInt8.ofNat n.toNat)) = toB s ++ [n.toNat % 256] := by
      show (s.data.push (UInt8.ofNat n.toNat)).toList.map UInt8.toNat = _
      rw [Array.toList_push, List.map_append]; rfl
    rw [this]; simp
theorem isU8_true {d : Option TypeDesc} (h : isU8 d = true) : d = some (.int .u8) := by
  unfold isU8 at h; split at h <;> first | rfl | cases h
theorem opConv_ok {P : Program} {src dst : TypeId} {x : Operand} {t : T} {h : H} {f : AV → R} (e : (opConv P src dst x).run t h f = true) : ∃ v, f v = true ∧ Oh1 P (convert src dst) t h x v := by
  unfold opConv at e
  split at e
  · rename_i k0 k hs hd
    rcases onIu_true (show onIu (fun _ => f (.ui k)) (fun j n => fi k f (cvt j k n)) (gv t x) = true from vo1_run (h := h) e) with ⟨j, n, hx, h1⟩ | ⟨j, hx, h1⟩
    · refine ⟨_, h1, fun ρ a w _ q => ?_⟩
      rw [hx] at q
      obtain ⟨hn, e1⟩ := VR_i q
      rw [e1]
      refine ⟨.int k (k.wrap (j.wrap n)), ?_, by rw [cvt_ok j k n hn]; exact VR_mki (cvt_lt j k n)⟩
      simp [convert, run_underlying hs, run_underlying hd, Conv.intToInt]
    · refine ⟨_, h1, fun ρ a w _ q => ?_⟩
      rw [hx] at q
      obtain ⟨n, e1⟩ := VR_int (.inl rfl) q
      rw [e1]
      refine ⟨.int k (k.wrap (j.wrap n)), ?_, VR_mkui⟩
      simp [convert, run_underlying hs, run_underlying hd, Conv.intToInt]
  · rename_i hs hd
    obtain ⟨l, hx, h1⟩ := onS_true (show onS (fun l => f (.s l)) (gv t x) = true from vo1_run (h := h) e)
    refine ⟨_, h1, fun ρ a w _ q => ?_⟩
    rw [hx] at q
    obtain ⟨bs, e1, h2⟩ := VR_s q
    rw [e1]
    exact ⟨_, by simp [convert, run_underlying hs, run_underlying hd]; rfl, by simp only [VR]; exact ⟨bs, rfl, h2⟩⟩
  · rename_i el hs hd
    split at e
    · rename_i hu
      have hu := isU8_true hu
      have e2 := gt_run e
      cases hx : gv t x <;> rw [hx] at e2 <;> try exact (Bool.false_ne_true e2).elim
      case sl0 =>
        refine ⟨_, e2, fun ρ a w _ q => ?_⟩
        simp only [hx, VR] at q
        rw [q]
        exact ⟨.string .empty, by simp [convert, run_underlying hs, run_underlying hd, run_underlying hu, Conv.bytesToString], by simp only [VR]; exact ⟨_, rfl, rfl⟩⟩
      case sl b o n c =>
        obtain ⟨d, tr, n', z, hk, ho, h1⟩ := lds_true (show lds h b o n (fun l => bytesOf l (fun l => f (.s l))) = true from e2)
        obtain ⟨ns, hl, h2⟩ := bytesOf_true h1
        refine ⟨_, h2, fun ρ a w hr q => ?_⟩
        rw [hx] at q
        simp only [VR] at q
        obtain ⟨l, ad, c', hb, e1, hnc, _, had⟩ := q
        rw [e1]
        obtain ⟨cs, h3, h4⟩ := loadCells_at (P := P) hr hb hk ho
        rw [hl] at h3
        obtain ⟨h5, rfl⟩ := VRs_u8 h3
        have hlen : ns.length = n := by have := congrArg List.length hl; simpa [rlist_len] using this.symm
        have h6 : (loadCells ad n).run P w = .ok ((ns.map (fun n : Nat => (n : Int))).map (Value.int .u8)).toArray w := by
          rcases had with rfl | h0
          · rw [h4]; simp [Function.comp_def]
          · have hn0 : n = 0 := by omega
            have : ns = [] := List.eq_nil_of_length_eq_zero (by omega)
            subst this; subst hn0
            simp [loadCells, loadCellsFrom]
        have h7 := run_bytesToString (P := P) w ad n c' _ h6
        have h8 : (convert src dst (Value.slice (some ad) n c')).run P w = (Conv.bytesToString (.slice (some ad) n c')).run P w := by
          simp [convert, run_underlying hs, run_underlying hd, run_underlying hu]
        refine ⟨_, h8.trans h7, ?_⟩
        · simp only [VR]
          refine ⟨_, rfl, ?_⟩
          rw [push_all]
          show [] ++ _ = ns
          rw [List.nil_append, List.map_map]
          conv => rhs; rw [← List.map_id ns]
          refine List.map_congr_left fun n hn => ?_
          have := h5 n hn
          simp; omega
    · exact (Bool.false_ne_true e).elim
  · exact (Bool.false_ne_true e).elim
end
end Go.Proofs.YtbpdomemnecioaaGreatDoor.Ev
