/- The evaluator's operations that give a value, against the model's: reads, places, parts. Own text. No condition of a claim. The evaluator's operations that give a value, against the model's: places, loads, parts, literals. Own text. No condition of a claim. The evaluator's operations that give a value, against the model's: literals of structs and arrays. Own text. No condition of a claim. The evaluator's operations that give a value, against the model's: maps, slicings, lengths. Own text. No condition of a claim. The evaluator's operations that give a value, against the model's: lengths, slicings; all of them together. Own text. No condition of a claim. The evaluator's operations that make a block, against the model's. Own text. No condition of a claim. The evaluator's operations that turn something, against the model's: stores, maps. Own text. No condition of a claim. -/
import Derived.Test.YtlpffldeogapmaaGreatDoorEvF
import Derived.Laws.Cells
import Derived.Laws.BytesString
import Derived.Laws.Slices
import Derived.Laws.Entries
import Derived.Great.FillDense
import Derived.Laws.Tables
import Derived.MapKept
import Derived.Laws.MakeOwn
import Derived.Great.BuildSlice
import Derived.Laws.World
import Derived.Laws.IdiomCopy
namespace Go.Proofs.YtlpffldeogapmaaGreatDoor.Ev
open Go
set_option linter.unusedVariables false
set_option linter.unusedSimpArgs false
set_option linter.unusedSectionVars false
variable [GO]
noncomputable section

/-! ### Reading rows -/
def rlist (d : Nat) (t : Dt AV d) : Nat → Nat → List AV
  | _, 0 => []
  | o, m + 1 => get d o t :: rlist d t (o + 1) m
theorem rlist_len (d : Nat) (t : Dt AV d) : ∀ m o, (rlist d t o m).length = m
  | 0, o => rfl
  | m + 1, o => by simp [rlist, rlist_len d t m]
theorem rdl_true {d : Nat} {t : Dt AV d} : ∀ {m o : Nat} {f : List AV → R}, rdl d t m o f = true → f (rlist d t o m) = true
  | 0, o, f, h => h
  | m + 1, o, f, h => by
    obtain ⟨_, h1⟩ := acc_run (show (acc AV d o).run (fun v => fc (fun o => rdl d t m o (fun vs => f (v :: vs))) (Nat.add o 1)) t = true from h)
    exact rdl_true (m := m) (o := o + 1) h1
theorem lds_true {h : H} {b o m : Nat} {f : List AV → R} (e : lds h b o m f = true) : ∃ d t n z, h.at b = .c d t n z ∧ o + m ≤ n ∧ f (rlist d t o m) = true := by
  cases h with
  | mk ht nx =>
    obtain ⟨hb, e⟩ := acc_run (show (acc Blk 5 b).run _ ht = true from e)
    obtain ⟨d, t, n, z, hk, e⟩ := onC_true e
    obtain ⟨h1, e⟩ := gd_true e
    exact ⟨d, t, n, z, H.at_of hb hk, Nat.le_of_ble_eq_true h1, rdl_true e⟩
theorem cells_at {ρ : Ren} {h : H} {w : World} (a : HB ρ h w) {b : Nat} {l : Loc} (hb : ρ b = some l) {d : Nat} {t : Dt AV d} {n z : Nat} (hk : h.at b = .c d t n z) : ∀ (m o : Nat), o + m ≤ n →
    ∃ cs : List Value, cs.length = m ∧ VRs ρ (rlist d t o m) cs ∧ ∀ (j : Nat) (v : Value), cs[j]? = some v → w.cell? ((⟨l.B, l.O + o, none⟩ : Addr).add j) = some v
  | 0, o, _ => ⟨[], rfl, by simp only [rlist, VRs], fun j v h => by simp at h⟩
  | m + 1, o, ho => by
    obtain ⟨v, hv, hr, _⟩ := cell_at a hb hk (o := o) (by omega)
    obtain ⟨cs, h1, h2, h3⟩ := cells_at a hb hk m (o + 1) (by omega)
    refine ⟨v :: cs, by simp [h1], by simp only [rlist, VRs]; exact ⟨v, cs, rfl, hr, h2⟩, fun j u hj => ?_⟩
    cases j with
    | zero => simp at hj; subst hj; simpa [Addr.add_zero'] using hv
    | succ j =>
      simp at hj
      have := h3 j u hj
      rw [Addr.add_lit] at this ⊢
      rw [show l.O + o + (j + 1) = l.O + (o + 1) + j by omega]; exact this
theorem loadCells_at {P : Program} {ρ : Ren} {h : H} {w : World} (a : HB ρ h w) {b : Nat} {l : Loc} (hb : ρ b = some l) {d : Nat} {t : Dt AV d} {n z : Nat} (hk : h.at b = .c d t n z) {m o : Nat} (ho : o + m ≤ n) :
    ∃ cs : List Value, VRs ρ (rlist d t o m) cs ∧ (loadCells ⟨l.B, l.O + o, none⟩ m).run P w = .ok cs.toArray w := by
  obtain ⟨cs, h1, h2, h3⟩ := cells_at a hb hk m o ho
  exact ⟨cs, h2, by rw [← h1]; exact run_loadCells_list w _ cs h3⟩

/-! ### One operand -/
def Ok1 (P : Program) (s : Value → Sem Value) (t : T) (x : Operand) (v : AV) : Prop :=
  ∀ (ρ : Ren) (a : Act) (w : World), VR ρ (gv t x) (a.eval x) → ∃ v', (s (a.eval x)).run P w = .ok v' w ∧ VR ρ v v'
/-- With the heap. -/
def Oh1 (P : Program) (s : Value → Sem Value) (t : T) (h : H) (x : Operand) (v : AV) : Prop :=
  ∀ (ρ : Ren) (a : Act) (w : World), HB ρ h w → VR ρ (gv t x) (a.eval x) → ∃ v', (s (a.eval x)).run P w = .ok v' w ∧ VR ρ v v'

theorem allOnes_eq (k : IntKind) : BitVec.ofInt k.bits (if k.signed then -1 else k.max) = BitVec.allOnes k.bits := by cases k <;> decide
theorem opUn_ok {P : Program} {op : UnOp} {x : Operand} {t : T} {h : H} {f : AV → R} (e : (opUn op x).run t h f = true) : ∃ v, f v = true ∧ Ok1 P (Op.unary op) t x v := by
  cases op
  case neg =>
    rcases onIu_true (show onIu (fun k => f (.ui k)) (fun k a => fi k f (subN k 0 a)) (gv t x) = true from vo1_run (h := h) e) with ⟨k, n, hx, h1⟩ | ⟨k, hx, h1⟩
    · refine ⟨_, h1, fun ρ a w q => ?_⟩
      rw [hx] at q
      obtain ⟨hn, e1⟩ := VR_i q
      rw [e1]
      refine ⟨_, ?_, VR_mki (Nat.mod_lt _ (md_pos k))⟩
      have h0 : k.wrap ((0 : Nat) : Int) = 0 := by cases k <;> decide
      have := sub_ok k 0 n hn
      rw [h0] at this
      show Result.ok (Value.int k (k.wrap (0 - k.wrap n))) w = _
      rw [this]
    · refine ⟨_, h1, fun ρ a w q => ?_⟩
      rw [hx] at q
      obtain ⟨n, e1⟩ := VR_int (.inl rfl) q
      rw [e1]
      exact ⟨_, rfl, VR_mkui⟩
  case xor =>
    rcases onIu_true (show onIu (fun k => f (.ui k)) (fun k a => fi k f (Nat.sub (Nat.sub (md k) 1) a)) (gv t x) = true from vo1_run (h := h) e) with ⟨k, n, hx, h1⟩ | ⟨k, hx, h1⟩
    · refine ⟨_, h1, fun ρ a w q => ?_⟩
      rw [hx] at q
      obtain ⟨hn, e1⟩ := VR_i q
      rw [e1]
      refine ⟨.int k (k.wrap ((md k - 1 - n : Nat) : Int)), ?_, VR_mki (show md k - 1 - n < md k by have := md_pos k; omega)⟩
      show Result.ok (Value.int k (k.wrap ((BitVec.ofInt k.bits (if k.signed then -1 else k.max) ^^^ BitVec.ofInt k.bits (k.wrap n)).toNat : Nat))) w = _
      rw [allOnes_eq, ← bits_not k hn]
      congr 4
    · refine ⟨_, h1, fun ρ a w q => ?_⟩
      rw [hx] at q
      obtain ⟨n, e1⟩ := VR_int (.inl rfl) q
      rw [e1]
      exact ⟨_, rfl, VR_mkui⟩
  case not =>
    rcases onBu_true (show onBu (f .ub) (fun x => f (.b (nt x))) (gv t x) = true from vo1_run (h := h) e) with ⟨b, hx, h1⟩ | ⟨hx, h1⟩
    · refine ⟨_, h1, fun ρ a w q => ?_⟩
      rw [hx] at q
      simp only [VR] at q
      rw [q]
      exact ⟨_, rfl, by rw [nt_eq]; exact VR_mkb⟩
    · refine ⟨_, h1, fun ρ a w q => ?_⟩
      rw [hx] at q
      simp only [VR] at q
      obtain ⟨b, q⟩ := q
      rw [q]
      exact ⟨_, rfl, by simp only [VR]; exact ⟨_, rfl⟩⟩
  case plus => exact (Bool.false_ne_true e).elim
theorem cvt_lt (j k : IntKind) (n : Nat) : cvt j k n < md k := by
  unfold cvt
  cases Nat.ble (hf j) (sx j n)
  · exact Nat.mod_lt _ (md_pos k)
  · exact Nat.mod_lt _ (md_pos k)
theorem cvt_ok (j k : IntKind) (n : Nat) (hn : n < md j) : k.wrap (j.wrap n) = k.wrap ((cvt j k n : Nat) : Int) := by
  unfold cvt
  cases hb : Nat.ble (hf j) (sx j n)
  · have h1 : ¬ hf j ≤ sx j n := fun h => by rw [Nat.ble_eq_true_of_le h] at hb; cases hb
    have h2 := wrap_sx hn
    have e1 : sx j n = (n + hf j) % md j := rfl
    have h3 : j.wrap n = (n : Int) - md j := by
      rw [h2]
      rw [e1] at h1 ⊢
      clear h2 hb e1
      cases j <;> simp only [md, hf] at hn h1 ⊢ <;> omega
    show k.wrap (j.wrap n) = k.wrap (((n + (md k - md j % md k)) % md k : Nat) : Int)
    rw [wrap_mod, h3]
    refine wrap_congr ?_
    clear h1 h2 h3 hb e1
    cases j <;> cases k <;> simp only [md] at hn ⊢ <;> omega
  · have h1 := wrap_nn hn (Nat.le_of_ble_eq_true hb)
    show k.wrap (j.wrap n) = k.wrap ((n % md k : Nat) : Int)
    rw [h1, wrap_mod]
theorem bytesOf_true {l : List AV} : ∀ {f : List Nat → R}, bytesOf l f = true → ∃ ns : List Nat, l = ns.map (AV.i .u8) ∧ f ns = true := by
  induction l with
  | nil => intro f h; exact ⟨[], rfl, h⟩
  | cons x l ih =>
    intro f h
    obtain ⟨k, n, rfl, h1⟩ := onI_true (show onI (fun k n => keq k .u8 (bytesOf l (fun l => f (n :: l)))) x = true from h)
    obtain ⟨rfl, h2⟩ := keq_true h1
    obtain ⟨ns, rfl, h3⟩ := ih h2
    exact ⟨n :: ns, rfl, h3⟩
theorem VRs_u8 {ρ : Ren} : ∀ {ns : List Nat} {vs : List Value}, VRs ρ (ns.map (AV.i .u8)) vs → (∀ n ∈ ns, n < 256) ∧ vs = ns.map (fun n : Nat => Value.int .u8 (n : Int))
  | [], vs, h => by simp only [List.map_nil, VRs] at h; exact ⟨by simp, h⟩
  | n :: ns, vs, h => by
    simp only [List.map_cons, VRs] at h
    obtain ⟨v, r, rfl, h1, h2⟩ := h
    obtain ⟨hn, rfl⟩ := VR_i h1
    obtain ⟨h3, rfl⟩ := VRs_u8 h2
    have hn' : n < 256 := hn
    refine ⟨by intro m hm; rcases List.mem_cons.1 hm with rfl | hm; exact hn'; exact h3 m hm, ?_⟩
    have : IntKind.u8.wrap (n : Int) = n := by rw [IntKind.wrap_u8']; omega
    rw [this]; rfl
theorem push_all (ns : List Int) : ∀ s : ByteArray, toB (ns.foldl (fun r n => r.push (UInt8.ofNat n.toNat)) s) = toB s ++ ns.map (fun n => n.toNat % 256) := by
  induction ns with
  | nil => intro s; simp
  | cons n ns ih =>
    intro s
    rw [List.foldl_cons, ih]
    have : toB (s.push (UInt8.ofNat n.toNat)) = toB s ++ [n.toNat % 256] := by
      show (s.data.push (UInt8.ofNat n.toNat)).toList.map UInt8.toNat = _
      rw [Array.toList_push, List.map_append]; rfl
    rw [this]; simp
theorem isU8_true {d : Option TypeDesc} (h : isU8 d = true) : d = some (.int .u8) := by
  unfold isU8 at h; split at h <;> first | rfl | cases h
theorem opConv_ok {P : Program} {src dst : TypeId} {x : Operand} {t : T} {h : H} {f : AV → R} (e : (opConv P src dst x).run t h f = true) : ∃ v, f v = true ∧ Oh1 P (convert src dst) t h x v := by
  unfold opConv at e
  split at e
  · rename_i k0 k hs hd
    rcases onIu_true (show onIu (fun _ => f (.ui k)) (fun j n => fi k f (cvt j k n)) (gv t x) = true from vo1_run (h := h) e) with ⟨j, n, hx, h1⟩ | ⟨j, hx, h1⟩
    · refine ⟨_, h1, fun ρ a w _ q => ?_⟩
      rw [hx] at q
      obtain ⟨hn, e1⟩ := VR_i q
      rw [e1]
      refine ⟨.int k (k.wrap (j.wrap n)), ?_, by rw [cvt_ok j k n hn]; exact VR_mki (cvt_lt j k n)⟩
      simp [convert, run_underlying hs, run_underlying hd, Conv.intToInt]
    · refine ⟨_, h1, fun ρ a w _ q => ?_⟩
      rw [hx] at q
      obtain ⟨n, e1⟩ := VR_int (.inl rfl) q
      rw [e1]
      refine ⟨.int k (k.wrap (j.wrap n)), ?_, VR_mkui⟩
      simp [convert, run_underlying hs, run_underlying hd, Conv.intToInt]
  · rename_i hs hd
    obtain ⟨l, hx, h1⟩ := onS_true (show onS (fun l => f (.s l)) (gv t x) = true from vo1_run (h := h) e)
    refine ⟨_, h1, fun ρ a w _ q => ?_⟩
    rw [hx] at q
    obtain ⟨bs, e1, h2⟩ := VR_s q
    rw [e1]
    exact ⟨_, by simp [convert, run_underlying hs, run_underlying hd]; rfl, by simp only [VR]; exact ⟨bs, rfl, h2⟩⟩
  · rename_i el hs hd
    split at e
    · rename_i hu
      have hu := isU8_true hu
      have e2 := gt_run e
      cases hx : gv t x <;> rw [hx] at e2 <;> try exact (Bool.false_ne_true e2).elim
      case sl0 =>
        refine ⟨_, e2, fun ρ a w _ q => ?_⟩
        simp only [hx, VR] at q
        rw [q]
        exact ⟨.string .empty, by simp [convert, run_underlying hs, run_underlying hd, run_underlying hu, Conv.bytesToString], by simp only [VR]; exact ⟨_, rfl, rfl⟩⟩
      case sl b o n c =>
        obtain ⟨d, tr, n', z, hk, ho, h1⟩ := lds_true (show lds h b o n (fun l => bytesOf l (fun l => f (.s l))) = true from e2)
        obtain ⟨ns, hl, h2⟩ := bytesOf_true h1
        refine ⟨_, h2, fun ρ a w hr q => ?_⟩
        rw [hx] at q
        simp only [VR] at q
        obtain ⟨l, ad, c', hb, e1, hnc, _, had⟩ := q
        rw [e1]
        obtain ⟨cs, h3, h4⟩ := loadCells_at (P := P) hr hb hk ho
        rw [hl] at h3
        obtain ⟨h5, rfl⟩ := VRs_u8 h3
        have hlen : ns.length = n := by have := congrArg List.length hl; simpa [rlist_len] using this.symm
        have h6 : (loadCells ad n).run P w = .ok ((ns.map (fun n : Nat => (n : Int))).map (Value.int .u8)).toArray w := by
          rcases had with rfl | h0
          · rw [h4]; simp [Function.comp_def]
          · have hn0 : n = 0 := by omega
            have : ns = [] := List.eq_nil_of_length_eq_zero (by omega)
            subst this; subst hn0
            simp [loadCells, loadCellsFrom]
        have h7 := run_bytesToString (P := P) w ad n c' _ h6
        have h8 : (convert src dst (Value.slice (some ad) n c')).run P w = (Conv.bytesToString (.slice (some ad) n c')).run P w := by
          simp [convert, run_underlying hs, run_underlying hd, run_underlying hu]
        refine ⟨_, h8.trans h7, ?_⟩
        · simp only [VR]
          refine ⟨_, rfl, ?_⟩
          rw [push_all]
          show [] ++ _ = ns
          rw [List.nil_append, List.map_map]
          conv => rhs; rw [← List.map_id ns]
          refine List.map_congr_left fun n hn => ?_
          have := h5 n hn
          simp; omega
    · exact (Bool.false_ne_true e).elim
  · exact (Bool.false_ne_true e).elim
end
end Go.Proofs.YtlpffldeogapmaaGreatDoor.Ev

namespace Go.Proofs.YtlpffldeogapmaaGreatDoor.Ev
open Go
set_option linter.unusedVariables false
set_option linter.unusedSimpArgs false
set_option linter.unusedSectionVars false
variable [GO]
noncomputable section

/-- Two operands, with the heap. -/
def Oh2 (P : Program) (s : Value → Value → Sem Value) (t : T) (h : H) (x y : Operand) (v : AV) : Prop :=
  ∀ (ρ : Ren) (a : Act) (w : World), HB ρ h w → VR ρ (gv t x) (a.eval x) → VR ρ (gv t y) (a.eval y) → ∃ v', (s (a.eval x) (a.eval y)).run P w = .ok v' w ∧ VR ρ v v'

theorem nth_true : ∀ {n : Nat} {l : List AV} {f : AV → R}, nth n l f = true → ∃ v, l[n]? = some v ∧ f v = true
  | 0, [], f, h => (Bool.false_ne_true h).elim
  | 0, x :: l, f, h => ⟨x, rfl, h⟩
  | n + 1, [], f, h => (Bool.false_ne_true h).elim
  | n + 1, x :: l, f, h => by
    obtain ⟨v, h1, h2⟩ := nth_true (n := n) (l := l) (f := f) h
    exact ⟨v, by simpa using h1, h2⟩
theorem nthN_true : ∀ {n : Nat} {l : List Nat} {f : Nat → R}, nthN n l f = true → ∃ v, l[n]? = some v ∧ f v = true
  | 0, [], f, h => (Bool.false_ne_true h).elim
  | 0, x :: l, f, h => ⟨x, rfl, h⟩
  | n + 1, [], f, h => (Bool.false_ne_true h).elim
  | n + 1, x :: l, f, h => by
    obtain ⟨v, h1, h2⟩ := nthN_true (n := n) (l := l) (f := f) h
    exact ⟨v, by simpa using h1, h2⟩
theorem VR_tu {ρ : Ren} {l : List AV} {v : Value} (h : VR ρ (.tu l) v) : ∃ vs, v = .tuple vs ∧ VRs ρ l vs.toList := by simpa only [VR] using h
theorem VR_p {ρ : Ren} {b o : Nat} {v : Value} (h : VR ρ (.p b o) v) : ∃ l, ρ b = some l ∧ v = .pointer (some ⟨l.B, l.O + o, none⟩) := by simpa only [VR] using h
theorem VR_mkp {ρ : Ren} {b o : Nat} {l : Loc} (h : ρ b = some l) : VR ρ (.p b o) (.pointer (some ⟨l.B, l.O + o, none⟩)) := by simp only [VR]; exact ⟨l, h, rfl⟩
theorem VR_sl {ρ : Ren} {b o n c : Nat} {v : Value} (h : VR ρ (.sl b o n c) v) : ∃ l a c', ρ b = some l ∧ v = .slice (some a) n c' ∧ n ≤ c' ∧ (c' = c ∨ c' = c + l.X) ∧ (a = ⟨l.B, l.O + o, none⟩ ∨ c' = 0) := by simpa only [VR] using h
theorem extract_ok {P : Program} {x : Operand} {i : Nat} {t : T} {h : H} {f : AV → R} (e : (vo1 x ⟨fun v f => onTu (fun l => nth i l f) v⟩).run t h f = true) : ∃ v, f v = true ∧ Ok1 P (fun v => Instr.extract v i) t x v := by
  obtain ⟨l, hx, h1⟩ := onTu_true (vo1_run e)
  obtain ⟨v, hv, h2⟩ := nth_true h1
  refine ⟨v, h2, fun ρ a w q => ?_⟩
  rw [hx] at q
  obtain ⟨vs, e1, q1⟩ := VR_tu q
  rw [e1]
  obtain ⟨u, hu, q2⟩ := q1.at i v hv
  refine ⟨u, ?_, q2⟩
  have : vs[i]? = some u := by simpa using hu
  simp [Instr.extract, this]
theorem run_info {P : Program} {t : TypeId} {i : TypeInfo} (h : P.info? t = some i) (w : World) : (typeInfo t).run P w = .ok i w := by simp [typeInfo, h]
theorem run_size {P : Program} {t : TypeId} {s : Nat} (h : szOf P t = some s) (w : World) : (sizeOf t).run P w = .ok s w := by
  unfold szOf at h
  cases hi : P.info? t with
  | none => rw [hi] at h; cases h
  | some i => rw [hi] at h; simp at h; simp [sizeOf, run_info hi, h]
theorem run_agg {P : Program} {t : TypeId} {d : TypeDesc} (h : P.underlying t = some d) (w : World) : (isAgg t).run P w = .ok (isAggD d) w := by
  cases d <;> simp [isAgg, run_underlying h, isAggD]
theorem shape0 {P : Program} {t : TypeId} (h : shapeOf P t = some none) (w : World) : (isAgg t).run P w = .ok false w := by
  unfold shapeOf at h
  split at h
  · rename_i d i hd hi
    split at h
    · cases h
    · rename_i hn
      rw [run_agg hd]; simp at hn; rw [hn]
  · cases h
theorem shapeS {P : Program} {t m : Nat} (h : shapeOf P t = some (some m)) (w : World) : (isAgg t).run P w = .ok true w ∧ szOf P t = some m := by
  unfold shapeOf at h
  split at h
  · rename_i d i hd hi
    split at h
    · rename_i hn
      simp at h
      exact ⟨by rw [run_agg hd, hn], by simp [szOf, hi, h]⟩
    · cases h
  · cases h
theorem run_part0 {P : Program} {t : TypeId} (h : shapeOf P t = some none) {cs : Array Value} {off : Nat} {v : Value} (hv : cs[off]? = some v) (w : World) : (part t cs off).run P w = .ok v w := by
  simp [part, shape0 h, hv]
theorem run_partS {P : Program} {t : TypeId} {m : Nat} (h : shapeOf P t = some (some m)) {cs : Array Value} {off : Nat} (w : World) : (part t cs off).run P w = .ok (.agg (cs.extract off (off + m))) w := by
  simp [part, (shapeS h w).1, run_size (shapeS h w).2]
theorem VRs.take {ρ : Ren} : ∀ (n : Nat) {l : List AV} {vs : List Value}, VRs ρ l vs → VRs ρ (l.take n) (vs.take n)
  | 0, l, vs, h => by simp only [List.take_zero, VRs]
  | n + 1, [], vs, h => by simp only [VRs] at h; subst h; simp only [List.take_nil, VRs]
  | n + 1, x :: l, vs, h => by
    simp only [VRs] at h
    obtain ⟨v, r, rfl, h1, h2⟩ := h
    simp only [List.take_succ_cons, VRs]
    exact ⟨v, _, rfl, h1, VRs.take n h2⟩
theorem VRs.drop {ρ : Ren} : ∀ (n : Nat) {l : List AV} {vs : List Value}, VRs ρ l vs → VRs ρ (l.drop n) (vs.drop n)
  | 0, l, vs, h => h
  | n + 1, [], vs, h => by simp only [VRs] at h; subst h; simp only [List.drop_nil, VRs]
  | n + 1, x :: l, vs, h => by
    simp only [VRs] at h
    obtain ⟨v, r, rfl, h1, h2⟩ := h
    simp only [List.drop_succ_cons]
    exact VRs.drop n h2
theorem opField_ok {P : Program} {ty : TypeId} {x : Operand} {i : Nat} {t : T} {h : H} {f : AV → R} (e : (opField P ty x i).run t h f = true) : ∃ v, f v = true ∧ Ok1 P (fun v => Instr.field ty v i) t x v := by
  unfold opField at e
  split at e
  · rename_i fs hu
    split at e
    · rename_i fd hfd
      split at e
      · rename_i hsh
        obtain ⟨l, hx, h1⟩ := onAg_true (vo1_run e)
        obtain ⟨v, hv, h2⟩ := nth_true h1
        refine ⟨v, h2, fun ρ a w q => ?_⟩
        rw [hx] at q
        obtain ⟨vs, e1, q1⟩ := VR_ag q
        rw [e1]
        obtain ⟨u, hu2, q2⟩ := q1.at _ v hv
        exact ⟨u, by simp [Instr.field, run_underlying hu, hfd, asAgg, run_part0 hsh (by simpa using hu2 : vs[fd.offset]? = some u)], q2⟩
      · rename_i m hsh
        obtain ⟨l, hx, h1⟩ := onAg_true (vo1_run e)
        refine ⟨_, h1, fun ρ a w q => ?_⟩
        rw [hx] at q
        obtain ⟨vs, e1, q1⟩ := VR_ag q
        rw [e1]
        refine ⟨_, by simp [Instr.field, run_underlying hu, hfd, asAgg, run_partS hsh]; rfl, ?_⟩
        simp only [VR]
        refine ⟨_, rfl, ?_⟩
        rw [Array.toList_extract]
        simpa using (q1.drop fd.offset).take m
      · exact (Bool.false_ne_true e).elim
    · exact (Bool.false_ne_true e).elim
  · exact (Bool.false_ne_true e).elim
theorem opFieldAddr_ok {P : Program} {ty : TypeId} {x : Operand} {i : Nat} {t : T} {h : H} {f : AV → R} (e : (opFieldAddr P ty x i).run t h f = true) : ∃ v, f v = true ∧ Ok1 P (fun v => Instr.fieldAt ty v i) t x v := by
  unfold opFieldAddr at e
  split at e
  · rename_i fs hu
    split at e
    · rename_i fd hfd
      split at e
      · rename_i s hs
        obtain ⟨b, o, hx, h1⟩ := onP_true (vo1_run e)
        refine ⟨_, h1, fun ρ a w q => ?_⟩
        rw [hx] at q
        obtain ⟨l, hb, e1⟩ := VR_p q
        rw [e1]
        refine ⟨_, by simp [Instr.fieldAt, run_underlying hu, hfd, Instr.sureAddr, fieldPlace, run_size hs]; rfl, ?_⟩
        rw [Addr.add_lit]
        have := VR_mkp (o := o + fd.offset) hb
        rw [← Nat.add_assoc] at this
        exact this
      · exact (Bool.false_ne_true e).elim
    · exact (Bool.false_ne_true e).elim
  · exact (Bool.false_ne_true e).elim
theorem ixP_true {sz b o n : Nat} {f : AV → R} {k : IntKind} {a : Nat} (h : ixP sz b o n f k a = true) : a < n ∧ hf k ≤ sx k a ∧ f (.p b (o + a * sz)) = true := by
  obtain ⟨h1, h⟩ := gd_true h
  obtain ⟨h2, h⟩ := gd_true h
  exact ⟨by simpa [Nat.blt_eq] using h1, Nat.le_of_ble_eq_true h2, h⟩
theorem opIndexAddr_ok {P : Program} {ty : TypeId} {x i : Operand} {t : T} {h : H} {f : AV → R} (e : (opIndexAddr P ty x i).run t h f = true) : ∃ v, f v = true ∧ Ok2 P (Instr.indexAt ty) t x i v := by
  unfold opIndexAddr at e
  split at e
  · rename_i el hu
    split at e
    · rename_i sz hs
      obtain ⟨b, o, n, c, hx, h1⟩ := onSl_true (vo2_run e)
      obtain ⟨k, j, hi, h2⟩ := onI_true h1
      obtain ⟨h3, h4, h5⟩ := ixP_true h2
      refine ⟨_, h5, fun ρ a w q1 q2 => ?_⟩
      rw [hx] at q1
      rw [hi] at q2
      obtain ⟨l, ad, c', hb, e1, hnc, _, had⟩ := VR_sl q1
      obtain ⟨hj, e2⟩ := VR_i q2
      rw [e1, e2, wrap_nn hj h4]
      have had : ad = ⟨l.B, l.O + o, none⟩ := had.resolve_right (by omega)
      subst had
      have hel : P.elem ty = el := by simp [Program.elem, hu]
      refine ⟨_, by rw [run_indexAt_slice w ty _ _ _ _ _ (by rw [hel]; exact hu), if_pos (by omega), hel, run_size hs]; rfl, ?_⟩
      rw [Addr.add_lit, Int.toNat_natCast, Nat.add_assoc]
      exact VR_mkp hb
    · exact (Bool.false_ne_true e).elim
  · rename_i len el hu
    split at e
    · rename_i sz hs
      obtain ⟨b, o, hx, h1⟩ := onP_true (vo2_run e)
      obtain ⟨k, j, hi, h2⟩ := onI_true h1
      obtain ⟨h3, h4, h5⟩ := ixP_true h2
      refine ⟨_, h5, fun ρ a w q1 q2 => ?_⟩
      rw [hx] at q1
      rw [hi] at q2
      obtain ⟨l, hb, e1⟩ := VR_p q1
      obtain ⟨hj, e2⟩ := VR_i q2
      rw [e1, e2, wrap_nn hj h4]
      have hel : P.elem ty = el := by simp [Program.elem, hu]
      have hal : P.arrayLen ty = len := by simp [Program.arrayLen, hu]
      refine ⟨_, by rw [run_indexAt_array w ty _ _ _ (by rw [hel, hal]; exact hu), hal, if_pos (by omega), hel, run_size hs]; rfl, ?_⟩
      rw [Addr.add_lit, Int.toNat_natCast, Nat.add_assoc]
      exact VR_mkp hb
    · exact (Bool.false_ne_true e).elim
  · exact (Bool.false_ne_true e).elim
theorem opIndex_ok {P : Program} {ty : TypeId} {x i : Operand} {t : T} {h : H} {f : AV → R} (e : (opIndex P ty x i).run t h f = true) : ∃ v, f v = true ∧ Ok2 P (Instr.index ty) t x i v := by
  unfold opIndex at e
  split at e
  · rename_i hu
    have hu := isStr_true hu
    obtain ⟨l, hx, h1⟩ := onS_true (vo2_run e)
    obtain ⟨k, j, hi, h2⟩ := onI_true h1
    obtain ⟨h3, h4⟩ := gd_true h2
    obtain ⟨c, hc, h5⟩ := nthN_true h4
    refine ⟨_, h5, fun ρ a w q1 q2 => ?_⟩
    rw [hx] at q1
    rw [hi] at q2
    obtain ⟨bs, e1, rfl⟩ := VR_s q1
    obtain ⟨hj, e2⟩ := VR_i q2
    rw [e1, e2, wrap_nn hj (Nat.le_of_ble_eq_true h3)]
    have hlt : j < bs.size := by
      rw [toB_size, llen_eq]
      exact (List.getElem?_eq_some_iff.1 hc).1
    have hv : (bs[j]'hlt).toNat = c := by
      have := hc
      simp only [toB, List.getElem?_map, Array.getElem?_toList] at this
      rw [Array.getElem?_eq_getElem (show j < bs.data.size from hlt)] at this
      have h9 : (bs.data[j]'hlt).toNat = c := by simpa using this
      exact h9
    refine ⟨.int .u8 (c : Int), ?_, ?_⟩
    · rw [run_index_string w ty _ _ _ hu, dif_pos ⟨by omega, by omega⟩]
      congr 2
      rw [← hv]; rfl
    · have h6 : c < 256 := by rw [← hv]; exact (bs[j]'hlt).toNat_lt
      have h7 := VR_mki (ρ := ρ) (k := .u8) (n := c) h6
      have h8 : IntKind.u8.wrap (c : Int) = c := by rw [IntKind.wrap_u8']; omega
      rwa [h8] at h7
  · exact (Bool.false_ne_true e).elim
theorem opLoad_ok {P : Program} {ty : TypeId} {x : Operand} {t : T} {h : H} {f : AV → R} (e : (opLoad P ty x).run t h f = true) : ∃ v, f v = true ∧ Oh1 P (Instr.loadAt ty) t h x v := by
  unfold opLoad at e
  split at e
  · rename_i hsh
    obtain ⟨b, o, hx, h1⟩ := onP_true (gt_run e)
    obtain ⟨d, tr, n, z, hk, ho, h2⟩ := ldc_true h1
    refine ⟨_, h2, fun ρ a w hr q => ?_⟩
    rw [hx] at q
    obtain ⟨l, hb, e1⟩ := VR_p q
    rw [e1]
    obtain ⟨v, hv, q1, _⟩ := cell_at hr hb hk ho
    exact ⟨v, by simp [Instr.loadAt, Instr.sureAddr, loadVar, shape0 hsh, hv], q1⟩
  · rename_i m hsh
    obtain ⟨b, o, hx, h1⟩ := onP_true (gt_run e)
    obtain ⟨d, tr, n, z, hk, ho, h2⟩ := lds_true h1
    refine ⟨_, h2, fun ρ a w hr q => ?_⟩
    rw [hx] at q
    obtain ⟨l, hb, e1⟩ := VR_p q
    rw [e1]
    obtain ⟨cs, q1, h3⟩ := loadCells_at (P := P) hr hb hk ho
    refine ⟨.agg cs.toArray, by simp [Instr.loadAt, Instr.sureAddr, loadVar, (shapeS hsh w).1, run_size (shapeS hsh w).2, h3], ?_⟩
    simp only [VR]
    exact ⟨_, rfl, q1⟩
  · exact (Bool.false_ne_true e).elim
theorem opNilCheck_ok {P : Program} {x : Operand} {t : T} {h : H} {f : AV → R} (e : (opNilCheck x).run t h f = true) :
    ∃ v, f v = true ∧ ∀ (ρ : Ren) (a : Act), VR ρ (gv t x) (a.eval x) → ((∃ ad, a.eval x = .pointer (some ad)) ∨ (∃ ty u, a.eval x = .iface ty u) ∨ (∃ g b c, a.eval x = .func (.func g) b c)) ∧ VR ρ v (a.eval x) := by
  have e2 := vo1_run (h := h) e
  cases hx : gv t x <;> rw [hx] at e2 <;> try exact (Bool.false_ne_true e2).elim
  case p b o =>
    refine ⟨_, e2, fun ρ a q => ⟨?_, q⟩⟩
    obtain ⟨l, _, e1⟩ := VR_p q
    exact .inl ⟨_, e1⟩
  case ifc ty u =>
    refine ⟨_, e2, fun ρ a q => ⟨?_, q⟩⟩
    simp only [VR] at q
    obtain ⟨u', e1, _⟩ := q
    exact .inr (.inl ⟨_, _, e1⟩)
  case f fn b c =>
    cases fn <;> try exact (Bool.false_ne_true e2).elim
    rename_i g
    refine ⟨_, e2, fun ρ a q => ⟨?_, q⟩⟩
    simp only [VR] at q
    obtain ⟨_, _, e1, _⟩ := q
    exact .inr (.inr ⟨_, _, _, e1⟩)
theorem opIface_ok {P : Program} {ty : TypeId} {x : Operand} {t : T} {h : H} {f : AV → R} (e : (opIface P ty x).run t h f = true) : ∃ v, f v = true ∧ Ok1 P (Instr.makeInterface ty) t x v := by
  unfold opIface at e
  split at e
  · exact (Bool.false_ne_true e).elim
  · exact (Bool.false_ne_true e).elim
  · rename_i hni hnn
    refine ⟨_, gt_run (f := fun v => f (.ifc ty v)) e, fun ρ a w q => ⟨.iface ty (a.eval x), ?_, by simp only [VR]; exact ⟨_, rfl, q⟩⟩⟩
    cases hu : P.underlying ty with
    | none => exact absurd hu hnn
    | some d =>
      cases d <;> first | exact absurd hu (hni _) | simp [Instr.makeInterface, run_underlying hu]
theorem opAssert_ok {P : Program} {x : Operand} {xt ty : TypeId} {ok : Bool} {t : T} {h : H} {f : AV → R} (e : (opAssert P x ty ok).run t h f = true) : ∃ v, f v = true ∧ Ok1 P (fun v => Instr.typeAssert v xt ty ok) t x v := by
  unfold opAssert at e
  split at e
  · exact (Bool.false_ne_true e).elim
  · rename_i hni
    have e2 := vo1_run (h := h) e
    cases hx : gv t x <;> rw [hx] at e2 <;> try exact (Bool.false_ne_true e2).elim
    case ifc tx u =>
      obtain ⟨h1, h2⟩ := gd_true (show gd (Nat.beq tx ty) (Bool.rec (f u) (f (.tu [u, .b true])) ok) = true from e2)
      have h1 : tx = ty := Nat.eq_of_beq_eq_true h1
      subst h1
      have key : ∀ v', (Instr.typeAssert (.iface tx v') xt tx ok) = (do let _ ← underlying tx; pure (if ok then .tuple #[v', .bool true] else v') : Sem Value) ∨ True := fun _ => .inr trivial
      have run : ∀ v' w, (Instr.typeAssert (.iface tx v') xt tx ok).run P w = .ok (if ok then .tuple #[v', .bool true] else v') w := by
        intro v' w
        cases hu : P.underlying tx with
        | none => simp [isIfaceD, hu] at hni
        | some d =>
          cases d <;> first | (simp [isIfaceD, hu] at hni; done) | simp [Instr.typeAssert, run_underlying hu]
      cases ok
      · refine ⟨u, h2, fun ρ a w q => ?_⟩
        rw [hx] at q
        simp only [VR] at q
        obtain ⟨v', e1, q1⟩ := q
        rw [e1]
        exact ⟨_, run v' w, q1⟩
      · refine ⟨_, h2, fun ρ a w q => ?_⟩
        rw [hx] at q
        simp only [VR] at q
        obtain ⟨v', e1, q1⟩ := q
        rw [e1]
        refine ⟨_, run v' w, ?_⟩
        simp only [VR, VRs, if_true]
        exact ⟨_, rfl, v', _, rfl, q1, _, _, rfl, rfl, rfl⟩
end
end Go.Proofs.YtlpffldeogapmaaGreatDoor.Ev

namespace Go.Proofs.YtlpffldeogapmaaGreatDoor.Ev
open Go
set_option linter.unusedVariables false
set_option linter.unusedSimpArgs false
set_option linter.unusedSectionVars false
variable [GO]
noncomputable section

theorem flat_true {r : R} {x : AV} (h : flat r x = true) : r = true ∧ ∀ ρ v, VR ρ x v → v.oneCell' = true := by
  cases x <;> try exact (Bool.false_ne_true h).elim
  case ub => exact ⟨h, fun ρ v q => by simp only [VR] at q; obtain ⟨_, rfl⟩ := q; rfl⟩
  case ui => exact ⟨h, fun ρ v q => by simp only [VR] at q; obtain ⟨_, rfl⟩ := q; rfl⟩
  case bx => exact ⟨h, fun ρ v q => by simp only [VR] at q; obtain ⟨_, _, _, _, _, rfl⟩ := q; rfl⟩
  case ne => exact ⟨h, fun ρ v q => by simp only [VR] at q; obtain ⟨_, rfl, _⟩ := q; rfl⟩
  case rg => exact ⟨h, fun ρ v q => by simp only [VR] at q; obtain ⟨_, rfl, _⟩ := q; rfl⟩
  case sm => exact ⟨h, fun ρ v q => by simp only [VR] at q; obtain ⟨_, rfl, _⟩ := q; rfl⟩
  case uj => exact ⟨h, fun ρ v q => by simp only [VR] at q; obtain ⟨_, _, rfl, _⟩ := q; rfl⟩
  case tx => exact ⟨h, fun ρ v q => by simp only [VR] at q; obtain ⟨_, _, _, _, _, rfl⟩ := q; rfl⟩
  case nm => exact ⟨h, fun ρ v q => by simp only [VR] at q; obtain ⟨_, rfl, _⟩ := q; rfl⟩
  case us => exact ⟨h, fun ρ v q => by simp only [VR] at q; obtain ⟨_, _, _, rfl, _⟩ := q; rfl⟩
  case sr => exact ⟨h, fun ρ v q => by simp only [VR] at q; obtain ⟨_, rfl, _⟩ := q; rfl⟩
  case f0 => exact ⟨h, fun ρ v q => by simp only [VR] at q; subst q; rfl⟩
  case if0 => exact ⟨h, fun ρ v q => by simp only [VR] at q; subst q; rfl⟩
  case m0 => exact ⟨h, fun ρ v q => by simp only [VR] at q; subst q; rfl⟩
  case p0 => exact ⟨h, fun ρ v q => by simp only [VR] at q; subst q; rfl⟩
  case sl0 => exact ⟨h, fun ρ v q => by simp only [VR] at q; subst q; rfl⟩
  case f => exact ⟨h, fun ρ v q => by simp only [VR] at q; obtain ⟨_, _, rfl, _⟩ := q; rfl⟩
  case ifc => exact ⟨h, fun ρ v q => by simp only [VR] at q; obtain ⟨_, rfl, _⟩ := q; rfl⟩
  case m => exact ⟨h, fun ρ v q => by simp only [VR] at q; obtain ⟨_, _, rfl⟩ := q; rfl⟩
  case s => exact ⟨h, fun ρ v q => by simp only [VR] at q; obtain ⟨_, rfl, _⟩ := q; rfl⟩
  case sl => exact ⟨h, fun ρ v q => by simp only [VR] at q; obtain ⟨_, _, _, _, rfl, _⟩ := q; rfl⟩
  case p => exact ⟨h, fun ρ v q => by simp only [VR] at q; obtain ⟨_, _, rfl⟩ := q; rfl⟩
  case b => exact ⟨h, fun ρ v q => by simp only [VR] at q; subst q; rfl⟩
  case i => exact ⟨h, fun ρ v q => by obtain ⟨_, rfl⟩ := VR_i q; rfl⟩
theorem flats_true {r : R} : ∀ {l : List AV}, flats r l = true → r = true ∧ ∀ ρ vs, VRs ρ l vs → ∀ v ∈ vs, v.oneCell' = true
  | [], h => ⟨h, fun ρ vs q v hv => by simp only [VRs] at q; subst q; simp at hv⟩
  | x :: l, h => by
    obtain ⟨h1, h2⟩ := flat_true (show flat (flats r l) x = true from h)
    obtain ⟨h3, h4⟩ := flats_true h1
    refine ⟨h3, fun ρ vs q v hv => ?_⟩
    simp only [VRs] at q
    obtain ⟨u, us, rfl, q1, q2⟩ := q
    rcases List.mem_cons.1 hv with rfl | hv
    · exact h2 ρ v q1
    · exact h4 ρ us q2 v hv
theorem cells_of_one {v : Value} (h : ∀ cs, v ≠ .agg cs) : v.cells = #[v] := by cases v <;> first | exact absurd rfl (h _) | rfl
/-- The cells of a value, each one cell. -/
theorem cellsA_true {x : AV} {f : List AV → R} (h : cellsA x f = true) : ∃ c, f c = true ∧ ∀ ρ v, VR ρ x v → VRs ρ c v.cells.toList ∧ ∀ u ∈ v.cells.toList, u.oneCell' = true := by
  by_cases hag : ∃ l, x = .ag l
  · obtain ⟨l, rfl⟩ := hag
    obtain ⟨h1, h2⟩ := flats_true (show flats (f l) l = true from h)
    refine ⟨l, h1, fun ρ v q => ?_⟩
    obtain ⟨vs, rfl, q1⟩ := VR_ag q
    exact ⟨q1, h2 ρ _ q1⟩
  · have key : flat (f [x]) x = true := by
      cases x <;> first | exact (Bool.false_ne_true h).elim | exact absurd ⟨_, rfl⟩ hag | exact h
    obtain ⟨h1, h2⟩ := flat_true key
    refine ⟨[x], h1, fun ρ v q => ?_⟩
    have hv : v.cells = #[v] := by
      have := h2 ρ v q
      cases v <;> first | rfl | cases this
    rw [hv]
    refine ⟨by simp only [VRs]; exact ⟨v, [], rfl, q, rfl⟩, fun u hu => ?_⟩
    simp at hu; subst hu
    exact h2 ρ _ q
theorem splice_eq (l : List AV) : ∀ (o : Nat) (m : List AV), o + l.length ≤ m.length → splice l o m = m.take o ++ l ++ m.drop (o + l.length)
  | 0, m, h => by show lapp l (m.drop (llen l)) = _; rw [lapp_eq, llen_eq]; simp
  | o + 1, [], h => by simp at h
  | o + 1, x :: m, h => by
    show x :: splice l o m = _
    rw [splice_eq l o m (by simp at h; omega)]
    simp [Nat.add_right_comm]
theorem fold_toList (l : List Value) (off : Nat) (cs : Array Value) (h : off + l.length ≤ cs.size) :
    ((l.zipIdx 0).foldl (fun cs (x : Value × Nat) => cs.setIfInBounds (off + x.2) x.1) cs).toList = cs.toList.take off ++ l ++ cs.toList.drop (off + l.length) := by
  obtain ⟨h1, h2⟩ := Great.foldl_set off l 0 cs
  apply List.ext_getElem?
  intro k
  rw [Array.getElem?_toList, h2 k]
  simp only [Nat.add_zero]
  have e0 : (cs.toList.take off).length = off := by rw [List.length_take, Array.length_toList]; omega
  by_cases hk : off ≤ k ∧ k < off + l.length ∧ k < cs.size
  · rw [if_pos hk, List.append_assoc, List.getElem?_append_right (by omega), e0, List.getElem?_append_left (by omega)]
  · rw [if_neg hk]
    by_cases h3 : k < off
    · rw [List.append_assoc, List.getElem?_append_left (by omega), List.getElem?_take_of_lt h3, Array.getElem?_toList]
    · rw [List.getElem?_append_right (by rw [List.length_append, e0]; omega), List.length_append, e0, List.getElem?_drop, Array.getElem?_toList]
      congr 1
      omega
theorem VRs.splice {ρ : Ren} {l m : List AV} {vs us : List Value} {o : Nat} (h1 : VRs ρ l vs) (h2 : VRs ρ m us) (h : o + l.length ≤ m.length) : VRs ρ (splice l o m) (us.take o ++ vs ++ us.drop (o + vs.length)) := by
  rw [splice_eq l o m h, h1.length, ← lapp_eq, ← lapp_eq]
  exact ((h2.take o).app h1).app (h2.drop _)
/-- Parts filled in. -/
theorem fills_true {t : T} : ∀ {l : List (Nat × Nat × Operand)} {m : List AV} {f : List AV → R}, fills l t m f = true → ∃ m', f m' = true ∧ m'.length = m.length ∧
    ∀ (ρ : Ren) (a : Act) (place : Nat → Option (Nat × Nat)) (ps : List (Nat × Operand)), ps.length = l.length → (∀ (j : Nat) p q, ps[j]? = some p → l[j]? = some q → place p.1 = some (q.1, q.2.1) ∧ p.2 = q.2.2) →
      (∀ p ∈ ps, VR ρ (gv t p.2) (a.eval p.2)) → ∀ cells : Array Value, VRs ρ m cells.toList → ∃ r, Instr.fill place cells (ps.map fun p => (p.1, a.eval p.2)) = some r ∧ VRs ρ m' r.toList ∧ r.size = cells.size
  | [], m, f, h => ⟨m, h, rfl, fun ρ a place ps hl _ _ cells q => by
      have := List.eq_nil_of_length_eq_zero hl
      subst this
      exact ⟨cells, rfl, q, rfl⟩⟩
  | p0 :: l, m, f, h => by
    have h1 := gt_run (show (gt p0.2.2).run (fun v => cellsA v (fun c => gd (Nat.beq (llen c) p0.2.1) (gd (Nat.ble (Nat.add p0.1 p0.2.1) (llen m)) (fills l t (splice c p0.1 m) f)))) t = true from h)
    obtain ⟨c, h2, h3⟩ := cellsA_true h1
    obtain ⟨h4, h5⟩ := gd_true h2
    obtain ⟨h6, h7⟩ := gd_true h5
    have h4 : c.length = p0.2.1 := by rw [← llen_eq]; exact Nat.eq_of_beq_eq_true h4
    have h6 : p0.1 + p0.2.1 ≤ m.length := by rw [← llen_eq]; exact Nat.le_of_ble_eq_true h6
    obtain ⟨m', h8, h9, h10⟩ := fills_true h7
    have hlen : (Ev.splice c p0.1 m).length = m.length := by
      rw [splice_eq c p0.1 m (by omega)]
      simp only [List.length_append, List.length_take, List.length_drop]; omega
    refine ⟨m', h8, by rw [h9, hlen], fun ρ a place ps hl hp hv cells q => ?_⟩
    cases ps with
    | nil => simp at hl
    | cons p ps =>
      obtain ⟨g1, g2⟩ := hp 0 p p0 rfl rfl
      have q0 := hv p List.mem_cons_self
      rw [g2] at q0
      obtain ⟨q1, _⟩ := h3 ρ _ q0
      have hs : (a.eval p0.2.2).cells.size = p0.2.1 := by rw [← h4, ← q1.length, Array.length_toList]
      have hcs : cells.size = m.length := by rw [← q.length, Array.length_toList]
      simp only [List.map_cons, Instr.fill, g1, g2]
      rw [if_neg (by simp [hs]; omega)]
      have hz : (a.eval p0.2.2).cells.zipIdx.foldl (fun cs (x : Value × Nat) => cs.setIfInBounds (p0.1 + x.2) x.1) cells = ((a.eval p0.2.2).cells.toList.zipIdx 0).foldl (fun cs (x : Value × Nat) => cs.setIfInBounds (p0.1 + x.2) x.1) cells := by
        rw [← Array.foldl_toList, Array.toList_zipIdx]
      have hq := h10 ρ a place ps (by simpa using hl) (fun j p' q' e1 e2 => hp (j + 1) p' q' (by simpa using e1) (by simpa using e2)) (fun p' hp' => hv p' (List.mem_cons_of_mem _ hp'))
        ((a.eval p0.2.2).cells.zipIdx.foldl (fun cs (x : Value × Nat) => cs.setIfInBounds (p0.1 + x.2) x.1) cells) (by
          rw [hz, fold_toList _ _ _ (by rw [Array.length_toList]; omega)]
          exact q1.splice q (by omega))
      obtain ⟨r, r1, r2, r3⟩ := hq
      refine ⟨r, r1, r2, ?_⟩
      rw [r3, hz, (Great.foldl_set _ _ _ _).1]
theorem zeroL_some {P : Program} {ty : Nat} {z : List AV} (h : zeroL P ty = some z) : ∃ i v, P.info? ty = some i ∧ i.zero = some v ∧ z = v.cells.toList.map ofV0 := by
  unfold zeroL at h
  split at h
  · rename_i i hi
    cases hz : i.zero with
    | none => rw [hz] at h; cases h
    | some v => rw [hz] at h; simp at h; exact ⟨i, v, hi, hz, h.symm⟩
  · cases h
theorem zero_VRs (ρ : Ren) (v : Value) : VRs ρ (v.cells.toList.map ofV0) v.cells.toList := VRs_map0 ρ _
theorem partsOf_some {P : Program} {fs : Array Field} : ∀ {ps : List (Nat × Operand)} {l : List (Nat × Nat × Operand)}, partsOf P fs ps = some l → l.length = ps.length ∧
    ∀ (j : Nat) (p : Nat × Operand) (q : Nat × Nat × Operand), ps[j]? = some p → l[j]? = some q → p.2 = q.2.2 ∧ ∃ fd, fs[p.1]? = some fd ∧ fd.offset = q.1 ∧ szOf P fd.type = some q.2.1
  | [], l, h => by simp [partsOf] at h; subst h; exact ⟨rfl, fun j p q e => by simp at e⟩
  | (i, x) :: ps, l, h => by
    unfold partsOf at h
    split at h
    · rename_i fd l' hfd hl'
      obtain ⟨h1, h2⟩ := partsOf_some hl'
      cases hs : szOf P fd.type with
      | none => rw [hs] at h; cases h
      | some s =>
        rw [hs] at h
        simp at h
        subst h
        refine ⟨by simp [h1], fun j p q e1 e2 => ?_⟩
        cases j with
        | zero => simp at e1 e2; subst e1; subst e2; exact ⟨rfl, fd, hfd, rfl, hs⟩
        | succ j => simp at e1 e2; exact h2 j p q e1 e2
    · cases h
theorem places_some {P : Program} : ∀ {fs : List Field}, (fs.all fun f => (szOf P f.type).isSome) = true → ∃ places, fs.mapM (fun f => (P.info? f.type).map fun i => (f.offset, i.size)) = some places ∧ places.length = fs.length ∧
    ∀ (j : Nat) (fd : Field) (s : Nat), fs[j]? = some fd → szOf P fd.type = some s → places[j]? = some (fd.offset, s)
  | [], _ => ⟨[], rfl, rfl, fun j fd s e => by simp at e⟩
  | f :: fs, h => by
    simp only [List.all_cons, Bool.and_eq_true] at h
    obtain ⟨pl, h1, h2, h3⟩ := places_some h.2
    cases hi : P.info? f.type with
    | none => simp [szOf, hi] at h
    | some i =>
      refine ⟨(f.offset, i.size) :: pl, by simp [List.mapM_cons, hi, h1], by simp [h2], fun j fd s e1 e2 => ?_⟩
      cases j with
      | zero => simp at e1; subst e1; simp [szOf, hi] at e2; subst e2; rfl
      | succ j => simp at e1; simpa using h3 j fd s e1 e2
theorem opBuild_ok {P : Program} {ty : TypeId} {parts : Array (Nat × Operand)} {t : T} {h : H} {f : AV → R} (e : (opBuild P ty parts).run t h f = true) : ∃ v, f v = true ∧
    ∀ (ρ : Ren) (a : Act) (w : World), (∀ p ∈ parts.toList, VR ρ (gv t p.2) (a.eval p.2)) → ∃ v', (Instr.build ty (parts.map fun p => (p.1, a.eval p.2))).run P w = .ok v' w ∧ VR ρ v v' := by
  unfold opBuild at e
  split at e
  · rename_i fs z hu hz
    obtain ⟨i, zv, hi, hzv, rfl⟩ := zeroL_some hz
    split at e
    · rename_i l hl
      split at e
      · rename_i has
        obtain ⟨m', h1, _, h2⟩ := fills_true (show fills l t _ (fun m => f (.ag m)) = true from e)
        obtain ⟨pl, p1, p2, p3⟩ := places_some has
        obtain ⟨l1, l2⟩ := partsOf_some hl
        refine ⟨_, h1, fun ρ a w q => ?_⟩
        obtain ⟨r, r1, r2, _⟩ := h2 ρ a (pl.toArray[·]?) parts.toList l1.symm (fun j p q' e1 e2 => by
          obtain ⟨g1, fd, g2, g3, g4⟩ := l2 j p q' e1 e2
          have := p3 p.1 fd _ (by simpa using g2) g4
          exact ⟨by simpa [g3] using this, g1⟩) q zv.cells (zero_VRs ρ zv)
        refine ⟨.agg r, run_build w ty _ r ?_, by simp only [VR]; exact ⟨r, rfl, r2⟩⟩
        unfold Program.built
        simp only [hi, hu, hzv, p1]
        rw [Array.toList_map]
        exact r1
      · exact (Bool.false_ne_true e).elim
    · exact (Bool.false_ne_true e).elim
  · rename_i n el z hu hz
    obtain ⟨i, zv, hi, hzv, rfl⟩ := zeroL_some hz
    split at e
    · rename_i s hs
      obtain ⟨m', h1, _, h2⟩ := fills_true (show fills (parts.toList.map fun p => (p.1 * s, s, p.2)) t _ (fun m => f (.ag m)) = true from e)
      refine ⟨_, h1, fun ρ a w q => ?_⟩
      cases hie : P.info? el with
      | none => simp [szOf, hie] at hs
      | some ie =>
        have hse : ie.size = s := by simpa [szOf, hie] using hs
        obtain ⟨r, r1, r2, _⟩ := h2 ρ a (fun i => some (i * s, s)) parts.toList (by simp) (fun j p q' e1 e2 => by
          rw [List.getElem?_map, e1] at e2
          simp at e2
          subst e2
          exact ⟨rfl, rfl⟩) q zv.cells (zero_VRs ρ zv)
        refine ⟨.agg r, run_build w ty _ r ?_, by simp only [VR]; exact ⟨r, rfl, r2⟩⟩
        unfold Program.built
        simp only [hi, hu, hzv, hie]
        rw [Array.toList_map, hse]
        exact r1
    · exact (Bool.false_ne_true e).elim
  · exact (Bool.false_ne_true e).elim
end
end Go.Proofs.YtlpffldeogapmaaGreatDoor.Ev

namespace Go.Proofs.YtlpffldeogapmaaGreatDoor.Ev
open Go Go.MapKept
set_option linter.unusedVariables false
set_option linter.unusedSimpArgs false
set_option linter.unusedSectionVars false
variable [GO]
noncomputable section

theorem VRs_ops {ρ : Ren} {t : T} {a : Act} : ∀ {l : List Operand}, (∀ x ∈ l, VR ρ (gv t x) (a.eval x)) → VRs ρ (l.map (gv t)) (l.map a.eval)
  | [], _ => by simp only [List.map_nil, VRs]
  | x :: l, h => by
    simp only [List.map_cons, VRs]
    exact ⟨_, _, rfl, h x List.mem_cons_self, VRs_ops fun y hy => h y (List.mem_cons_of_mem _ hy)⟩
theorem opFunc_ok {P : Program} {fn : Fn} {first cap : Array Operand} {t : T} {h : H} {f : AV → R} (e : (opFunc fn first cap).run t h f = true) : ∃ v, f v = true ∧
    ∀ (ρ : Ren) (a : Act) (w : World), (∀ x ∈ (first ++ cap).toList, VR ρ (gv t x) (a.eval x)) → ∃ v', (Instr.makeFunc fn (first.map a.eval) (cap.map a.eval)).run P w = .ok v' w ∧ VR ρ v v' := by
  have h1 := gts_run (show (gts first.toList).run (fun a => (gts cap.toList).run (fun c => f (.f fn a c)) t) t = true from e)
  have h2 := gts_run h1
  refine ⟨_, h2, fun ρ a w q => ⟨_, rfl, ?_⟩⟩
  simp only [VR]
  refine ⟨_, _, rfl, ?_, ?_⟩
  · rw [Array.toList_map]; exact VRs_ops fun x hx => q x (by simp [Array.mem_toList_iff.1 hx])
  · rw [Array.toList_map]; exact VRs_ops fun x hx => q x (by simp [Array.mem_toList_iff.1 hx])

/-! ### Maps -/
theorem ldM_true {h : H} {r : Nat} {f : List ME → Nat → R} (e : ldM h r f = true) : ∃ es c, h.at r = .mp es c ∧ f es c = true := by
  cases h with
  | mk ht nx =>
    obtain ⟨hb, e⟩ := acc_run (show (acc Blk 5 r).run _ ht = true from e)
    obtain ⟨es, c, hk, e⟩ := onMp_true e
    exact ⟨es, c, H.at_of hb hk, e⟩
theorem map_at {ρ : Ren} {h : H} {w : World} (a : HB ρ h w) {r : Nat} {l : Loc} (hr : ρ r = some l) {es : List ME} {c : Nat} (hk : h.at r = .mp es c) : ∃ arr : Array MapEntry, w.heap[l.B]? = some (.map arr c) ∧ MERs ρ es arr.toList := by
  obtain ⟨o, h1, h2⟩ := a r l hr (by rw [hk]; simp)
  rw [hk] at h2
  obtain ⟨arr, rfl, h3⟩ := h2
  exact ⟨arr, h1, h3⟩
theorem MERs.length {ρ : Ren} : ∀ {l : List ME} {es : List MapEntry}, MERs ρ l es → es.length = l.length
  | [], es, h => by rw [show es = [] from h]; rfl
  | x :: l, es, h => by
    obtain ⟨e, r, rfl, _, h2⟩ := h
    simp [h2.length]
/-- A key of the kind that the map's type says. -/
def KeyAt (d : TypeDesc) (k : AV) : Prop := (∃ j n, d = .int j ∧ k = .i j n) ∨ ∃ l, d = .string ∧ k = .s l
theorem KeyAt.isKey {ρ : Ren} {d : TypeDesc} {k : AV} {v : Value} (h : KeyAt d k) (q : VR ρ k v) : IsKey d v := by
  rcases h with ⟨j, n, rfl, rfl⟩ | ⟨l, rfl, rfl⟩
  · obtain ⟨_, rfl⟩ := VR_i q; trivial
  · obtain ⟨bs, rfl, _⟩ := VR_s q; trivial
theorem keyOk_true {P : Program} {ty : Nat} {k : AV} {f : AV → R} (h : (keyOk P ty).run k f = true) : ∃ kt et d, P.underlying ty = some (.map kt et) ∧ P.underlying kt = some d ∧ KeyAt d k ∧ f k = true := by
  unfold keyOk at h
  split at h
  · rename_i kt et hu
    split at h
    · rename_i j hk
      obtain ⟨i, n, rfl, h1⟩ := onI_true (show onI (fun i n => keq i j (f k)) k = true from h)
      obtain ⟨rfl, h2⟩ := keq_true h1
      exact ⟨kt, et, _, hu, hk, .inl ⟨_, _, rfl, rfl⟩, h2⟩
    · rename_i hk
      obtain ⟨l, rfl, h1⟩ := onS_true (show onS (fun _ => f k) k = true from h)
      exact ⟨kt, et, _, hu, hk, .inr ⟨_, rfl, rfl⟩, h1⟩
    · exact (Bool.false_ne_true h).elim
  · exact (Bool.false_ne_true h).elim
theorem eqK_true {d : TypeDesc} {x y : AV} {f : Bool → R} (hx : KeyAt d x) (h : eqK x y f = true) : ∃ e, f e = true ∧ ∀ ρ x' y', VR ρ x x' → VR ρ y y' → Instr.sameNow d x' y' = some e ∧ (e = true → x' = y') := by
  rcases hx with ⟨j, n, rfl, rfl⟩ | ⟨l, rfl, rfl⟩
  · cases y <;> try exact (Bool.false_ne_true h).elim
    case i k m =>
      obtain ⟨rfl, h1⟩ := keq_true (r := f (Nat.beq n m)) h
      refine ⟨_, h1, fun ρ x' y' q1 q2 => ?_⟩
      obtain ⟨hn, rfl⟩ := VR_i q1
      obtain ⟨hm, rfl⟩ := VR_i q2
      refine ⟨?_, fun e => by rw [Nat.eq_of_beq_eq_true e]⟩
      show (if j = j then some (j.wrap n == j.wrap m) else none) = _
      rw [if_pos rfl, beq_wrap hn hm]
  · obtain ⟨m, rfl, h1⟩ := onS_true (show onS (fun b => f (leq l b)) y = true from h)
    refine ⟨_, h1, fun ρ x' y' q1 q2 => ?_⟩
    obtain ⟨bs, rfl, rfl⟩ := VR_s q1
    obtain ⟨cs, rfl, rfl⟩ := VR_s q2
    refine ⟨?_, fun e => ?_⟩
    · show some (bs == cs) = _
      rw [beq_toListBytes, leq_toB]
    · rw [leq_eq, decide_eq_true_iff, toB_eq] at e
      rw [e]
theorem findM_true {d : TypeDesc} {k : AV} (hk : KeyAt d k) : ∀ {es : List ME} {no : R} {yes : AV → R}, findM k es no yes = true → ∃ ov : Option AV, (match ov with | some v => yes v = true | none => no = true) ∧
    ∀ ρ k' es' i0, VR ρ k k' → MERs ρ es es' → ∃ r, Instr.findNow d k' es' i0 = some r ∧ (match ov, r with | some v, some (_, u) => VR ρ v u | none, none => True | _, _ => False)
  | [], no, yes, h => ⟨none, h, fun ρ k' es' i0 _ q => by rw [show es' = [] from q]; exact ⟨none, rfl, trivial⟩⟩
  | .mk k2 v b :: es, no, yes, h => by
    obtain ⟨e, h1, h2⟩ := eqK_true hk (show eqK k k2 (fun b => Bool.rec (findM k es no yes) (yes v) b) = true from h)
    cases e
    · obtain ⟨ov, h3, h4⟩ := findM_true hk (show findM k es no yes = true from h1)
      refine ⟨ov, h3, fun ρ k' es' i0 q1 q2 => ?_⟩
      obtain ⟨en, r, rfl, q3, q4⟩ := q2
      obtain ⟨g1, _⟩ := h2 ρ k' en.key q1 q3.1
      obtain ⟨r2, g2, g3⟩ := h4 ρ k' r (i0 + 1) q1 q4
      exact ⟨r2, by simp [Instr.findNow, g1, g2], g3⟩
    · refine ⟨some v, h1, fun ρ k' es' i0 q1 q2 => ?_⟩
      obtain ⟨en, r, rfl, q3, q4⟩ := q2
      obtain ⟨g1, _⟩ := h2 ρ k' en.key q1 q3.1
      exact ⟨some (i0, en.val), by simp [Instr.findNow, g1], q3.2.1⟩
theorem mapKV_some {P : Program} {ty : Nat} {z : AV} (h : mapKV P ty = some z) : ∃ kt et i zv, P.underlying ty = some (.map kt et) ∧ P.info? et = some i ∧ i.zero = some zv ∧ z = ofV zv := by
  unfold mapKV at h
  split at h
  · rename_i kt et hu
    split at h
    · rename_i i hi
      cases hz : i.zero with
      | none => rw [hz] at h; cases h
      | some zv => rw [hz] at h; simp at h; exact ⟨kt, et, i, zv, hu, hi, hz, h.symm⟩
    · cases h
  · cases h
theorem VR_m {ρ : Ren} {r : Nat} {v : Value} (h : VR ρ (.m r) v) : ∃ l, ρ r = some l ∧ v = .map (some l.B) := by simpa only [VR] using h
/-- What a lookup gives: a value, or a value and whether it is there. -/
theorem VR_ok {ρ : Ren} {v : AV} {u : Value} {b ok : Bool} (h : VR ρ v u) : VR ρ (Bool.rec v (.tu [v, .b b]) ok) (if ok then .tuple #[u, .bool b] else u) := by
  cases ok
  · exact h
  · simp only [VR, VRs, if_true]
    exact ⟨_, rfl, u, _, rfl, h, _, _, rfl, rfl, rfl⟩
theorem ok_rec {f : AV → R} {v : AV} {b ok : Bool} (h : (Bool.rec (f v) (f (.tu [v, .b b])) ok : R) = true) : f (Bool.rec v (.tu [v, .b b]) ok) = true := by cases ok <;> exact h
theorem opLookup_ok {P : Program} {ty : TypeId} {x k : Operand} {ok : Bool} {t : T} {h : H} {f : AV → R} (e : (opLookup P ty x k ok).run t h f = true) : ∃ v, f v = true ∧ Oh2 P (fun m k => Instr.lookup ty m k ok) t h x k v := by
  unfold opLookup at e
  split at e
  · rename_i z hz
    obtain ⟨kt0, et, i, zv, hu0, hi, hzv, rfl⟩ := mapKV_some hz
    have e2 := gt_run (gt_run (x := x) e)
    obtain ⟨kt, et', d, hu, hkt, hka, e3⟩ := keyOk_true e2
    rw [hu0] at hu
    cases hu
    cases hx : gv t x <;> rw [hx] at e3 <;> try exact (Bool.false_ne_true e3).elim
    case m0 =>
      refine ⟨_, ok_rec e3, fun ρ a w hr q1 q2 => ?_⟩
      rw [hx] at q1
      simp only [VR] at q1
      simp only [q1]
      refine ⟨_, ?_, VR_ok (ofV_ok ρ zv)⟩
      have hck := run_checkKey (P := P) (w := w) hkt (hka.isKey q2) true 9999
      have hfk := run_findKey (P := P) (w := w) (l := []) hkt (show Instr.findNow d (a.eval k) [] 0 = some none from rfl)
      simp [Instr.lookup, run_underlying hu0, hck, hfk, zeroValue, run_info hi, hzv]
    case m r =>
      obtain ⟨es, c, hat, e4⟩ := ldM_true (show ldM h r _ = true from e3)
      obtain ⟨ov, h1, h2⟩ := findM_true hka e4
      cases ov with
      | none =>
        refine ⟨_, ok_rec h1, fun ρ a w hr q1 q2 => ?_⟩
        rw [hx] at q1
        obtain ⟨l, hl, e5⟩ := VR_m q1
        obtain ⟨arr, h3, h4⟩ := map_at hr hl hat
        obtain ⟨r2, g1, g2⟩ := h2 ρ _ _ 0 q2 h4
        cases r2 with
        | some p => exact g2.elim
        | none =>
          simp only [e5]
          refine ⟨_, ?_, VR_ok (ofV_ok ρ zv)⟩
          have hck := run_checkKey (P := P) (w := w) hkt (hka.isKey q2) arr.isEmpty 9999
          have hfk := run_findKey (P := P) (w := w) hkt g1
          simp [Instr.lookup, run_underlying hu0, getObj, Sem.run, h3, hck, hfk, zeroValue, run_info hi, hzv]
      | some v =>
        refine ⟨_, ok_rec h1, fun ρ a w hr q1 q2 => ?_⟩
        rw [hx] at q1
        obtain ⟨l, hl, e5⟩ := VR_m q1
        obtain ⟨arr, h3, h4⟩ := map_at hr hl hat
        obtain ⟨r2, g1, g2⟩ := h2 ρ _ _ 0 q2 h4
        cases r2 with
        | none => exact g2.elim
        | some p =>
          simp only [e5]
          refine ⟨_, ?_, VR_ok g2⟩
          have hck := run_checkKey (P := P) (w := w) hkt (hka.isKey q2) arr.isEmpty 9999
          have hfk := run_findKey (P := P) (w := w) hkt g1
          simp [Instr.lookup, run_underlying hu0, getObj, Sem.run, h3, hck, hfk]
  · exact (Bool.false_ne_true e).elim
theorem i64_small {ρ : Ren} {n : Nat} (h : n < 9223372036854775808) : VR ρ (.i .i64 n) (.int .i64 n) := by
  have h1 := VR_mki (ρ := ρ) (k := .i64) (n := n) (show n < 18446744073709551616 by omega)
  have h2 : IntKind.i64.wrap (n : Int) = n := by rw [IntKind.wrap_i64]; omega
  rwa [h2] at h1
end
end Go.Proofs.YtlpffldeogapmaaGreatDoor.Ev

namespace Go.Proofs.YtlpffldeogapmaaGreatDoor.Ev
open Go Go.MapKept
set_option linter.unusedVariables false
set_option linter.unusedSimpArgs false
set_option linter.unusedSectionVars false
variable [GO]
noncomputable section

theorem li_true {f : AV → R} {n : Nat} (h : li f n = true) : n < 4611686018427387904 ∧ f (.i .i64 n) = true := by
  obtain ⟨h1, h2⟩ := gd_true h
  exact ⟨by simpa [Nat.blt_eq] using h1, h2⟩
theorem lenB_ok {P : Program} {ty rt : TypeId} {x : Operand} {t : T} {h : H} {f : AV → R} (e : (lenB P ty x).run t h f = true) : ∃ v, f v = true ∧ Oh1 P (fun v => Builtin.len_ #[ty] rt #[v]) t h x v := by
  unfold lenB at e
  split at e
  · rename_i hu
    obtain ⟨l, hx, h1⟩ := onS_true (vo1_run (h := h) e)
    obtain ⟨h2, h3⟩ := li_true h1
    refine ⟨_, h3, fun ρ a w _ q => ?_⟩
    rw [hx] at q
    obtain ⟨bs, e1, rfl⟩ := VR_s q
    refine ⟨.int .i64 (llen (toB bs) : Nat), ?_, i64_small (by omega)⟩
    simp only [e1]
    rw [← toB_size]
    simp [Builtin.len_, run_underlying hu, goInt]
  · rename_i n el hu
    obtain ⟨h2, h3⟩ := li_true (show li f n = true from vo1_run (h := h) e)
    refine ⟨_, h3, fun ρ a w _ q => ⟨.int .i64 (n : Nat), ?_, i64_small (by omega)⟩⟩
    simp [Builtin.len_, run_underlying hu, goInt]
  · rename_i el hu
    have e2 := vo1_run (h := h) e
    cases hx : gv t x <;> rw [hx] at e2 <;> try exact (Bool.false_ne_true e2).elim
    case sl0 =>
      obtain ⟨h2, h3⟩ := li_true (show li f 0 = true from e2)
      refine ⟨_, h3, fun ρ a w _ q => ⟨.int .i64 (0 : Nat), ?_, i64_small (by omega)⟩⟩
      rw [hx] at q
      simp only [VR] at q
      simp only [q]
      simp [Builtin.len_, run_underlying hu, goInt]
    case sl b o n c =>
      obtain ⟨h2, h3⟩ := li_true (show li f n = true from e2)
      refine ⟨_, h3, fun ρ a w _ q => ⟨.int .i64 (n : Nat), ?_, i64_small (by omega)⟩⟩
      rw [hx] at q
      obtain ⟨_, _, _, _, e1, _⟩ := VR_sl q
      simp only [e1]
      simp [Builtin.len_, run_underlying hu, goInt]
  · rename_i kt et hu
    have e2 := gt_run e
    cases hx : gv t x <;> rw [hx] at e2 <;> try exact (Bool.false_ne_true e2).elim
    case m0 =>
      obtain ⟨h2, h3⟩ := li_true (show li f 0 = true from e2)
      refine ⟨_, h3, fun ρ a w _ q => ⟨.int .i64 (0 : Nat), ?_, i64_small (by omega)⟩⟩
      rw [hx] at q
      simp only [VR] at q
      simp only [q]
      simp [Builtin.len_, run_underlying hu, goInt]
    case m r =>
      obtain ⟨es, c, hat, e3⟩ := ldM_true (show ldM h r (fun es _ => li f (llen es)) = true from e2)
      obtain ⟨h2, h3⟩ := li_true e3
      refine ⟨_, h3, fun ρ a w hr q => ⟨.int .i64 (llen es : Nat), ?_, i64_small (by omega)⟩⟩
      rw [hx] at q
      obtain ⟨l, hl, e1⟩ := VR_m q
      obtain ⟨arr, h4, h5⟩ := map_at hr hl hat
      have h6 : arr.size = llen es := by rw [llen_eq, ← h5.length, Array.length_toList]
      simp only [e1]
      simp [Builtin.len_, run_underlying hu, goInt, getObj, Sem.run, h4, h6]
  · exact (Bool.false_ne_true e).elim

/-! ### min, max -/
def mmV (mx : Bool) (x y : Value) : Sem Value := if mx then Builtin.max2 x y else Builtin.min2 x y
theorem mm0_true {P : Program} {mx : Bool} {x y : AV} {f : AV → R} (h : mm0 mx x y f = true) : ∃ v, f v = true ∧ Gv2 P (mmV mx) x y v := by
  rcases onII_true (show onII (fun _ => false) _ x y = true from h) with ⟨k, a, b, rfl, rfl, h'⟩ | ⟨k, hx, hy, h'⟩
  · refine ⟨_, h', fun ρ x' y' w q1 q2 => ?_⟩
    obtain ⟨ha, rfl⟩ := VR_i q1
    obtain ⟨hb, rfl⟩ := VR_i q2
    cases mx
    · have hc : Nat.blt (sx k b) (sx k a) = decide (k.wrap b < k.wrap a) := by rw [Bool.eq_iff_iff, decide_eq_true_iff, Nat.blt_eq]; exact (cmp_lt hb ha).symm
      show ∃ v', (Builtin.min2 (.int k (k.wrap a)) (.int k (k.wrap b))).run P w = .ok v' w ∧ VR ρ (.i k (Bool.rec (motive := fun _ => Nat) a b (Nat.blt (sx k b) (sx k a)))) v'
      rw [hc]
      by_cases hlt : k.wrap b < k.wrap a
      · exact ⟨_, by simp [Builtin.min2, hlt]; rfl, by rw [decide_eq_true hlt]; exact VR_mki hb⟩
      · exact ⟨_, by simp [Builtin.min2, hlt]; rfl, by rw [decide_eq_false hlt]; exact VR_mki ha⟩
    · have hc : Nat.blt (sx k a) (sx k b) = decide (k.wrap a < k.wrap b) := by rw [Bool.eq_iff_iff, decide_eq_true_iff, Nat.blt_eq]; exact (cmp_lt ha hb).symm
      show ∃ v', (Builtin.max2 (.int k (k.wrap a)) (.int k (k.wrap b))).run P w = .ok v' w ∧ VR ρ (.i k (Bool.rec (motive := fun _ => Nat) a b (Nat.blt (sx k a) (sx k b)))) v'
      rw [hc]
      by_cases hlt : k.wrap a < k.wrap b
      · exact ⟨_, by simp [Builtin.max2, hlt]; rfl, by rw [decide_eq_true hlt]; exact VR_mki hb⟩
      · exact ⟨_, by simp [Builtin.max2, hlt]; rfl, by rw [decide_eq_false hlt]; exact VR_mki ha⟩
  · exact (Bool.false_ne_true h').elim
theorem mm2_true {P : Program} {mx : Bool} {x y : AV} {f : AV → R} (h : mm2 mx x y f = true) : ∃ v, f v = true ∧ Gv2 P (mmV mx) x y v := by
  cases x <;> try exact mm0_true (show mm0 mx _ y f = true from h)
  case rg k lo n =>
    obtain ⟨j, m, rfl, h1⟩ := onI_true (show onI (fun j m => keq j k (gd mx (gd (Nat.blt 0 n) (gd (Nat.ble (sx k m) lo) (f (.rg k lo n)))))) y = true from h)
    obtain ⟨hjk, h2⟩ := keq_true h1
    subst hjk
    obtain ⟨g0, h3⟩ := gd_true h2
    obtain ⟨g1, h4⟩ := gd_true h3
    obtain ⟨g2, h5⟩ := gd_true h4
    subst g0
    have g1 : 0 < n := by simpa [Nat.blt_eq] using g1
    have g2 : sx j m ≤ lo := Nat.le_of_ble_eq_true g2
    refine ⟨_, h5, fun ρ x' y' w q1 q2 => ?_⟩
    obtain ⟨hm, rfl⟩ := VR_i q2
    have q1' := q1
    obtain ⟨z, rfl, hz⟩ := VR_rg q1
    have hz := hz.resolve_left (by omega)
    have hs := wrap_sx hm
    have hlt : ¬ j.wrap z < j.wrap (m : Int) := by omega
    exact ⟨_, by show (Builtin.max2 (.int j (j.wrap z)) (.int j (j.wrap m))).run P w = _; simp [Builtin.max2, hlt], q1'⟩
theorem mmL_true {P : Program} {mx : Bool} : ∀ {l : List AV} {x : AV} {f : AV → R}, mmL mx l x f = true → ∃ v, f v = true ∧ ∀ (ρ : Ren) (x' : Value) (vs : List Value) (w : World), VR ρ x x' → VRs ρ l vs →
    ∃ v', (vs.foldlM (mmV mx) x').run P w = .ok v' w ∧ VR ρ v v'
  | [], x, f, h => ⟨x, h, fun ρ x' vs w q1 q2 => by simp only [VRs] at q2; subst q2; exact ⟨x', rfl, q1⟩⟩
  | y :: l, x, f, h => by
    obtain ⟨u, h1, h2⟩ := mm2_true (P := P) (show mm2 mx x y (fun v => mmL mx l v f) = true from h)
    obtain ⟨v, h3, h4⟩ := mmL_true (P := P) h1
    refine ⟨v, h3, fun ρ x' vs w q1 q2 => ?_⟩
    simp only [VRs] at q2
    obtain ⟨y', r, rfl, q3, q4⟩ := q2
    obtain ⟨u', g1, g2⟩ := h2 ρ x' y' w q1 q3
    obtain ⟨v', g3, g4⟩ := h4 ρ u' r w g2 q4
    exact ⟨v', by simp [List.foldlM_cons, g1, g3], g4⟩
theorem opMm_ok {P : Program} {mx : Bool} {args : List Operand} {at_ : Array TypeId} {rt : TypeId} {t : T} {h : H} {f : AV → R} (e : (opMm mx args).run t h f = true) : ∃ v, f v = true ∧
    ∀ (ρ : Ren) (a : Act) (w : World), (∀ x ∈ args, VR ρ (gv t x) (a.eval x)) → ∃ v', ((if mx then Builtin.max_ else Builtin.min_) at_ rt (args.map a.eval).toArray).run P w = .ok v' w ∧ VR ρ v v' := by
  cases args with
  | nil => exact (Bool.false_ne_true e).elim
  | cons x r =>
    have h1 := gts_run (gt_run (show (gt x).run (fun v => (gts r).run (fun l => mmL mx l v f) t) t = true from e))
    obtain ⟨v, h2, h3⟩ := mmL_true (P := P) h1
    refine ⟨v, h2, fun ρ a w q => ?_⟩
    obtain ⟨v', g1, g2⟩ := h3 ρ _ _ w (q x List.mem_cons_self) (VRs_ops fun y hy => q y (List.mem_cons_of_mem _ hy))
    refine ⟨v', ?_, g2⟩
    cases mx
    · have g3 : ((r.map a.eval).foldlM Builtin.min2 (a.eval x)).run P w = .ok v' w := g1
      simpa [Builtin.min_] using g3
    · have g3 : ((r.map a.eval).foldlM Builtin.max2 (a.eval x)).run P w = .ok v' w := g1
      simpa [Builtin.max_] using g3

/-! ### Slicings -/
/-- A bound: none, or a number. -/
def BndV (x : Option Value) (dv n : Nat) : Prop := (x = none ∧ n = dv) ∨ ∃ k : IntKind, x = some (.int k (n : Int))
theorem bnd_true {x : Option Operand} {dv : Nat} {t : T} {f : Nat → R} (h : bnd x dv t f = true) : ∃ n, f n = true ∧ ∀ (ρ : Ren) (a : Act), (∀ y ∈ x.toList, VR ρ (gv t y) (a.eval y)) → BndV (x.map a.eval) dv n := by
  cases x with
  | none => exact ⟨dv, h, fun ρ a _ => .inl ⟨rfl, rfl⟩⟩
  | some y =>
    obtain ⟨k, n, hy, h1⟩ := onI_true (gt_run (show (gt y).run (onI (fun k a => gd (Nat.ble (hf k) (sx k a)) (f a))) t = true from h))
    obtain ⟨h2, h3⟩ := gd_true h1
    refine ⟨n, h3, fun ρ a q => .inr ⟨k, ?_⟩⟩
    have q := q y (by simp)
    rw [hy] at q
    obtain ⟨hn, e1⟩ := VR_i q
    rw [Option.map_some, e1, wrap_nn hn (Nat.le_of_ble_eq_true h2)]
theorem run_sb {P : Program} {w : World} (k : IntKind) {i y : Nat} (code : BoundsCode) (h : i ≤ y) : (Instr.sliceBound (.int k (i : Int)) y code).run P w = .ok i w := by
  rw [run_sliceBound w k _ y code (by omega) (by omega), Int.toNat_natCast]
theorem run_bounds {P : Program} {w : World} {sl : Bool} {n c l h m : Nat} {lo hi mx : Option Value} (h1 : BndV lo 0 l) (h2 : BndV hi n h) (h3 : BndV mx c m) (hx : mx.isSome = true → hi.isSome = true)
    (hl : l ≤ h) (hh : h ≤ m) (hm : m ≤ c) : (Instr.sliceBounds sl n c lo hi mx).run P w = .ok (l, h, m) w := by
  have hc : h ≤ c := Nat.le_trans hh hm
  rcases h3 with ⟨rfl, e3⟩ | ⟨km, rfl⟩
  · rcases h2 with ⟨rfl, e2⟩ | ⟨kh, rfl⟩ <;> rcases h1 with ⟨rfl, e1⟩ | ⟨kl, rfl⟩
    · subst e1; subst e2; subst e3; simp [Instr.sliceBounds]
    · subst e2; subst e3; simp [Instr.sliceBounds, run_sb kl _ hl]
    · subst e1; subst e3; simp [Instr.sliceBounds, run_sb kh _ hc]
    · subst e3; simp [Instr.sliceBounds, run_sb kh _ hc, run_sb kl _ hl]
  · rcases h2 with ⟨rfl, e2⟩ | ⟨kh, rfl⟩
    · cases hx rfl
    · rcases h1 with ⟨rfl, e1⟩ | ⟨kl, rfl⟩
      · subst e1; simp [Instr.sliceBounds, run_sb kh _ hh, run_sb km _ hm]
      · simp [Instr.sliceBounds, run_sb kh _ hh, run_sb km _ hm, run_sb kl _ hl]
theorem drp_eq : ∀ (n : Nat) (l : List Nat), drp n l = l.drop n
  | 0, l => rfl
  | n + 1, [] => rfl
  | n + 1, x :: l => by show drp n l = _; rw [drp_eq n l]; rfl
theorem tke_eq : ∀ (n : Nat) (l : List Nat), tke n l = l.take n
  | 0, l => by show ([] : List Nat) = l.take 0; simp
  | n + 1, [] => rfl
  | n + 1, x :: l => by show x :: tke n l = _; rw [tke_eq n l]; rfl
/-- A slicing, its bounds being operands. -/
def OkS (P : Program) (ty : TypeId) (t : T) (x : Operand) (lo hi mx : Option Operand) (v : AV) : Prop :=
  ∀ (ρ : Ren) (a : Act) (w : World), VR ρ (gv t x) (a.eval x) → (∀ y ∈ lo.toList, VR ρ (gv t y) (a.eval y)) → (∀ y ∈ hi.toList, VR ρ (gv t y) (a.eval y)) → (∀ y ∈ mx.toList, VR ρ (gv t y) (a.eval y)) →
    ∃ v', (Instr.sliceAt ty (a.eval x) (lo.map a.eval) (hi.map a.eval) (mx.map a.eval)).run P w = .ok v' w ∧ VR ρ v v'
theorem slX_true {sz b o n c : Nat} {lo hi mx : Option Operand} {t : T} {f : AV → R} (h : slX sz b o n c lo hi mx t f = true) : ∃ l e m, f (.sl b (o + l * sz) (e - l) (m - l)) = true ∧ m ≤ c ∧ e ≤ m ∧ l ≤ e ∧
    ∀ (ρ : Ren) (a : Act), (∀ y ∈ lo.toList, VR ρ (gv t y) (a.eval y)) → (∀ y ∈ hi.toList, VR ρ (gv t y) (a.eval y)) → (∀ y ∈ mx.toList, VR ρ (gv t y) (a.eval y)) →
      BndV (lo.map a.eval) 0 l ∧ BndV (hi.map a.eval) n e ∧ BndV (mx.map a.eval) c m := by
  obtain ⟨l, h1, k1⟩ := bnd_true h
  obtain ⟨e, h2, k2⟩ := bnd_true h1
  obtain ⟨m, h3, k3⟩ := bnd_true h2
  obtain ⟨g1, h4⟩ := gd_true h3
  obtain ⟨g2, h5⟩ := gd_true h4
  obtain ⟨g3, h6⟩ := gd_true h5
  exact ⟨l, e, m, h6, Nat.le_of_ble_eq_true g1, Nat.le_of_ble_eq_true g2, Nat.le_of_ble_eq_true g3, fun ρ a q1 q2 q3 => ⟨k1 ρ a q1, k2 ρ a q2, k3 ρ a q3⟩⟩
theorem opSlice_ok {P : Program} {ty : TypeId} {x : Operand} {lo hi mx : Option Operand} {t : T} {h : H} {f : AV → R} (e : (opSlice P ty x lo hi mx).run t h f = true) : ∃ v, f v = true ∧ OkS P ty t x lo hi mx v := by
  unfold opSlice at e
  split at e
  · exact (Bool.false_ne_true e).elim
  · rename_i hmh
    have hmh : mx.isSome = true → hi.isSome = true := by
      cases mx <;> cases hi <;> simp at hmh ⊢
    split at e
    · rename_i hu
      split at e
      · rename_i hn
        have hn : mx = none := by cases mx <;> simp at hn ⊢
        subst hn
        obtain ⟨s, hx, h1⟩ := onS_true (gt_run e)
        obtain ⟨l, h2, k1⟩ := bnd_true (show bnd lo 0 t (fun a => bnd hi (llen s) t (fun c => gd (Nat.ble c (llen s)) (gd (Nat.ble a c) (fc (fun q => f (.s (tke q (drp a s)))) (Nat.sub c a))))) = true from h1)
        obtain ⟨m, h3, k2⟩ := bnd_true h2
        obtain ⟨g1, h4⟩ := gd_true h3
        obtain ⟨g2, h5⟩ := gd_true h4
        refine ⟨_, h5, fun ρ a w q q1 q2 _ => ?_⟩
        rw [hx] at q
        obtain ⟨bs, e1, rfl⟩ := VR_s q
        have g1 := Nat.le_of_ble_eq_true g1
        have g2 := Nat.le_of_ble_eq_true g2
        rw [← toB_size] at g1
        have hb := run_bounds (P := P) (w := w) (sl := false) (n := bs.size) (c := bs.size) (mx := none) (k1 ρ a q1) (by rw [toB_size]; exact k2 ρ a q2) (.inl ⟨rfl, rfl⟩) (by simp) g2 g1 (Nat.le_refl _)
        refine ⟨.string (bs.extract l m), ?_, ?_⟩
        · rw [e1]; simp [Instr.sliceAt, Instr.slice, run_underlying hu, hb]
        · simp only [VR]
          refine ⟨_, rfl, ?_⟩
          show (bs.extract l m).data.toList.map UInt8.toNat = tke (m - l) (drp l (bs.data.toList.map UInt8.toNat))
          rw [ByteArray.data_extract, Array.toList_extract, tke_eq, drp_eq]
          simp [List.map_take, List.map_drop]
      · exact (Bool.false_ne_true e).elim
    · rename_i el hu
      split at e
      · rename_i sz hs
        have e2 := gt_run e
        cases hx : gv t x <;> rw [hx] at e2 <;> try exact (Bool.false_ne_true e2).elim
        case sl0 =>
          cases mx with
          | some y => exact (Bool.false_ne_true e2).elim
          | none =>
            obtain ⟨l, h2, k1⟩ := bnd_true (show bnd lo 0 t (fun a => bnd hi 0 t (fun e => gd (Nat.ble e 0) (gd (Nat.ble a e) (f .sl0)))) = true from e2)
            obtain ⟨m, h3, k2⟩ := bnd_true h2
            obtain ⟨g1, h4⟩ := gd_true h3
            obtain ⟨g2, h5⟩ := gd_true h4
            refine ⟨_, h5, fun ρ a w q q1 q2 _ => ?_⟩
            rw [hx] at q
            simp only [VR] at q
            have g1 := Nat.le_of_ble_eq_true g1
            have g2 := Nat.le_of_ble_eq_true g2
            have hb := run_bounds (P := P) (w := w) (sl := true) (n := 0) (c := 0) (mx := none) (k1 ρ a q1) (k2 ρ a q2) (.inl ⟨rfl, rfl⟩) (by simp) g2 g1 (Nat.le_refl _)
            refine ⟨.slice none 0 0, ?_, by simp only [VR]⟩
            rw [q]
            simp [Instr.sliceAt, Instr.slice, run_underlying hu, hb, run_size hs]
            omega
        case sl b o n c =>
          obtain ⟨l, e', m, h1, g1, g2, g3, k⟩ := slX_true (show slX sz b o n c lo hi mx t f = true from e2)
          refine ⟨_, h1, fun ρ a w q q1 q2 q3 => ?_⟩
          rw [hx] at q
          obtain ⟨lc, ad, c', hb, e1, hnc, hc, had⟩ := VR_sl q
          obtain ⟨b1, b2, b3⟩ := k ρ a q1 q2 q3
          have hcc : c ≤ c' := by omega
          -- the room that the model knows
          obtain ⟨m', hm', hb3, hle⟩ : ∃ m', (m' - l = m - l ∨ m' - l = m - l + lc.X) ∧ BndV (mx.map a.eval) c' m' ∧ m ≤ m' ∧ m' ≤ c' := by
            rcases b3 with ⟨e3, e4⟩ | ⟨km, e3⟩
            · exact ⟨c', by omega, .inl ⟨e3, rfl⟩, by omega, Nat.le_refl _⟩
            · exact ⟨m, .inl rfl, .inr ⟨km, e3⟩, Nat.le_refl _, by omega⟩
          have hbd := run_bounds (P := P) (w := w) (sl := true) b1 b2 hb3 (by simpa using hmh) g3 (by omega) hle.2
          refine ⟨.slice (some (if m' = l then ad else ad.add (l * sz))) (e' - l) (m' - l), ?_, ?_⟩
          · rw [e1]
            simp [Instr.sliceAt, Instr.slice, run_underlying hu, hbd, run_size hs]
            split <;> rfl
          · simp only [VR]
            refine ⟨lc, _, _, hb, rfl, by omega, hm', ?_⟩
            by_cases hml : m' = l
            · exact .inr (by omega)
            · refine .inl ?_
              rw [if_neg hml]
              have had : ad = ⟨lc.B, lc.O + o, none⟩ := had.resolve_right (by omega)
              rw [had, Addr.add_lit, Nat.add_assoc]
      · exact (Bool.false_ne_true e).elim
    · rename_i n el hu
      split at e
      · rename_i sz hs
        obtain ⟨b, o, hx, h0⟩ := onP_true (gt_run e)
        obtain ⟨l, e', m, h1, g1, g2, g3, k⟩ := slX_true h0
        refine ⟨_, h1, fun ρ a w q q1 q2 q3 => ?_⟩
        rw [hx] at q
        obtain ⟨lc, hb, e1⟩ := VR_p q
        obtain ⟨b1, b2, b3⟩ := k ρ a q1 q2 q3
        have hbd := run_bounds (P := P) (w := w) (sl := false) b1 b2 b3 (by simpa using hmh) g3 g2 g1
        refine ⟨.slice (some (if m = l then ⟨lc.B, lc.O + o, none⟩ else (⟨lc.B, lc.O + o, none⟩ : Addr).add (l * sz))) (e' - l) (m - l), ?_, ?_⟩
        · rw [e1]
          simp [Instr.sliceAt, Instr.sureAddr, run_underlying hu, hbd, run_size hs]
        · simp only [VR]
          refine ⟨lc, _, _, hb, rfl, by omega, .inl rfl, ?_⟩
          by_cases hml : m = l
          · exact .inr (by omega)
          · refine .inl ?_
            rw [if_neg hml, Addr.add_lit, Nat.add_assoc]
      · exact (Bool.false_ne_true e).elim
    · exact (Bool.false_ne_true e).elim

/-! ### All operations that give a value -/
def isRd (o : Oper) : Bool :=
  match o.op with
  | .load _ _ | .lookup _ _ _ _ | .convert _ _ _ => true
  | .call c =>
    match c.callee with
    | .builtin .len => true
    | _ => false
  | _ => false
/-- The operation gives v (with the heap h, if it reads it). -/
def Sv (P : Program) (o : Oper) (t : T) (h : H) (v : AV) : Prop :=
  ∀ (ρ : Ren) (a : Act) (w : World), (isRd o = true → HB ρ h w) → (∀ x ∈ o.op.operands, VR ρ (gv t x) (a.eval x)) → ∃ v', (execOp a.eval o).run P w = .ok (.value v') w ∧ VR ρ v v'
theorem run_val {P : Program} {s : Sem Value} {w w' : World} {v : Value} (h : s.run P w = .ok v w') : (do pure (.value (← s)) : Sem Next).run P w = .ok (.value v) w' := by simp [h]
theorem nil_ops {x : Operand} {l : Array Operand} (h : l = #[x]) {p : Operand → Prop} (hp : ∀ y ∈ l, p y) : p x := hp x (by rw [h]; simp)
theorem vop_ok {P : Program} {o : Oper} {g : Vo} (hv : vop P o = some g) {t : T} {h : H} {f : AV → R} (e : g.run t h f = true) : ∃ v, f v = true ∧ Sv P o t h v := by
  obtain ⟨dst, op, type, pos, after, guard⟩ := o
  unfold vop at hv
  cases op <;> simp only [reduceCtorEq] at hv <;> try (cases hv; done)
  case move x =>
    cases hv
    exact ⟨_, gt_run e, fun ρ a w _ q => ⟨a.eval x, rfl, q x (by simp [Op.operands])⟩⟩
  case pick c x y =>
    cases hv
    obtain ⟨b, hc, h1⟩ := onB_true (gt_run e)
    cases b
    · refine ⟨_, gt_run h1, fun ρ a w _ q => ⟨a.eval y, ?_, q y (by simp [Op.operands])⟩⟩
      have q1 := q c (by simp [Op.operands])
      rw [hc] at q1
      simp only [VR] at q1
      simp [execOp, q1, asBool]
    · refine ⟨_, gt_run h1, fun ρ a w _ q => ⟨a.eval x, ?_, q x (by simp [Op.operands])⟩⟩
      have q1 := q c (by simp [Op.operands])
      rw [hc] at q1
      simp only [VR] at q1
      simp [execOp, q1, asBool]
  case build ty ps =>
    cases hv
    obtain ⟨v, h1, h2⟩ := opBuild_ok (P := P) e
    refine ⟨v, h1, fun ρ a w _ q => ?_⟩
    obtain ⟨v', g1, g2⟩ := h2 ρ a w (fun p hp => q p.2 (by simp [Op.operands]; exact ⟨p.1, by simpa using hp⟩))
    exact ⟨v', run_val g1, g2⟩
  case load ty x =>
    cases hv
    obtain ⟨v, h1, h2⟩ := opLoad_ok (P := P) e
    refine ⟨v, h1, fun ρ a w hr q => ?_⟩
    obtain ⟨v', g1, g2⟩ := h2 ρ a w (hr rfl) (q x (by simp [Op.operands]))
    exact ⟨v', run_val g1, g2⟩
  case nilCheck x =>
    cases hv
    obtain ⟨v, h1, h2⟩ := opNilCheck_ok (P := P) e
    refine ⟨v, h1, fun ρ a w _ q => ?_⟩
    obtain ⟨hk, g2⟩ := h2 ρ a (q x (by simp [Op.operands]))
    refine ⟨a.eval x, ?_, g2⟩
    rcases hk with ⟨ad, e1⟩ | ⟨ty, u, e1⟩ | ⟨g, b, c, e1⟩ <;> simp [execOp, e1]
  case binOp op ty x y yt =>
    cases hv
    obtain ⟨v, h1, h2⟩ := opBin_ok (P := P) e
    refine ⟨v, h1, fun ρ a w _ q => ?_⟩
    obtain ⟨v', g1, g2⟩ := h2 ρ a w (q x (by simp [Op.operands])) (q y (by simp [Op.operands]))
    exact ⟨v', run_val g1, g2⟩
  case unOp op ty x =>
    cases hv
    obtain ⟨v, h1, h2⟩ := opUn_ok (P := P) e
    refine ⟨v, h1, fun ρ a w _ q => ?_⟩
    obtain ⟨v', g1, g2⟩ := h2 ρ a w (q x (by simp [Op.operands]))
    exact ⟨v', run_val g1, g2⟩
  case convert a b x =>
    split at hv
    · cases hv
    · cases hv
      obtain ⟨v, h1, h2⟩ := opConv_ok (P := P) e
      refine ⟨v, h1, fun ρ a w hr q => ?_⟩
      obtain ⟨v', g1, g2⟩ := h2 ρ a w (hr rfl) (q x (by simp [Op.operands]))
      exact ⟨v', run_val g1, g2⟩
  case makeInterface ty x =>
    cases hv
    obtain ⟨v, h1, h2⟩ := opIface_ok (P := P) e
    refine ⟨v, h1, fun ρ a w _ q => ?_⟩
    obtain ⟨v', g1, g2⟩ := h2 ρ a w (q x (by simp [Op.operands]))
    exact ⟨v', run_val g1, g2⟩
  case makeFunc fn x y =>
    cases hv
    obtain ⟨v, h1, h2⟩ := opFunc_ok (P := P) e
    refine ⟨v, h1, fun ρ a w _ q => ?_⟩
    obtain ⟨v', g1, g2⟩ := h2 ρ a w (fun z hz => q z (by simpa [Op.operands] using hz))
    exact ⟨v', run_val g1, g2⟩
  case slice ty x lo hi mx =>
    cases hv
    obtain ⟨v, h1, h2⟩ := opSlice_ok (P := P) e
    refine ⟨v, h1, fun ρ a w _ q => ?_⟩
    obtain ⟨v', g1, g2⟩ := h2 ρ a w (q x (by simp [Op.operands])) (fun y hy => q y (by simp [Op.operands]; simp at hy; simp [hy])) (fun y hy => q y (by simp [Op.operands]; simp at hy; simp [hy])) (fun y hy => q y (by simp [Op.operands]; simp at hy; simp [hy]))
    exact ⟨v', run_val g1, g2⟩
  case fieldAddr ty x i =>
    cases hv
    obtain ⟨v, h1, h2⟩ := opFieldAddr_ok (P := P) e
    refine ⟨v, h1, fun ρ a w _ q => ?_⟩
    obtain ⟨v', g1, g2⟩ := h2 ρ a w (q x (by simp [Op.operands]))
    exact ⟨v', run_val g1, g2⟩
  case field ty x i =>
    cases hv
    obtain ⟨v, h1, h2⟩ := opField_ok (P := P) e
    refine ⟨v, h1, fun ρ a w _ q => ?_⟩
    obtain ⟨v', g1, g2⟩ := h2 ρ a w (q x (by simp [Op.operands]))
    exact ⟨v', run_val g1, g2⟩
  case indexAddr ty x i =>
    cases hv
    obtain ⟨v, h1, h2⟩ := opIndexAddr_ok (P := P) e
    refine ⟨v, h1, fun ρ a w _ q => ?_⟩
    obtain ⟨v', g1, g2⟩ := h2 ρ a w (q x (by simp [Op.operands])) (q i (by simp [Op.operands]))
    exact ⟨v', run_val g1, g2⟩
  case index ty x i =>
    cases hv
    obtain ⟨v, h1, h2⟩ := opIndex_ok (P := P) e
    refine ⟨v, h1, fun ρ a w _ q => ?_⟩
    obtain ⟨v', g1, g2⟩ := h2 ρ a w (q x (by simp [Op.operands])) (q i (by simp [Op.operands]))
    exact ⟨v', run_val g1, g2⟩
  case lookup ty x k ok =>
    cases hv
    obtain ⟨v, h1, h2⟩ := opLookup_ok (P := P) e
    refine ⟨v, h1, fun ρ a w hr q => ?_⟩
    obtain ⟨v', g1, g2⟩ := h2 ρ a w (hr rfl) (q x (by simp [Op.operands])) (q k (by simp [Op.operands]))
    exact ⟨v', run_val g1, g2⟩
  case typeAssert x xt ty ok =>
    cases hv
    obtain ⟨v, h1, h2⟩ := opAssert_ok (P := P) (xt := xt) e
    refine ⟨v, h1, fun ρ a w _ q => ?_⟩
    obtain ⟨v', g1, g2⟩ := h2 ρ a w (q x (by simp [Op.operands]))
    exact ⟨v', run_val g1, g2⟩
  case extract x i =>
    cases hv
    obtain ⟨v, h1, h2⟩ := extract_ok (P := P) e
    refine ⟨v, h1, fun ρ a w _ q => ?_⟩
    obtain ⟨v', g1, g2⟩ := h2 ρ a w (q x (by simp [Op.operands]))
    exact ⟨v', run_val g1, g2⟩
  case call c =>
    obtain ⟨callee, args, at_⟩ := c
    cases callee <;> simp only [reduceCtorEq] at hv <;> try (cases hv; done)
    case builtin b =>
      cases b <;> simp only [reduceCtorEq] at hv <;> try (cases hv; done)
      case len =>
        split at hv
        · rename_i x ty h1 h2
          cases hv
          obtain ⟨v, h3, h4⟩ := lenB_ok (P := P) (rt := type) e
          refine ⟨v, h3, fun ρ a w hr q => ?_⟩
          have hargs : args = #[x] := by cases args; simp at h1; simp [h1]
          obtain ⟨v', g1, g2⟩ := h4 ρ a w (hr rfl) (q x (by simp [Op.operands, Call.operands, hargs]))
          refine ⟨v', ?_, g2⟩
          have g3 : Builtin.len_ at_ type #[a.eval x] = Builtin.len_ #[ty] type #[a.eval x] := by
            unfold Builtin.len_
            rw [h2]; rfl
          simp only at g1
          rw [← g3] at g1
          simp [execOp, resolve, invoke, builtin, hargs, g1]
        · cases hv; exact (Bool.false_ne_true e).elim
      case min =>
        cases hv
        obtain ⟨v, h3, h4⟩ := opMm_ok (P := P) (at_ := at_) (rt := type) e
        refine ⟨v, h3, fun ρ a w _ q => ?_⟩
        obtain ⟨v', g1, g2⟩ := h4 ρ a w (fun y hy => q y (show y ∈ (#[] ++ args : Array Operand) by simpa using hy))
        refine ⟨v', ?_, g2⟩
        have g3 : (Builtin.min_ at_ type (args.map a.eval)).run P w = .ok v' w := by
          have e0 : (List.map a.eval args.toList).toArray = args.map a.eval := by rw [← Array.toList_map]
          rw [← e0]; exact g1
        simp [execOp, resolve, invoke, builtin, g3]
      case max =>
        cases hv
        obtain ⟨v, h3, h4⟩ := opMm_ok (P := P) (at_ := at_) (rt := type) e
        refine ⟨v, h3, fun ρ a w _ q => ?_⟩
        obtain ⟨v', g1, g2⟩ := h4 ρ a w (fun y hy => q y (show y ∈ (#[] ++ args : Array Operand) by simpa using hy))
        refine ⟨v', ?_, g2⟩
        have g3 : (Builtin.max_ at_ type (args.map a.eval)).run P w = .ok v' w := by
          have e0 : (List.map a.eval args.toList).toArray = args.map a.eval := by rw [← Array.toList_map]
          rw [← e0]; exact g1
        simp [execOp, resolve, invoke, builtin, g3]
end
end Go.Proofs.YtlpffldeogapmaaGreatDoor.Ev

namespace Go.Proofs.YtlpffldeogapmaaGreatDoor.Ev
open Go Go.MapKept Go.RowKit
set_option linter.unusedVariables false
set_option linter.unusedSimpArgs false
set_option linter.unusedSectionVars false
variable [GO]
noncomputable section

theorem putl_get {d : Nat} : ∀ (l : List AV) (o : Nat) (t : Dt AV d) (j : Nat), o + l.length ≤ 8 ^ d → j < 8 ^ d → get d j (putl d l o t) = if o ≤ j ∧ j < o + l.length then l.getD (j - o) .un else get d j t
  | [], o, t, j, h, hj => by rw [if_neg (by simp only [List.length_nil]; omega)]; rfl
  | x :: l, o, t, j, h, hj => by
    simp only [List.length_cons] at h
    show get d j (putl d l (o + 1) (put d o x t)) = _
    rw [putl_get l (o + 1) _ j (by omega) hj, get_put d o j x t (by omega) hj]
    by_cases h1 : o + 1 ≤ j ∧ j < o + 1 + l.length
    · rw [if_pos h1, if_pos (by simp; omega)]
      rw [show j - o = (j - (o + 1)) + 1 by omega]; simp
    · rw [if_neg h1]
      by_cases h2 : j = o
      · subst h2; rw [if_pos rfl, if_pos (by simp)]; simp
      · rw [if_neg h2, if_neg (by simp; omega)]
theorem wrl_true {d : Nat} : ∀ {l : List AV} {o : Nat} {t : Dt AV d} {f : Dt AV d → R}, wrl d l o t f = true → (l = [] ∨ o + l.length ≤ 8 ^ d) ∧ f (putl d l o t) = true
  | [], o, t, f, h => ⟨.inl rfl, h⟩
  | x :: l, o, t, f, h => by
    obtain ⟨h1, h2⟩ := pcc_run (show (pcc AV d o).run x (fun t => fc (fun o => wrl d l o t f) (Nat.add o 1)) t = true from h)
    obtain ⟨h3, h4⟩ := wrl_true (l := l) (o := o + 1) h2
    refine ⟨.inr ?_, h4⟩
    rcases h3 with rfl | h3
    · simp; omega
    · simp; omega
theorem BlkR.row {ρ : Ren} {d : Nat} {t : Dt AV d} {l : List AV} {z B X : Nat} {cs : Array Value} {elem : TypeId} {fz : Nat × Nat} (hn : l.length ≤ 8 ^ d) (hg : ∀ (i : Nat) (x : AV), l[i]? = some x → get d i t = x)
    (hv : VRs ρ l (cs.toList.take l.length)) (hX : l.length + X * z ≤ cs.size) (hf : ∀ i, i < l.length + X * z → ¬ (fz.1 ≤ i ∧ i < fz.2)) : BlkR ρ (.c d t l.length z) ⟨B, 0, X⟩ (.cells cs elem fz) := by
  refine ⟨hn, cs, elem, fz, rfl, by show 0 + l.length + X * z ≤ cs.size; omega, fun i hi => ?_, fun i hi => ?_⟩
  · obtain ⟨v, h1, h2⟩ := hv.at i _ (List.getElem?_eq_getElem hi)
    rw [List.getElem?_take_of_lt hi, Array.getElem?_toList] at h1
    refine ⟨v, by show cs[0 + i]? = _; rw [Nat.zero_add]; exact h1, ?_⟩
    rw [hg i _ (List.getElem?_eq_getElem hi)]; exact h2
  · show ¬ (fz.1 ≤ 0 + i ∧ 0 + i < fz.2)
    rw [Nat.zero_add]; exact hf i hi
theorem putl_at {d : Nat} {l : List AV} {t : Dt AV d} (h : l.length ≤ 8 ^ d) (i : Nat) (x : AV) (hx : l[i]? = some x) : get d i (putl d l 0 t) = x := by
  have hi : i < l.length := (List.getElem?_eq_some_iff.1 hx).1
  rw [putl_get l 0 t i (by omega) (by omega), if_pos (by omega), Nat.sub_zero, List.getD_eq_getElem?_getD, hx]; rfl
theorem dOf_ok {n : Nat} (h : n ≤ 32768) : n ≤ 8 ^ dOf n := by
  unfold dOf
  cases h1 : Nat.ble n 8
  · cases h2 : Nat.ble n 64
    · cases h3 : Nat.ble n 512
      · cases h4 : Nat.ble n 4096
        · cases h5 : Nat.ble n 32768
          · exact absurd (Nat.ble_eq_true_of_le h) (by rw [h5]; simp)
          · show n ≤ 8 ^ 5; omega
        · have := Nat.le_of_ble_eq_true h4; show n ≤ 8 ^ 4; omega
      · have := Nat.le_of_ble_eq_true h3; show n ≤ 8 ^ 3; omega
    · have := Nat.le_of_ble_eq_true h2; show n ≤ 8 ^ 2; omega
  · have := Nat.le_of_ble_eq_true h1; show n ≤ 8 ^ 1; omega
/-- A block out of a list. -/
def LaidBy (k : Blk) (l : List AV) (z : Nat) : Prop := ∃ d t, k = .c d t l.length z ∧ l.length ≤ 8 ^ d ∧ ∀ (i : Nat) (x : AV), l[i]? = some x → get d i t = x
theorem mkBlk_true {z : Nat} {l : List AV} {f : Blk → R} (h : mkBlk z l f = true) : ∃ k, f k = true ∧ LaidBy k l z := by
  obtain ⟨h1, h2⟩ := wrl_true (show wrl (dOf (llen l)) l 0 (dflt .un (dOf (llen l))) (fun t => f (.c (dOf (llen l)) t (llen l) z)) = true from h)
  have hle : l.length ≤ 8 ^ dOf (llen l) := by rcases h1 with rfl | h1; exact Nat.zero_le _; simpa using h1
  exact ⟨_, h2, _, _, congrArg (fun n => Blk.c (dOf (llen l)) (putl (dOf (llen l)) l 0 (dflt .un (dOf (llen l)))) n z) (llen_eq l), hle, fun i x hx => putl_at hle i x hx⟩
theorem blkC_laid {z : Nat} {l : List AV} (h : llen l ≤ 32768) : LaidBy (blkC z l) l z := by
  have hle : l.length ≤ 8 ^ dOf (llen l) := by rw [← llen_eq]; exact dOf_ok h
  exact ⟨dOf (llen l), putl (dOf (llen l)) l 0 (dflt AV.un (dOf (llen l))), congrArg (fun n => Blk.c (dOf (llen l)) (putl (dOf (llen l)) l 0 (dflt AV.un (dOf (llen l)))) n z) (llen_eq l), hle, fun i x hx => putl_at hle i x hx⟩
theorem LaidBy.ne {k : Blk} {l : List AV} {z : Nat} (h : LaidBy k l z) : k ≠ .no := by obtain ⟨d, t, rfl, _⟩ := h; simp
theorem LaidBy.blk {k : Blk} {l : List AV} {z : Nat} (h : LaidBy k l z) {ρ : Ren} {cs : Array Value} {elem : TypeId} {B : Nat} (hv : VRs ρ l cs.toList) : BlkR ρ k ⟨B, 0, 0⟩ (.cells cs elem (0, 0)) := by
  obtain ⟨d, t, rfl, h1, h2⟩ := h
  have hl := hv.length
  exact BlkR.row h1 h2 (by rw [← hl, List.take_length]; exact hv) (by rw [← hl, Array.length_toList]; omega) (fun i _ => by simp)

/-- The operation makes a block k, and gives v: n being the new block's number. -/
def Sm (P : Program) (o : Oper) (t : T) (n : Nat) (v : AV) (k : Blk) : Prop :=
  k ≠ .no ∧ ∀ (ρ : Ren) (a : Act) (w : World), ρ n = none → (∀ x ∈ o.op.operands, VR ρ (gv t x) (a.eval x)) →
    ∃ v' w' l ob, (execOp a.eval o).run P w = .ok (.value v') w' ∧ l.B = w.heap.size ∧ w'.heap = w.heap.push ob ∧ Below 0 w w' ∧ BlkR (upd ρ n l) k l ob ∧ VR (upd ρ n l) v v'
theorem onH_true {f : Ht → Nat → R} {h : H} (e : onH f h = true) : f h.t h.nx = true := by cases h; exact e
theorem below_push (w : World) (o : Obj) : Below 0 w (w.alloc o) := (Below.refl 0 w).alloc (Nat.zero_le _) o
theorem VR_newp {ρ : Ren} {n : Nat} {w : World} : VR (upd ρ n ⟨w.heap.size, 0, 0⟩) (.p n 0) (.pointer (some ⟨w.heap.size, 0, none⟩)) := by
  simp only [VR]; exact ⟨_, upd_at _ _ _, rfl⟩
theorem VR_news {ρ : Ren} {n m c : Nat} {w : World} (h : m ≤ c) : VR (upd ρ n ⟨w.heap.size, 0, 0⟩) (.sl n 0 m c) (.slice (some ⟨w.heap.size, 0, none⟩) m c) := by
  simp only [VR]; exact ⟨_, _, _, upd_at _ _ _, rfl, h, .inl rfl, .inl rfl⟩
theorem lrep_get {α : Type} (z : List α) : ∀ (n i : Nat), i < n * z.length → (lrep z n)[i]? = z[i % z.length]?
  | 0, i, h => by omega
  | n + 1, i, h => by
    show (lapp z (lrep z n))[i]? = _
    rw [lapp_eq]
    by_cases hi : i < z.length
    · rw [List.getElem?_append_left hi, Nat.mod_eq_of_lt hi]
    · have h' : i - z.length < n * z.length := by rw [Nat.succ_mul] at h; omega
      rw [List.getElem?_append_right (by omega), lrep_get z n (i - z.length) h', Nat.mod_eq_sub_mod (a := i) (by omega)]
theorem lrep_len {α : Type} (z : List α) : ∀ n, (lrep z n).length = n * z.length
  | 0 => by show ([] : List α).length = _; simp
  | n + 1 => by show (lapp z (lrep z n)).length = _; rw [lapp_eq, List.length_append, lrep_len z n, Nat.add_mul]; omega
theorem made_VRs {ρ : Ren} {z : List AV} {zc : Array Value} (hz : VRs ρ z zc.toList) (n : Nat) : VRs ρ (lrep z n) ((Array.range (n * z.length)).map (zc[· % zc.size]!)).toList := by
  have hl : zc.size = z.length := by rw [← hz.length, Array.length_toList]
  refine VRs.of (by simp [lrep_len]) fun i x v hx hv => ?_
  have hi : i < n * z.length := by rw [← lrep_len]; exact (List.getElem?_eq_some_iff.1 hx).1
  rw [lrep_get z n i hi] at hx
  have hp : 0 < z.length := by
    rcases Nat.eq_zero_or_pos z.length with h0 | h0
    · rw [h0] at hi; omega
    · exact h0
  obtain ⟨u, hu, hr⟩ := hz.at _ x hx
  rw [Array.getElem?_toList] at hu hv
  have hm : i % zc.size < zc.size := by rw [hl]; exact Nat.mod_lt _ hp
  rw [← hl] at hu
  have e1 : zc[i % zc.size]! = u := by rw [getElem!_pos zc _ hm]; rw [Array.getElem?_eq_getElem hm] at hu; simpa using hu
  simp [hi, e1] at hv
  rw [← hv]; exact hr
theorem opAlloc_ok {P : Program} {o : Oper} {ty : TypeId} (ho : o.op = .alloc ty) {t : T} {h : H} {F : Nat → AV → Blk → R} (e : (opAlloc P ty).run t h F = true) : ∃ v k, F h.nx v k = true ∧ Sm P o t h.nx v k := by
  unfold opAlloc at e
  split at e
  · rename_i l hl
    split at e
    · rename_i hs
      obtain ⟨i, zv, hi, hzv, rfl⟩ := zeroL_some hl
      refine ⟨_, _, onH_true (show onH (fun _ nx => F nx (.p nx 0) (blkC 0 (zv.cells.toList.map ofV0))) h = true from e), (blkC_laid hs).ne, fun ρ a w _ _ => ⟨.pointer (some ⟨w.heap.size, 0, none⟩), w.alloc (.cells zv.cells ty), ⟨w.heap.size, 0, 0⟩, .cells zv.cells ty, ?_, rfl, rfl, below_push w _, (blkC_laid hs).blk (zero_VRs _ zv), VR_newp⟩⟩
      simp [execOp, ho, Instr.alloc, zeroValue, run_info hi, hzv, newVar, newRow]
    · exact (Bool.false_ne_true e).elim
  · exact (Bool.false_ne_true e).elim
theorem opBox_ok {P : Program} {o : Oper} {ty : TypeId} {x : Operand} (ho : o.op = .box ty x) {t : T} {h : H} {F : Nat → AV → Blk → R} (e : (opBox ty x).run t h F = true) : ∃ v k, F h.nx v k = true ∧ Sm P o t h.nx v k := by
  have e1 := gt_run (onH_true (f := fun _ nx => (gt x).run (fun v => cellsA v (fun l => mkBlk 0 l (fun k => F nx (.p nx 0) k))) t) e)
  obtain ⟨c, h1, h2⟩ := cellsA_true e1
  obtain ⟨k, h3, h4⟩ := mkBlk_true h1
  refine ⟨_, k, h3, h4.ne, fun ρ a w hn q => ⟨.pointer (some ⟨w.heap.size, 0, none⟩), w.alloc (.cells (a.eval x).cells ty), ⟨w.heap.size, 0, 0⟩, .cells (a.eval x).cells ty, ?_, rfl, rfl, below_push w _, ?_, VR_newp⟩⟩
  · simp [execOp, ho, Instr.box, newVar, newRow]
  · have q1 := (h2 ρ _ (q x (by rw [ho]; simp [Op.operands]))).1
    exact h4.blk (VRs.mono (Sub.upd hn) _ _ q1)
theorem opBuildSlice_ok {P : Program} {o : Oper} {ty len : Nat} {parts : Array (Nat × Operand)} (ho : o.op = .buildSlice ty len parts) {t : T} {h : H} {F : Nat → AV → Blk → R} (e : (opBuildSlice P ty len parts).run t h F = true) : ∃ v k, F h.nx v k = true ∧ Sm P o t h.nx v k := by
  unfold opBuildSlice at e
  split at e
  · rename_i el hu
    split at e
    · rename_i s z hs hz
      split at e
      · rename_i hc
        obtain ⟨hc1, hc2⟩ := hc
        obtain ⟨i, zv, hi, hzv, rfl⟩ := zeroL_some hz
        have hsi : i.size = s := by simpa [szOf, hi] using hs
        obtain ⟨m', h1, hml, h2⟩ := fills_true (onH_true (f := fun _ nx => fills (parts.toList.map fun p => (p.1 * s, s, p.2)) t (lrep (zv.cells.toList.map ofV0) len) (fun m => mkBlk s m (fun k => F nx (.sl nx 0 len len) k))) e)
        obtain ⟨k, h3, h4⟩ := mkBlk_true h1
        have hzl : zv.cells.size = s := by rw [llen_eq] at hc2; simpa using hc2
        refine ⟨_, k, h3, h4.ne, fun ρ a w hn q => ?_⟩
        obtain ⟨r, r1, r2, _⟩ := h2 ρ a (fun i => some (i * s, s)) parts.toList (by simp) (fun j p q' e1 e2 => by
          rw [List.getElem?_map, e1] at e2
          simp at e2
          subst e2
          exact ⟨rfl, rfl⟩) (fun p hp => q p.2 (by rw [ho]; simp [Op.operands]; exact ⟨p.1, by simpa using hp⟩)) ((Array.range (len * s)).map (zv.cells[· % zv.cells.size]!)) (by
            have := made_VRs (zero_VRs ρ zv) len
            simpa [hzl] using this)
        have r1' : Instr.fill (fun i => some (i * s, s)) ((Array.range (len * s)).map (zv.cells[· % zv.cells.size]!)) ((parts.map fun p => (p.1, a.eval p.2)).toList) = some r := by rw [Array.toList_map]; exact r1
        refine ⟨.slice (some ⟨w.heap.size, 0, none⟩) len len, w.alloc (.cells r el), ⟨w.heap.size, 0, 0⟩, .cells r el, ?_, rfl, rfl, below_push w _, h4.blk (VRs.mono (Sub.upd hn) _ _ r2), VR_news (Nat.le_refl _)⟩
        have hrun : (Instr.buildSlice ty len (parts.map fun p => (p.1, a.eval p.2))).run P w = .ok (.slice (some ⟨w.heap.size, 0, none⟩) len len) (w.alloc (.cells r el)) := by
          by_cases hp : len * s = 0
          · have r3 : Instr.fill (fun i => some (i * s, s)) #[] ((parts.map fun p => (p.1, a.eval p.2)).toList) = some r := by simpa [hp, Array.range_zero'] using r1'
            rw [Array.toList_map] at r3
            simp [Instr.buildSlice, run_underlying hu, sizeOf, run_info hi, hsi, hp, r3, newRow, Array.range_zero']
          · exact run_buildSlice w ty el len _ r i zv hu hi hzv (by rw [hsi]; omega) (by rw [hsi]; exact hp) (by rw [hsi]; exact r1')
        rw [show execOp a.eval o = (do pure (.value (← Instr.buildSlice ty len (parts.map fun p => (p.1, a.eval p.2)))) : Sem Next) by simp [execOp, ho]]
        exact run_val hrun
      · exact (Bool.false_ne_true e).elim
    · exact (Bool.false_ne_true e).elim
  · exact (Bool.false_ne_true e).elim

theorem keq_u {k j : IntKind} {r : R} (h : keq k j r = true) : k = j ∧ r = true := keq_true h
theorem zrows_blk {ρ : Ren} {s n : Nat} {z : List AV} {zc : Array Value} {elem : TypeId} {B : Nat} (hz : VRs ρ z zc.toList) (hl : z.length = s) (hn : n * s ≤ 32768) :
    zrows s z n ≠ .no ∧ BlkR ρ (zrows s z n) ⟨B, 0, 0⟩ (.cells (madeCells zc (n * s)) elem (0, 0)) := by
  subst hl
  have hv := made_VRs hz n
  cases z with
  | nil =>
    refine ⟨by show Blk.c _ _ _ _ ≠ _; simp, ?_⟩
    exact BlkR.row (l := []) (Nat.zero_le _) (fun i x h => by simp at h) (by simp only [List.length_nil, List.take_zero, VRs]) (by simp) (fun i _ => by simp)
  | cons z0 r =>
    cases r with
    | nil =>
      refine ⟨by show Blk.c _ _ _ _ ≠ _; simp, ?_⟩
      have hln : (lrep [z0] n).length = n := by rw [lrep_len]; simp
      have hn' : n ≤ 32768 := by simpa using hn
      have := BlkR.row (ρ := ρ) (d := dOf n) (t := dflt z0 (dOf n)) (l := lrep [z0] n) (z := 1) (B := B) (X := 0) (cs := madeCells zc (n * 1)) (elem := elem) (fz := (0, 0)) (by rw [hln]; exact dOf_ok hn') (fun i x hx => by
          have hi : i < n := by rw [← hln]; exact (List.getElem?_eq_some_iff.1 hx).1
          rw [lrep_get [z0] n i (by simpa using hi)] at hx
          simp [Nat.mod_one] at hx
          rw [get_dflt]; exact hx) (by
            rw [hln]
            have : ((madeCells zc (n * 1)).toList.take n) = (madeCells zc (n * 1)).toList := List.take_of_length_le (by rw [Array.length_toList, size_madeCells]; omega)
            rw [this]; exact hv) (by rw [hln, size_madeCells]; omega) (fun i _ => by simp)
      rw [hln] at this
      exact this
    | cons z1 r =>
      have hln : (lrep (z0 :: z1 :: r) n).length = n * (z0 :: z1 :: r).length := lrep_len _ n
      have hlb := blkC_laid (z := (z0 :: z1 :: r).length) (l := lrep (z0 :: z1 :: r) n) (by rw [llen_eq, hln]; exact hn)
      exact ⟨hlb.ne, hlb.blk hv⟩
theorem opMakeSlice_ok {P : Program} {o : Oper} {ty : Nat} {x y : Operand} (ho : o.op = .makeSlice ty x y) {t : T} {h : H} {F : Nat → AV → Blk → R} (e : (opMakeSlice P ty x y).run t h F = true) : ∃ v k, F h.nx v k = true ∧ Sm P o t h.nx v k := by
  unfold opMakeSlice at e
  split at e
  · rename_i el hu
    split at e
    · rename_i s z i hs hz hi
      split at e
      · rename_i hzs
        obtain ⟨k1, a1, hx, h1⟩ := onI_true (gt_run (onH_true (f := fun _ nx => (gt x).run (onI (fun k a => keq k .i64 ((gt y).run (onI (fun j b => keq j .i64 (mkSl s i.bytes z nx a b F))) t))) t) e))
        obtain ⟨rfl, h2⟩ := keq_true h1
        obtain ⟨k2, b1, hy, h3⟩ := onI_true (gt_run h2)
        obtain ⟨rfl, h4⟩ := keq_true h3
        obtain ⟨g1, h5⟩ := gd_true h4
        obtain ⟨g2, h6⟩ := gd_true h5
        obtain ⟨g3, h7⟩ := gd_true h6
        obtain ⟨g4, h7⟩ := gd_true h7
        have g4 : b1 < 4611686018427387904 := by simpa [Nat.blt_eq] using g4
        have g1 := Nat.le_of_ble_eq_true g1
        have g2 : b1 * i.bytes ≤ 281474976710656 := Nat.le_of_ble_eq_true g2
        have g3 : b1 * s ≤ 32768 := Nat.le_of_ble_eq_true g3
        obtain ⟨i', zv, hi', hzv, rfl⟩ := zeroL_some hz
        rw [hi] at hi'; cases hi'
        have hsi : i.size = s := by simpa [szOf, hi] using hs
        have hzl : (zv.cells.toList.map ofV0).length = s := by rw [llen_eq] at hzs; exact hzs
        have hb63 : b1 < 9223372036854775808 := by omega
        refine ⟨_, _, h7, (zrows_blk (ρ := fun _ => none) (elem := 0) (B := 0) (zero_VRs _ zv) hzl g3).1, fun ρ a w hn q => ?_⟩
        have q1 := q x (by rw [ho]; simp [Op.operands])
        have q2 := q y (by rw [ho]; simp [Op.operands])
        rw [hx] at q1
        rw [hy] at q2
        obtain ⟨ha, e1⟩ := VR_i q1
        obtain ⟨hb, e2⟩ := VR_i q2
        have w1 : IntKind.i64.wrap (a1 : Int) = a1 := by rw [IntKind.wrap_i64]; omega
        have w2 : IntKind.i64.wrap (b1 : Int) = b1 := by rw [IntKind.wrap_i64]; omega
        rw [w1] at e1
        rw [w2] at e2
        have hb2 : (i.bytes : Int) * (b1 : Int) ≤ 281474976710656 := by
          have : ((b1 * i.bytes : Nat) : Int) ≤ 281474976710656 := by omega
          rw [Int.natCast_mul] at this
          rwa [Int.mul_comm] at this
        have hrun := run_make (P := P) w ty el i zv hu hi hzv .i64 .i64 a1 b1 (by omega) (by omega) hb2 (by omega)
        rw [Int.toNat_natCast, Int.toNat_natCast] at hrun
        refine ⟨.slice (some ⟨w.heap.size, 0, none⟩) a1 b1, w.alloc (.cells (madeCells zv.cells (b1 * i.size)) el), ⟨w.heap.size, 0, 0⟩, .cells (madeCells zv.cells (b1 * i.size)) el, ?_, rfl, rfl, below_push w _, ?_, VR_news g1⟩
        · rw [show execOp a.eval o = (do pure (.value (← Instr.makeSlice ty (a.eval x) (a.eval y))) : Sem Next) by simp [execOp, ho]]
          rw [e1, e2]
          exact run_val hrun
        · rw [hsi]
          exact (zrows_blk (VRs.mono (Sub.upd hn) _ _ (zero_VRs ρ zv)) hzl g3).2
      · exact (Bool.false_ne_true e).elim
    · exact (Bool.false_ne_true e).elim
  · exact (Bool.false_ne_true e).elim
theorem opMakeMap_ok {P : Program} {o : Oper} {ty : Nat} {r : Option Operand} (ho : o.op = .makeMap ty r) {t : T} {h : H} {F : Nat → AV → Blk → R} (e : (opMakeMap P ty r).run t h F = true) : ∃ v k, F h.nx v k = true ∧ Sm P o t h.nx v k := by
  have fin : ∀ (ρ : Ren) (a : Act) (w : World), (execOp a.eval o).run P w = .ok (.value (.map (some w.heap.size))) (w.alloc (.map #[] 0)) → ∃ v' w' l ob, (execOp a.eval o).run P w = .ok (.value v') w' ∧ l.B = w.heap.size ∧ w'.heap = w.heap.push ob ∧ Below 0 w w' ∧ BlkR (upd ρ h.nx l) (.mp [] 0) l ob ∧ VR (upd ρ h.nx l) (.m h.nx) v' :=
    fun ρ a w hr => ⟨_, _, ⟨w.heap.size, 0, 0⟩, _, hr, rfl, rfl, below_push w _, ⟨#[], rfl, rfl⟩, by simp only [VR]; exact ⟨_, upd_at _ _ _, rfl⟩⟩
  unfold opMakeMap at e
  cases r with
  | none =>
    refine ⟨_, _, onH_true (f := fun _ nx => F nx (.m nx) (.mp [] 0)) e, by simp, fun ρ a w hn q => fin ρ a w ?_⟩
    simp [execOp, ho, Instr.makeMap]
  | some x =>
    simp only at e
    split at e
    · rename_i kt et hu
      obtain ⟨k, n, hx, h1⟩ := onI_true (gt_run e)
      refine ⟨_, _, onH_true (f := fun _ nx => F nx (.m nx) (.mp [] 0)) h1, by simp, fun ρ a w hn q => fin ρ a w ?_⟩
      have q1 := q x (by rw [ho]; simp [Op.operands])
      rw [hx] at q1
      obtain ⟨_, e1⟩ := VR_i q1
      simp [execOp, ho, Instr.makeMap, run_underlying hu, e1, asInt, asIntOf]
    · exact (Bool.false_ne_true e).elim

theorem avs_map : ∀ l : List Nat, avs l = l.map (AV.i .u8)
  | [] => rfl
  | n :: l => by show AV.i .u8 n :: avs l = _; rw [avs_map l]; rfl
theorem avs_VRs {ρ : Ren} (bs : ByteArray) : VRs ρ (avs (toB bs)) (bs.data.toList.map fun b => Value.int .u8 b.toNat) := by
  rw [avs_map]
  show VRs ρ ((bs.data.toList.map UInt8.toNat).map (AV.i .u8)) _
  generalize bs.data.toList = l
  induction l with
  | nil => simp only [List.map_nil, VRs]
  | cons b l ih =>
    simp only [List.map_cons, VRs]
    refine ⟨_, _, rfl, ?_, ih⟩
    have h1 := VR_mki (ρ := ρ) (k := .u8) (n := b.toNat) b.toNat_lt
    have h2 : IntKind.u8.wrap (b.toNat : Int) = b.toNat := by rw [IntKind.wrap_u8']; have := b.toNat_lt; omega
    rwa [h2] at h1
theorem isU8sl_true {P : Program} {ty : Nat} (h : isU8sl P ty = true) : ∃ e, P.underlying ty = some (.slice e) ∧ P.underlying e = some (.int .u8) := by
  unfold isU8sl at h
  split at h
  · rename_i e hu; exact ⟨e, hu, isU8_true h⟩
  · cases h
theorem opBytes_ok {P : Program} {o : Oper} {src dst : Nat} {x : Operand} (ho : o.op = .convert src dst x) (hc : (isU8sl P dst && isStr P src) = true) {t : T} {h : H} {F : Nat → AV → Blk → R} (e : (opBytes x).run t h F = true) : ∃ v k, F h.nx v k = true ∧ Sm P o t h.nx v k := by
  simp only [Bool.and_eq_true] at hc
  obtain ⟨el, hd, hel⟩ := isU8sl_true hc.1
  have hs := isStr_true hc.2
  obtain ⟨l, hx, h1⟩ := onS_true (gt_run (onH_true (f := fun _ nx => (gt x).run (onS (fun l => fc (fun n => gd (Nat.blt n 4611686018427387904) (mkBlk 1 (avs l) (fun k => F nx (.sl nx 0 n n) k))) (llen l))) t) e))
  obtain ⟨h2, h3⟩ := gd_true h1
  have h2 : llen l < 4611686018427387904 := by simpa [Nat.blt_eq] using h2
  obtain ⟨k, h4, h5⟩ := mkBlk_true h3
  refine ⟨_, k, h4, h5.ne, fun ρ a w hn q => ?_⟩
  have q1 := q x (by rw [ho]; simp [Op.operands])
  rw [hx] at q1
  obtain ⟨bs, e1, rfl⟩ := VR_s q1
  have hsz : bs.size = llen (toB bs) := toB_size bs
  obtain ⟨X, hX⟩ : ∃ X, Question.cut (.appendCap bs.size 0 el) (w.tape w.drawn (.appendCap bs.size 0 el)) = bs.size + X := ⟨_, rfl⟩
  have hcs : ((bs.data.map fun b => Value.int .u8 b.toNat) ++ Array.replicate X (Value.int .u8 0)).size = bs.size + X := by simp
  have hrun : (Conv.stringToBytes el bs).run P w = .ok (.slice (some ⟨w.heap.size, 0, none⟩) bs.size (bs.size + X))
      ((w.drew.alloc (.cells ((bs.data.map fun b => Value.int .u8 b.toNat) ++ Array.replicate X (Value.int .u8 0)) el)).freeze ⟨w.heap.size, bs.size + X, none⟩ 1) := by
    have hat : (w.drew.alloc (.cells ((bs.data.map fun b => Value.int .u8 b.toNat) ++ Array.replicate X (Value.int .u8 0)) el)).heap[w.heap.size]? = some (.cells ((bs.data.map fun b => Value.int .u8 b.toNat) ++ Array.replicate X (Value.int .u8 0)) el) := by
      show (w.heap.push _)[w.heap.size]? = _
      simp
    have hsh : (w.drew.alloc (.cells ((bs.data.map fun b => Value.int .u8 b.toNat) ++ Array.replicate X (Value.int .u8 0)) el)).shape? w.heap.size = some (el, bs.size + X) := by
      unfold World.shape?
      rw [hat]
      simp only [hcs]
    simp only [Conv.stringToBytes, Sem.run_bind, run_choose, Question.forced, Bool.false_eq_true, if_false, Result.andThen_ok, hX, newRow, run_newObj, Sem.run_pure, markStringish, run_shape, Nat.add_sub_cancel_left, World.drew_eq, World.alloc_eq]
    have hdw : w.drew.heap.size = w.heap.size := rfl
    simp only [hdw, hsh, run_freeze, Result.andThen_ok]
  have hheap : ((w.drew.alloc (.cells ((bs.data.map fun b => Value.int .u8 b.toNat) ++ Array.replicate X (Value.int .u8 0)) el)).freeze ⟨w.heap.size, bs.size + X, none⟩ 1).heap =
      w.heap.push (.cells ((bs.data.map fun b => Value.int .u8 b.toNat) ++ Array.replicate X (Value.int .u8 0)) el (bs.size + X, bs.size + X + 1)) := by
    simp only [World.freeze, World.alloc, World.drew]
    rw [if_neg (by simp)]
    apply Array.ext_getElem?
    intro i
    simp only [Array.getElem?_modify, Array.getElem?_push]
    by_cases hi : w.heap.size = i
    · subst hi; simp
    · rw [if_neg hi, if_neg (fun h => hi h.symm), if_neg (fun h => hi h.symm)]
  refine ⟨.slice (some ⟨w.heap.size, 0, none⟩) bs.size (bs.size + X), _, ⟨w.heap.size, 0, X⟩, .cells ((bs.data.map fun b => Value.int .u8 b.toNat) ++ Array.replicate X (Value.int .u8 0)) el (bs.size + X, bs.size + X + 1), ?_, rfl, hheap, ?_, ?_, ?_⟩
  · rw [show execOp a.eval o = (do pure (.value (← convert src dst (a.eval x))) : Sem Next) by simp [execOp, ho]]
    refine run_val (Eq.trans ?_ hrun)
    rw [e1]
    have hs' : P.underlying src = some .string := hs
    simp [convert, run_underlying hs', run_underlying hd, run_underlying hel]
  · have b1 : Below 0 w (w.drew.alloc (.cells ((bs.data.map fun b => Value.int .u8 b.toNat) ++ Array.replicate X (Value.int .u8 0)) el)) := ((Below.refl 0 w).drew).alloc (Nat.zero_le _) _
    refine ⟨?_, ?_, ?_, ?_, fun k hk => absurd hk (Nat.not_lt_zero k)⟩
    · simp only [World.freeze]; split <;> rfl
    · simp only [World.freeze]; split <;> rfl
    · simp only [World.freeze]; split <;> rfl
    · rw [hheap]; simp
  · obtain ⟨d, tr, rfl, g1, g2⟩ := h5
    have hl : (avs (toB bs)).length = bs.size := by rw [avs_map, List.length_map, ← llen_eq, ← hsz]
    refine BlkR.row g1 g2 ?_ ?_ ?_
    · have : (((bs.data.map fun b => Value.int .u8 b.toNat) ++ Array.replicate X (Value.int .u8 0)).toList.take (avs (toB bs)).length) = bs.data.toList.map fun b => Value.int .u8 b.toNat := by
        rw [hl, Array.toList_append, List.take_append_of_le_length (by simp), List.take_of_length_le (by simp), Array.toList_map]
      rw [this]; exact avs_VRs bs
    · rw [hcs, hl]; omega
    · intro i hi; rw [hl] at hi; simp only; omega
  · simp only [VR]
    exact ⟨⟨w.heap.size, 0, X⟩, ⟨w.heap.size, 0, none⟩, bs.size + X, upd_at _ _ _, by rw [hsz], by omega, .inr (by show bs.size + X = llen (toB bs) + X; omega), .inl rfl⟩
theorem mop_ok {P : Program} {o : Oper} {g : Mk} (hg : mop P o = some g) {t : T} {h : H} {F : Nat → AV → Blk → R} (e : g.run t h F = true) : ∃ v k, F h.nx v k = true ∧ Sm P o t h.nx v k := by
  unfold mop at hg
  split at hg
  · rename_i ty ho; cases hg; exact opAlloc_ok ho e
  · rename_i ty x ho; cases hg; exact opBox_ok ho e
  · rename_i ty n ps ho; cases hg; exact opBuildSlice_ok ho e
  · rename_i ty l c ho; cases hg; exact opMakeSlice_ok ho e
  · rename_i ty r ho; cases hg; exact opMakeMap_ok ho e
  · rename_i a b x ho
    split at hg
    · rename_i hc; cases hg; exact opBytes_ok ho hc e
    · cases hg
  · cases hg
end
end Go.Proofs.YtlpffldeogapmaaGreatDoor.Ev

namespace Go.Proofs.YtlpffldeogapmaaGreatDoor.Ev
open Go Go.MapKept Go.RowKit
set_option linter.unusedVariables false
set_option linter.unusedSimpArgs false
set_option linter.unusedSectionVars false
variable [GO]
noncomputable section

/-- What is left behind an operation, or a call: a value, and a heap that goes on well. -/
def Res (ρ : Ren) (h : H) (w : World) (F : AV → H → R) (v' : Value) (w' : World) : Prop := ∃ v h' ρ', F v h' = true ∧ HR ρ' h' w' ∧ Ext ρ h w ρ' h' w' ∧ VR ρ' v v'
/-- A way to carry out calls that is sound. -/
def CHok (P : Program) (cH : CH) : Prop :=
  ∀ g args h F, cH g args h F = true → ∀ (ρ : Ren) (vs : Array Value) (w : World), HR ρ h w → VRs ρ args vs.toList → Calls P g vs w fun e w' => ∃ v', e = .returned v' ∧ Res ρ h w F v' w'
/-- The operation goes well. -/
def Goes (P : Program) (o : Oper) (t : T) (h : H) (F : AV → H → R) : Prop :=
  ∀ (ρ : Ren) (a : Act) (w : World), HR ρ h w → (∀ x ∈ o.op.operands, VR ρ (gv t x) (a.eval x)) → ∀ Q, o.wp P a w (fun a' w' => ∃ v', a' = a.put o.dst v' ∧ Res ρ h w F v' w') Q
theorem wp_value {P : Program} {o : Oper} {a : Act} {w w' : World} {v' : Value} {K : Act → World → Prop} {Q : Exit → Act → World → Prop} (h : (execOp a.eval o).run P w = .ok (.value v') w') (k : K (a.put o.dst v') w') : o.wp P a w K Q := by
  unfold Oper.wp; rw [h]; exact k
theorem wp_skipped {P : Program} {o : Oper} {a : Act} {w w' : World} {K : Act → World → Prop} {Q : Exit → Act → World → Prop} (h : (execOp a.eval o).run P w = .ok .skip w') (k : K (a.put o.dst undef) w') : o.wp P a w K Q := by
  unfold Oper.wp; rw [h]; exact k
theorem VR_undef {ρ : Ren} : VR ρ (.tu []) undef := by simp only [VR, VRs]; exact ⟨#[], rfl, rfl⟩

/-! ### Stores -/
theorem setCells_below (b : Nat) : ∀ (vs : List Value) (o : Nat) (w : World), Below 0 w (w.setCells b o vs)
  | [], o, w => Below.refl 0 w
  | v :: vs, o, w => ((Below.refl 0 w).setCell (Nat.zero_le _) v).trans (setCells_below b vs (o + 1) _)
theorem setCell_heap {w : World} {b o : Nat} {cs : Array Value} {elem : TypeId} {fz : Nat × Nat} (h : w.heap[b]? = some (.cells cs elem fz)) (v : Value) (B : Nat) :
    (w.setCell ⟨b, o, none⟩ v).heap[B]? = if B = b then some (.cells (cs.setIfInBounds o v) elem fz) else w.heap[B]? := by
  simp only [World.setCell, Array.getElem?_modify]
  by_cases e : B = b
  · subst e; rw [if_pos rfl, if_pos rfl, h]; rfl
  · rw [if_neg e, if_neg (fun q => e q.symm)]
theorem setCells_heap (b : Nat) {elem : TypeId} {fz : Nat × Nat} : ∀ (vs : List Value) (o : Nat) (w : World) (cs : Array Value), w.heap[b]? = some (.cells cs elem fz) → o + vs.length ≤ cs.size →
    ∃ cs' : Array Value, cs'.size = cs.size ∧ (∀ B, (w.setCells b o vs).heap[B]? = if B = b then some (.cells cs' elem fz) else w.heap[B]?) ∧ ∀ k, cs'[k]? = if o ≤ k ∧ k < o + vs.length then vs[k - o]? else cs[k]?
  | [], o, w, cs, h, _ => ⟨cs, rfl, fun B => by
      by_cases e : B = b
      · subst e; rw [if_pos rfl]; exact h
      · rw [if_neg e]; rfl, fun k => by rw [if_neg (by simp only [List.length_nil]; omega)]⟩
  | v :: vs, o, w, cs, h, hl => by
    simp only [List.length_cons] at hl
    obtain ⟨cs', h1, h2, h3⟩ := setCells_heap b vs (o + 1) (w.setCell ⟨b, o, none⟩ v) (cs.setIfInBounds o v) (by rw [setCell_heap h, if_pos rfl]) (by simp; omega)
    refine ⟨cs', by simpa using h1, fun B => ?_, fun k => ?_⟩
    · show ((w.setCell ⟨b, o, none⟩ v).setCells b (o + 1) vs).heap[B]? = _
      rw [h2, setCell_heap h]
      by_cases e : B = b
      · rw [if_pos e, if_pos e]
      · rw [if_neg e, if_neg e, if_neg e]
    · rw [h3]
      simp only [List.length_cons]
      by_cases e : o + 1 ≤ k ∧ k < o + 1 + vs.length
      · rw [if_pos e, if_pos (by omega), show k - o = (k - (o + 1)) + 1 by omega, List.getElem?_cons_succ]
      · rw [if_neg e]
        by_cases e2 : k = o
        · subst e2
          rw [if_pos (by omega), Nat.sub_self]
          simp [show k < cs.size by omega]
        · rw [if_neg (by omega), Array.getElem?_setIfInBounds_ne (fun q => e2 q.symm)]
/-- Cells of a block are written: the relation goes on. -/
theorem HR.store {ρ : Ren} {ht : Ht} {nx b o : Nat} {w : World} {l : Loc} {d : Nat} {t : Dt AV d} {n z : Nat} {xs : List AV} {vs : List Value} (a : HR ρ (.mk ht nx) w) (hb5 : b < 8 ^ 5) (hb : ρ b = some l) (hk : (H.mk ht nx).at b = .c d t n z)
    (ho : o + xs.length ≤ n) (hv : VRs ρ xs vs) :
    HR ρ (.mk (put 5 b (.c d (putl d xs o t) n z) ht) nx) (w.setCells l.B (l.O + o) vs) ∧ Ext ρ (.mk ht nx) w ρ (.mk (put 5 b (.c d (putl d xs o t) n z) ht) nx) (w.setCells l.B (l.O + o) vs) := by
  obtain ⟨ob, h1, h2⟩ := a.blk b l hb (by rw [hk]; simp)
  rw [hk] at h2
  obtain ⟨h0, cs, elem, fz, rfl, h3, h4, h5⟩ := h2
  have hlen := hv.length
  obtain ⟨cs', c1, c2, c3⟩ := setCells_heap l.B vs (l.O + o) w cs h1 (by omega)
  have hne : (H.mk ht nx).at b ≠ .no := by rw [hk]; simp
  have hr : BlkR ρ (.c d (putl d xs o t) n z) l (.cells cs' elem fz) := by
    refine ⟨h0, cs', elem, fz, rfl, by rw [c1]; exact h3, fun i hi => ?_, h5⟩
    rw [putl_get xs o t i (by omega) (by omega), c3]
    by_cases e : o ≤ i ∧ i < o + xs.length
    · rw [if_pos e, if_pos (by omega)]
      have hx : xs[i - o]? = some (xs.getD (i - o) .un) := by
        rw [List.getD_eq_getElem?_getD, List.getElem?_eq_getElem (show i - o < xs.length by omega)]; rfl
      obtain ⟨u, hu, hru⟩ := hv.at _ _ hx
      exact ⟨u, by rw [← hu]; congr 1; omega, hru⟩
    · rw [if_neg e, if_neg (by omega)]
      exact h4 i hi
  exact ⟨a.write hb5 hb hne c2 hr, Ext.write hb5 hb hne c2 (setCells_below _ _ _ _)⟩
theorem run_store_at {P : Program} {ρ : Ren} {h : H} {w : World} (a : HR ρ h w) {b o : Nat} {l : Loc} (hb : ρ b = some l) {d : Nat} {t : Dt AV d} {n z : Nat} (hk : h.at b = .c d t n z) {vs : List Value} (ho : o + vs.length ≤ n) (h1 : ∀ v ∈ vs, v.oneCell' = true) :
    (storeCells ⟨l.B, l.O + o, none⟩ vs).run P w = .ok () (w.setCells l.B (l.O + o) vs) := by
  have h2 : ∀ j, j < vs.length → ∃ v, w.cell? ⟨l.B, l.O + o + j, none⟩ = some v ∧ w.frozen? ⟨l.B, l.O + o + j, none⟩ = false := fun j hj => by
    obtain ⟨v, g1, _, g2⟩ := cell_at a.blk hb hk (o := o + j) (by omega)
    exact ⟨v, by rw [Nat.add_assoc]; exact g1, by rw [Nat.add_assoc]; exact g2⟩
  have := run_storeCells_cells (P := P) l.B (l.O + o) vs 0 w (fun j hj => by obtain ⟨v, g1, _⟩ := h2 j hj; simp only [Nat.add_zero]; rw [g1]; rfl) (fun j hj => by obtain ⟨v, _, g2⟩ := h2 j hj; simpa using g2) h1
  simpa using this
theorem H.at_lt {h : H} {b : Nat} {k : Blk} (hk : h.at b = k) (hn : k ≠ .no) : b < 8 ^ 5 := by
  unfold H.at at hk
  split at hk
  · assumption
  · exact absurd hk.symm hn
theorem stc_true {h : H} {b o : Nat} {v : AV} {f : H → R} (e : stc h b o v f = true) : ∃ d t n z, h.at b = .c d t n z ∧ o < n ∧ f (.mk (put 5 b (.c d (putl d [v] o t) n z) h.t) h.nx) = true := by
  cases h with
  | mk ht nx =>
    obtain ⟨hb, e⟩ := acc_run (show (acc Blk 5 b).run _ ht = true from e)
    obtain ⟨d, t, n, z, hk, e⟩ := onC_true e
    obtain ⟨h1, e⟩ := gd_true e
    obtain ⟨h2, e⟩ := pcc_run e
    obtain ⟨h3, e⟩ := pcc_run e
    exact ⟨d, t, n, z, H.at_of hb hk, by simpa [Nat.blt_eq] using h1, e⟩
theorem sts_true {h : H} {b o : Nat} {l : List AV} {f : H → R} (e : sts h b o l f = true) : ∃ d t n z, h.at b = .c d t n z ∧ o + l.length ≤ n ∧ f (.mk (put 5 b (.c d (putl d l o t) n z) h.t) h.nx) = true := by
  cases h with
  | mk ht nx =>
    obtain ⟨hb, e⟩ := acc_run (show (acc Blk 5 b).run _ ht = true from e)
    obtain ⟨d, t, n, z, hk, e⟩ := onC_true e
    obtain ⟨h1, e⟩ := gd_true e
    obtain ⟨h2, e⟩ := wrl_true e
    obtain ⟨h3, e⟩ := pcc_run e
    exact ⟨d, t, n, z, H.at_of hb hk, by rw [← llen_eq]; exact Nat.le_of_ble_eq_true h1, e⟩
theorem H.eta (h : H) : H.mk h.t h.nx = h := by cases h; rfl
theorem opStore_ok {P : Program} {o : Oper} {ty : TypeId} {x y : Operand} (ho : o.op = .store ty x y) {cH : CH} {t : T} {h : H} {F : AV → H → R} (e : (opStore P ty x y).run cH t h F = true) : Goes P o t h F := by
  have fin : ∀ {b off : Nat} {d : Nat} {tr : Dt AV d} {n z : Nat} {xs : List AV}, h.at b = .c d tr n z → off + xs.length ≤ n → F (.tu []) (.mk (put 5 b (.c d (putl d xs off tr) n z) h.t) h.nx) = true →
      ∀ (ρ : Ren) (a : Act) (w : World) (l : Loc) (vs : List Value) (Q : Exit → Act → World → Prop), HR ρ h w → ρ b = some l → VRs ρ xs vs → (∀ v ∈ vs, v.oneCell' = true) → (a.eval x) = .pointer (some ⟨l.B, l.O + off, none⟩) → (a.eval y).cells.toList = vs → (∀ w, (sizeOf ty).run P w = .ok vs.length w) →
        o.wp P a w (fun a' w' => ∃ v', a' = a.put o.dst v' ∧ Res ρ h w F v' w') Q := by
    intro b off d tr n z xs hk hl hF ρ a w l vs Q hr hb hv h1 hp hy hs
    have hr' : HR ρ (.mk h.t h.nx) w := by rw [H.eta]; exact hr
    obtain ⟨g1, g2⟩ := hr'.store (H.at_lt hk (by simp)) hb hk hl hv
    have hrun := run_store_at (P := P) hr hb hk (o := off) (vs := vs) (by rw [hv.length]; exact hl) h1
    refine wp_skipped (w' := w.setCells l.B (l.O + off) vs) ?_ ⟨undef, rfl, _, _, ρ, hF, g1, by rw [H.eta] at g2; exact g2, VR_undef⟩
    have hsz : (a.eval y).cells.size = vs.length := by rw [← hy, Array.length_toList]
    have : (Instr.storeAt ty (a.eval x) (a.eval y)).run P w = .ok () (w.setCells l.B (l.O + off) vs) := by
      rw [hp]
      simp [Instr.storeAt, Instr.sureAddr, storeVar, hs, hsz, hy, hrun]
    simp [execOp, ho, this]
  unfold opStore at e
  split at e
  · rename_i hsh
    split at e
    case isFalse => exact (Bool.false_ne_true e).elim
    rename_i hs1
    obtain ⟨b, off, hx, h1⟩ := onP_true (gt_run e)
    obtain ⟨h2, h3⟩ := flat_true (gt_run (f := fun v => flat (stc h b off v (fun h => F (.tu []) h)) v) h1)
    obtain ⟨d, tr, n, z, hk, hlt, hF⟩ := stc_true h2
    intro ρ a w hr q Q
    have q1 := q x (by rw [ho]; simp [Op.operands])
    have q2 := q y (by rw [ho]; simp [Op.operands])
    rw [hx] at q1
    obtain ⟨l, hb, e1⟩ := VR_p q1
    have h4 := h3 ρ _ q2
    have hcells : (a.eval y).cells.toList = [a.eval y] := by
      cases hv : a.eval y <;> rw [hv] at h4 <;> first | rfl | cases h4
    refine fin (xs := [gv t y]) hk (by simp; omega) hF ρ a w l [a.eval y] Q hr hb (by simp only [VRs]; exact ⟨_, _, rfl, q2, rfl⟩) (fun v hv => by simp at hv; subst hv; exact h4) e1 hcells ?_
    intro w
    exact run_size hs1 w
  · rename_i m hsh
    obtain ⟨b, off, hx, h1⟩ := onP_true (gt_run e)
    obtain ⟨xs, hy, h2⟩ := onAg_true (gt_run h1)
    obtain ⟨h3, h4⟩ := flats_true h2
    obtain ⟨h5, h6⟩ := gd_true h3
    obtain ⟨d, tr, n, z, hk, hlt, hF⟩ := sts_true h6
    have h5 : xs.length = m := by rw [← llen_eq]; exact Nat.eq_of_beq_eq_true h5
    intro ρ a w hr q Q
    have q1 := q x (by rw [ho]; simp [Op.operands])
    have q2 := q y (by rw [ho]; simp [Op.operands])
    rw [hx] at q1
    rw [hy] at q2
    obtain ⟨l, hb, e1⟩ := VR_p q1
    obtain ⟨vs, e2, q3⟩ := VR_ag q2
    refine fin hk hlt hF ρ a w l vs.toList Q hr hb q3 (h4 ρ _ q3) e1 (by rw [e2]; rfl) ?_
    intro w
    rw [run_size (shapeS hsh w).2, q3.length, h5]
  · exact (Bool.false_ne_true e).elim

/-! ### Maps -/
theorem HR.map {ρ : Ren} {ht : Ht} {nx r c : Nat} {w w' : World} {l : Loc} {es : List ME} {arr : Array MapEntry} (a : HR ρ (.mk ht nx) w) (hr5 : r < 8 ^ 5) (hr : ρ r = some l) (hk : (H.mk ht nx).at r ≠ .no)
    (hm : MERs ρ es arr.toList) (hw : w'.heap = w.heap.setIfInBounds l.B (.map arr c)) (hlt : l.B < w.heap.size) (hw2 : Below 0 w w') :
    HR ρ (.mk (put 5 r (.mp es c) ht) nx) w' ∧ Ext ρ (.mk ht nx) w ρ (.mk (put 5 r (.mp es c) ht) nx) w' := by
  have h1 : ∀ B, w'.heap[B]? = if B = l.B then some (.map arr c) else w.heap[B]? := fun B => by
    rw [hw]
    by_cases e : B = l.B
    · subst e; rw [if_pos rfl]; simp [hlt]
    · rw [if_neg e, Array.getElem?_setIfInBounds_ne (fun q => e q.symm)]
  exact ⟨a.write hr5 hr hk h1 ⟨arr, rfl, hm⟩, Ext.write hr5 hr hk h1 hw2⟩
theorem stM_true {h : H} {r : Nat} {es : List ME} {c : Nat} {f : H → R} (e : stM h r es c f = true) : f (.mk (put 5 r (.mp es c) h.t) h.nx) = true := by
  cases h with
  | mk ht nx =>
    obtain ⟨_, e⟩ := pcc_run (show (pcc Blk 5 r).run _ _ ht = true from e)
    exact e
theorem MERs.app {ρ : Ren} : ∀ {l m : List ME} {es fs : List MapEntry}, MERs ρ l es → MERs ρ m fs → MERs ρ (lapp l m) (es ++ fs)
  | [], m, es, fs, h, k => by rw [show es = [] from h]; exact k
  | x :: l, m, es, fs, h, k => by
    obtain ⟨e, r, rfl, h1, h2⟩ := h
    exact ⟨e, _, rfl, h1, h2.app k⟩
theorem sameBits_refl {d : TypeDesc} {v : Value} (h : IsKey d v) (n : Nat) : Instr.sameBits n v v = true := by
  cases d <;> cases v <;> first | exact h.elim | simp [Instr.sameBits, beq_toListBytes]
/-- The entry of a key, where it stands. -/
theorem updM_true {d : TypeDesc} {k v : AV} (hk : KeyAt d k) : ∀ {es : List ME} {no : R} {yes : List ME → R}, updM k v es no yes = true →
    ∃ r : Option (List ME), (match r with | some es' => yes es' = true | none => no = true) ∧ ∀ ρ k' v' fs i0, VR ρ k k' → VR ρ v v' → MERs ρ es fs →
      (match r with
        | none => Instr.findNow d k' fs i0 = some none
        | some es' => ∃ j u, Instr.findNow d k' fs i0 = some (some (i0 + j, u)) ∧ (∃ en, fs[j]? = some en ∧ en.key = k') ∧ MERs ρ es' (fs.modify j fun e => { e with key := k', val := v' }))
  | [], no, yes, h => ⟨none, h, fun ρ k' v' fs i0 _ _ q => by rw [show fs = [] from q]; rfl⟩
  | .mk k2 v2 b :: es, no, yes, h => by
    obtain ⟨e, h1, h2⟩ := eqK_true hk (show eqK k k2 (fun b' => Bool.rec (updM k v es no (fun es => yes (.mk k2 v2 b :: es))) (yes (.mk k v b :: es)) b') = true from h)
    cases e
    · obtain ⟨r, h3, h4⟩ := updM_true hk (show updM k v es no (fun es => yes (.mk k2 v2 b :: es)) = true from h1)
      cases r with
      | none =>
        refine ⟨none, h3, fun ρ k' v' fs i0 q1 q2 q3 => ?_⟩
        obtain ⟨en, r, rfl, q4, q5⟩ := q3
        obtain ⟨g1, _⟩ := h2 ρ k' en.key q1 q4.1
        have := h4 ρ k' v' r (i0 + 1) q1 q2 q5
        simp only at this ⊢
        simp [Instr.findNow, g1, this]
      | some es' =>
        refine ⟨some (.mk k2 v2 b :: es'), h3, fun ρ k' v' fs i0 q1 q2 q3 => ?_⟩
        obtain ⟨en, r, rfl, q4, q5⟩ := q3
        obtain ⟨g1, _⟩ := h2 ρ k' en.key q1 q4.1
        obtain ⟨j, u, g2, g3, g4⟩ := h4 ρ k' v' r (i0 + 1) q1 q2 q5
        refine ⟨j + 1, u, ?_, by simpa using g3, ?_⟩
        · simp [Instr.findNow, g1, g2]; omega
        · rw [List.modify_succ_cons]
          exact ⟨en, _, rfl, q4, g4⟩
    · refine ⟨some (.mk k v b :: es), h1, fun ρ k' v' fs i0 q1 q2 q3 => ?_⟩
      obtain ⟨en, r, rfl, q4, q5⟩ := q3
      obtain ⟨g1, g2⟩ := h2 ρ k' en.key q1 q4.1
      refine ⟨0, en.val, by simp [Instr.findNow, g1], ⟨en, rfl, (g2 rfl).symm⟩, ?_⟩
      rw [List.modify_zero_cons]
      exact ⟨_, r, rfl, ⟨q1, q2, q4.2.2⟩, q5⟩
theorem opMapUpdate_ok {P : Program} {o : Oper} {ty : TypeId} {m k x : Operand} (ho : o.op = .mapUpdate ty m k x) {cH : CH} {t : T} {h : H} {F : AV → H → R} (e : (opMapUpdate P ty m k x).run cH t h F = true) : Goes P o t h F := by
  have e1 := gt_run (gt_run (x := m) e)
  obtain ⟨kt, et, d, hu, hkt, hka, e2⟩ := keyOk_true e1
  have e3 := gt_run (f := fun v => _) e2
  cases hm : gv t m <;> rw [hm] at e3 <;> try exact (Bool.false_ne_true e3).elim
  case m r =>
    obtain ⟨es, c, hat, e4⟩ := ldM_true (show ldM h r (fun es c => updM (gv t k) (gv t x) es (fc (fun c2 => stM h r (lapp es [.mk (gv t k) (gv t x) c]) c2 (fun h => F (.tu []) h)) (Nat.add c 1)) (fun es => stM h r es c (fun h => F (.tu []) h))) = true from e3)
    obtain ⟨rr, h1, h2⟩ := updM_true hka e4
    intro ρ a w hr q Q
    have q1 := q m (by rw [ho]; simp [Op.operands])
    have q2 := q k (by rw [ho]; simp [Op.operands])
    have q3 := q x (by rw [ho]; simp [Op.operands])
    rw [hm] at q1
    obtain ⟨l, hl, em⟩ := VR_m q1
    obtain ⟨arr, g1, g2⟩ := map_at hr.blk hl hat
    have hlt : l.B < w.heap.size := (Array.getElem?_eq_some_iff.1 g1).1
    have hck := run_checkKey (P := P) (w := w) hkt (hka.isKey q2) false 9999
    have hr' : HR ρ (.mk h.t h.nx) w := by rw [H.eta]; exact hr
    have hne : (H.mk h.t h.nx).at r ≠ .no := by rw [H.eta, hat]; simp
    have hr5 : r < 8 ^ 5 := H.at_lt hat (by simp)
    have hbel : ∀ o', Below 0 w { w with heap := w.heap.setIfInBounds l.B o' } := fun o' => ⟨rfl, rfl, rfl, by simp, fun k hk => absurd hk (Nat.not_lt_zero k)⟩
    have hget : (getObj l.B).run P w = .ok (.map arr c) w := by simp [getObj, Sem.run, g1]
    cases rr with
    | none =>
      have h3 := stM_true (show stM h r (lapp es [.mk (gv t k) (gv t x) c]) (c + 1) (fun h => F (.tu []) h) = true from h1)
      have hf := h2 ρ _ _ _ 0 q2 q3 g2
      have hfk := run_findKey (P := P) (w := w) hkt hf
      have hms : MERs ρ (lapp es [.mk (gv t k) (gv t x) c]) (arr.push { key := a.eval k, val := a.eval x, born := c }).toList := by
        rw [Array.toList_push]
        exact g2.app ⟨_, [], rfl, ⟨q2, q3, rfl⟩, rfl⟩
      obtain ⟨r1, r2⟩ := hr'.map (c := c + 1) hr5 hl hne hms rfl hlt (hbel _)
      refine wp_skipped (w' := { w with heap := w.heap.setIfInBounds l.B (.map (arr.push { key := a.eval k, val := a.eval x, born := c }) (c + 1)) }) ?_ ⟨undef, rfl, _, _, ρ, h3, r1, by rw [H.eta] at r2; exact r2, VR_undef⟩
      have hset := run_setObj_map (P := P) (.map (arr.push { key := a.eval k, val := a.eval x, born := c }) (c + 1)) g1
      have : (Instr.mapUpdate ty (a.eval m) (a.eval k) (a.eval x)).run P w = .ok () { w with heap := w.heap.setIfInBounds l.B (.map (arr.push { key := a.eval k, val := a.eval x, born := c }) (c + 1)) } := by
        rw [em]
        simp only [Instr.mapUpdate, Sem.run_bind, run_underlying hu, Result.andThen_ok, hget, hck, hfk, hset]
      simp [execOp, ho, this]
    | some es' =>
      have h3 := stM_true (show stM h r es' c (fun h => F (.tu []) h) = true from h1)
      obtain ⟨j, u, hf, ⟨en, hj, hke⟩, hms⟩ := h2 ρ _ _ _ 0 q2 q3 g2
      rw [Nat.zero_add] at hf
      have hfk := run_findKey (P := P) (w := w) hkt hf
      have hms' : MERs ρ es' (arr.modify j fun e => { e with key := a.eval k, val := a.eval x }).toList := by rw [Array.toList_modify]; exact hms
      obtain ⟨r1, r2⟩ := hr'.map (c := c) hr5 hl hne hms' rfl hlt (hbel _)
      refine wp_skipped (w' := { w with heap := w.heap.setIfInBounds l.B (.map (arr.modify j fun e => { e with key := a.eval k, val := a.eval x }) c) }) ?_ ⟨undef, rfl, _, _, ρ, h3, r1, by rw [H.eta] at r2; exact r2, VR_undef⟩
      have hset := run_setObj_map (P := P) (.map (arr.modify j fun e => { e with key := a.eval k, val := a.eval x }) c) g1
      have hj' : arr[j]? = some en := by simpa using hj
      have hstay : (Instr.keyThatStays (((arr[j]?).map (·.key)).getD (a.eval k)) (a.eval k)).run P w = .ok (a.eval k) w := by
        rw [hj']
        simp only [Option.map_some, Option.getD_some, hke]
        unfold Instr.keyThatStays
        rw [if_pos (sameBits_refl (hka.isKey q2) 10000)]
        rfl
      have : (Instr.mapUpdate ty (a.eval m) (a.eval k) (a.eval x)).run P w = .ok () { w with heap := w.heap.setIfInBounds l.B (.map (arr.modify j fun e => { e with key := a.eval k, val := a.eval x }) c) } := by
        rw [em]
        simp only [Instr.mapUpdate, Sem.run_bind, run_underlying hu, Result.andThen_ok, hget, hck, hfk, hstay, hset]
      simp [execOp, ho, this]
theorem delM_true {d : TypeDesc} {k : AV} (hk : KeyAt d k) : ∀ {es : List ME} {yes : List ME → R}, delM k es yes = true →
    ∃ es', yes es' = true ∧ ∀ ρ k' fs i0, VR ρ k k' → MERs ρ es fs → (Instr.findNow d k' fs i0 = some none ∧ MERs ρ es' fs) ∨ ∃ j u, Instr.findNow d k' fs i0 = some (some (i0 + j, u)) ∧ MERs ρ es' (fs.eraseIdx j)
  | [], yes, h => ⟨[], h, fun ρ k' fs i0 _ q => by rw [show fs = [] from q]; exact .inl ⟨rfl, rfl⟩⟩
  | .mk k2 v2 b :: es, yes, h => by
    obtain ⟨e, h1, h2⟩ := eqK_true hk (show eqK k k2 (fun b' => Bool.rec (delM k es (fun es => yes (.mk k2 v2 b :: es))) (yes es) b') = true from h)
    cases e
    · obtain ⟨es', h3, h4⟩ := delM_true hk (show delM k es (fun es => yes (.mk k2 v2 b :: es)) = true from h1)
      refine ⟨_, h3, fun ρ k' fs i0 q1 q3 => ?_⟩
      obtain ⟨en, r, rfl, q4, q5⟩ := q3
      obtain ⟨g1, _⟩ := h2 ρ k' en.key q1 q4.1
      rcases h4 ρ k' r (i0 + 1) q1 q5 with ⟨g2, g3⟩ | ⟨j, u, g2, g3⟩
      · exact .inl ⟨by simp [Instr.findNow, g1, g2], en, r, rfl, q4, g3⟩
      · refine .inr ⟨j + 1, u, by simp [Instr.findNow, g1, g2]; omega, ?_⟩
        rw [List.eraseIdx_cons_succ]
        exact ⟨en, _, rfl, q4, g3⟩
    · refine ⟨es, h1, fun ρ k' fs i0 q1 q3 => ?_⟩
      obtain ⟨en, r, rfl, q4, q5⟩ := q3
      obtain ⟨g1, _⟩ := h2 ρ k' en.key q1 q4.1
      exact .inr ⟨0, en.val, by simp [Instr.findNow, g1], q5⟩
theorem opDelete_ok {P : Program} {o : Oper} {ty : TypeId} {m k : Operand} {at_ : Array TypeId} (ho : o.op = .call { callee := .builtin .delete, args := #[m, k], argTypes := at_ }) (hat0 : at_[0]? = some ty) {cH : CH} {t : T} {h : H} {F : AV → H → R}
    (e : (opDelete P ty m k).run cH t h F = true) : Goes P o t h F := by
  have e1 := gt_run (gt_run (x := m) e)
  obtain ⟨kt, et, d, hu, hkt, hka, e2⟩ := keyOk_true e1
  have run : ∀ (a : Act) (w w' : World) (mv kv : Value), a.eval m = mv → a.eval k = kv → (Builtin.delete_ at_ o.type #[mv, kv]).run P w = .ok (.tuple #[]) w' → (execOp a.eval o).run P w = .ok (.value (.tuple #[])) w' := by
    intro a w w' mv kv e3 e4 hd
    simp [execOp, ho, resolve, invoke, builtin, e3, e4, hd]
  cases hm : gv t m <;> rw [hm] at e2 <;> try exact (Bool.false_ne_true e2).elim
  case m0 =>
    intro ρ a w hr q Q
    have q1 := q m (by rw [ho]; simp [Op.operands, Call.operands])
    have q2 := q k (by rw [ho]; simp [Op.operands, Call.operands])
    rw [hm] at q1
    simp only [VR] at q1
    have hck := run_checkKey (P := P) (w := w) hkt (hka.isKey q2) true 9999
    refine wp_value (run a w w _ _ q1 rfl ?_) ⟨.tuple #[], rfl, _, _, ρ, e2, hr, Ext.refl _ _ _, VR_undef⟩
    simp [Builtin.delete_, hat0, run_underlying hu, hck]
  case m r =>
    obtain ⟨es, c, hat, e4⟩ := ldM_true (show ldM h r (fun es c => delM (gv t k) es (fun es => stM h r es c (fun h => F (.tu []) h))) = true from e2)
    obtain ⟨es', h1, h2⟩ := delM_true hka e4
    have h3 := stM_true h1
    intro ρ a w hr q Q
    have q1 := q m (by rw [ho]; simp [Op.operands, Call.operands])
    have q2 := q k (by rw [ho]; simp [Op.operands, Call.operands])
    rw [hm] at q1
    obtain ⟨l, hl, em⟩ := VR_m q1
    obtain ⟨arr, g1, g2⟩ := map_at hr.blk hl hat
    have hlt : l.B < w.heap.size := (Array.getElem?_eq_some_iff.1 g1).1
    have hck := run_checkKey (P := P) (w := w) hkt (hka.isKey q2) arr.isEmpty 9999
    have hr' : HR ρ (.mk h.t h.nx) w := by rw [H.eta]; exact hr
    have hne : (H.mk h.t h.nx).at r ≠ .no := by rw [H.eta, hat]; simp
    have hr5 : r < 8 ^ 5 := H.at_lt hat (by simp)
    have hbel : ∀ o', Below 0 w { w with heap := w.heap.setIfInBounds l.B o' } := fun o' => ⟨rfl, rfl, rfl, by simp, fun k hk => absurd hk (Nat.not_lt_zero k)⟩
    have hget : (getObj l.B).run P w = .ok (.map arr c) w := by simp [getObj, Sem.run, g1]
    rcases h2 ρ _ _ 0 q2 g2 with ⟨hf, hms⟩ | ⟨j, u, hf, hms⟩
    · have hfk := run_findKey (P := P) (w := w) hkt hf
      obtain ⟨r1, r2⟩ := hr'.map (c := c) hr5 hl hne hms rfl hlt (hbel _)
      have hset := run_setObj_map (P := P) (.map arr c) g1
      refine wp_value (run a w { w with heap := w.heap.setIfInBounds l.B (.map arr c) } _ _ em rfl ?_) ⟨.tuple #[], rfl, _, _, ρ, h3, r1, by rw [H.eta] at r2; exact r2, VR_undef⟩
      simp [Builtin.delete_, hat0, run_underlying hu, hget, hck, hfk, hset]
    · rw [Nat.zero_add] at hf
      have hfk := run_findKey (P := P) (w := w) hkt hf
      have hms' : MERs ρ es' (arr.eraseIdxIfInBounds j).toList := by rw [Array.toList_eraseIdxIfInBounds]; exact hms
      obtain ⟨r1, r2⟩ := hr'.map (c := c) hr5 hl hne hms' rfl hlt (hbel _)
      have hset := run_setObj_map (P := P) (.map (arr.eraseIdxIfInBounds j) c) g1
      refine wp_value (run a w { w with heap := w.heap.setIfInBounds l.B (.map (arr.eraseIdxIfInBounds j) c) } _ _ em rfl ?_) ⟨.tuple #[], rfl, _, _, ρ, h3, r1, by rw [H.eta] at r2; exact r2, VR_undef⟩
      simp [Builtin.delete_, hat0, run_underlying hu, hget, hck, hfk, hset]
end
end Go.Proofs.YtlpffldeogapmaaGreatDoor.Ev
