/- The evaluator's calls against the model's; all operations that turn something. Own text. No condition of a claim. -/
import Derived.Test.YtlpffldeogapmaaGreatDoorEvN
import Derived.Laws.IdiomRangeMap
import Derived.Maps.RangeRun
namespace Go.Proofs.YtlpffldeogapmaaGreatDoor.Ev
open Go Go.MapKept Go.RowKit
set_option linter.unusedVariables false
set_option linter.unusedSimpArgs false
set_option linter.unusedSectionVars false
variable [GO]
noncomputable section

theorem run_bi {P : Program} {o : Oper} {b : Builtin} {args : Array Operand} {at_ : Array TypeId} (ho : o.op = .call { callee := .builtin b, args := args, argTypes := at_ }) {a : Act} {w w' : World} {v : Value} (s : Sem Value)
    (hb : builtin b at_ o.type (args.map fun | .const _ => true | _ => false) (args.map a.eval) = (do pure (.value (← s)) : Sem Next)) (h : s.run P w = .ok v w') : (execOp a.eval o).run P w = .ok (.value v) w' := by
  have : execOp a.eval o = (do pure (.value (← s)) : Sem Next) := by
    rw [← hb]
    simp only [execOp, ho, resolve]
    rfl
  rw [this]
  exact run_val h
theorem opClear_ok {P : Program} {o : Oper} {ty : TypeId} {x : Operand} {at_ : Array TypeId} (ho : o.op = .call { callee := .builtin .clear, args := #[x], argTypes := at_ }) (hat0 : at_[0]? = some ty) {cH : CH} {t : T} {h : H} {F : AV → H → R}
    (e : (opClear P ty x).run cH t h F = true) : Goes P o t h F := by
  unfold opClear at e
  split at e
  case h_2 => exact (Bool.false_ne_true e).elim
  rename_i el hu
  split at e
  case h_2 => exact (Bool.false_ne_true e).elim
  rename_i z hz
  obtain ⟨i, zv, hi, hzv, rfl⟩ := zeroL_some hz
  have e1 := gt_run e
  intro ρ a w hr q Q
  have q1 := q x (by rw [ho]; simp [Op.operands, Call.operands])
  have run : ∀ w', (Builtin.clear_ at_ o.type #[a.eval x]).run P w = .ok (.tuple #[]) w' → (execOp a.eval o).run P w = .ok (.value (.tuple #[])) w' := fun w' hc => run_bi ho (Builtin.clear_ at_ o.type #[a.eval x]) (by simp [builtin]) hc
  cases hx : gv t x <;> rw [hx] at e1 <;> try exact (Bool.false_ne_true e1).elim
  case sl0 =>
    rw [hx] at q1
    simp only [VR] at q1
    refine wp_value (run w ?_) ⟨.tuple #[], rfl, _, _, ρ, e1, hr, Ext.refl _ _ _, VR_undef⟩
    rw [q1]
    simp [Builtin.clear_, hat0, run_underlying hu]
  case sl b off n c =>
    rw [hx] at q1
    obtain ⟨lc, ad, c', hb, ex, hnc, hcc, had⟩ := VR_sl q1
    cases n with
    | zero =>
      have e1 : F (.tu []) h = true := e1
      refine wp_value (run w ?_) ⟨.tuple #[], rfl, _, _, ρ, e1, hr, Ext.refl _ _ _, VR_undef⟩
      rw [ex]
      simp [Builtin.clear_, hat0, run_underlying hu]
    | succ n =>
      obtain ⟨e2, h1⟩ := flats_true (show flats (sts h b off (lrep (zv.cells.toList.map ofV0) (n + 1)) (fun h => F (.tu []) h)) (lrep (zv.cells.toList.map ofV0) (n + 1)) = true from e1)
      obtain ⟨d, tr, w2, z, hat, hlw, hF⟩ := sts_true e2
      have had := had.resolve_right (by omega)
      have hr' : HR ρ (.mk h.t h.nx) w := by rw [H.eta]; exact hr
      have hv : VRs ρ (lrep (zv.cells.toList.map ofV0) (n + 1)) (Builtin.zeroCells zv.cells (n + 1)).toList := by
        have := made_VRs (zero_VRs ρ zv) (n + 1)
        simpa [Builtin.zeroCells] using this
      obtain ⟨g1, g2⟩ := hr'.store (H.at_lt hat (by simp)) hb hat hlw hv
      rw [H.eta] at g2
      have hrun := run_store_at (P := P) hr hb hat (o := off) (vs := (Builtin.zeroCells zv.cells (n + 1)).toList) (by rw [hv.length]; exact hlw) (h1 ρ _ hv)
      refine wp_value (run _ ?_) ⟨.tuple #[], rfl, _, _, ρ, hF, g1, g2, VR_undef⟩
      rw [ex, had]
      simp [Builtin.clear_, hat0, run_underlying hu, zeroValue, run_info hi, hzv, hrun]
theorem nrec_true {r s : R} {n : Nat} (h : (Nat.rec (motive := fun _ => R) r (fun _ _ => s) n : R) = true) : n = 0 ∧ r = true ∨ 0 < n ∧ s = true := by
  cases n with
  | zero => exact .inl ⟨rfl, h⟩
  | succ n => exact .inr ⟨Nat.succ_pos n, h⟩
theorem opCopy_ok {P : Program} {o : Oper} {ty : TypeId} {x y : Operand} {at_ : Array TypeId} (ho : o.op = .call { callee := .builtin .copy, args := #[x, y], argTypes := at_ }) (hat0 : at_[0]? = some ty) {cH : CH} {t : T} {h : H} {F : AV → H → R}
    (e : (opCopy P ty x y).run cH t h F = true) : Goes P o t h F := by
  unfold opCopy at e
  split at e
  case h_2 => exact (Bool.false_ne_true e).elim
  rename_i el hu
  split at e
  case isFalse => exact (Bool.false_ne_true e).elim
  rename_i hs
  obtain ⟨b, off, n, c, hx, e1⟩ := onSl_true (gt_run e)
  obtain ⟨b2, off2, n2, c2, hy, e2⟩ := onSl_true (gt_run e1)
  rcases nrec_true e2 with ⟨rfl, e0⟩ | ⟨g0, e3⟩
  · intro ρ a w hr q Q
    have q1 := q x (by rw [ho]; simp [Op.operands, Call.operands])
    have q2 := q y (by rw [ho]; simp [Op.operands, Call.operands])
    rw [hx] at q1
    rw [hy] at q2
    obtain ⟨lc, ad, c', hb, ex, _⟩ := VR_sl q1
    obtain ⟨lc2, ad2, c2', hb2, ey, _⟩ := VR_sl q2
    have hsize : (P.info? el).map (·.size) = some 1 := hs
    have hfc := run_firstCells_some (P := P) w 1 0 ad2 n2 c2' [] rfl (fun j u hj => by simp at hj)
    have hrun : (Builtin.copy_ at_ o.type #[a.eval x, a.eval y]).run P w = .ok (.int .i64 ((0 : Nat) : Int)) w := by
      rw [ex, ey]
      have hlen : (Builtin.lenOf (.slice (some ad2) n2 c2')).run P w = .ok n2 w := rfl
      simp [Builtin.copy_, hat0, run_underlying hu, hlen, run_size hs, Builtin.firstCells, goInt] at hfc ⊢
      simp [hfc, storeCells]
    exact wp_value (run_bi ho (Builtin.copy_ at_ o.type #[a.eval x, a.eval y]) (by simp [builtin]) hrun) ⟨_, rfl, _, _, ρ, e0, hr, Ext.refl _ _ _, i64_small (by omega)⟩
  have hmin : (Bool.rec (motive := fun _ => Nat) n2 n (Nat.ble n n2)) = Nat.min n2 n := by
    cases hb : Nat.ble n n2
    · have : ¬ n ≤ n2 := fun hle => by rw [Nat.ble_eq_true_of_le hle] at hb; cases hb
      show n2 = Nat.min n2 n
      exact (Nat.min_eq_left (by omega)).symm
    · have := Nat.le_of_ble_eq_true hb
      show n = Nat.min n2 n
      exact (Nat.min_eq_right this).symm
  rw [fc_eq, hmin] at e3
  obtain ⟨g1, e4⟩ := gd_true e3
  have g1 : Nat.min n2 n < 4611686018427387904 := by simpa [Nat.blt_eq] using g1
  obtain ⟨d2, tr2, w2, z2, hat2, hl2, e5⟩ := lds_true e4
  obtain ⟨e6, h1⟩ := flats_true e5
  obtain ⟨d, tr, w1, z, hat, hlw, hF⟩ := sts_true e6
  intro ρ a w hr q Q
  have q1 := q x (by rw [ho]; simp [Op.operands, Call.operands])
  have q2 := q y (by rw [ho]; simp [Op.operands, Call.operands])
  rw [hx] at q1
  rw [hy] at q2
  obtain ⟨lc, ad, c', hb, ex, hnc, _, had⟩ := VR_sl q1
  obtain ⟨lc2, ad2, c2', hb2, ey, hnc2, _, had2⟩ := VR_sl q2
  have had := had.resolve_right (by omega)
  have hr' : HR ρ (.mk h.t h.nx) w := by rw [H.eta]; exact hr
  obtain ⟨cs, o1, o2, o3⟩ := cells_at hr.blk hb2 hat2 (Nat.min n2 n) off2 hl2
  have o3' : ∀ (j : Nat) (u : Value), cs[j]? = some u → w.cell? (ad2.add j) = some u := by
    rcases had2 with rfl | h0
    · exact o3
    · intro j u hj
      have hz : n2 = 0 := by omega
      have : Nat.min n2 n = 0 := by rw [hz]; exact Nat.zero_min n
      rw [this] at o1
      have := List.eq_nil_of_length_eq_zero o1
      subst this
      simp at hj
  obtain ⟨k1, k2⟩ := hr'.store (H.at_lt hat (by simp)) hb hat hlw o2
  rw [H.eta] at k2
  have hcell : ∀ j, j < cs.length → ∃ v, w.cell? ⟨lc.B, lc.O + off + j, none⟩ = some v ∧ w.frozen? ⟨lc.B, lc.O + off + j, none⟩ = false := fun j hj => by
    obtain ⟨v, r1, _, r2⟩ := cell_at hr.blk hb hat (o := off + j) (by rw [rlist_len] at hlw; omega)
    exact ⟨v, by rw [Nat.add_assoc]; exact r1, by rw [Nat.add_assoc]; exact r2⟩
  have hsize : (P.info? el).map (·.size) = some 1 := hs
  have hst := run_storeCells_cells (P := P) lc.B (lc.O + off) cs 0 w (fun j hj => by obtain ⟨v, r1, _⟩ := hcell j hj; simp only [Nat.add_zero]; rw [r1]; rfl) (fun j hj => by obtain ⟨v, _, r2⟩ := hcell j hj; simpa using r2) (h1 ρ _ o2)
  have hfc := run_firstCells_some (P := P) w 1 (Nat.min n2 n) ad2 n2 c2' cs (by rw [o1, Nat.mul_one]) o3'
  have hrun : (Builtin.copy_ at_ o.type #[a.eval x, a.eval y]).run P w = .ok (.int .i64 (Nat.min n2 n : Nat)) (w.setCells lc.B (lc.O + off) cs) := by
    rw [ex, ey, had]
    simp only [Nat.add_zero] at hst
    have hlen : (Builtin.lenOf (.slice (some ad2) n2 c2')).run P w = .ok n2 w := rfl
    simp [Builtin.copy_, hat0, run_underlying hu, hlen, run_size hs, Builtin.firstCells, goInt] at hfc ⊢
    simp [hfc, hst]
  refine wp_value (run_bi ho (Builtin.copy_ at_ o.type #[a.eval x, a.eval y]) (by simp [builtin]) hrun) ⟨_, rfl, _, _, ρ, hF, k1, k2, i64_small (by omega)⟩
theorem isFn_true {P : Program} {g : Nat} (h : isFn P g = true) (args : Array Value) (w : World) : (callFunc g args).run P w = .ok (.enter g args) w := by
  unfold isFn at h
  split at h
  · rename_i fn hf
    rw [Bool.and_eq_true, bne_iff_ne] at h
    have h1 : (fn.name == "runtime.NumGoroutine") = false := by simpa using h.2
    have h2 : ¬ fn.body = none := fun hb => by rw [hb] at h; simp at h
    simp [callFunc, hf, h.2, h2]
  · cases h
/-- A call that enters a function goes well. -/
theorem wp_enter {P : Program} {o : Oper} {cH : CH} (hc : CHok P cH) {ρ : Ren} {a : Act} {w : World} {h : H} {F : AV → H → R} {g : Nat} {args : List AV} {vs : Array Value} (hr : HR ρ h w) (e : cH g args h F = true) (hv : VRs ρ args vs.toList)
    (hrun : (execOp a.eval o).run P w = .ok (.enter g vs) w) (Q : Exit → Act → World → Prop) : o.wp P a w (fun a' w' => ∃ v', a' = a.put o.dst v' ∧ Res ρ h w F v' w') Q := by
  unfold Oper.wp
  rw [hrun]
  refine Calls.mono (hc g args h F e ρ vs w hr hv) ?_
  rintro e' w' ⟨v', rfl, hR⟩
  exact ⟨v', rfl, hR⟩
theorem callK_true {P : Program} {g : Nat} {cH : CH} {l : List AV} {h : H} {f : AV → H → R} (e : callK P g cH l h f = true) : isFn P g = true ∧ cH g l h f = true := gd_true e
theorem VRs_args {ρ : Ren} {t : T} {a : Act} {args : Array Operand} (h : ∀ x ∈ args, VR ρ (gv t x) (a.eval x)) : VRs ρ (args.toList.map (gv t)) (args.map a.eval).toList := by
  rw [Array.toList_map]; exact VRs_ops fun x hx => h x (Array.mem_toList_iff.1 hx)
theorem mth_true {P : Program} {t : Nat} {name : String} {g : Nat} (h : mth P t name = some g) (v : Value) (n : Nat) (w : World) : (method (n + 1) t v name).run P w = .ok (g, v) w := by
  unfold mth at h
  split at h
  · rename_i i el hi hu
    split at h
    · rename_i m hm
      split at h
      · rename_i hp
        split at h
        · rename_i g' hf
          cases h
          have hp' : m.path.toList = [] := by have := Array.isEmpty_iff.1 hp; rw [this]
          simp [method, run_info hi, hm, hp', follow, hf, receiverAt, run_underlying hu, Place.get]
        · cases h
      · cases h
    · cases h
  · cases h
/-- maps.clone of the library. -/
def CloneOk (P : Program) : Prop := ∀ g fn, P.funcs[g]? = some fn → isClone P g = true → fn.name ≠ "runtime.NumGoroutine" ∧ Extern.findNext fn = none ∧ Extern.find fn = some Extern.MapsClone.clone
theorem isClone_true {P : Program} {g : Nat} (h : isClone P g = true) : ∃ fn, P.funcs[g]? = some fn ∧ fn.body = none := by
  unfold isClone at h
  split at h
  · rename_i fn hf
    rw [Bool.and_eq_true] at h
    exact ⟨fn, hf, by cases hb : fn.body <;> simp [hb] at h ⊢⟩
  · cases h
theorem cloneK_ok {P : Program} (hcl : CloneOk P) {o : Oper} {g : Nat} {args : Array Operand} {at_ : Array TypeId} (ho : o.op = .call { callee := .value (.func g), args := args, argTypes := at_ }) (hg : isClone P g = true) {t : T} {h : H} {F : AV → H → R}
    (hl : args.size = 1) (e : cloneK h (args.toList.map (gv t)) F = true) : Goes P o t h F := by
  obtain ⟨fn, hf, hb⟩ := isClone_true hg
  obtain ⟨c1, c2, c3⟩ := hcl g fn hf hg
  obtain ⟨v, hv, e1⟩ := nth_true e
  obtain ⟨x, rfl⟩ : ∃ x, args = #[x] := by
    obtain ⟨l⟩ := args
    match l, hl with
    | [x], _ => exact ⟨x, rfl⟩
  simp at hv
  subst hv
  intro ρ a w hr q Q
  have q1 := q x (by rw [ho]; simp [Op.operands, Call.operands])
  cases hx : gv t x <;> rw [hx] at e1 <;> try exact (Bool.false_ne_true e1).elim
  case ifc ty u =>
    have e9 : AV.rec (motive_1 := fun _ => R) (motive_2 := fun _ => Unit) false false (fun _ => false) (fun _ _ => false) (fun _ _ => false) (fun _ _ _ => false) (fun _ _ => false) (fun _ _ _ _ => false) (fun _ _ _ => false) (fun _ _ => false) false (fun _ _ => false) false false false false false (fun _ _ _ _ _ => false) (fun _ _ _ => false) (fun r => ldM h r (fun es c => Ev.new h (.mp es c) (fun nx h => F (.ifc ty (.m nx)) h))) (fun _ _ => false) (fun _ _ => false) (fun _ => false) (fun _ _ _ _ => false) (fun _ _ => false) (fun _ => false) (fun _ _ => false) () (fun _ _ _ _ => ()) u = true := e1
    clear e1
    cases u <;> try exact (Bool.false_ne_true e9).elim
    case m r =>
      obtain ⟨es, c, hat, e2⟩ := ldM_true (show ldM h r (fun es c => Ev.new h (.mp es c) (fun nx h => F (.ifc ty (.m nx)) h)) = true from e9)
      obtain ⟨hn5, hF⟩ := new_true e2
      rw [hx] at q1
      simp only [VR] at q1
      obtain ⟨u', ex, lc, hl, rfl⟩ := q1
      obtain ⟨arr, g1, g2⟩ := map_at hr.blk hl hat
      have hr' : HR ρ (.mk h.t h.nx) w := by rw [H.eta]; exact hr
      have hblk : BlkR (upd ρ h.nx ⟨w.heap.size, 0, 0⟩) (.mp es c) ⟨w.heap.size, 0, 0⟩ (.map arr c) := ⟨arr, rfl, g2.mono (Sub.upd hr'.fresh)⟩
      have hE := Ext.new hr' hn5 (l := ⟨w.heap.size, 0, 0⟩) (k := .mp es c) (o := .map arr c) (w' := w.alloc (.map arr c)) rfl rfl (below_push w _)
      rw [H.eta] at hE
      refine wp_value (w' := w.alloc (.map arr c)) (v' := .iface ty (.map (some w.heap.size))) ?_ ⟨_, rfl, _, _, _, hF, hr'.new hn5 rfl rfl hblk, hE, by simp only [VR]; exact ⟨_, rfl, _, upd_at _ _ _, rfl⟩⟩
      have hcall : (callFunc g #[a.eval x]).run P w = .ok (.value (.iface ty (.map (some w.heap.size)))) (w.alloc (.map arr c)) := by
        rw [ex]
        have hget : (getObj lc.B).run P w = .ok (.map arr c) w := by simp [getObj, Sem.run, g1]
        have hck : Extern.MapsClone.clone #[Value.iface ty (.map (some lc.B))] = (getObj lc.B >>= fun o => match o with
          | .map entries clock => (do pure (.iface ty (.map (some (← newObj (.map entries clock))))) : Sem Value)
          | _ => stuck "maps.clone: a map expected") := rfl
        have hck2 : (Extern.MapsClone.clone #[Value.iface ty (.map (some lc.B))]).run P w = .ok (.iface ty (.map (some w.heap.size))) (w.alloc (.map arr c)) := by
          rw [hck]; simp [hget]
        simp [callFunc, hf, c1, hb, c2, c3, hck2]
      have ev : a.eval (.func g) = .func (.func g) #[] #[] := rfl
      simp [execOp, ho, resolve, invoke, ev, Deferred.ofValue, hcall]
theorem opCall_ok {P : Program} (hcl : CloneOk P) {o : Oper} {c : Call} (ho : o.op = .call c) {cH : CH} (hc : CHok P cH) {t : T} {h : H} {F : AV → H → R} (e : (opCall P c).run cH t h F = true) : Goes P o t h F := by
  obtain ⟨callee, args, at_⟩ := c
  cases callee with
  | value x =>
    by_cases hx : ∃ g, x = .func g
    · obtain ⟨g, rfl⟩ := hx
      unfold opCall at e
      simp only at e
      split at e
      · rename_i hg
        have e1 := gts_run e
        intro ρ a w hr q Q
        refine wp_enter hc hr e1 (VRs_args (a := a) fun y hy => q y (by rw [ho]; simp [Op.operands, Call.operands]; exact .inr hy)) ?_ Q
        have := isFn_true hg (args.map a.eval) w
        have ev : a.eval (.func g) = .func (.func g) #[] #[] := rfl
        simp [execOp, ho, resolve, invoke, ev, Deferred.ofValue, this]
      · split at e
        · rename_i hg
          obtain ⟨h1, h2⟩ := gd_true (gts_run e)
          exact cloneK_ok hcl ho hg (by have := Nat.eq_of_beq_eq_true h1; rw [llen_eq] at this; simpa using this) h2
        · exact (Bool.false_ne_true e).elim
    · have e' : (gt x).run (fun v => (gts args.toList).run (fun l => fnA P cH l h F v) t) t = true := by
        cases x with
        | func g => exact absurd ⟨g, rfl⟩ hx
        | tmp n => exact e
        | const v => exact e
        | global g => exact e
      have e1 := gts_run (gt_run e')
      intro ρ a w hr q Q
      have q1 := q x (by rw [ho]; simp [Op.operands, Call.operands])
      have q2 := VRs_args (ρ := ρ) (t := t) (a := a) (args := args) fun y hy => q y (by rw [ho]; simp [Op.operands, Call.operands]; exact .inr hy)
      cases hv : gv t x <;> rw [hv] at e1 <;> try exact (Bool.false_ne_true e1).elim
      case f fn b cc =>
        cases fn <;> try exact (Bool.false_ne_true e1).elim
        rename_i g
        obtain ⟨hg, e2⟩ := callK_true (show callK P g cH (lapp b (lapp (args.toList.map (gv t)) cc)) h F = true from e1)
        rw [hv] at q1
        simp only [VR] at q1
        obtain ⟨b', cc', ex, k1, k2⟩ := q1
        refine wp_enter hc hr e2 (vs := b' ++ (args.map a.eval ++ cc')) (by rw [Array.toList_append, Array.toList_append]; exact k1.app (q2.app k2)) ?_ Q
        have := isFn_true hg (b' ++ (args.map a.eval ++ cc')) w
        simp [execOp, ho, resolve, invoke, ex, Deferred.ofValue, this]
  | invoke x name =>
    have e1 := gts_run (gt_run (show (gt x).run (fun v => (gts args.toList).run (fun l => _) t) t = true from e))
    intro ρ a w hr q Q
    have q1 := q x (by rw [ho]; simp [Op.operands, Call.operands])
    have q2 := VRs_args (ρ := ρ) (t := t) (a := a) (args := args) fun y hy => q y (by rw [ho]; simp [Op.operands, Call.operands]; exact .inr hy)
    cases hv : gv t x <;> rw [hv] at e1 <;> try exact (Bool.false_ne_true e1).elim
    case ifc ty u =>
      have e1 : (Option.rec (motive := fun _ => R) false (fun g => callK P g cH (u :: args.toList.map (gv t)) h F) (mth P ty name) : R) = true := e1
      cases hm : mth P ty name with
      | none => rw [hm] at e1; exact (Bool.false_ne_true e1).elim
      | some g =>
        rw [hm] at e1
        obtain ⟨hg, e2⟩ := callK_true e1
        rw [hv] at q1
        simp only [VR] at q1
        obtain ⟨u', ex, k1⟩ := q1
        refine wp_enter hc hr e2 (vs := #[u'] ++ args.map a.eval) (by rw [Array.toList_append]; simp only [List.cons_append, List.nil_append, VRs]; exact ⟨u', _, rfl, k1, q2⟩) ?_ Q
        have hcall := isFn_true hg (#[u'] ++ args.map a.eval) w
        have hmeth := mth_true hm u' (P.types.size + 99) w
        have hext : (#[Value.iface ty u'] ++ args.map a.eval).extract 1 (1 + args.size) = args.map a.eval := by
          apply Array.ext'
          rw [Array.toList_extract, Array.toList_append]
          simp
          exact List.take_of_length_le (by simp)
        have h0 : (#[Value.iface ty u'] ++ args.map a.eval)[0]? = some (Value.iface ty u') := by simp [Array.getElem?_append]
        simp [execOp, ho, resolve, invoke, ex, callMethod, Made.depth, h0, hmeth, hext, hcall]
  | builtin b =>
    have bad : ∀ {r : Eo}, r = badE → r.run cH t h F = true → Goes P o t h F := fun hr he => by subst hr; exact (Bool.false_ne_true he).elim
    unfold opCall at e
    cases b <;> simp only at e <;> try exact (Bool.false_ne_true e).elim
    case append =>
      split at e
      · rename_i x y a b h1 h2
        have hargs : args = #[x, y] := by cases args; simp at h1; simp [h1]
        have hat : at_ = #[a, b] := by cases at_; simp at h2; simp [h2]
        subst hargs; subst hat
        exact opAppend_ok ho e
      · exact (Bool.false_ne_true e).elim
    case copy =>
      split at e
      · rename_i x y a r h1 h2
        have hargs : args = #[x, y] := by cases args; simp at h1; simp [h1]
        subst hargs
        exact opCopy_ok ho (by cases at_; simp at h2; simp [h2]) e
      · exact (Bool.false_ne_true e).elim
    case delete =>
      split at e
      · rename_i x y a r h1 h2
        have hargs : args = #[x, y] := by cases args; simp at h1; simp [h1]
        subst hargs
        exact opDelete_ok ho (by cases at_; simp at h2; simp [h2]) e
      · exact (Bool.false_ne_true e).elim
    case clear =>
      split at e
      · rename_i x a r h1 h2
        have hargs : args = #[x] := by cases args; simp at h1; simp [h1]
        subst hargs
        exact opClear_ok ho (by cases at_; simp at h2; simp [h2]) e
      · exact (Bool.false_ne_true e).elim
theorem noneE_true {α : Type} {r : R} {es : List α} (h : noneE r es = true) : es = [] ∧ r = true := by
  cases es with
  | nil => exact ⟨rfl, h⟩
  | cons => exact (Bool.false_ne_true h).elim
theorem opRange_ok {P : Program} {o : Oper} {ty : TypeId} {x : Operand} (ho : o.op = .range ty x) {cH : CH} {t : T} {h : H} {F : AV → H → R} (e : (opRange P ty x).run cH t h F = true) : Goes P o t h F := by
  unfold opRange at e
  split at e
  case h_2 => exact (Bool.false_ne_true e).elim
  rename_i kt et hu
  have e1 := gt_run e
  intro ρ a w hr q Q
  have q1 := q x (by rw [ho]; simp [Op.operands])
  cases hx : gv t x <;> rw [hx] at e1 <;> try exact (Bool.false_ne_true e1).elim
  case m r =>
    obtain ⟨es, c, hat, e2⟩ := ldM_true (show ldM h r (fun es _ => noneE (Ev.new h (.it (some r) 0 [] 0) (fun nx h => F (.p nx 0) h)) es) = true from e1)
    obtain ⟨_, e3⟩ := noneE_true e2
    obtain ⟨hn5, hF⟩ := new_true e3
    rw [hx] at q1
    simp only [VR] at q1
    obtain ⟨lr, hl, ex⟩ := q1
    obtain ⟨arr, hheap, _⟩ := map_at hr.blk hl hat
    have hr' : HR ρ (.mk h.t h.nx) w := by rw [H.eta]; exact hr
    have hrun := run_range_map (P := P) w ty kt et lr.B arr c hu hheap
    have hblk : BlkR (upd ρ h.nx ⟨w.heap.size, 0, 0⟩) (.it (some r) 0 [] 0) ⟨w.heap.size, 0, 0⟩ (.mapIter (some lr.B) c #[] c) := ⟨r, lr, c, rfl, Sub.upd hr'.fresh _ _ hl, rfl⟩
    have hE := Ext.new hr' hn5 (l := ⟨w.heap.size, 0, 0⟩) (k := .it (some r) 0 [] 0) (o := .mapIter (some lr.B) c #[] c) (w' := w.alloc (.mapIter (some lr.B) c #[] c)) rfl rfl (below_push w _)
    rw [H.eta] at hE
    exact wp_value (w' := w.alloc (.mapIter (some lr.B) c #[] c)) (v' := .pointer (some ⟨w.heap.size, 0, none⟩)) (by simp [execOp, ho, ex, hrun]) ⟨_, rfl, _, _, _, hF, hr'.new hn5 rfl rfl hblk, hE, VR_newp⟩
theorem itK_true {h : H} {b : Nat} {f : Nat → R} (e : itK h b f = true) : ∃ r s q z, h.at b = .it (some r) s q z ∧ f r = true := by
  cases h with
  | mk ht nx =>
    obtain ⟨hb, e⟩ := acc_run (show (acc Blk 5 b).run _ ht = true from e)
    cases hk : get 5 b ht <;> rw [hk] at e <;> try exact (Bool.false_ne_true e).elim
    case it m s q z =>
      cases m with
      | none => exact (Bool.false_ne_true e).elim
      | some r => exact ⟨r, s, q, z, H.at_of hb hk, e⟩
theorem opNext_ok {P : Program} {o : Oper} {x : Operand} {s : Bool} (ho : o.op = .next x s) {cH : CH} {t : T} {h : H} {F : AV → H → R} (e : (opNext x s).run cH t h F = true) : Goes P o t h F := by
  cases s with
  | true => exact (Bool.false_ne_true e).elim
  | false =>
    have e1 := gt_run (show (gt x).run (onP (fun b o => gd (Nat.beq o 0) (itK h b (fun r => ldM h r (fun es _ => noneE (F (.tu [.b false]) h) es))))) t = true from e)
    obtain ⟨b, off, hx, e2⟩ := onP_true e1
    obtain ⟨g0, e3⟩ := gd_true e2
    obtain rfl : off = 0 := Nat.eq_of_beq_eq_true g0
    obtain ⟨r, s1, q1, z1, hat, e4⟩ := itK_true e3
    obtain ⟨es, c, hat2, e5⟩ := ldM_true e4
    obtain ⟨hes, hF⟩ := noneE_true e5
    subst hes
    intro ρ a w hr q Q
    have qx := q x (by rw [ho]; simp [Op.operands])
    rw [hx] at qx
    obtain ⟨lb, hb, ex⟩ := VR_p qx
    rw [lb.o0] at ex
    obtain ⟨ob, ho1, ho2⟩ := hr.blk b lb hb (by rw [hat]; simp)
    rw [hat] at ho2
    obtain ⟨r', lr, cl, hr1, hr2, rfl⟩ := ho2
    cases hr1
    obtain ⟨arr, hheap, hms⟩ := map_at hr.blk hr2 hat2
    have hms : arr.toList = [] := hms
    have law := run_next_at (P := P) w o.type lb.B lr.B cl cl #[] arr c ho1 hheap (fun y hy => by rw [hms] at hy; cases hy) (Nat.le_refl _)
    rcases law with ⟨_, hrun⟩ | ⟨en, hen, _⟩
    · exact wp_value (w' := w) (v' := .tuple #[.bool false]) (by simp [execOp, ho, ex, hrun]) ⟨_, rfl, _, _, ρ, hF, hr, Ext.refl _ _ _, by simp only [VR, VRs]; exact ⟨_, rfl, _, _, rfl, rfl, rfl⟩⟩
    · have := (mem_left hen).1
      rw [hms] at this
      cases this
theorem eop_ok {P : Program} (hcl : CloneOk P) {o : Oper} {cH : CH} (hc : CHok P cH) {t : T} {h : H} {F : AV → H → R} (e : (eop P o).run cH t h F = true) : Goes P o t h F := by
  unfold eop at e
  split at e
  · rename_i x ho
    intro ρ a w hr q Q
    refine wp_value (w' := w) (v' := a.eval x) (by simp [execOp, ho]) ⟨_, rfl, _, _, ρ, gt_run (f := fun v => F v h) e, hr, Ext.refl _ _ _, q x (by rw [ho]; simp [Op.operands])⟩
  · rename_i ty x y ho; exact opStore_ok ho e
  · rename_i ty m k v ho; exact opMapUpdate_ok ho e
  · rename_i c ho; exact opCall_ok hcl ho hc e
  · rename_i ty x ho; exact opRange_ok ho e
  · rename_i x s ho; exact opNext_ok ho e
  · exact (Bool.false_ne_true e).elim
end
end Go.Proofs.YtlpffldeogapmaaGreatDoor.Ev
