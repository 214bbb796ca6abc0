/- Contracts of mtf.list and mtf.front. -/
import Derived.Test.YtpgbapbmikneiaaProg
import Derived.Below
import Derived.Deep.Draws
import Derived.Deep.AppendLies
import Derived.Maps.AppendAt
import Derived.OwnWalk
import Derived.Laws.BytesArg
import Derived.Laws.MakeOwn
import Derived.Laws.OwnMore
import Derived.Deep.OwnRows
import Derived.Tactics
import Derived.Lib.ConvBytes
import Derived.Laws.Slices
import Derived.WalkKit
import Derived.KernelRfl
import Derived.RowKit3
import Derived.Deep.LoopGhost
import Derived.Deep.QuietTactic
import Derived.BigQuiet
import Derived.WideLaws
import Derived.Deep.DeepCutAuto
import Derived.Deep.CutBlock
import Derived.Deep.RegionHeld3
import Derived.Laws.Rows
import Derived.Lib.AppendStr
import Derived.ArgAppend
import Derived.Laws.IdiomCopy
import Derived.OrdersHeld
import Derived.Laws.BitsLemmas
import Derived.RowKit
import Derived.Laws.CopyOwn
import Derived.Laws.CopyRow
import Derived.WalkSpells
import Derived.Outline
import Derived.Test.YtpgbapbmikneiaaWWords
import Derived.Test.YtpgbapbmikneiaaWLast
import Derived.Test.YtpgbapbmikneiaaWMore
import Derived.Test.YtpgbapbmikneiaaWArr
import Derived.Test.YtpgbapbmikneiaaWTab
import Derived.Test.YtpgbapbmikneiaaWZeros
import Derived.Test.YtpgbapbmikneiaaWRepsOne
import Derived.Test.YtpgbapbmikneiaaMt
import Derived.Test.YtpgbapbmikneiaaMix
namespace Go.Proofs.Ytpgbapbmikneiaa.MtA
open Go.RowKit Go.Proofs.YtpgbapbmikneiaaW.PrintWords Go.Proofs.YtpgbapbmikneiaaW.PrintLast Go.Proofs.YtpgbapbmikneiaaW.PrintMore Go.Proofs.Ytpgbapbmikneiaa.Nm Go.Proofs.Ytpgbapbmikneiaa.NmA Go.Proofs.Ytpgbapbmikneiaa.Mt Go.Proofs.Ytpgbapbmikneiaa.Mix
set_option linter.unusedSimpArgs false
set_option linter.unusedVariables false
attribute [local go_sem] max2_int min2_int max_two min_two

set_option maxRecDepth 100000 in
theorem list_any (L0 : List Int) (hlen : L0.length = 256) (hstep : ∀ i : Nat, i < 256 → L0.take (i + 1) = L0.take i ++ [(i : Int)]) (w : World) : Calls Try.prog 31 #[] w fun e w' => ∃ v : Value, e = .returned v ∧ Kd.R (Kd.int .u8) 5 w' w.heap.size (fun _ => True) v L0 ∧ Below w.heap.size w w' := by
  have HB := Aside0.mk (Below.refl w.heap.size w)
  have HS := Aside0.mk hstep
  have HLL := Aside0.mk hlen
  clear hstep hlen
  go_enter Try.func31, Try.ntmps31
  go_wp2
  go_loopg [1, 3] 256 (fun g v1 v3 w' => ∃ (i : Nat), v3 = .int .i64 (i : Int) ∧ Aside0 (i + g = 256) ∧ Aside0 (Kd.R (Kd.int .u8) 5 w' w.heap.size (fun _ => True) v1 (L0.take i)) ∧ Aside0 (Below w.heap.size w w'))
  case atStart => exact ⟨0, rfl, ⟨rfl⟩, ⟨Kd.R_nil _ _ _ _ _⟩, HB⟩
  case round =>
    clear HB
    obtain ⟨i, rfl, HI, HR, HB⟩ := hrel
    by_cases hlt : i < 256
    · have HL : Aside0 ((L0.take i).length ≤ 256) := ⟨by rw [List.length_take]; omega⟩
      go_wp2_with ((with_reducible refine gate_builtin (b := .append) (xs := #[.tmp 6, .tmp 9]) rfl ?_); at_builtin; go_must (refine Kd.R_append (Kd.int .u8) (w0 := w) (w.heap.size) rfl (.tmp 6) (.tmp 9) 24 5 (.int .u8 0) 1 rfl Try.underlying24 info5 rfl (by decide) (by omega) u1 (L0.take i) (i : Int) [.int .u8 (i : Int)] (fun _ => True) (fun _ => False) rfl rfl rfl (fun _ hk => hk.elim) (fun _ _ => trivial) HR.out HB.out HB.out.size (by have := HL.out; omega) ?_; intro v102 w4 ho hb hg hat; have HO := Aside0.mk ho; have HB2 := Aside0.mk hb; clear ho hb hg hat))
      go_roundg (256 - (i + 1))
      case measure => have := HI.out; omega
      case rel =>
        refine ⟨i + 1, rfl, ⟨by omega⟩, ⟨?_⟩, HB2⟩
        rw [HS.out i hlt]; exact HO.out
    · have hi : i = 256 := by have := HI.out; omega
      have h1 := HR.out
      rw [hi, List.take_of_length_le (by rw [HLL.out]; omega)] at h1
      have HF := Aside0.mk h1
      clear h1 hi
      go_wp2
      go_ret
      exact ⟨_, rfl, HF.out, HB.out⟩

theorem list_calls (w : World) : Calls Try.prog 31 #[] w fun e w' => ∃ v : Value, e = .returned v ∧ Kd.R (Kd.int .u8) 5 w' w.heap.size (fun _ => True) v initL ∧ Below w.heap.size w w' :=
  list_any initL ok_initL.len (fun i hi => by
    rw [List.take_succ_eq_append_getElem (by rw [ok_initL.len]; exact hi)]
    simp [initL]) w

theorem slice_mid {P : Program} (t e : TypeId) {i : TypeInfo} (ht : P.underlying t = some (.slice e)) (hi : P.info? e = some i) (hsz : i.size = 1) (g n cap a b : Nat) (h1 : a ≤ b) (h2 : b ≤ n) (hc : n ≤ cap) (hlt : a < cap) (W : World) :
    (Instr.slice t (.slice (some ⟨g, 0, none⟩) n cap) (some (.int .i64 (a : Int))) (some (.int .i64 (b : Int))) none).run P W = .ok (.slice (some ⟨g, a, none⟩) (b - a) (cap - a)) W := by
  have hel : P.elem t = e := by simp [Program.elem, ht]
  have hu : P.underlying t = some (.slice (P.elem t)) := by rw [hel]; exact ht
  rw [run_slice_lh W t _ n cap hu .i64 .i64 (a : Int) (b : Int) (by omega) (by omega) (by omega), hel]
  have hne : ¬ cap = a := by omega
  simp [sizeOf, typeInfo, hi, hsz, sliced, Result.andThen, hne, add_plain]

theorem getElem?_encs {xs : List Int} {j : Nat} (h : j < xs.length) : (encs (Value.int .u8) xs)[j]? = some (.int .u8 (rd xs (j : Int))) := by
  unfold encs rd
  rw [List.getElem?_map, List.getElem?_eq_getElem h, Int.toNat_natCast, List.getD_eq_getElem?_getD, List.getElem?_eq_getElem h]; rfl

theorem mvf_len {L : List Int} {k : Nat} (h : k < L.length) : (mvf L k).length = L.length := (mvf_perm h).length_eq
theorem new_cells {V : List Value} {L : List Int} {k : Nat} {NEW : Array Value} (hV : 256 ≤ V.length) (hk : k < L.length) (hL : L.length = 256) (ht : V.take 256 = encs (Value.int .u8) L) (hkl : ((encs (Value.int .u8) L).take k).length = k)
    (hN : NEW = (V.take 1 ++ (encs (Value.int .u8) L).take k ++ V.drop (1 + ((encs (Value.int .u8) L).take k).length)).toArray) :
    (NEW.setIfInBounds 0 (.int .u8 (rd L (k : Int)))).toList.take (256 * 1) = encs (Value.int .u8) (mvf L k) := by
  obtain ⟨v, V, rfl⟩ : ∃ v V', V = v :: V' := by
    cases V with
    | nil => simp at hV
    | cons v V => exact ⟨v, V, rfl⟩
  rw [hkl] at hN
  rw [hN]
  have hd : (v :: V).drop (1 + k) = V.drop k := by rw [Nat.add_comm]; rfl
  have hd2 : (encs (Value.int .u8) L).drop (k + 1) = (V.drop k).take (255 - k) := by
    rw [← ht, List.drop_take]
    show (V.drop k).take (256 - (k + 1)) = _
    congr 1; omega
  rw [hd]
  have e : ((List.take 1 (v :: V) ++ (encs (Value.int .u8) L).take k ++ V.drop k).toArray.setIfInBounds 0 (.int .u8 (rd L (k : Int)))).toList = .int .u8 (rd L (k : Int)) :: ((encs (Value.int .u8) L).take k ++ V.drop k) := by simp
  rw [e, Nat.mul_one]
  show .int .u8 (rd L (k : Int)) :: List.take 255 ((encs (Value.int .u8) L).take k ++ V.drop k) = _
  rw [List.take_append, hkl, List.take_of_length_le (by rw [hkl]; omega), ← hd2]
  unfold mvf encs
  simp

/-- The world behind a turn: the row's own block alone has changed. -/
theorem front_calls (w : World) (base : Nat) (ok : Nat → Prop) (g cap : Nat) (L : List Int) (k : Nat) (hk : k < 256) (hL : L.length = 256)
    (HO : Kd.R (Kd.int .u8) 5 w base ok (.slice (some ⟨g, 0, none⟩) 256 cap) L) :
    Calls Try.prog 32 #[.slice (some ⟨g, 0, none⟩) 256 cap, .int .i64 (k : Int)] w fun e w' => e = .returned (.tuple #[]) ∧
      Kd.R (Kd.int .u8) 5 w' base ok (.slice (some ⟨g, 0, none⟩) 256 cap) (mvf L k) ∧ w.grownBy w' (some g) := by
  have hok := HO.1
  have how := Kd.own_of_R HO
  rw [hL] at how
  obtain ⟨hl0, how⟩ := how
  rcases how with ⟨h, _⟩ | ⟨g', cap', cur, hv, hbg, hg, hnc, hcm, hsz, htk⟩
  · cases h
  obtain ⟨hg1, hc1⟩ : g = g' ∧ cap = cap' := by simpa using hv
  subst hg1; subst hc1
  clear hv
  rw [Nat.mul_one] at hsz htk
  have hcur : cur.toList.length = cap := by rw [Array.length_toList, hsz]
  have hget : ∀ j, j < 256 → cur.toList[j]? = some (.int .u8 (rd L (j : Int))) := by
    intro j hj
    rw [← getElem?_encs (by rw [hL]; exact hj), ← htk, List.getElem?_take_of_lt hj]
  have hx : w.cell? ⟨g, k, none⟩ = some (.int .u8 (rd L (k : Int))) := by
    rw [blk_cell hg, ← hget k hk]; simp
  obtain ⟨NEW, hN⟩ : ∃ NEW : Array Value, NEW = (cur.toList.take 1 ++ (encs (Value.int .u8) L).take k ++ cur.toList.drop (1 + ((encs (Value.int .u8) L).take k).length)).toArray := ⟨_, rfl⟩
  have hkl : ((encs (Value.int .u8) L).take k).length = k := by rw [List.length_take, encs_length, hL]; omega
  obtain ⟨i05, hi05, _, hsz5, _⟩ := info_parts info5
  obtain ⟨m, hm⟩ : ∃ m : Nat, m = k + 1 := ⟨_, rfl⟩
  have hcopy : ∀ W : World, W.heap = w.heap → (Builtin.copy_ #[24, 24] 3 #[.slice (some ⟨g, 1, none⟩) (m - 1) (cap - 1), .slice (some ⟨g, 0, none⟩) k cap]).run Try.prog W = .ok (goInt k) (W.setRow g NEW) := by
    intro W hW
    have h := run_copy_row (P := Try.prog) W 24 24 3 5 g 1 (m - 1) (cap - 1) ⟨g, 0, none⟩ k cap cur 5 ((encs (Value.int .u8) L).take k) Try.underlying24 (by rw [hi05]; simp [hsz5]) (by rw [hW]; exact hg) (by rw [hkl]; show k = min k (m - 1); omega) (by
      intro j v hj
      have hjk : j < k := by have := (List.getElem?_eq_some_iff.1 hj).1; rw [hkl] at this; exact this
      rw [List.getElem?_take_of_lt hjk, getElem?_encs (by rw [hL]; omega)] at hj
      rw [add_plain, blk_cell (by rw [hW]; exact hg), ← hj, ← hget j (by omega)]; simp) (by rw [hkl]; omega) (by
      intro v hv
      have := List.mem_of_mem_take hv
      unfold encs at this
      obtain ⟨x, _, rfl⟩ := List.mem_map.1 this
      rfl)
    rw [← hN, hkl] at h
    exact h
  have hsl1 := slice_mid (P := Try.prog) 24 5 Try.underlying24 hi05 hsz5 g 256 cap 1 m (by omega) (by omega) hnc (by omega)
  rw [show ((1 : Nat) : Int) = 1 from rfl] at hsl1
  have hsl2 := cut_to (P := Try.prog) 24 5 .i64 Try.underlying24 hi05 (some ⟨g, 0, none⟩) 256 cap (k : Int) (by omega) (by omega) hnc
  have hwr : IntKind.i64.wrap ((k : Int) + 1) = (m : Int) := by rw [IntKind.wrap_i64]; omega
  simp only [Int.toNat_natCast] at hsl2
  have HN := Aside0.mk hN
  have HM := Aside0.mk hm
  have HCP := Aside0.mk hcopy
  have HFIN : Aside0 (∀ w' : World, w'.heap[g]? = some (.cells (NEW.setIfInBounds 0 (.int .u8 (rd L (k : Int)))) 5 (0, 0)) → Kd.R (Kd.int .u8) 5 w' base ok (.slice (some ⟨g, 0, none⟩) 256 cap) (mvf L k)) := by
    refine ⟨fun w' h => Kd.R_of_own (h1 := fun _ => rfl) ⟨by rw [encs_length]; simp, .inr ⟨g, cap, _, by rw [mvf_len (by rw [hL]; exact hk), hL], hbg, h, by rw [mvf_len (by rw [hL]; exact hk), hL]; exact hnc, hcm, ?_, ?_⟩⟩ hok⟩
    · rw [hN, Array.size_setIfInBounds, List.size_toArray]; simp only [List.length_append, List.length_take, List.length_drop, hkl, hcur]; omega
    · rw [mvf_len (by rw [hL]; exact hk), hL]
      exact new_cells (by rw [hcur]; omega) (by rw [hL]; exact hk) hL htk hkl hN
  have HG := Aside0.mk hg
  generalize rd L (k : Int) = c at hx HFIN
  clear hN hm hcopy hl0 hget hcur htk hok hkl hi05 hsz5 HO
  go_enter Try.func32, Try.ntmps32
  go_wp2
  refine wp_region_mix (fun _ _ => True) [(false, 0), (false, 1), (false, 2), (false, 3), (false, 4), (false, 5), (false, 6), (true, 7)] (by kernel_rfl) (by kernel_rfl) (fun _ => trivial) (fun _ _ => trivial) (fun wd hhp_ hbw_ => ?_)
  have hcp := HCP.out wd hhp_
  have hgd := HG.out
  rw [← hhp_] at hgd
  have HGD := Aside0.mk hgd
  have HBW := Aside0.mk hbw_
  clear hgd hbw_ hx hhp_
  (refine mix_read (o := { dst := some 9, op := Op.move (Operand.tmp 0), type := 24, pos := "mtf.go:19", after := #[], guard := none }) rfl (by first | rfl | (simp [Region.wanted, yielded]; done)) (by intro w_ hE_; (try dsimp only at hE_); first | (go_simp; done) | (go_simp; rfl)) ?_)
  (try simp only [Act.put, List.setIfInBounds_toArray, List.set_cons_zero, List.set_cons_succ])
  (refine mix_read (o := { dst := some 10, op := Op.move (Operand.tmp 1), type := 3, pos := "mtf.go:19", after := #[], guard := none }) rfl (by first | rfl | (simp [Region.wanted, yielded]; done)) (by intro w_ hE_; (try dsimp only at hE_); first | (go_simp; done) | (go_simp; rfl)) ?_)
  (try simp only [Act.put, List.setIfInBounds_toArray, List.set_cons_zero, List.set_cons_succ])
  (refine mix_read (o := { dst := some 11, op := Op.binOp BinOp.add 3 (Operand.tmp 10) (Operand.const (Value.int IntKind.i64 1)) 3, type := 3, pos := "mtf.go:19", after := #[{ on := 1, ground := Ground.data }], guard := none }) rfl (by first | rfl | (simp [Region.wanted, yielded]; done)) (by intro w_ hE_; (try dsimp only at hE_); first | (go_simp; done) | (go_simp; rfl)) ?_)
  (try simp only [Act.put, List.setIfInBounds_toArray, List.set_cons_zero, List.set_cons_succ])
  (refine mix_read (o := { dst := some 12, op := Op.slice 24 (Operand.tmp 9) (some (Operand.const (Value.int IntKind.i64 1))) (some (Operand.tmp 11)) none, type := 24, pos := "mtf.go:19", after := #[{ on := 0, ground := Ground.data }, { on := 2, ground := Ground.data }], guard := none }) rfl (by first | rfl | (simp [Region.wanted, yielded]; done)) (by intro w_ hE_; (try dsimp only at hE_); first | (go_simp; done) | (go_simp; rfl)) ?_)
  (try simp only [Act.put, List.setIfInBounds_toArray, List.set_cons_zero, List.set_cons_succ])
  (refine mix_read (o := { dst := some 13, op := Op.move (Operand.tmp 0), type := 24, pos := "mtf.go:19", after := #[], guard := none }) rfl (by first | rfl | (simp [Region.wanted, yielded]; done)) (by intro w_ hE_; (try dsimp only at hE_); first | (go_simp; done) | (go_simp; rfl)) ?_)
  (try simp only [Act.put, List.setIfInBounds_toArray, List.set_cons_zero, List.set_cons_succ])
  (refine mix_read (o := { dst := some 14, op := Op.move (Operand.tmp 1), type := 3, pos := "mtf.go:19", after := #[], guard := none }) rfl (by first | rfl | (simp [Region.wanted, yielded]; done)) (by intro w_ hE_; (try dsimp only at hE_); first | (go_simp; done) | (go_simp; rfl)) ?_)
  (try simp only [Act.put, List.setIfInBounds_toArray, List.set_cons_zero, List.set_cons_succ])
  (refine mix_read (o := { dst := some 15, op := Op.slice 24 (Operand.tmp 13) none (some (Operand.tmp 14)) none, type := 24, pos := "mtf.go:19", after := #[{ on := 4, ground := Ground.data }, { on := 5, ground := Ground.data }], guard := none }) rfl (by first | rfl | (simp [Region.wanted, yielded]; done)) (by intro w_ hE_; (try dsimp only at hE_); first | (go_simp; done) | (go_simp; rfl)) ?_)
  (try simp only [Act.put, List.setIfInBounds_toArray, List.set_cons_zero, List.set_cons_succ])
  refine mix_val (o := { dst := some 16, op := Op.call { callee := Callee.builtin Builtin.copy, args := #[Operand.tmp 12, Operand.tmp 15], argTypes := #[24, 24] }, type := 3, pos := "mtf.go:19", after := #[{ on := 3, ground := Ground.data }, { on := 6, ground := Ground.data }], guard := none }) (w1 := wd.setRow g NEW) rfl (by first | rfl | (simp [Region.wanted, yielded]; done)) (by first | (go_simp; done) | (go_simp; rfl)) (trivial) ?_
  (try simp only [Act.put, List.setIfInBounds_toArray, List.set_cons_zero, List.set_cons_succ])
  refine mix_nil ?_
  have h3 := setRow_heap wd g cur NEW 5 (0, 0) HGD.out
  have hgr : w.grownBy (wd.setRow g NEW) (some g) := ⟨HBW.out.os, HBW.out.tape, HBW.out.output, by rw [setRow_size]; exact HBW.out.size, fun j hj hne => by
    rw [setRow_other wd g j NEW (fun e => hne (by rw [e]))]; exact HBW.out.block j hj⟩
  generalize wd.setRow g NEW = w3 at *
  have HG3 := Aside0.mk hgr
  have hsz0 : 0 < NEW.size := by rw [HN.out]; simp; omega
  obtain ⟨v0, hc0⟩ : ∃ v0, w3.cell? ⟨g, 0, none⟩ = some v0 := ⟨NEW[0], by rw [blk_cell h3]; exact Array.getElem?_eq_getElem hsz0⟩
  have hf0 : w3.frozen? ⟨g, 0, none⟩ = false := blk_frozen h3 0
  have H3 := Aside0.mk h3
  clear h3 hgr hcp hsl1 hsl2 hwr hsz0
  go_wp2
  go_end0
  refine ⟨rfl, HFIN.out _ ?_, ?_⟩
  · exact blk_set H3.out 0 _
  · exact ⟨HG3.out.os, HG3.out.tape, HG3.out.output, by have := HG3.out.size; simpa using this, fun j hj hne => by
      rw [Below.heap_setCell w3 ⟨g, 0, none⟩ _ j (fun e => hne (by rw [e]))]; exact HG3.out.block j hj hne⟩
end Go.Proofs.Ytpgbapbmikneiaa.MtA
