/- Delete of one out of a row that may begin inside its block: own law, and the contract of slices.Delete. -/
import Derived.Test.YtopclgpimabpcaaProg
import Derived.Below
import Derived.Deep.Draws
import Derived.Deep.AppendLies
import Derived.Maps.AppendAt
import Derived.OwnWalk
import Derived.Laws.BytesArg
import Derived.Laws.MakeOwn
import Derived.Laws.OwnMore
import Derived.Deep.OwnRows
import Derived.Tactics
import Derived.Lib.ConvBytes
import Derived.Laws.Slices
import Derived.WalkKit
import Derived.KernelRfl
import Derived.RowKit3
import Derived.Deep.LoopGhost
import Derived.Deep.QuietTactic
import Derived.BigQuiet
import Derived.WideLaws
import Derived.Deep.DeepCutAuto
import Derived.Deep.CutBlock
import Derived.Deep.RegionHeld3
import Derived.Laws.Rows
import Derived.Lib.AppendStr
import Derived.ArgAppend
import Derived.Laws.IdiomCopy
import Derived.OrdersHeld
import Derived.Laws.BitsLemmas
import Derived.RowKit
import Derived.WalkSpells
import Derived.Outline
import Derived.Test.YtopclgpimabpcaaWWords
import Derived.Test.YtopclgpimabpcaaWLast
import Derived.Test.YtopclgpimabpcaaWMore
import Derived.Test.YtopclgpimabpcaaWArr
import Derived.Test.YtopclgpimabpcaaWTab
import Derived.Test.YtopclgpimabpcaaWZeros
import Derived.Test.YtopclgpimabpcaaWRepsOne
import Derived.Test.YtopclgpimabpcaaLkA
namespace Go.Proofs.Ytopclgpimabpcaa.LkB
open Go.RowKit Go.Proofs.YtopclgpimabpcaaW.PrintWords Go.Proofs.YtopclgpimabpcaaW.PrintLast Go.Proofs.YtopclgpimabpcaaW.PrintMore Go.Proofs.Ytopclgpimabpcaa.Mix Go.Proofs.Ytopclgpimabpcaa.MixB Go.Proofs.Ytopclgpimabpcaa.LkA
set_option linter.unusedSimpArgs false
set_option linter.unusedVariables false
attribute [local go_sem] max2_int min2_int max_two min_two

section
variable {P : Program}
theorem run_clear_one (w : World) (t e ty : TypeId) (z : Value) (zs : List Value) (ht : P.underlying t = some (.slice e)) (hv : ∀ w, (zeroValue e).run P w = .ok z w) (hz : z.cells.toList = zs) (hl : zs.length = 2) (h1 : ∀ v ∈ zs, v.oneCell' = true) (b o c : Nat)
    (hc : ∀ j, j < 2 → (w.cell? ⟨b, o + j, none⟩).isSome = true) (hf : ∀ j, j < 2 → w.frozen? ⟨b, o + j, none⟩ = false) :
    (Builtin.clear_ #[t] ty #[.slice (some ⟨b, o, none⟩) 1 c]).run P w = .ok (.tuple #[]) (w.setCells b o zs) := by
  have hzc : (Builtin.zeroCells z.cells 1).toList = zs := by
    have hs : z.cells.size = 2 := by rw [← Array.length_toList, hz, hl]
    simp only [Builtin.zeroCells, hs]
    apply List.ext_getElem
    · simp [hl]
    · intro i h1 h2
      have hi : i < 2 := by rw [← hl]; exact h2
      subst hz
      simp only [Array.getElem_toList, Array.getElem_map, Array.getElem_range]
      rw [getElem!_pos z.cells (i % 2) (by rw [hs]; omega)]
      congr 1
      omega
  have hst := run_storeCells_cells (P := P) b o zs 0 w (by rw [hl]; simpa using hc) (by rw [hl]; simpa using hf) h1
  simp only [Nat.add_zero] at hst
  simp [Builtin.clear_, run_underlying ht, hv, hzc, hst]
theorem q_delete {t ty ty2 e : TypeId} {i : TypeInfo} {z : Value} {zs : List Value} (ht : P.underlying t = some (.slice e)) (hi : P.info? e = some i) (hsz : i.size = 2) (hv : ∀ w, (zeroValue e).run P w = .ok z w) (hz : z.cells.toList = zs) (hzl : zs.length = 2) (hz1 : ∀ v ∈ zs, v.oneCell' = true)
    {W : World} {base n c k : Nat} {A : Option Addr} {xs : List Value} (hq : QRow W base e 2 (.slice A n c) n xs) (hk : k < n) (h1 : ∀ u ∈ xs, u.oneCell' = true) (c2 c3 : Nat) {A3 : Option Addr} (hA3 : A3 = if c = n - 1 then A else A.map (·.add ((n - 1) * 2))) {m3 : Nat} (hm3 : m3 = 1) :
    ∃ g w1 w2, (Value.slice A n c).ownBlock = some g ∧ (Value.slice A (n - 1) c).ownBlock = some g ∧ base ≤ g ∧
      (Builtin.append_ #[t, t] ty #[.slice A k c, .slice (if c = k + 1 then A else A.map (·.add ((k + 1) * 2))) (n - (k + 1)) c2]).run P W = .ok (.slice A (n - 1) c) w1 ∧
      (Builtin.clear_ #[t] ty2 #[.slice A3 m3 c3]).run P w1 = .ok (.tuple #[]) w2 ∧
      QRow w2 base e 2 (.slice A (n - 1) c) (n - 1) (xs.take (k * 2) ++ xs.drop ((k + 1) * 2)) ∧ W.grownBy w1 (some g) ∧ w1.grownBy w2 (some g) := by
  subst hA3
  subst hm3
  obtain ⟨hlen, hq2⟩ := hq
  rcases hq2 with ⟨h0, _⟩ | ⟨g, off, cap, cur, hvv, hbg, hg, hnc, hcm, hcs, htake⟩
  · omega
  injection hvv with ha _ hcc
  subst ha
  subst hcc
  obtain ⟨news, hnews⟩ : ∃ news, news = xs.drop ((k + 1) * 2) := ⟨_, rfl⟩
  have hnl : news.length = (n - (k + 1)) * 2 := by rw [hnews, List.length_drop, hlen]; omega
  have hcur : ∀ q, q < n * 2 → cur.toList[off * 2 + q]? = xs[q]? := by
    intro q hq
    rw [← htake, List.getElem?_take, if_pos hq, List.getElem?_drop]
  have hrun := run_append_room_cells (P := P) (w := W) (ty := ty) t e i ht hi g (off * 2) k c ((if c = k + 1 then (⟨g, off * 2, none⟩ : Addr) else (⟨g, off * 2, none⟩ : Addr).add ((k + 1) * 2))) (n - (k + 1)) c2 news (by rw [hnl, hsz])
    (fun j u hu => by
      have hj : j < news.length := (List.getElem?_eq_some_iff.1 hu).1
      by_cases hck : c = k + 1
      · omega
      · rw [if_neg hck, add_add, add_at, cell_of_row W g _ cur e (0, 0) hg, ← Array.getElem?_toList, hcur _ (by omega)]
        rw [hnews, List.getElem?_drop] at hu
        exact hu)
    (fun u hu => h1 u (by rw [hnews] at hu; exact List.mem_of_mem_drop hu)) (by omega)
    (fun j hj => by rw [hsz, cell_of_row W g _ cur e (0, 0) hg]; simp; omega) (fun j _ => blk_frozen hg _)
  rw [hsz, show k + (n - (k + 1)) = n - 1 by omega] at hrun
  have hA : (if c = k + 1 then (some ⟨g, off * 2, none⟩ : Option Addr) else (some (⟨g, off * 2, none⟩ : Addr)).map (·.add ((k + 1) * 2))) = some (if c = k + 1 then (⟨g, off * 2, none⟩ : Addr) else (⟨g, off * 2, none⟩ : Addr).add ((k + 1) * 2)) := by
    split <;> rfl
  obtain ⟨cur', h3, h4, h5⟩ := setCells_row news (off * 2 + k * 2) W cur hg (by omega)
  obtain ⟨s1, s2, s3, s4⟩ := setCells_same g news (off * 2 + k * 2) W
  have hclr := run_clear_one (P := P) (W.setCells g (off * 2 + k * 2) news) t e ty2 z zs ht hv hz hzl hz1 g (off * 2 + (n - 1) * 2) c3
    (fun j hj => by rw [cell_of_row _ g _ cur' e (0, 0) h3]; simp; omega) (fun j _ => blk_frozen h3 _)
  obtain ⟨cur2, h6, h7, h8⟩ := setCells_row zs (off * 2 + (n - 1) * 2) _ cur' h3 (by rw [hzl]; omega)
  obtain ⟨r1, r2, r3, r4⟩ := setCells_same g zs (off * 2 + (n - 1) * 2) (W.setCells g (off * 2 + k * 2) news)
  have hB : (if c = n - 1 then (some ⟨g, off * 2, none⟩ : Option Addr) else (some (⟨g, off * 2, none⟩ : Addr)).map (·.add ((n - 1) * 2))) = some ⟨g, off * 2 + (n - 1) * 2, none⟩ := by
    rw [if_neg (by omega), Option.map_some, add_at]
  refine ⟨g, _, _, by simp [Value.ownBlock], by simp [Value.ownBlock], hbg, by rw [hA]; exact hrun, by rw [hB]; exact hclr, ⟨?_, .inr ⟨g, off, c, cur2, rfl, hbg, h6, by omega, hcm, by rw [h7, h4, hcs], ?_⟩⟩, ⟨s1, s2, s3, by rw [s4]; exact Nat.le_refl _, fun k' _ hk' => setCells_far news _ k' (fun he => hk' (by rw [he]))⟩, ⟨r1, r2, r3, by rw [r4]; exact Nat.le_refl _, fun k' _ hk' => setCells_far zs _ k' (fun he => hk' (by rw [he]))⟩⟩
  · rw [List.length_append, List.length_take, List.length_drop, hlen]; omega
  · rw [h8, h5]
    have e1 : cur.toList.length = (off + c) * 2 := by rw [Array.length_toList, hcs]
    apply List.ext_getElem?
    intro q
    rw [List.getElem?_take, List.getElem?_drop]
    by_cases hq : q < (n - 1) * 2
    · rw [if_pos hq, List.append_assoc, List.getElem?_append_left (by simp only [List.length_append, List.length_take, List.length_drop, hnl, e1]; omega), List.getElem?_take, if_pos (by omega)]
      by_cases hq2 : q < k * 2
      · rw [List.append_assoc, List.getElem?_append_left (by simp only [List.length_take, e1]; omega), List.getElem?_take, if_pos (by omega), hcur q (by omega)]
        rw [List.getElem?_append_left (by simp only [List.length_take, hlen]; omega), List.getElem?_take, if_pos hq2]
      · rw [List.append_assoc, List.getElem?_append_right (by simp only [List.length_take, e1]; omega), List.length_take, e1]
        rw [List.getElem?_append_left (by rw [hnl]; omega), hnews, List.getElem?_drop]
        rw [List.getElem?_append_right (by simp only [List.length_take, hlen]; omega), List.length_take, hlen, List.getElem?_drop]
        congr 1
        omega
    · rw [if_neg hq, List.getElem?_eq_none]
      rw [List.length_append, List.length_take, List.length_drop, hlen]; omega
theorem exec_append {o : Oper} {a : Act} {W w1 : World} {v u v1 : Value} (s x : Operand) (t : TypeId) (ho : o.op = .call { callee := .builtin .append, args := #[s, x], argTypes := #[t, t] }) (hs : a.eval s = v) (hx : a.eval x = u)
    (hr : (Builtin.append_ #[t, t] o.type #[v, u]).run P W = .ok v1 w1) : (execOp a.eval o).run P W = .ok (.value v1) w1 := by
  unfold execOp
  simp only [ho, resolve, invoke, builtin, Sem.run_bind, Sem.run_pure, Result.andThen_ok, List.map_toArray, List.map_cons, List.map_nil, hs, hx, hr]
theorem exec_clear {o : Oper} {a : Act} {W w1 : World} {v v1 : Value} (s : Operand) (t : TypeId) (ho : o.op = .call { callee := .builtin .clear, args := #[s], argTypes := #[t] }) (hs : a.eval s = v)
    (hr : (Builtin.clear_ #[t] o.type #[v]).run P W = .ok v1 w1) : (execOp a.eval o).run P W = .ok (.value v1) w1 := by
  unfold execOp
  simp only [ho, resolve, invoke, builtin, Sem.run_bind, Sem.run_pure, Result.andThen_ok, List.map_toArray, List.map_cons, List.map_nil, hs, hr]
theorem wpList_run {ops : Array Oper} {rest : List Oper} {o : Oper} {a : Act} {Q : Exit → Act → World → Prop} {W w1 : World} {v1 : Value} (hgd : o.guard = none) (hr : (execOp a.eval o).run P W = .ok (.value v1) w1) (h : wpList P ops Q rest (a.put o.dst v1) w1) : wpList P ops Q (o :: rest) a W := by
  refine wpList_plain hgd fun K hK => ?_
  unfold Oper.wp
  rw [hr]
  exact hK _ _ h
end
end Go.Proofs.Ytopclgpimabpcaa.LkB
