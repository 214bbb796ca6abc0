/- The pool, the works and the states side by side. -/
import Derived.Test.YtopclgpimabpcaaProg
import Derived.Below
import Derived.Deep.Draws
import Derived.Deep.AppendLies
import Derived.Maps.AppendAt
import Derived.OwnWalk
import Derived.Laws.BytesArg
import Derived.Laws.MakeOwn
import Derived.Laws.OwnMore
import Derived.Deep.OwnRows
import Derived.Tactics
import Derived.Lib.ConvBytes
import Derived.Laws.Slices
import Derived.WalkKit
import Derived.KernelRfl
import Derived.RowKit3
import Derived.Deep.LoopGhost
import Derived.Deep.QuietTactic
import Derived.BigQuiet
import Derived.WideLaws
import Derived.Deep.DeepCutAuto
import Derived.Deep.CutBlock
import Derived.Deep.RegionHeld3
import Derived.Laws.Rows
import Derived.Lib.AppendStr
import Derived.ArgAppend
import Derived.Laws.IdiomCopy
import Derived.OrdersHeld
import Derived.Laws.BitsLemmas
import Derived.RowKit
import Derived.WalkSpells
import Derived.Outline
import Derived.Test.YtopclgpimabpcaaWWords
import Derived.Test.YtopclgpimabpcaaWLast
import Derived.Test.YtopclgpimabpcaaWMore
import Derived.Test.YtopclgpimabpcaaWArr
import Derived.Test.YtopclgpimabpcaaWTab
import Derived.Test.YtopclgpimabpcaaWZeros
import Derived.Test.YtopclgpimabpcaaWRepsOne
import Derived.Test.YtopclgpimabpcaaTlA
namespace Go.Proofs.Ytopclgpimabpcaa.TaP
open Go.RowKit Go.Proofs.YtopclgpimabpcaaW.PrintWords Go.Proofs.YtopclgpimabpcaaW.PrintLast Go.Proofs.YtopclgpimabpcaaW.PrintMore Go.Proofs.Ytopclgpimabpcaa.Tk Go.Proofs.Ytopclgpimabpcaa.TkA Go.Proofs.Ytopclgpimabpcaa.TkB Go.Proofs.Ytopclgpimabpcaa.TkC Go.Proofs.Ytopclgpimabpcaa.TkD Go.Proofs.Ytopclgpimabpcaa.TkE Go.Proofs.Ytopclgpimabpcaa.TfWalk Go.Proofs.Ytopclgpimabpcaa.TtP Go.Proofs.Ytopclgpimabpcaa.InA Go.Proofs.Ytopclgpimabpcaa.TlA Go.Proofs.Ytopclgpimabpcaa.Mix
set_option linter.unusedSimpArgs false
set_option linter.unusedVariables false
attribute [local go_sem] max2_int min2_int max_two min_two

/-- A pool, the row of its works, a row of states. -/
def PSys (w : World) (B p : Nat) (ts : List Tk) (v5 v6 : Value) (S : List Int) : Prop :=
  PoolAt w B p ts ∧ Kptr.R 30 w B (fun _ => True) v5 (ts.map Tk.h) ∧ Kd.R (Kd.int .i64) 3 w B (fun _ => True) v6 S ∧ Far v6 ts
theorem Rp_kp {w w' : World} {base : Nat} {v : Value} {xs : List Nat} (h : Kptr.R 30 w base (fun _ => True) v xs) (hk : Kp w w') : Kptr.R 30 w' base (fun _ => True) v xs :=
  Kd.R_of_own (own_kp (Kd.own_of_R h) hk (by decide) (by decide) (by decide) (by decide)) h.1
theorem sys_below {w w' : World} {B p : Nat} {ts : List Tk} {v5 v6 : Value} {S : List Int} (h : PSys w B p ts v5 v6 S) (hb : Below w.heap.size w w') : PSys w' B p ts v5 v6 S :=
  ⟨pool_below h.1 hb, Kd.R_below h.2.1 hb, Kd.R_below h.2.2.1 hb, h.2.2.2⟩
theorem sys_step {w w' : World} {B p : Nat} {ts ts' : List Tk} {v5 v6 : Value} {S : List Int} (h : PSys w B p ts v5 v6 S) (hp : PoolAt w' B p ts') (hk : Kp w w') (hh : ts'.map Tk.h = ts.map Tk.h) (hf : Far v6 ts') : PSys w' B p ts' v5 v6 S :=
  ⟨hp, by rw [hh]; exact Rp_kp h.2.1 hk, R_kp h.2.2.1 hk, hf⟩
theorem sys_grown {w w' : World} {B p : Nat} {ts : List Tk} {v5 v6 v : Value} {S S' : List Int} (h : PSys w B p ts v5 v6 S) (hg : w.grownBy w' v6.ownBlock) (hs : Kd.R (Kd.int .i64) 3 w' B (fun _ => True) v S') (hf : Far v ts) : PSys w' B p ts v5 v S' :=
  ⟨pool_grown h.1 (own_R h.2.2.1) hg h.2.2.2, Kd.R_of_own (own_other (Kd.own_of_R h.2.1) hg (own_type_ne (Kd.own_of_R h.2.1) (Kd.own_of_R h.2.2.1) (by decide))) h.2.1.1, hs, hf⟩
theorem sys_set {w : World} {B p gs cs n : Nat} {ts : List Tk} {v5 : Value} {S : List Int} (h : PSys w B p ts v5 (.slice (some ⟨gs, 0, none⟩) n cs) S) (x : Nat) (y : Int) : PSys (w.setCell ⟨gs, x, none⟩ (.int .i64 y)) B p ts v5 (.slice (some ⟨gs, 0, none⟩) n cs) (S.set x y) := by
  obtain ⟨h1, h2⟩ := Kd.R_putg h.2.2.1 (x : Int) y
  rw [Int.toNat_natCast] at h1 h2
  exact sys_grown h h2 h1 h.2.2.2
theorem sys_cell {w : World} {B p gs cs n : Nat} {ts : List Tk} {v5 : Value} {S : List Int} (h : PSys w B p ts v5 (.slice (some ⟨gs, 0, none⟩) n cs) S) (x : Nat) (hx : x < n) : w.cell? ⟨gs, x, none⟩ = some (.int .i64 (rd S (x : Int))) ∧ w.frozen? ⟨gs, x, none⟩ = false := by
  have := Kd.R_celln 0 h.2.2.1 (x : Int) (by omega) (by omega)
  rw [Int.toNat_natCast] at this
  exact this
theorem sys_base {w : World} {B p gs cs n : Nat} {ts : List Tk} {v5 : Value} {S : List Int} (h : PSys w B p ts v5 (.slice (some ⟨gs, 0, none⟩) n cs) S) : B ≤ gs ∧ gs < w.heap.size := by
  have ho := Kd.own_of_R h.2.2.1
  exact ⟨own_base ho gs rfl, own_lt ho gs rfl⟩
theorem map_st_set {ts : List Tk} {x : Nat} {t : Tk} : (ts.set x t).map Tk.st = (ts.map Tk.st).set x t.st := by rw [List.map_set]
theorem map_h_set {ts : List Tk} {x : Nat} {t : Tk} (hx : x < ts.length) (ht : t.h = (ts.getD x default).h) : (ts.set x t).map Tk.h = ts.map Tk.h := by
  rw [List.map_set, ht]
  have hget : ts[x] = ts.getD x default := by rw [List.getD_eq_getElem?_getD, List.getElem?_eq_getElem hx]; rfl
  rw [← hget]
  apply List.ext_getElem?
  intro i
  rw [List.getElem?_set]
  split
  · rename_i hi
    subst hi
    rw [if_pos (by simpa using hx), List.getElem?_map, List.getElem?_eq_getElem hx]
    rfl
  · rfl
theorem mem_set {ts : List Tk} {x : Nat} {t y : Tk} (h : y ∈ ts.set x t) : y = t ∨ y ∈ ts := (List.mem_or_eq_of_mem_set h).symm
theorem getD_mem_tk {ts : List Tk} {x : Nat} (h : x < ts.length) : ts.getD x default ∈ ts := by
  rw [List.getD_eq_getElem?_getD, List.getElem?_eq_getElem h]
  exact List.getElem_mem h
theorem far_set {v : Value} {ts : List Tk} {x : Nat} {t : Tk} (hf : Far v ts) (hx : x < ts.length) (ht : t.v = (ts.getD x default).v) : Far v (ts.set x t) := by
  intro y hy
  rcases mem_set hy with rfl | hy
  · rw [ht]; exact hf _ (getD_mem_tk hx)
  · exact hf y hy
theorem cnt_split {m : Int} {ts : List Tk} {x : Nat} (hx : x < ts.length) (t : Tk) : cnt m (ts.set x t) + (if (ts.getD x default).st ≤ m then 1 else 0) = cnt m ts + (if t.st ≤ m then 1 else 0) := by
  have e1 : ts.set x t = ts.take x ++ t :: ts.drop (x + 1) := List.set_eq_take_append_cons_drop.trans (if_pos hx)
  have e2 : ts = ts.take x ++ ts.getD x default :: ts.drop (x + 1) := by
    rw [← drop_tk hx, List.take_append_drop]
  have hc : ∀ (y : Tk) (r : List Tk), cnt m (y :: r) = cnt m r + (if y.st ≤ m then 1 else 0) := by
    intro y r
    unfold cnt
    rw [List.countP_cons]
    by_cases h : y.st ≤ m <;> simp [h]
  have a1 : cnt m (ts.set x t) = cnt m (ts.take x) + (cnt m (ts.drop (x + 1)) + (if t.st ≤ m then 1 else 0)) := by rw [e1, cnt_append, hc]
  have a2 : cnt m ts = cnt m (ts.take x) + (cnt m (ts.drop (x + 1)) + (if (ts.getD x default).st ≤ m then 1 else 0)) := by
    conv => lhs; rw [e2]
    rw [cnt_append, hc]
  omega
theorem self_set {ts : List Tk} {x : Nat} (hx : x < ts.length) : ts.set x (ts.getD x default) = ts := by
  apply List.ext_getElem?
  intro i
  rw [List.getElem?_set]
  split
  · rename_i hi
    subst hi
    rw [List.getElem?_eq_getElem hx, List.getD_eq_getElem?_getD, List.getElem?_eq_getElem hx]
    rfl
  · rfl
theorem rd_set {S : List Int} {x : Nat} {y : Int} (hx : x < S.length) : rd (S.set x y) (x : Int) = y := by
  unfold rd
  rw [Int.toNat_natCast, List.getD_eq_getElem?_getD, List.getElem?_set_self hx]
  rfl
/-- What may be said of each task behind some steps. -/
def PGood (ts : List Tk) (i : Nat) : Prop := ∀ t ∈ ts, t.n = t.sp ∧ (t.st = 0 ∨ t.st = 1 ∨ t.st = 2) ∧ t.n ≤ i ∧ ∀ v ∈ t.L, v = 0 ∨ v = 1 ∨ v = 2
theorem good_mono {ts : List Tk} {i : Nat} (h : PGood ts i) : PGood ts (i + 1) := fun t ht => ⟨(h t ht).1, (h t ht).2.1, by have := (h t ht).2.2.1; omega, (h t ht).2.2.2⟩
theorem stepV_good {L : List Int} {n : Nat} (h : ∀ v ∈ L, v = 0 ∨ v = 1 ∨ v = 2) : stepV L n = 0 ∨ stepV L n = 1 ∨ stepV L n = 2 := by
  unfold stepV
  split
  · rename_i hn
    unfold rd
    rw [Int.toNat_natCast, List.getD_eq_getElem?_getD, List.getElem?_eq_getElem hn]
    exact h _ (List.getElem_mem hn)
  · exact .inr (.inr rfl)
theorem good_step {ts : List Tk} {i x : Nat} (h : PGood ts i) (hx : x < ts.length) : PGood (ts.set x {ts.getD x default with n := (ts.getD x default).n + 1, st := stepV (ts.getD x default).L (ts.getD x default).n, sp := (ts.getD x default).sp + 1}) (i + 1) := by
  intro t ht
  rcases mem_set ht with rfl | ht
  · have := h _ (getD_mem_tk hx)
    exact ⟨by show _ + 1 = _ + 1; rw [this.1], stepV_good this.2.2.2, by show _ + 1 ≤ _; omega, this.2.2.2⟩
  · exact good_mono h t ht
theorem good_wake {ts : List Tk} {i x : Nat} (h : PGood ts i) (hx : x < ts.length) : PGood (ts.set x {ts.getD x default with st := if (ts.getD x default).st = 1 then 0 else (ts.getD x default).st}) (i + 1) := by
  intro t ht
  rcases mem_set ht with rfl | ht
  · have := h _ (getD_mem_tk hx)
    refine ⟨this.1, ?_, by have := this.2.2.1; show _ ≤ _ + 1; exact Nat.le_succ_of_le this, this.2.2.2⟩
    show (if (ts.getD x default).st = 1 then (0 : Int) else (ts.getD x default).st) = 0 ∨ _ ∨ _
    split
    · exact .inl rfl
    · exact this.2.1
  · exact good_mono h t ht
theorem good_new {ts : List Tk} {i : Nat} (h : PGood ts i) {g hh : Nat} {v : Value} {L : List Int} (hL : ∀ v ∈ L, v = 0 ∨ v = 1 ∨ v = 2) : PGood (ts ++ [⟨g, hh, v, L, 0, 0, 0⟩]) (i + 1) := by
  intro t ht
  rcases List.mem_append.1 ht with ht | ht
  · exact good_mono h t ht
  · rw [List.mem_singleton.1 ht]
    exact ⟨rfl, .inl rfl, Nat.zero_le _, hL⟩
theorem sys_tells {w : World} {B p : Nat} {ts : List Tk} {Aw : Option Addr} {cw : Nat} {As : Option Addr} {cs i n : Nat} (hn : ts.length = n) (h : PSys w B p ts (.slice Aw n cw) (.slice As n cs) (ts.map Tk.st)) (hg : PGood ts i) (hl : ts.length ≤ 120) :
    Calls Try.prog 17 #[.pointer (some ⟨p, 0, none⟩), .slice Aw n cw, .slice As n cs] w fun e w' => e = .returned (.bool true) ∧ Below w.heap.size w w' := by
  subst hn
  have h1 := (Kd.R_reads' h.2.1).2.2
  have h2 := (Kd.R_reads' h.2.2.1).2.2
  rw [List.length_map] at h1 h2
  exact tells_calls h.1 Aw cw As cs h1 h2 (fun t ht => ⟨(hg t ht).1, (hg t ht).2.1⟩) hl
theorem info30 : (Try.prog.info? 30).map (fun i => (i.zero, i.size, i.bytes)) = some (some (.pointer none), 1, 8) := by kernel_rfl
theorem pool_grown2 {w w' : World} {B p base : Nat} {ts : List Tk} {v : Value} {n : Nat} {xs : List Value} (h : PoolAt w B p ts) (ho : w.ownsRow base 30 1 v n xs) (hg : w.grownBy w' v.ownBlock) : PoolAt w' B p ts := by
  obtain ⟨vr, h1, h2, h3, h4, h5⟩ := h
  refine ⟨vr, h1, blk_grown h2 hg (own_ne ho h2 (by decide)), own_other h3 hg (own_type_ne h3 ho (by decide)), fun t ht => ?_, h5⟩
  have h0 := h4 t ht
  exact ⟨h0.1, h0.2.1, blk_grown h0.2.2.1 hg (own_ne ho h0.2.2.1 (by decide)), blk_grown h0.2.2.2.1 hg (own_ne ho h0.2.2.2.1 (by decide)), own_other h0.2.2.2.2 hg (own_type_ne h0.2.2.2.2 ho (by decide))⟩
theorem cut6 (A : Option Addr) (c : Nat) (l : List Int) (n : Nat) (hn : n ≤ l.length) (hc : l.length ≤ c) :
    ∀ W : World, (Instr.slice 27 (.slice A l.length c) none (some (.int .i64 (n : Int))) none).run Try.prog W = .ok (.slice A (l.take n).length c) W := by
  obtain ⟨i05, hi05, _, hsz5, _⟩ := info_parts info3
  intro W
  have h := cut_to (P := Try.prog) 27 3 .i64 Try.underlying27 hi05 A l.length c (n : Int) (by omega) (by omega) hc W
  rw [Int.toNat_natCast] at h
  rw [List.length_take, Nat.min_eq_left hn]
  exact h
theorem C_take_int {w : World} {A : Option Addr} {l : List Int} (n : Nat) (h : (Kd.int .i64).C w A l.length l) : (Kd.int .i64).C w A (l.take n).length (l.take n) := by
  refine ⟨rfl, Nat.le_trans (by rw [List.length_take]; omega) h.2.1, fun hp => ?_⟩
  obtain ⟨ad, e, hc⟩ := h.2.2 (by rw [List.length_take] at hp; omega)
  exact ⟨ad, e, fun j p hj => hc j p (by rw [List.getElem?_take] at hj; split at hj; exact hj; cases hj)⟩
/-- What a work's list is made of. -/
def md (y : Int) : Int := (y.tmod 3 + 3).tmod 3
def mL (l : List Int) : List Int := l.map md
theorem md_good (y : Int) : md y = 0 ∨ md y = 1 ∨ md y = 2 := by
  unfold md
  have h1 := Int.tmod_lt_of_pos y (by decide : (0 : Int) < 3)
  have h2 := Int.lt_tmod_of_pos y (by decide : (0 : Int) < 3)
  have h3 := Int.tmod_lt_of_pos (y.tmod 3 + 3) (by decide : (0 : Int) < 3)
  have h4 : 0 ≤ (y.tmod 3 + 3).tmod 3 := Int.tmod_nonneg _ (by omega)
  omega
theorem mL_good {l : List Int} : ∀ v ∈ mL l, v = 0 ∨ v = 1 ∨ v = 2 := by
  intro v hv
  obtain ⟨y, _, rfl⟩ := List.mem_map.1 hv
  exact md_good y
theorem mL_snoc {l : List Int} {k : Nat} (hk : k < l.length) : mL (l.take (k + 1)) = mL (l.take k) ++ [md (rd l (k : Int))] := by
  unfold mL
  rw [List.take_add_one, List.getElem?_eq_getElem hk, List.map_append]
  unfold rd
  rw [Int.toNat_natCast, List.getD_eq_getElem?_getD, List.getElem?_eq_getElem hk]
  rfl
theorem R_ptr {w w1 : World} {base base' : Nat} {v v' : Value} {xs : List Int} {hs : List Nat} (h : Kd.R (Kd.int .i64) 3 w base (fun _ => True) v xs) (hp : Kptr.R 30 w base' (fun _ => True) v' hs) (hg : w.grownBy w1 v'.ownBlock) : Kd.R (Kd.int .i64) 3 w1 base (fun _ => True) v xs :=
  Kd.R_of_own (own_other (Kd.own_of_R h) hg (own_type_ne (Kd.own_of_R h) (Kd.own_of_R hp) (by decide))) h.1
theorem Rp_int {w w1 : World} {base base' : Nat} {v v' : Value} {xs : List Int} {hs : List Nat} (hp : Kptr.R 30 w base' (fun _ => True) v' hs) (h : Kd.R (Kd.int .i64) 3 w base (fun _ => True) v xs) (hg : w.grownBy w1 v.ownBlock) : Kptr.R 30 w1 base' (fun _ => True) v' hs :=
  Kd.R_of_own (own_other (Kd.own_of_R hp) hg (own_type_ne (Kd.own_of_R hp) (Kd.own_of_R h) (by decide))) hp.1
theorem pool_ptr {w w' : World} {B p base : Nat} {ts : List Tk} {v : Value} {hs : List Nat} (h : PoolAt w B p ts) (hp : Kptr.R 30 w base (fun _ => True) v hs) (hg : w.grownBy w' v.ownBlock) : PoolAt w' B p ts := pool_grown2 h (Kd.own_of_R hp) hg
theorem pool_int {w w' : World} {B p base : Nat} {ts : List Tk} {v : Value} {xs : List Int} (h : PoolAt w B p ts) (hp : Kd.R (Kd.int .i64) 3 w base (fun _ => True) v xs) (hg : w.grownBy w' v.ownBlock) (hf : Far v ts) : PoolAt w' B p ts := pool_grown h (own_R hp) hg hf
end Go.Proofs.Ytopclgpimabpcaa.TaP
