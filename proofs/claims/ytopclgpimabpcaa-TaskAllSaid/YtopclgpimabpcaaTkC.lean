/- Contracts of the pool's Step and Wake. -/
import Derived.Test.YtopclgpimabpcaaProg
import Derived.Below
import Derived.Deep.Draws
import Derived.Deep.AppendLies
import Derived.Maps.AppendAt
import Derived.OwnWalk
import Derived.Laws.BytesArg
import Derived.Laws.MakeOwn
import Derived.Laws.OwnMore
import Derived.Deep.OwnRows
import Derived.Tactics
import Derived.Lib.ConvBytes
import Derived.Laws.Slices
import Derived.WalkKit
import Derived.KernelRfl
import Derived.RowKit3
import Derived.Deep.LoopGhost
import Derived.Deep.QuietTactic
import Derived.BigQuiet
import Derived.WideLaws
import Derived.Deep.DeepCutAuto
import Derived.Deep.CutBlock
import Derived.Deep.RegionHeld3
import Derived.Laws.Rows
import Derived.Lib.AppendStr
import Derived.ArgAppend
import Derived.Laws.IdiomCopy
import Derived.OrdersHeld
import Derived.Laws.BitsLemmas
import Derived.RowKit
import Derived.WalkSpells
import Derived.Outline
import Derived.Test.YtopclgpimabpcaaWWords
import Derived.Test.YtopclgpimabpcaaWLast
import Derived.Test.YtopclgpimabpcaaWMore
import Derived.Test.YtopclgpimabpcaaWArr
import Derived.Test.YtopclgpimabpcaaWTab
import Derived.Test.YtopclgpimabpcaaWZeros
import Derived.Test.YtopclgpimabpcaaWRepsOne
import Derived.Test.YtopclgpimabpcaaTkB
namespace Go.Proofs.Ytopclgpimabpcaa.TkC
open Go.RowKit Go.Proofs.YtopclgpimabpcaaW.PrintWords Go.Proofs.YtopclgpimabpcaaW.PrintLast Go.Proofs.YtopclgpimabpcaaW.PrintMore Go.Proofs.Ytopclgpimabpcaa.Tk Go.Proofs.Ytopclgpimabpcaa.TkA Go.Proofs.Ytopclgpimabpcaa.TkB Go.Proofs.Ytopclgpimabpcaa.Mix
set_option linter.unusedSimpArgs false
set_option linter.unusedVariables false
attribute [local go_sem] max2_int min2_int max_two min_two

/-- All blocks but two are as they were. -/
def Oth (a b : Nat) (w w' : World) : Prop := ∀ g cs t, Blk w g cs t → g ≠ a → g ≠ b → Blk w' g cs t
theorem own_oth {w w' : World} {a b base : Nat} {e : TypeId} {size n : Nat} {v : Value} {xs : List Value} (h : w.ownsRow base e size v n xs) (hk : Oth a b w w') (ha : some a ≠ v.ownBlock) (hb : some b ≠ v.ownBlock) : w'.ownsRow base e size v n xs := by
  obtain ⟨h1, h2⟩ := h
  refine ⟨h1, ?_⟩
  rcases h2 with h2 | ⟨g, cap, cur, rfl, hg, hh, r⟩
  · exact .inl h2
  · exact .inr ⟨g, cap, cur, rfl, hg, hk g _ _ hh (fun e => ha (by rw [← e]; rfl)) (fun e => hb (by rw [← e]; rfl)), r⟩
theorem oth_kp {w w' : World} {a b : Nat} (h : Oth a b w w') {ca cb : Array Value} (ha : Blk w a ca 67) (hb : Blk w b cb 32) : Kp w w' := by
  intro g cs t hg h1 h2 h3 h4
  exact h g cs t hg (fun e => h3 (by subst e; unfold Blk at hg ha; rw [hg] at ha; injection ha with ha; injection ha)) (fun e => h4 (by subst e; unfold Blk at hg hb; rw [hg] at hb; injection hb with hb; injection hb))
theorem nodup_ne {l : List Nat} (h : l.Nodup) {i j : Nat} (hi : i < l.length) (hj : j < l.length) (hne : i ≠ j) : l[i] ≠ l[j] := by
  have hp := List.pairwise_iff_getElem.1 h
  rcases Nat.lt_or_ge i j with hlt | hge
  · exact hp i j hi hj hlt
  · exact fun e => hp j i hj hi (by omega) e.symm
/-- A task was changed: the pool with it. -/
theorem pool_set {w w' : World} {B p : Nat} {ts : List Tk} (h : PoolAt w B p ts) {k : Nat} (hk : k < ts.length) (t' : Tk) (hg : t'.g = (ts.getD k default).g) (hh : t'.h = (ts.getD k default).h) (hv : t'.v = (ts.getD k default).v) (hL : t'.L = (ts.getD k default).L)
    (ho : Oth (ts.getD k default).g (ts.getD k default).h w w') (h1 : Blk w' t'.g #[.iface 30 (.pointer (some ⟨t'.h, 0, none⟩)), .int .i64 t'.st, .int .i64 (t'.sp : Int)] 67) (h2 : Blk w' t'.h #[t'.v, .int .i64 (t'.n : Int)] 32) : PoolAt w' B p (ts.set k t') := by
  obtain ⟨v, hB, hp, hrow, hall, hng, hnh, hl⟩ := h
  have hkm : ts.getD k default ∈ ts := by rw [List.getD_eq_getElem?_getD, List.getElem?_eq_getElem hk]; exact List.getElem_mem hk
  have hget : ts[k] = ts.getD k default := by rw [List.getD_eq_getElem?_getD, List.getElem?_eq_getElem hk]; rfl
  have ht := hall _ hkm
  have e1 : (ts.set k t').map Tk.g = ts.map Tk.g := by
    rw [List.map_set, hg, ← hget]
    apply List.ext_getElem?
    intro i
    rw [List.getElem?_set]
    split
    · rename_i hi
      subst hi
      rw [if_pos (by simpa using hk), List.getElem?_map, List.getElem?_eq_getElem hk]
      rfl
    · rfl
  have e2 : (ts.set k t').map Tk.h = ts.map Tk.h := by
    rw [List.map_set, hh, ← hget]
    apply List.ext_getElem?
    intro i
    rw [List.getElem?_set]
    split
    · rename_i hi
      subst hi
      rw [if_pos (by simpa using hk), List.getElem?_map, List.getElem?_eq_getElem hk]
      rfl
    · rfl
  have e3 : ptrs (ts.set k t') = ptrs ts := by
    have a1 : ptrs (ts.set k t') = ((ts.set k t').map Tk.g).map (fun g => Value.pointer (some ⟨g, 0, none⟩)) := by unfold ptrs; rw [List.map_map]; rfl
    have a2 : ptrs ts = (ts.map Tk.g).map (fun g => Value.pointer (some ⟨g, 0, none⟩)) := by unfold ptrs; rw [List.map_map]; rfl
    rw [a1, a2, e1]
  refine ⟨v, hB, ho _ _ _ hp (blk_ne hp ht.2.2.1 (by decide)) (blk_ne hp ht.2.2.2.1 (by decide)), ?_, ?_, by rw [e1]; exact hng, by rw [e2]; exact hnh, by rw [List.length_set]; exact hl⟩
  · rw [List.length_set, e3]
    exact own_oth hrow ho (own_ne hrow ht.2.2.1 (by decide)) (own_ne hrow ht.2.2.2.1 (by decide))
  · intro x hx
    obtain ⟨j, hj, hjx⟩ := List.getElem_of_mem hx
    rw [List.length_set] at hj
    rw [List.getElem_set] at hjx
    split at hjx
    · subst hjx
      refine ⟨by rw [hg]; exact ht.1, by rw [hh]; exact ht.2.1, h1, h2, ?_⟩
      rw [hv, hL]
      exact own_oth ht.2.2.2.2 ho (own_ne ht.2.2.2.2 ht.2.2.1 (by decide)) (own_ne ht.2.2.2.2 ht.2.2.2.1 (by decide))
    · rename_i hne
      have hxm : x ∈ ts := by rw [← hjx]; exact List.getElem_mem hj
      have hx0 := hall x hxm
      have n1 : x.g ≠ (ts.getD k default).g := by
        intro e
        rw [← hget, ← hjx] at e
        exact nodup_ne hng (i := j) (j := k) (by simpa using hj) (by simpa using hk) (by omega) (by simpa using e)
      have n2 : x.h ≠ (ts.getD k default).h := by
        intro e
        rw [← hget, ← hjx] at e
        exact nodup_ne hnh (i := j) (j := k) (by simpa using hj) (by simpa using hk) (by omega) (by simpa using e)
      exact ⟨hx0.1, hx0.2.1, ho _ _ _ hx0.2.2.1 n1 (blk_ne hx0.2.2.1 ht.2.2.2.1 (by decide)), ho _ _ _ hx0.2.2.2.1 (blk_ne hx0.2.2.2.1 ht.2.2.1 (by decide)) n2,
        own_oth hx0.2.2.2.2 ho (own_ne hx0.2.2.2.2 ht.2.2.1 (by decide)) (own_ne hx0.2.2.2.2 ht.2.2.2.1 (by decide))⟩
theorem blk_set2 {w : World} {g h i : Nat} {cs cs' : Array Value} {t t' : TypeId} (hb : Blk w h cs t) (hg : Blk w g cs' t') (hne : t ≠ t') (u : Value) : Blk (w.setCell ⟨g, i, none⟩ u) h cs t := blk_far hb (p := ⟨g, i, none⟩) (blk_ne hb hg hne) u
theorem own_set2 {w : World} {base : Nat} {e t : TypeId} {size n g i : Nat} {v : Value} {xs : List Value} {cs : Array Value} (h : w.ownsRow base e size v n xs) (hg : Blk w g cs t) (hne : e ≠ t) (u : Value) : (w.setCell ⟨g, i, none⟩ u).ownsRow base e size v n xs := own_setCell h (p := ⟨g, i, none⟩) (own_ne h hg hne) u
theorem oth_set {w : World} (a b i : Nat) (u : Value) : Oth a b w (w.setCell ⟨a, i, none⟩ u) := fun g cs t hg h1 _ => blk_far hg h1 u
theorem oth_set' {w : World} (a b i : Nat) (u : Value) : Oth a b w (w.setCell ⟨b, i, none⟩ u) := fun g cs t hg _ h2 => blk_far hg h2 u
theorem Oth.trans {a b : Nat} {w w1 w2 : World} (h : Oth a b w w1) (k : Oth a b w1 w2) : Oth a b w w2 := fun g cs t hg h1 h2 => k g cs t (h g cs t hg h1 h2) h1 h2
theorem oth_below {a b : Nat} {w w' : World} (h : Below w.heap.size w w') : Oth a b w w' := fun g cs t hg _ _ => blk_below hg h
set_option maxRecDepth 100000 in
theorem wake_set {w : World} {B p : Nat} {ts : List Tk} (h : PoolAt w B p ts) (k : Nat) (hk : k < ts.length) :
    Calls Try.prog 16 #[.pointer (some ⟨p, 0, none⟩), .int .i64 ((k + 1 : Nat) : Int)] w fun e w' => e = .returned (.tuple #[]) ∧ PoolAt w' B p (ts.set k {ts.getD k default with st := if (ts.getD k default).st = 1 then 0 else (ts.getD k default).st}) ∧ Below B w w' ∧ Kp w w' := by
  have HF := Aside0.mk (find_some h k hk)
  obtain ⟨g, c2, _, _, ht⟩ := pool_get h hk
  have HT := Aside0.mk ht
  have HP := Aside0.mk (And.intro h hk)
  have hself : ts.set k (ts.getD k default) = ts := by
    apply List.ext_getElem?
    intro i
    rw [List.getElem?_set]
    split
    · rename_i hi
      subst hi
      rw [List.getElem?_eq_getElem hk, List.getD_eq_getElem?_getD, List.getElem?_eq_getElem hk]
      rfl
    · rfl
  have HSELF := Aside0.mk hself
  obtain ⟨t, htt⟩ : ∃ t, ts.getD k default = t := ⟨_, rfl⟩
  have HTT := Aside0.mk htt
  rw [htt] at HF HT HSELF ⊢
  have c1 : w.cell? ⟨t.g, 1, none⟩ = some (.int .i64 t.st) := blk_cell HT.out.2.2.1 1
  have f1 := blk_frozen HT.out.2.2.1 1
  obtain ⟨id, hid⟩ : ∃ id : Int, ((k + 1 : Nat) : Int) = id := ⟨_, rfl⟩
  rw [hid] at HF ⊢
  have HG : Aside0 (B ≤ t.g) := ⟨HT.out.1⟩
  clear h hk ht htt hid hself
  obtain ⟨tg, htg⟩ : ∃ tg, t.g = tg := ⟨_, rfl⟩
  obtain ⟨st, hst⟩ : ∃ st, t.st = st := ⟨_, rfl⟩
  rw [hst] at c1 ⊢
  rw [htg] at c1 f1 HF
  have HX := Aside0.mk (And.intro htg hst)
  clear htg hst
  go_enter Try.func16, Try.ntmps16
  go_wp2_with fail
  refine HF.out.mono ?_
  rintro e_ w1 ⟨rfl, rfl⟩
  by_cases h1 : st = 1
  · subst h1
    go_wp2
    go_end0
    obtain ⟨e1, e2⟩ := HX.out
    subst e1
    refine ⟨rfl, ?_, below_set HG.out _, oth_kp (oth_set t.g t.h 1 _) HT.out.2.2.1 HT.out.2.2.2.1⟩
    refine pool_set HP.out.1 HP.out.2 _ (by rw [HTT.out]) (by rw [HTT.out]) (by rw [HTT.out]) (by rw [HTT.out]) (by rw [HTT.out]; exact oth_set t.g t.h 1 _) ?_ ?_
    · exact blk_set HT.out.2.2.1 1 _
    · exact blk_set2 HT.out.2.2.2.1 HT.out.2.2.1 (by decide) _
  · go_wp2
    go_end0
    obtain ⟨e1, e2⟩ := HX.out
    refine ⟨rfl, ?_, Below.refl _ _, Kp.refl _⟩
    rw [← e2]
    have := HP.out.1
    rw [← HSELF.out] at this
    exact this
set_option maxRecDepth 100000 in
theorem wake_none {w : World} {B p : Nat} {ts : List Tk} (h : PoolAt w B p ts) (id : Int) (hk : id < 1 ∨ (ts.length : Int) < id) :
    Calls Try.prog 16 #[.pointer (some ⟨p, 0, none⟩), .int .i64 id] w fun e w' => e = .returned (.tuple #[]) ∧ w = w' := by
  have HF := Aside0.mk (find_none h id hk)
  clear h
  go_enter Try.func16, Try.ntmps16
  go_wp2_with fail
  refine HF.out.mono ?_
  rintro e_ w1 ⟨rfl, rfl⟩
  go_wp2
  go_end0
  exact ⟨rfl, rfl⟩
theorem wake_nil (id : Int) (w : World) :
    Calls Try.prog 16 #[.pointer none, .int .i64 id] w fun e w' => e = .returned (.tuple #[]) ∧ w = w' := by
  have HF := Aside0.mk (find_nil id w)
  go_enter Try.func16, Try.ntmps16
  go_wp2_with fail
  refine HF.out.mono ?_
  rintro e_ w1 ⟨rfl, rfl⟩
  go_wp2
  go_end0
  exact ⟨rfl, rfl⟩
theorem step_none {w : World} {B p : Nat} {ts : List Tk} (h : PoolAt w B p ts) (id : Int) (hk : id < 1 ∨ (ts.length : Int) < id) : Calls Try.prog 15 #[.pointer (some ⟨p, 0, none⟩), .int .i64 id] w fun e w' => e = .returned (.bool false) ∧ w = w' := by
  have HF := Aside0.mk (find_none h id hk)
  clear h
  go_enter Try.func15, Try.ntmps15
  go_wp2_with fail
  refine HF.out.mono ?_
  rintro e_ w1 ⟨rfl, rfl⟩
  go_wp2
  go_ret
  exact ⟨rfl, rfl⟩
theorem step_nil (id : Int) (w : World) : Calls Try.prog 15 #[.pointer none, .int .i64 id] w fun e w' => e = .returned (.bool false) ∧ w = w' := by
  have HF := Aside0.mk (find_nil id w)
  skip
  go_enter Try.func15, Try.ntmps15
  go_wp2_with fail
  refine HF.out.mono ?_
  rintro e_ w1 ⟨rfl, rfl⟩
  go_wp2
  go_ret
  exact ⟨rfl, rfl⟩

set_option maxRecDepth 100000 in
theorem step_idle {w : World} {B p : Nat} {ts : List Tk} (h : PoolAt w B p ts) (k : Nat) (hk : k < ts.length) (hst : (ts.getD k default).st ≠ 0) :
    Calls Try.prog 15 #[.pointer (some ⟨p, 0, none⟩), .int .i64 ((k + 1 : Nat) : Int)] w fun e w' => e = .returned (.bool false) ∧ w = w' := by
  have HF := Aside0.mk (find_some h k hk)
  obtain ⟨g, c2, _, _, ht⟩ := pool_get h hk
  generalize ts.getD k default = t at *
  have c1 : w.cell? ⟨t.g, 1, none⟩ = some (.int .i64 t.st) := blk_cell ht.2.2.1 1
  generalize ((k + 1 : Nat) : Int) = id at *
  clear h hk ht
  generalize t.st = st at *
  generalize t.g = tg at *
  have b1 : (st != 0) = true := bne_iff_ne.2 hst
  go_enter Try.func15, Try.ntmps15
  go_wp2_with fail
  refine HF.out.mono ?_
  rintro e_ w1 ⟨rfl, rfl⟩
  go_wp2
  go_ret
  exact ⟨rfl, rfl⟩
set_option maxRecDepth 100000 in
theorem step_go {w : World} {B p : Nat} {ts : List Tk} (h : PoolAt w B p ts) (k : Nat) (hk : k < ts.length) (hst : (ts.getD k default).st = 0) (hn : (ts.getD k default).n ≤ 1000000) (hsp : (ts.getD k default).sp ≤ 1000000) :
    Calls Try.prog 15 #[.pointer (some ⟨p, 0, none⟩), .int .i64 ((k + 1 : Nat) : Int)] w fun e w' => e = .returned (.bool true) ∧ PoolAt w' B p (ts.set k {ts.getD k default with n := (ts.getD k default).n + 1, st := stepV (ts.getD k default).L (ts.getD k default).n, sp := (ts.getD k default).sp + 1}) ∧ Below B w w' ∧ Kp w w' := by
  have HF := Aside0.mk (find_some h k hk)
  obtain ⟨g, c2, _, _, ht⟩ := pool_get h hk
  have HT := Aside0.mk ht
  have HP := Aside0.mk (And.intro h hk)
  obtain ⟨t, htt⟩ : ∃ t, ts.getD k default = t := ⟨_, rfl⟩
  have HTT := Aside0.mk htt
  rw [htt] at HF HT hst hn hsp ⊢
  obtain ⟨id, hid⟩ : ∃ id : Int, ((k + 1 : Nat) : Int) = id := ⟨_, rfl⟩
  rw [hid] at HF ⊢
  have c1 : w.cell? ⟨t.g, 1, none⟩ = some (.int .i64 t.st) := blk_cell HT.out.2.2.1 1
  have c2 : w.cell? ⟨t.g, 2, none⟩ = some (.int .i64 (t.sp : Int)) := blk_cell HT.out.2.2.1 2
  have f2 := blk_frozen HT.out.2.2.1 2
  rw [hst] at c1
  have kw : IntKind.i64.wrap ((t.sp : Int) + 1) = ((t.sp + 1 : Nat) : Int) := by rw [IntKind.wrap_i64]; omega
  obtain ⟨w1, hw1⟩ : ∃ w1, w.setCell ⟨t.g, 2, none⟩ (.int .i64 ((t.sp + 1 : Nat) : Int)) = w1 := ⟨_, rfl⟩
  have hb1 : Blk w1 t.g #[.iface 30 (.pointer (some ⟨t.h, 0, none⟩)), .int .i64 t.st, .int .i64 ((t.sp + 1 : Nat) : Int)] 67 := by rw [← hw1]; exact blk_set HT.out.2.2.1 2 _
  have hh1 : Blk w1 t.h #[t.v, .int .i64 (t.n : Int)] 32 := by rw [← hw1]; exact blk_set2 HT.out.2.2.2.1 HT.out.2.2.1 (by decide) _
  have ho1 : w1.ownsRow B 3 1 t.v t.L.length (nums .i64 t.L) := by rw [← hw1]; exact own_set2 HT.out.2.2.2.2 HT.out.2.2.1 (by decide) _
  have HX1 : Aside0 (Oth t.g t.h w w1 ∧ Below B w w1) := ⟨by rw [← hw1]; exact oth_set _ _ _ _, by rw [← hw1]; exact below_set HT.out.1 _⟩
  have d0 : w1.cell? ⟨t.g, 0, none⟩ = some (.iface 30 (.pointer (some ⟨t.h, 0, none⟩))) := blk_cell hb1 0
  have HWS := Aside0.mk (wstep_calls hh1 ho1 hn)
  have HB1 := Aside0.mk (And.intro hb1 (And.intro hh1 ho1))
  have HSZ : Aside0 (w1.heap.size = w.heap.size) := ⟨by rw [← hw1]; simp [World.setCell]⟩
  clear h hk ht htt hid hst hn hsp hb1 hh1 ho1
  obtain ⟨tg, htg⟩ : ∃ tg, t.g = tg := ⟨_, rfl⟩
  obtain ⟨th, hth⟩ : ∃ th, t.h = th := ⟨_, rfl⟩
  obtain ⟨sp, hsp⟩ : ∃ sp, t.sp = sp := ⟨_, rfl⟩
  obtain ⟨sp1, hsp1⟩ : ∃ s, sp + 1 = s := ⟨_, rfl⟩
  rw [htg] at c1 c2 f2 HF d0 hw1
  rw [hth] at d0 HWS
  rw [hsp] at c2 kw hw1
  rw [hsp1] at kw hw1
  have HX := Aside0.mk (And.intro htg (And.intro hth (And.intro hsp hsp1)))
  clear htg hth hsp hsp1
  go_enter Try.func15, Try.ntmps15
  go_wp2_with fail
  refine HF.out.mono ?_
  rintro e_ w2 ⟨rfl, rfl⟩
  have hm : ∀ w : World, (method 200 30 (.pointer (some ⟨th, 0, none⟩)) "Step").run Try.prog w = .ok (57, .pointer (some ⟨th, 0, none⟩)) w := fun _ => by kernel_rfl
  go_wp2_with fail
  refine HWS.out.mono ?_
  rintro e_ w3 ⟨rfl, hb⟩
  obtain ⟨w2, hw2⟩ : ∃ w2, w1.setCell ⟨th, 1, none⟩ (.int .i64 ((t.n + 1 : Nat) : Int)) = w2 := ⟨_, rfl⟩
  rw [hw2] at hb
  have hsz : w2.heap.size = w1.heap.size := by rw [← hw2]; simp [World.setCell]
  rw [← hsz] at hb
  obtain ⟨e1, e2, e3, e4⟩ := HX.out
  have hg2 : Blk w2 t.g #[.iface 30 (.pointer (some ⟨t.h, 0, none⟩)), .int .i64 t.st, .int .i64 ((t.sp + 1 : Nat) : Int)] 67 := by rw [← hw2, ← e2]; exact blk_set2 HB1.out.1 HB1.out.2.1 (by decide) _
  have hh2 : Blk w2 t.h #[t.v, .int .i64 ((t.n + 1 : Nat) : Int)] 32 := by rw [← hw2, ← e2]; exact blk_set HB1.out.2.1 1 _
  have hoth : Oth t.g t.h w w3 := (HX1.out.1.trans (by rw [← hw2, ← e2]; exact oth_set' _ _ _ _)).trans (oth_below hb)
  have hbel : Below B w w3 := (HX1.out.2.trans (by rw [← hw2, ← e2]; exact below_set HT.out.2.1 _)).trans ⟨hb.os, hb.tape, hb.output, hb.size, fun j hj => hb.block j (by have := blk_lt hg2; have := HT.out.1; omega)⟩
  have hg3 := blk_keep hg2 hb
  have hh3 := blk_keep hh2 hb
  have q1 : w3.cell? ⟨t.g, 1, none⟩ = some (.int .i64 t.st) := blk_cell hg3 1
  have q2 := blk_frozen hg3 1
  rw [e1] at q1 q2
  have HF3 := Aside0.mk (And.intro hg3 (And.intro hh3 (And.intro hoth hbel)))
  clear hb hw2 hsz hg2 hh2 hoth hbel hg3 hh3 e1 e2 e3 e4
  go_wp2_with fail
  go_ret
  obtain ⟨e1, e2, e3, e4⟩ := HX.out
  subst e1
  refine ⟨rfl, ?_, HF3.out.2.2.2.trans (below_set HT.out.1 _), oth_kp (HF3.out.2.2.1.trans (oth_set t.g t.h 1 _)) HT.out.2.2.1 HT.out.2.2.2.1⟩
  refine pool_set HP.out.1 HP.out.2 _ (by rw [HTT.out]) (by rw [HTT.out]) (by rw [HTT.out]) (by rw [HTT.out]) (by rw [HTT.out]; exact HF3.out.2.2.1.trans (oth_set t.g t.h 1 _)) ?_ ?_
  · exact blk_set HF3.out.1 1 _
  · exact blk_set2 HF3.out.2.1 HF3.out.1 (by decide) _
end Go.Proofs.Ytopclgpimabpcaa.TkC
