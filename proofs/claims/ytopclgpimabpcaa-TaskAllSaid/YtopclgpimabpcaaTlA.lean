/- Contract of tells: the pool tells just what is ready, what is not done, how many steps. -/
import Derived.Test.YtopclgpimabpcaaProg
import Derived.Below
import Derived.Deep.Draws
import Derived.Deep.AppendLies
import Derived.Maps.AppendAt
import Derived.OwnWalk
import Derived.Laws.BytesArg
import Derived.Laws.MakeOwn
import Derived.Laws.OwnMore
import Derived.Deep.OwnRows
import Derived.Tactics
import Derived.Lib.ConvBytes
import Derived.Laws.Slices
import Derived.WalkKit
import Derived.KernelRfl
import Derived.RowKit3
import Derived.Deep.LoopGhost
import Derived.Deep.QuietTactic
import Derived.BigQuiet
import Derived.WideLaws
import Derived.Deep.DeepCutAuto
import Derived.Deep.CutBlock
import Derived.Deep.RegionHeld3
import Derived.Laws.Rows
import Derived.Lib.AppendStr
import Derived.ArgAppend
import Derived.Laws.IdiomCopy
import Derived.OrdersHeld
import Derived.Laws.BitsLemmas
import Derived.RowKit
import Derived.WalkSpells
import Derived.Outline
import Derived.Test.YtopclgpimabpcaaWWords
import Derived.Test.YtopclgpimabpcaaWLast
import Derived.Test.YtopclgpimabpcaaWMore
import Derived.Test.YtopclgpimabpcaaWArr
import Derived.Test.YtopclgpimabpcaaWTab
import Derived.Test.YtopclgpimabpcaaWZeros
import Derived.Test.YtopclgpimabpcaaWRepsOne
import Derived.Test.YtopclgpimabpcaaInA
import Derived.Test.YtopclgpimabpcaaTkE
import Derived.Test.YtopclgpimabpcaaTtP
namespace Go.Proofs.Ytopclgpimabpcaa.TlA
open Go.RowKit Go.Proofs.YtopclgpimabpcaaW.PrintWords Go.Proofs.YtopclgpimabpcaaW.PrintLast Go.Proofs.YtopclgpimabpcaaW.PrintMore Go.Proofs.Ytopclgpimabpcaa.Tk Go.Proofs.Ytopclgpimabpcaa.TkA Go.Proofs.Ytopclgpimabpcaa.TkB Go.Proofs.Ytopclgpimabpcaa.TkC Go.Proofs.Ytopclgpimabpcaa.TkD Go.Proofs.Ytopclgpimabpcaa.TkE Go.Proofs.Ytopclgpimabpcaa.TfWalk Go.Proofs.Ytopclgpimabpcaa.TtP Go.Proofs.Ytopclgpimabpcaa.InA Go.Proofs.Ytopclgpimabpcaa.Mix
set_option linter.unusedSimpArgs false
set_option linter.unusedVariables false
attribute [local go_sem] max2_int min2_int max_two min_two

/-- A row of pointers to blocks. -/
def Kptr : Kd Nat := Kd.scalar (fun g => .pointer (some ⟨g, 0, none⟩)) (fun _ => rfl)
theorem ptr_at {w : World} {A : Option Addr} {n : Nat} {hs : List Nat} (h : Kptr.C w A n hs) (i : Nat) (hi : i < n) : ∃ ad, A = some ad ∧ w.cell? (ad.add i) = some (.pointer (some ⟨hs.getD i 0, 0, none⟩)) := by
  obtain ⟨ad, cs, e1, hs', hk, hcell⟩ := ReadsRow.get_ h 0 (i : Int) (by omega) (by omega)
  rw [Int.toNat_natCast] at hk hcell
  have hk' : cs = [.pointer (some ⟨hs.getD i 0, 0, none⟩)] := hk
  subst hk'
  have := hcell 0 _ rfl
  refine ⟨ad, e1, ?_⟩
  have hz : Kptr.sz = 1 := rfl
  rw [hz, Nat.mul_one, Nat.add_zero] at this
  exact this
theorem R_oth {w w1 : World} {base : Nat} {v v' : Value} {xs : List Int} (h : Kd.R (Kd.int .i64) 3 w base (fun _ => True) v' xs) (hg : w.grownBy w1 v.ownBlock) (hne : NeRow v v') : Kd.R (Kd.int .i64) 3 w1 base (fun _ => True) v' xs :=
  Kd.R_of_own (own_other (Kd.own_of_R h) hg (ne_other hne)) h.1
theorem thoseF_append (m : Int) : ∀ (a b : List Tk) (i : Nat), thoseF m i (a ++ b) = thoseF m i a ++ thoseF m (i + a.length) b := by
  intro a b
  induction a with
  | nil => intro i; rfl
  | cons t a ih =>
    intro i
    show (if t.st ≤ m then ((i : Int) + 1) :: thoseF m (i + 1) (a ++ b) else thoseF m (i + 1) (a ++ b)) = (if t.st ≤ m then ((i : Int) + 1) :: thoseF m (i + 1) a else thoseF m (i + 1) a) ++ _
    rw [ih, List.length_cons, show i + 1 + a.length = i + (a.length + 1) by omega]
    split <;> rfl
theorem take_tk {ts : List Tk} {k : Nat} (hk : k < ts.length) : ts.take (k + 1) = ts.take k ++ [ts.getD k default] := by
  rw [List.take_add_one, List.getElem?_eq_getElem hk, List.getD_eq_getElem?_getD, List.getElem?_eq_getElem hk]
  rfl
theorem those_snoc {m : Int} {ts : List Tk} {k : Nat} (hk : k < ts.length) : thoseL m (ts.take (k + 1)) = thoseL m (ts.take k) ++ (if (ts.getD k default).st ≤ m then [((k : Int) + 1)] else []) := by
  unfold thoseL
  rw [take_tk hk, thoseF_append, List.length_take, Nat.min_eq_left (by omega), Nat.zero_add]
  congr 1
theorem those_le (m : Int) (ts : List Tk) : (thoseL m ts).length ≤ ts.length := by
  rw [thoseL_len]
  exact List.countP_le_length
theorem map_rd {ts : List Tk} {k : Nat} (hk : k < ts.length) : rd (ts.map Tk.st) (k : Int) = (ts.getD k default).st := by
  unfold rd
  rw [Int.toNat_natCast, List.getD_eq_getElem?_getD, List.getElem?_map, List.getElem?_eq_getElem hk, List.getD_eq_getElem?_getD, List.getElem?_eq_getElem hk]
  rfl
theorem map_h {ts : List Tk} {k : Nat} (hk : k < ts.length) : (ts.map Tk.h).getD k 0 = (ts.getD k default).h := by
  rw [List.getD_eq_getElem?_getD, List.getElem?_map, List.getElem?_eq_getElem hk, List.getD_eq_getElem?_getD, List.getElem?_eq_getElem hk]
  rfl
set_option maxRecDepth 100000 in
set_option maxHeartbeats 1000000 in
theorem tells_calls {w : World} {B p : Nat} {ts : List Tk} (hp : PoolAt w B p ts) (Aw : Option Addr) (cw : Nat) (As : Option Addr) (cs : Nat) (hw : Kptr.C w Aw ts.length (ts.map Tk.h)) (hs : (Kd.int .i64).C w As ts.length (ts.map Tk.st))
    (hn : ∀ t ∈ ts, t.n = t.sp ∧ (t.st = 0 ∨ t.st = 1 ∨ t.st = 2)) (hl : ts.length ≤ 120) :
    Calls Try.prog 17 #[.pointer (some ⟨p, 0, none⟩), .slice Aw ts.length cw, .slice As ts.length cs] w fun e w' => e = .returned (.bool true) ∧ Below w.heap.size w w' := by
  have HP := Aside0.mk hp
  have HW := Aside0.mk hw
  have HS := Aside0.mk hs
  have HN := Aside0.mk hn
  have HL := Aside0.mk hl
  have HB := Aside0.mk (Below.refl w.heap.size w)
  clear hp hw hs hn hl
  go_enter Try.func17, Try.ntmps17
  go_wp2_with fail
  go_loopg [7, 8, 9] ts.length (fun q v7 v8 v9 w' => ∃ k : Nat, v9 = .int .i64 (k : Int) ∧ Aside0 (k + q = ts.length) ∧ Aside0 (Kd.R (Kd.int .i64) 3 w' w.heap.size (fun _ => True) v7 (thoseL 0 (ts.take k))) ∧ Aside0 (Kd.R (Kd.int .i64) 3 w' w.heap.size (fun _ => True) v8 (thoseL 1 (ts.take k))) ∧ Aside0 (NeRow v7 v8) ∧ Aside0 (Below w.heap.size w w'))
  case atStart => exact ⟨0, rfl, ⟨by omega⟩, ⟨Kd.R_nil _ _ _ _ _⟩, ⟨Kd.R_nil _ _ _ _ _⟩, ⟨ne_nil _⟩, HB⟩
  case round =>
    clear HB
    obtain ⟨k, rfl, HI, HO7, HO8, HNE, HB⟩ := hrel
    have hi := HI.out
    have hll := HL.out
    by_cases hlt : k < ts.length
    · obtain ⟨f, rfl⟩ : ∃ f, gk = f + 1 := ⟨gk - 1, by omega⟩
      have k0 : ((k : Int) < (ts.length : Int)) = True := eq_true (by omega)
      have kw : IntKind.i64.wrap ((k : Int) + 1) = ((k + 1 : Nat) : Int) := by rw [IntKind.wrap_i64]; omega
      obtain ⟨ad, e_, _⟩ := Kd.at_int HS.out (k : Int) (by omega) (by omega)
      subst e_
      have hcs := int_at HS.out HB.out k hlt
      have HCSX : ∀ wx : World, Below w.heap.size w wx → wx.cell? (ad.add k) = some (.int .i64 (rd (ts.map Tk.st) (k : Int))) := fun wx h => int_at HS.out h k hlt
      rw [map_rd hlt] at hcs HCSX
      obtain ⟨adw, e_, hcw⟩ := ptr_at HW.out k hlt
      subst e_
      rw [map_h hlt] at hcw
      have hmem : ts.getD k default ∈ ts := by rw [List.getD_eq_getElem?_getD, List.getElem?_eq_getElem hlt]; exact List.getElem_mem hlt
      obtain ⟨hnn, hst⟩ := HN.out _ hmem
      obtain ⟨_, _, _, _, htk⟩ := pool_get HP.out hlt
      have hcn : w.cell? ⟨(ts.getD k default).h, 1, none⟩ = some (.int .i64 ((ts.getD k default).n : Int)) := blk_cell htk.2.2.2.1 1
      rw [hnn] at hcn
      have HSS : Aside0 (∀ wx, Below w.heap.size w wx → Calls Try.prog 20 #[.pointer (some ⟨p, 0, none⟩), .int .i64 ((k + 1 : Nat) : Int)] wx fun e w' => e = .returned (.int .i64 ((ts.getD k default).sp : Int)) ∧ wx = w') := ⟨fun wx hx => steps_some (pool_below HP.out hx) k hlt⟩
      have h0 := those_snoc (m := 0) hlt
      have h1 := those_snoc (m := 1) hlt
      have hl0 := those_le 0 (ts.take k)
      have hl1 := those_le 1 (ts.take k)
      rw [List.length_take] at hl0 hl1
      obtain ⟨k1, hk1⟩ : ∃ k1, k + 1 = k1 := ⟨_, rfl⟩
      have hk1i : ((k : Int) + 1) = (k1 : Int) := by omega
      rw [hk1] at HSS kw
      rw [hk1i] at h0 h1
      have HKK := Aside0.mk hk1
      generalize (ts.getD k default).sp = sp at *
      generalize (ts.getD k default).st = st at *
      generalize (ts.getD k default).h = th at *
      have HPC : Aside0 (∀ wx : World, Below w.heap.size w wx → wx.cell? (adw.add k) = some (.pointer (some ⟨th, 0, none⟩))) := ⟨fun wx h => pw_cell_below h hcw⟩
      have HNC : Aside0 (∀ wx : World, Below w.heap.size w wx → wx.cell? ⟨th, 1, none⟩ = some (.int .i64 (sp : Int))) := ⟨fun wx h => pw_cell_below h hcn⟩
      have HCS : Aside0 (∀ wx : World, Below w.heap.size w wx → wx.cell? (ad.add k) = some (.int .i64 st)) := ⟨HCSX⟩
      have HLL : Aside0 ((thoseL 0 (ts.take k)).length ≤ 120 ∧ (thoseL 1 (ts.take k)).length ≤ 120) := ⟨by omega⟩
      clear HCSX hmem hnn htk hcn hcw hi hll hk1 hk1i hl0 hl1
      rcases hst with rfl | rfl | rfl
      · have HT0 : Aside0 (thoseL 0 (ts.take (k + 1)) = thoseL 0 (ts.take k) ++ [(k1 : Int)]) := ⟨h0⟩
        have HT1 : Aside0 (thoseL 1 (ts.take (k + 1)) = thoseL 1 (ts.take k) ++ [(k1 : Int)]) := ⟨h1⟩
        clear h0 h1
        generalize thoseL 0 (ts.take k) = l0 at *
        generalize thoseL 1 (ts.take k) = l1 at *
        go_wp2_with (first | ((with_reducible refine gate_builtin (b := .append) (xs := #[.tmp 21, .tmp 24]) rfl ?_); at_builtin; go_must (refine Kd.R_append (Kd.int .i64) (w0 := w) (w.heap.size) rfl (.tmp 21) (.tmp 24) 27 3 (.int .i64 0) 8 rfl Try.underlying27 info3 rfl (by decide) (by omega) u7 l0 (k1 : Int) [.int .i64 (k1 : Int)] (fun _ => True) (fun _ => False) rfl rfl rfl (fun _ hk => hk.elim) (fun _ _ => trivial) HO7.out HB.out HB.out.size (by have := HLL.out; omega) ?_; intro v7a w4 ho hb hg hat; have HO7a := Aside0.mk ho; have HBa := Aside0.mk hb; have hcs4 := HCS.out _ hb; have HO8a := Aside0.mk (R_oth HO8.out hg HNE.out); have HNEa := Aside0.mk (ne_append HNE.out hat (Kd.own_of_R HO8.out)); clear ho hb hg hat)) | ((with_reducible refine gate_builtin (b := .append) (xs := #[.tmp 31, .tmp 34]) rfl ?_); at_builtin; go_must (refine Kd.R_append (Kd.int .i64) (w0 := w) (w.heap.size) rfl (.tmp 31) (.tmp 34) 27 3 (.int .i64 0) 8 rfl Try.underlying27 info3 rfl (by decide) (by omega) u8 l1 (k1 : Int) [.int .i64 (k1 : Int)] (fun _ => True) (fun _ => False) rfl rfl rfl (fun _ hk => hk.elim) (fun _ _ => trivial) HO8a.out HBa.out HBa.out.size (by have := HLL.out; omega) ?_; intro v8b w5 ho hb hg hat; have HO8b := Aside0.mk ho; have HBb := Aside0.mk hb; have HO7b := Aside0.mk (R_oth HO7a.out hg (ne_symm HNEa.out)); have HNEb := Aside0.mk (ne_append' HNEa.out hat (Kd.own_of_R HO7a.out)); clear ho hb hg hat)))
        go_wp2_with fail
        refine wp_region_mix (fun w_ w1_ => Below w_.heap.size w_ w1_) [(false, 0), (false, 1), (false, 2), (false, 4), (false, 5), (false, 6), (false, 7), (false, 8), (false, 9), (false, 10), (true, 3), (false, 11)] (by kernel_rfl) (by kernel_rfl) (fun _ => Below.refl _ _) (fun h h' => below_step h h') (fun wd hhp_ hbw_ => ?_)
        have HZw := Aside0.mk hbw_
        have HZ0 := Aside0.mk (below_step HBb.out hbw_)
        have HO7z := Aside0.mk (Kd.R_below HO7b.out hbw_)
        have HO8z := Aside0.mk (Kd.R_below HO8b.out hbw_)
        have hp0 : ∀ wx : World, Below wd.heap.size wd wx → wx.cell? (adw.add k) = some (.pointer (some ⟨th, 0, none⟩)) := fun wx h => HPC.out wx (below_step HZ0.out h)
        have hn0 : ∀ wx : World, Below wd.heap.size wd wx → wx.cell? ⟨th, 1, none⟩ = some (.int .i64 (sp : Int)) := fun wx h => HNC.out wx (below_step HZ0.out h)
        clear hhp_ hbw_
        (refine mix_read (o := { dst := some 36, op := Op.move (Operand.tmp 0), type := 24, pos := "law.go:125", after := #[], guard := none }) rfl (by first | rfl | (simp [Region.wanted, yielded]; done)) (by intro w_ hE_; (try dsimp only at hE_); first | (go_simp; done) | (go_simp; rfl)) ?_)
        (try simp only [Act.put, List.setIfInBounds_toArray, List.set_cons_zero, List.set_cons_succ])
        (refine mix_read (o := { dst := some 37, op := Op.move (Operand.tmp 9), type := 3, pos := "law.go:125", after := #[], guard := none }) rfl (by first | rfl | (simp [Region.wanted, yielded]; done)) (by intro w_ hE_; (try dsimp only at hE_); first | (go_simp; done) | (go_simp; rfl)) ?_)
        (try simp only [Act.put, List.setIfInBounds_toArray, List.set_cons_zero, List.set_cons_succ])
        (refine mix_read (o := { dst := some 38, op := Op.binOp BinOp.add 3 (Operand.tmp 37) (Operand.const (Value.int IntKind.i64 1)) 3, type := 3, pos := "law.go:125", after := #[{ on := 1, ground := Ground.data }], guard := none }) rfl (by first | rfl | (simp [Region.wanted, yielded]; done)) (by intro w_ hE_; (try dsimp only at hE_); first | (go_simp; done) | (go_simp; rfl)) ?_)
        (try simp only [Act.put, List.setIfInBounds_toArray, List.set_cons_zero, List.set_cons_succ])
        (refine mix_read (o := { dst := some 40, op := Op.move (Operand.tmp 1), type := 26, pos := "law.go:125", after := #[], guard := none }) rfl (by first | rfl | (simp [Region.wanted, yielded]; done)) (by intro w_ hE_; (try dsimp only at hE_); first | (go_simp; done) | (go_simp; rfl)) ?_)
        (try simp only [Act.put, List.setIfInBounds_toArray, List.set_cons_zero, List.set_cons_succ])
        (refine mix_read (o := { dst := some 41, op := Op.move (Operand.tmp 9), type := 3, pos := "law.go:125", after := #[], guard := none }) rfl (by first | rfl | (simp [Region.wanted, yielded]; done)) (by intro w_ hE_; (try dsimp only at hE_); first | (go_simp; done) | (go_simp; rfl)) ?_)
        (try simp only [Act.put, List.setIfInBounds_toArray, List.set_cons_zero, List.set_cons_succ])
        (refine mix_read (o := { dst := some 42, op := Op.indexAddr 26 (Operand.tmp 40) (Operand.tmp 41), type := 0, pos := "law.go:125", after := #[{ on := 4, ground := Ground.data }, { on := 5, ground := Ground.data }], guard := none }) rfl (by first | rfl | (simp [Region.wanted, yielded]; done)) (by intro w_ hE_; (try dsimp only at hE_); first | (go_simp; done) | (go_simp; rfl)) ?_)
        (try simp only [Act.put, List.setIfInBounds_toArray, List.set_cons_zero, List.set_cons_succ])
        (refine mix_read (o := { dst := some 43, op := Op.load 30 (Operand.tmp 42), type := 30, pos := "law.go:125", after := #[{ on := 6, ground := Ground.data }], guard := none }) rfl (by first | rfl | (simp [Region.wanted, yielded]; done)) (by intro w_ hE_; (try dsimp only at hE_); first | (go_simp; done) | (go_simp; rfl)) ?_)
        (try simp only [Act.put, List.setIfInBounds_toArray, List.set_cons_zero, List.set_cons_succ])
        (refine mix_read (o := { dst := some 44, op := Op.nilCheck (Operand.tmp 43), type := 0, pos := "law.go:125", after := #[{ on := 7, ground := Ground.data }], guard := none }) rfl (by first | rfl | (simp [Region.wanted, yielded]; done)) (by intro w_ hE_; (try dsimp only at hE_); first | (go_simp; done) | (go_simp; rfl)) ?_)
        (try simp only [Act.put, List.setIfInBounds_toArray, List.set_cons_zero, List.set_cons_succ])
        (refine mix_read (o := { dst := some 45, op := Op.fieldAddr 32 (Operand.tmp 44) 1, type := 0, pos := "law.go:125", after := #[{ on := 8, ground := Ground.data }], guard := none }) rfl (by first | rfl | (simp [Region.wanted, yielded]; done)) (by intro w_ hE_; (try dsimp only at hE_); first | (go_simp; done) | (go_simp; rfl)) ?_)
        (try simp only [Act.put, List.setIfInBounds_toArray, List.set_cons_zero, List.set_cons_succ])
        (refine mix_read (o := { dst := some 46, op := Op.load 3 (Operand.tmp 45), type := 3, pos := "law.go:125", after := #[{ on := 9, ground := Ground.data }], guard := none }) rfl (by first | rfl | (simp [Region.wanted, yielded]; done)) (by intro w_ hE_; (try dsimp only at hE_); first | (go_simp; done) | (go_simp; rfl)) ?_)
        (try simp only [Act.put, List.setIfInBounds_toArray, List.set_cons_zero, List.set_cons_succ])
        refine mix_call (o := { dst := some 39, op := Op.call { callee := Callee.value (Operand.func 20), args := #[Operand.tmp 36, Operand.tmp 38], argTypes := #[24, 3] }, type := 3, pos := "law.go:125", after := #[{ on := 0, ground := Ground.data }, { on := 2, ground := Ground.data }], guard := none }) rfl (by first | rfl | (simp [Region.wanted, yielded]; done)) (by first | (go_simp; done) | (go_simp; exact ⟨rfl, rfl⟩) | (go_simp; rfl)) ?_
        refine (HSS.out _ HZ0.out).mono ?_
        rintro e_ x1 ⟨rfl, rfl⟩
        refine ⟨_, rfl, Below.refl _ _, ?_⟩
        (try simp only [Act.put, List.setIfInBounds_toArray, List.set_cons_zero, List.set_cons_succ])
        (refine mix_read (o := { dst := some 47, op := Op.binOp BinOp.neq 3 (Operand.tmp 39) (Operand.tmp 46) 3, type := 4, pos := "law.go:125", after := #[{ on := 3, ground := Ground.data }, { on := 10, ground := Ground.data }], guard := none }) rfl (by first | rfl | (simp [Region.wanted, yielded]; done)) (by intro w_ hE_; (try dsimp only at hE_); first | (go_simp; done) | (go_simp; rfl)) ?_)
        (try simp only [Act.put, List.setIfInBounds_toArray, List.set_cons_zero, List.set_cons_succ])
        refine mix_nil ?_
        go_wp2_with fail
        go_roundg f
        case measure => omega
        case rel => exact ⟨k + 1, by have := HKK.out; simp; omega, ⟨by have := HI.out; omega⟩, ⟨by rw [HT0.out]; exact HO7z.out⟩, ⟨by rw [HT1.out]; exact HO8z.out⟩, HNEb, HZ0⟩
      · have HT0 : Aside0 (thoseL 0 (ts.take (k + 1)) = thoseL 0 (ts.take k)) := ⟨by rw [h0]; simp⟩
        have HT1 : Aside0 (thoseL 1 (ts.take (k + 1)) = thoseL 1 (ts.take k) ++ [(k1 : Int)]) := ⟨h1⟩
        clear h0 h1
        generalize thoseL 0 (ts.take k) = l0 at *
        generalize thoseL 1 (ts.take k) = l1 at *
        go_wp2_with ((with_reducible refine gate_builtin (b := .append) (xs := #[.tmp 31, .tmp 34]) rfl ?_); at_builtin; go_must (refine Kd.R_append (Kd.int .i64) (w0 := w) (w.heap.size) rfl (.tmp 31) (.tmp 34) 27 3 (.int .i64 0) 8 rfl Try.underlying27 info3 rfl (by decide) (by omega) u8 l1 (k1 : Int) [.int .i64 (k1 : Int)] (fun _ => True) (fun _ => False) rfl rfl rfl (fun _ hk => hk.elim) (fun _ _ => trivial) HO8.out HB.out HB.out.size (by have := HLL.out; omega) ?_; intro v8b w5 ho hb hg hat; have HO8b := Aside0.mk ho; have HBb := Aside0.mk hb; have HO7b := Aside0.mk (R_oth HO7.out hg (ne_symm HNE.out)); have HNEb := Aside0.mk (ne_append' HNE.out hat (Kd.own_of_R HO7.out)); clear ho hb hg hat))
        go_wp2_with fail
        refine wp_region_mix (fun w_ w1_ => Below w_.heap.size w_ w1_) [(false, 0), (false, 1), (false, 2), (false, 4), (false, 5), (false, 6), (false, 7), (false, 8), (false, 9), (false, 10), (true, 3), (false, 11)] (by kernel_rfl) (by kernel_rfl) (fun _ => Below.refl _ _) (fun h h' => below_step h h') (fun wd hhp_ hbw_ => ?_)
        have HZw := Aside0.mk hbw_
        have HZ0 := Aside0.mk (below_step HBb.out hbw_)
        have HO7z := Aside0.mk (Kd.R_below HO7b.out hbw_)
        have HO8z := Aside0.mk (Kd.R_below HO8b.out hbw_)
        have hp0 : ∀ wx : World, Below wd.heap.size wd wx → wx.cell? (adw.add k) = some (.pointer (some ⟨th, 0, none⟩)) := fun wx h => HPC.out wx (below_step HZ0.out h)
        have hn0 : ∀ wx : World, Below wd.heap.size wd wx → wx.cell? ⟨th, 1, none⟩ = some (.int .i64 (sp : Int)) := fun wx h => HNC.out wx (below_step HZ0.out h)
        clear hhp_ hbw_
        (refine mix_read (o := { dst := some 36, op := Op.move (Operand.tmp 0), type := 24, pos := "law.go:125", after := #[], guard := none }) rfl (by first | rfl | (simp [Region.wanted, yielded]; done)) (by intro w_ hE_; (try dsimp only at hE_); first | (go_simp; done) | (go_simp; rfl)) ?_)
        (try simp only [Act.put, List.setIfInBounds_toArray, List.set_cons_zero, List.set_cons_succ])
        (refine mix_read (o := { dst := some 37, op := Op.move (Operand.tmp 9), type := 3, pos := "law.go:125", after := #[], guard := none }) rfl (by first | rfl | (simp [Region.wanted, yielded]; done)) (by intro w_ hE_; (try dsimp only at hE_); first | (go_simp; done) | (go_simp; rfl)) ?_)
        (try simp only [Act.put, List.setIfInBounds_toArray, List.set_cons_zero, List.set_cons_succ])
        (refine mix_read (o := { dst := some 38, op := Op.binOp BinOp.add 3 (Operand.tmp 37) (Operand.const (Value.int IntKind.i64 1)) 3, type := 3, pos := "law.go:125", after := #[{ on := 1, ground := Ground.data }], guard := none }) rfl (by first | rfl | (simp [Region.wanted, yielded]; done)) (by intro w_ hE_; (try dsimp only at hE_); first | (go_simp; done) | (go_simp; rfl)) ?_)
        (try simp only [Act.put, List.setIfInBounds_toArray, List.set_cons_zero, List.set_cons_succ])
        (refine mix_read (o := { dst := some 40, op := Op.move (Operand.tmp 1), type := 26, pos := "law.go:125", after := #[], guard := none }) rfl (by first | rfl | (simp [Region.wanted, yielded]; done)) (by intro w_ hE_; (try dsimp only at hE_); first | (go_simp; done) | (go_simp; rfl)) ?_)
        (try simp only [Act.put, List.setIfInBounds_toArray, List.set_cons_zero, List.set_cons_succ])
        (refine mix_read (o := { dst := some 41, op := Op.move (Operand.tmp 9), type := 3, pos := "law.go:125", after := #[], guard := none }) rfl (by first | rfl | (simp [Region.wanted, yielded]; done)) (by intro w_ hE_; (try dsimp only at hE_); first | (go_simp; done) | (go_simp; rfl)) ?_)
        (try simp only [Act.put, List.setIfInBounds_toArray, List.set_cons_zero, List.set_cons_succ])
        (refine mix_read (o := { dst := some 42, op := Op.indexAddr 26 (Operand.tmp 40) (Operand.tmp 41), type := 0, pos := "law.go:125", after := #[{ on := 4, ground := Ground.data }, { on := 5, ground := Ground.data }], guard := none }) rfl (by first | rfl | (simp [Region.wanted, yielded]; done)) (by intro w_ hE_; (try dsimp only at hE_); first | (go_simp; done) | (go_simp; rfl)) ?_)
        (try simp only [Act.put, List.setIfInBounds_toArray, List.set_cons_zero, List.set_cons_succ])
        (refine mix_read (o := { dst := some 43, op := Op.load 30 (Operand.tmp 42), type := 30, pos := "law.go:125", after := #[{ on := 6, ground := Ground.data }], guard := none }) rfl (by first | rfl | (simp [Region.wanted, yielded]; done)) (by intro w_ hE_; (try dsimp only at hE_); first | (go_simp; done) | (go_simp; rfl)) ?_)
        (try simp only [Act.put, List.setIfInBounds_toArray, List.set_cons_zero, List.set_cons_succ])
        (refine mix_read (o := { dst := some 44, op := Op.nilCheck (Operand.tmp 43), type := 0, pos := "law.go:125", after := #[{ on := 7, ground := Ground.data }], guard := none }) rfl (by first | rfl | (simp [Region.wanted, yielded]; done)) (by intro w_ hE_; (try dsimp only at hE_); first | (go_simp; done) | (go_simp; rfl)) ?_)
        (try simp only [Act.put, List.setIfInBounds_toArray, List.set_cons_zero, List.set_cons_succ])
        (refine mix_read (o := { dst := some 45, op := Op.fieldAddr 32 (Operand.tmp 44) 1, type := 0, pos := "law.go:125", after := #[{ on := 8, ground := Ground.data }], guard := none }) rfl (by first | rfl | (simp [Region.wanted, yielded]; done)) (by intro w_ hE_; (try dsimp only at hE_); first | (go_simp; done) | (go_simp; rfl)) ?_)
        (try simp only [Act.put, List.setIfInBounds_toArray, List.set_cons_zero, List.set_cons_succ])
        (refine mix_read (o := { dst := some 46, op := Op.load 3 (Operand.tmp 45), type := 3, pos := "law.go:125", after := #[{ on := 9, ground := Ground.data }], guard := none }) rfl (by first | rfl | (simp [Region.wanted, yielded]; done)) (by intro w_ hE_; (try dsimp only at hE_); first | (go_simp; done) | (go_simp; rfl)) ?_)
        (try simp only [Act.put, List.setIfInBounds_toArray, List.set_cons_zero, List.set_cons_succ])
        refine mix_call (o := { dst := some 39, op := Op.call { callee := Callee.value (Operand.func 20), args := #[Operand.tmp 36, Operand.tmp 38], argTypes := #[24, 3] }, type := 3, pos := "law.go:125", after := #[{ on := 0, ground := Ground.data }, { on := 2, ground := Ground.data }], guard := none }) rfl (by first | rfl | (simp [Region.wanted, yielded]; done)) (by first | (go_simp; done) | (go_simp; exact ⟨rfl, rfl⟩) | (go_simp; rfl)) ?_
        refine (HSS.out _ HZ0.out).mono ?_
        rintro e_ x1 ⟨rfl, rfl⟩
        refine ⟨_, rfl, Below.refl _ _, ?_⟩
        (try simp only [Act.put, List.setIfInBounds_toArray, List.set_cons_zero, List.set_cons_succ])
        (refine mix_read (o := { dst := some 47, op := Op.binOp BinOp.neq 3 (Operand.tmp 39) (Operand.tmp 46) 3, type := 4, pos := "law.go:125", after := #[{ on := 3, ground := Ground.data }, { on := 10, ground := Ground.data }], guard := none }) rfl (by first | rfl | (simp [Region.wanted, yielded]; done)) (by intro w_ hE_; (try dsimp only at hE_); first | (go_simp; done) | (go_simp; rfl)) ?_)
        (try simp only [Act.put, List.setIfInBounds_toArray, List.set_cons_zero, List.set_cons_succ])
        refine mix_nil ?_
        go_wp2_with fail
        go_roundg f
        case measure => omega
        case rel => exact ⟨k + 1, by have := HKK.out; simp; omega, ⟨by have := HI.out; omega⟩, ⟨by rw [HT0.out]; exact HO7z.out⟩, ⟨by rw [HT1.out]; exact HO8z.out⟩, HNEb, HZ0⟩
      · have HT0 : Aside0 (thoseL 0 (ts.take (k + 1)) = thoseL 0 (ts.take k)) := ⟨by rw [h0]; simp⟩
        have HT1 : Aside0 (thoseL 1 (ts.take (k + 1)) = thoseL 1 (ts.take k)) := ⟨by rw [h1]; simp⟩
        clear h0 h1
        generalize thoseL 0 (ts.take k) = l0 at *
        generalize thoseL 1 (ts.take k) = l1 at *
        go_wp2_with fail
        refine wp_region_mix (fun w_ w1_ => Below w_.heap.size w_ w1_) [(false, 0), (false, 1), (false, 2), (false, 4), (false, 5), (false, 6), (false, 7), (false, 8), (false, 9), (false, 10), (true, 3), (false, 11)] (by kernel_rfl) (by kernel_rfl) (fun _ => Below.refl _ _) (fun h h' => below_step h h') (fun wd hhp_ hbw_ => ?_)
        have HZw := Aside0.mk hbw_
        have HZ0 := Aside0.mk (below_step HB.out hbw_)
        have HO7z := Aside0.mk (Kd.R_below HO7.out hbw_)
        have HO8z := Aside0.mk (Kd.R_below HO8.out hbw_)
        have hp0 : ∀ wx : World, Below wd.heap.size wd wx → wx.cell? (adw.add k) = some (.pointer (some ⟨th, 0, none⟩)) := fun wx h => HPC.out wx (below_step HZ0.out h)
        have hn0 : ∀ wx : World, Below wd.heap.size wd wx → wx.cell? ⟨th, 1, none⟩ = some (.int .i64 (sp : Int)) := fun wx h => HNC.out wx (below_step HZ0.out h)
        clear hhp_ hbw_
        (refine mix_read (o := { dst := some 36, op := Op.move (Operand.tmp 0), type := 24, pos := "law.go:125", after := #[], guard := none }) rfl (by first | rfl | (simp [Region.wanted, yielded]; done)) (by intro w_ hE_; (try dsimp only at hE_); first | (go_simp; done) | (go_simp; rfl)) ?_)
        (try simp only [Act.put, List.setIfInBounds_toArray, List.set_cons_zero, List.set_cons_succ])
        (refine mix_read (o := { dst := some 37, op := Op.move (Operand.tmp 9), type := 3, pos := "law.go:125", after := #[], guard := none }) rfl (by first | rfl | (simp [Region.wanted, yielded]; done)) (by intro w_ hE_; (try dsimp only at hE_); first | (go_simp; done) | (go_simp; rfl)) ?_)
        (try simp only [Act.put, List.setIfInBounds_toArray, List.set_cons_zero, List.set_cons_succ])
        (refine mix_read (o := { dst := some 38, op := Op.binOp BinOp.add 3 (Operand.tmp 37) (Operand.const (Value.int IntKind.i64 1)) 3, type := 3, pos := "law.go:125", after := #[{ on := 1, ground := Ground.data }], guard := none }) rfl (by first | rfl | (simp [Region.wanted, yielded]; done)) (by intro w_ hE_; (try dsimp only at hE_); first | (go_simp; done) | (go_simp; rfl)) ?_)
        (try simp only [Act.put, List.setIfInBounds_toArray, List.set_cons_zero, List.set_cons_succ])
        (refine mix_read (o := { dst := some 40, op := Op.move (Operand.tmp 1), type := 26, pos := "law.go:125", after := #[], guard := none }) rfl (by first | rfl | (simp [Region.wanted, yielded]; done)) (by intro w_ hE_; (try dsimp only at hE_); first | (go_simp; done) | (go_simp; rfl)) ?_)
        (try simp only [Act.put, List.setIfInBounds_toArray, List.set_cons_zero, List.set_cons_succ])
        (refine mix_read (o := { dst := some 41, op := Op.move (Operand.tmp 9), type := 3, pos := "law.go:125", after := #[], guard := none }) rfl (by first | rfl | (simp [Region.wanted, yielded]; done)) (by intro w_ hE_; (try dsimp only at hE_); first | (go_simp; done) | (go_simp; rfl)) ?_)
        (try simp only [Act.put, List.setIfInBounds_toArray, List.set_cons_zero, List.set_cons_succ])
        (refine mix_read (o := { dst := some 42, op := Op.indexAddr 26 (Operand.tmp 40) (Operand.tmp 41), type := 0, pos := "law.go:125", after := #[{ on := 4, ground := Ground.data }, { on := 5, ground := Ground.data }], guard := none }) rfl (by first | rfl | (simp [Region.wanted, yielded]; done)) (by intro w_ hE_; (try dsimp only at hE_); first | (go_simp; done) | (go_simp; rfl)) ?_)
        (try simp only [Act.put, List.setIfInBounds_toArray, List.set_cons_zero, List.set_cons_succ])
        (refine mix_read (o := { dst := some 43, op := Op.load 30 (Operand.tmp 42), type := 30, pos := "law.go:125", after := #[{ on := 6, ground := Ground.data }], guard := none }) rfl (by first | rfl | (simp [Region.wanted, yielded]; done)) (by intro w_ hE_; (try dsimp only at hE_); first | (go_simp; done) | (go_simp; rfl)) ?_)
        (try simp only [Act.put, List.setIfInBounds_toArray, List.set_cons_zero, List.set_cons_succ])
        (refine mix_read (o := { dst := some 44, op := Op.nilCheck (Operand.tmp 43), type := 0, pos := "law.go:125", after := #[{ on := 7, ground := Ground.data }], guard := none }) rfl (by first | rfl | (simp [Region.wanted, yielded]; done)) (by intro w_ hE_; (try dsimp only at hE_); first | (go_simp; done) | (go_simp; rfl)) ?_)
        (try simp only [Act.put, List.setIfInBounds_toArray, List.set_cons_zero, List.set_cons_succ])
        (refine mix_read (o := { dst := some 45, op := Op.fieldAddr 32 (Operand.tmp 44) 1, type := 0, pos := "law.go:125", after := #[{ on := 8, ground := Ground.data }], guard := none }) rfl (by first | rfl | (simp [Region.wanted, yielded]; done)) (by intro w_ hE_; (try dsimp only at hE_); first | (go_simp; done) | (go_simp; rfl)) ?_)
        (try simp only [Act.put, List.setIfInBounds_toArray, List.set_cons_zero, List.set_cons_succ])
        (refine mix_read (o := { dst := some 46, op := Op.load 3 (Operand.tmp 45), type := 3, pos := "law.go:125", after := #[{ on := 9, ground := Ground.data }], guard := none }) rfl (by first | rfl | (simp [Region.wanted, yielded]; done)) (by intro w_ hE_; (try dsimp only at hE_); first | (go_simp; done) | (go_simp; rfl)) ?_)
        (try simp only [Act.put, List.setIfInBounds_toArray, List.set_cons_zero, List.set_cons_succ])
        refine mix_call (o := { dst := some 39, op := Op.call { callee := Callee.value (Operand.func 20), args := #[Operand.tmp 36, Operand.tmp 38], argTypes := #[24, 3] }, type := 3, pos := "law.go:125", after := #[{ on := 0, ground := Ground.data }, { on := 2, ground := Ground.data }], guard := none }) rfl (by first | rfl | (simp [Region.wanted, yielded]; done)) (by first | (go_simp; done) | (go_simp; exact ⟨rfl, rfl⟩) | (go_simp; rfl)) ?_
        refine (HSS.out _ HZ0.out).mono ?_
        rintro e_ x1 ⟨rfl, rfl⟩
        refine ⟨_, rfl, Below.refl _ _, ?_⟩
        (try simp only [Act.put, List.setIfInBounds_toArray, List.set_cons_zero, List.set_cons_succ])
        (refine mix_read (o := { dst := some 47, op := Op.binOp BinOp.neq 3 (Operand.tmp 39) (Operand.tmp 46) 3, type := 4, pos := "law.go:125", after := #[{ on := 3, ground := Ground.data }, { on := 10, ground := Ground.data }], guard := none }) rfl (by first | rfl | (simp [Region.wanted, yielded]; done)) (by intro w_ hE_; (try dsimp only at hE_); first | (go_simp; done) | (go_simp; rfl)) ?_)
        (try simp only [Act.put, List.setIfInBounds_toArray, List.set_cons_zero, List.set_cons_succ])
        refine mix_nil ?_
        go_wp2_with fail
        go_roundg f
        case measure => omega
        case rel => exact ⟨k + 1, by have := HKK.out; simp; omega, ⟨by have := HI.out; omega⟩, ⟨by rw [HT0.out]; exact HO7z.out⟩, ⟨by rw [HT1.out]; exact HO8z.out⟩, HNE, HZ0⟩
    · have hkl : k = ts.length := by omega
      subst hkl
      have k0 : ((ts.length : Int) < (ts.length : Int)) = False := eq_false (by omega)
      rw [List.take_of_length_le (Nat.le_refl _)] at HO7 HO8
      obtain ⟨A7, c7, rfl⟩ := Kd.R_slice HO7.out
      obtain ⟨A8, c8, rfl⟩ := Kd.R_slice HO8.out
      have HC7 := Aside0.mk (Kd.R_reads' HO7.out).2.2
      have HC8 := Aside0.mk (Kd.R_reads' HO8.out).2.2
      have HRD := Aside0.mk (fun w' h => ready_calls (pool_below (w' := w') HP.out h))
      have HAL := Aside0.mk (fun w' h => all_calls (pool_below (w' := w') HP.out h))
      have hl0 := those_le 0 ts
      have hl1 := those_le 1 ts
      have HLL : Aside0 ((thoseL 0 ts).length ≤ 120 ∧ (thoseL 1 ts).length ≤ 120) := ⟨by omega⟩
      clear hl0 hl1 hi hll hlt HO7 HO8 HNE
      generalize thoseL 0 ts = L0 at *
      generalize thoseL 1 ts = L1 at *
      go_wp2_with fail
      refine (HRD.out wr HB.out).mono ?_
      rintro e_ w5 ⟨v5, rfl, ho, hb⟩
      obtain ⟨A5, c5, rfl⟩ := Kd.R_slice ho
      have HC5 := Aside0.mk (Kd.R_reads' ho).2.2
      have HB5 := Aside0.mk (below_step HB.out hb)
      have HC75 := Aside0.mk (Kd.C_below HC7.out hb)
      have HC85 := Aside0.mk (Kd.C_below HC8.out hb)
      clear ho hb
      go_wp2_with fail
      have hs := ints_calls A5 c5 L0 A7 c7 L0 w5 HC5.out HC75.out (by have := HLL.out; omega)
      simp only [decide_true] at hs
      refine hs.mono ?_
      rintro e_ w6 ⟨rfl, hb⟩
      have HB6 := Aside0.mk (below_step HB5.out hb)
      have HC86 := Aside0.mk (Kd.C_below HC85.out hb)
      clear hb hs
      go_wp2_with fail
      refine (HAL.out w6 HB6.out).mono ?_
      rintro e_ w7 ⟨v7, rfl, ho, hb⟩
      obtain ⟨A9, c9, rfl⟩ := Kd.R_slice ho
      have HC9 := Aside0.mk (Kd.R_reads' ho).2.2
      have HB7 := Aside0.mk (below_step HB6.out hb)
      have HC87 := Aside0.mk (Kd.C_below HC86.out hb)
      clear ho hb
      go_wp2_with fail
      have hs := ints_calls A9 c9 L1 A8 c8 L1 w7 HC9.out HC87.out (by have := HLL.out; omega)
      simp only [decide_true] at hs
      refine hs.mono ?_
      rintro e_ w8 ⟨rfl, hb⟩
      have HB8 := Aside0.mk (below_step HB7.out hb)
      clear hb hs
      go_wp2
      go_ret
      exact ⟨rfl, HB8.out⟩
end Go.Proofs.Ytopclgpimabpcaa.TlA
