/- Contract of the writer of numbers. -/
import Derived.Test.YtfojeegepfjbiaaProg
import Derived.Below
import Derived.Deep.Draws
import Derived.Deep.AppendLies
import Derived.Maps.AppendAt
import Derived.OwnWalk
import Derived.Laws.BytesArg
import Derived.Laws.MakeOwn
import Derived.Laws.OwnMore
import Derived.Deep.OwnRows
import Derived.Tactics
import Derived.Lib.ConvBytes
import Derived.Laws.Slices
import Derived.WalkKit
import Derived.KernelRfl
import Derived.RowKit3
import Derived.Deep.LoopGhost
import Derived.Deep.QuietTactic
import Derived.BigQuiet
import Derived.WideLaws
import Derived.Deep.DeepCutAuto
import Derived.Deep.CutBlock
import Derived.Deep.RegionHeld3
import Derived.Laws.Rows
import Derived.Lib.AppendStr
import Derived.ArgAppend
import Derived.Laws.IdiomCopy
import Derived.OrdersHeld
import Derived.Laws.BitsLemmas
import Derived.RowKit
import Derived.Deep.RegionWith
import Derived.WalkSpells
import Derived.Outline
import Derived.Test.YtfojeegepfjbiaaWWords
import Derived.Test.YtfojeegepfjbiaaWLast
import Derived.Test.YtfojeegepfjbiaaWMore
import Derived.Test.YtfojeegepfjbiaaWArr
import Derived.Test.YtfojeegepfjbiaaWTab
import Derived.Test.YtfojeegepfjbiaaWZeros
import Derived.Test.YtfojeegepfjbiaaWRepsOne
import Derived.Test.YtfojeegepfjbiaaEdD
import Derived.Test.YtfojeegepfjbiaaMixT
namespace Go.Proofs.Ytfojeegepfjbiaa.EdE
open Go.RowKit Go.Proofs.YtfojeegepfjbiaaW.PrintWords Go.Proofs.YtfojeegepfjbiaaW.PrintLast Go.Proofs.YtfojeegepfjbiaaW.PrintMore Go.Proofs.Ytfojeegepfjbiaa.Mix Go.Proofs.Ytfojeegepfjbiaa.MixB Go.Proofs.Ytfojeegepfjbiaa.MixT Go.Proofs.Ytfojeegepfjbiaa.Nm Go.Proofs.Ytfojeegepfjbiaa.NmA Go.Proofs.Ytfojeegepfjbiaa.NmH Go.Proofs.Ytfojeegepfjbiaa.EdZ Go.Proofs.Ytfojeegepfjbiaa.EdA Go.Proofs.Ytfojeegepfjbiaa.EdB Go.Proofs.Ytfojeegepfjbiaa.EdC Go.Proofs.Ytfojeegepfjbiaa.EdD
set_option linter.unusedSimpArgs false
set_option linter.unusedVariables false
attribute [local go_sem] max2_int min2_int max_two min_two

abbrev WT : Nat := 116
abbrev UT : Nat := 5
/-- Blocks that are neither of type S nor of type E are as they were. -/
def Kt (S E : Nat) (w w' : World) : Prop := ∀ (g : Nat) (o : Obj), w.heap[g]? = some o → (∀ cs t, o = .cells cs t (0, 0) → t ≠ S ∧ t ≠ E) → w'.heap[g]? = some o
theorem Kt.refl (S E : Nat) (w : World) : Kt S E w w := fun _ _ h _ => h
theorem Kt.trans {S E : Nat} {w w1 w2 : World} (h : Kt S E w w1) (k : Kt S E w1 w2) : Kt S E w w2 := fun g o hb a => k g o (h g o hb a) a
theorem Kt.below {S E : Nat} {w w' : World} (h : Below w.heap.size w w') : Kt S E w w' := fun g o hb _ => blk_below hb h
theorem Kt.grown {S E : Nat} {w w' : World} {row : Option Nat} (h : w.grownBy w' row) (ht : ∀ k, row = some k → ∃ cells, w.heap[k]? = some (.cells cells E (0, 0))) : Kt S E w w' := by
  intro g o hb ha
  refine blk_grown hb h (fun e => ?_)
  obtain ⟨cells, hc⟩ := ht g e.symm
  rw [hb] at hc
  injection hc with hc
  exact (ha _ _ hc).2 rfl
theorem Kt.set {S E : Nat} {w : World} {p : Nat} {cs : Array Value} (h : w.heap[p]? = some (.cells cs S (0, 0))) (i : Nat) (v : Value) : Kt S E w (w.setCell ⟨p, i, none⟩ v) := by
  intro g o hb ha
  have hne : g ≠ p := by
    rintro rfl
    rw [h] at hb
    injection hb with hb
    exact (ha _ _ hb.symm).1 rfl
  exact (Below.heap_setCell w ⟨p, i, none⟩ v g hne).trans hb
theorem Kt.blk {S E : Nat} {w w' : World} (h : Kt S E w w') {g : Nat} {cs : Array Value} {t : Nat} (hb : w.heap[g]? = some (.cells cs t (0, 0))) (h1 : t ≠ S) (h2 : t ≠ E) : w'.heap[g]? = some (.cells cs t (0, 0)) := h g _ hb (fun cs' t' e => by injection e with _ e2; subst e2; exact ⟨h1, h2⟩)
/-- Numbers' bytes, one behind the other. -/
def encs (xs : List Int) : List Int := xs.flatMap (fun n => enc n.toNat)
theorem encs_app (xs ys : List Int) : encs (xs ++ ys) = encs xs ++ encs ys := by unfold encs; rw [List.flatMap_append]
theorem encs_one (n : Int) : encs [n] = enc n.toNat := by simp [encs]
/-- Numbers that may be written. -/
def Nums (xs : List Int) : Prop := ∀ n ∈ xs, 0 ≤ n ∧ n < 9223372036854775808
theorem encs_len {xs : List Int} (h : Nums xs) : (encs xs).length ≤ 10 * xs.length := by
  induction xs with
  | nil => simp [encs]
  | cons n xs ih =>
    have h1 := h n (by simp)
    have h2 := enc_len 9 n.toNat (by omega)
    have h3 := ih (fun m hm => h m (by simp [hm]))
    have : encs (n :: xs) = enc n.toNat ++ encs xs := rfl
    rw [this, List.length_append, List.length_cons]
    omega
theorem bys_encs {xs : List Int} (h : Nums xs) : Bys (encs xs) := by
  induction xs with
  | nil => intro z hz; simp [encs] at hz
  | cons n xs ih =>
    have h1 := h n (by simp)
    exact bys_append (bys_enc (n := n.toNat) (by omega)) (ih (fun m hm => h m (by simp [hm])))
theorem take_getD {α : Type} {d : α} {xs : List α} {i : Nat} (h : i < xs.length) : xs.take (i + 1) = xs.take i ++ [xs.getD i d] := by
  rw [List.take_succ_eq_append_getElem h, List.getD_eq_getElem?_getD, List.getElem?_eq_getElem h]
  rfl
/-- A writer in memory. -/
def WrAt (w : World) (B p : Nat) (l : List Int) : Prop := B ≤ p ∧ ∃ v, Blk w p #[v] WT ∧ (Kd.int .u8).R UT w B (fun _ => True) v l
set_option maxRecDepth 100000 in
set_option maxHeartbeats 2000000 in
theorem nums_calls (B p : Nat) (l : List Int) (A : Option Addr) (c : Nat) (xs : List Int) (w : World) (h : WrAt w B p l) (hx : ∀ wx, Kt WT UT w wx → Below B w wx → (Kd.int .i64).C wx A xs.length xs) (hn : Nums xs) (hl : l.length + 10 * xs.length ≤ 1000000000) :
    Calls Try.prog 81 #[.pointer (some ⟨p, 0, none⟩), .slice A xs.length c] w fun e w' => e = .returned (.tuple #[]) ∧ WrAt w' B p (l ++ encs xs) ∧ Kt WT UT w w' ∧ Below B w w' := by
  have HPB := Aside0.mk h.1
  have HX := Aside0.mk hx
  have HNS := Aside0.mk hn
  have HL := Aside0.mk hl
  have HW0 := Aside0.mk h
  have hln := (hx w (Kt.refl _ _ _) (Below.refl _ _)).2.1
  clear h hx hn hl
  go_enter Try.func81, Try.ntmps81
  go_wp2_with fail
  go_loopg [5, 8] xs.length (fun q v5 v8 w' => ∃ i : Nat, v8 = .int .i64 (i : Int) ∧ Aside0 (i + q = xs.length) ∧ Aside0 (WrAt w' B p (l ++ encs (xs.take i))) ∧ Aside0 (Kt WT UT w w') ∧ Aside0 (Below B w w'))
  case atStart => exact ⟨0, rfl, ⟨by omega⟩, ⟨by rw [List.take_zero]; simpa [encs] using HW0.out⟩, ⟨Kt.refl _ _ _⟩, ⟨Below.refl _ _⟩⟩
  case round =>
    obtain ⟨i, rfl, HI, HW, HK, HB⟩ := hrel
    have hix := HI.out
    by_cases hlt : i < xs.length
    · obtain ⟨f, rfl⟩ : ∃ f, gk = f + 1 := ⟨gk - 1, by omega⟩
      have k0 : ((i : Int) < (xs.length : Int)) = True := eq_true (by omega)
      have kw : IntKind.i64.wrap ((i : Int) + 1) = (i : Int) + 1 := by rw [IntKind.wrap_i64]; omega
      obtain ⟨ad, e_, h0⟩ := i64_at (HX.out wr HK.out HB.out) i hlt
      subst e_
      have hnn := HNS.out (xs.getD i 0) (by rw [List.getD_eq_getElem?_getD, List.getElem?_eq_getElem hlt]; exact List.getElem_mem hlt)
      have hto : l ++ encs (xs.take (i + 1)) = (l ++ encs (xs.take i)) ++ enc (xs.getD i 0).toNat := by rw [take_getD (d := 0) hlt, encs_app, encs_one, List.append_assoc]
      have hle : (encs (xs.take i)).length ≤ 10 * xs.length := by
        have h1 := encs_len (xs := xs.take i) (fun m hm => HNS.out m (List.mem_of_mem_take hm))
        rw [List.length_take] at h1
        omega
      obtain ⟨n, hn⟩ := Int.eq_ofNat_of_zero_le hnn.1
      rw [hn] at h0 hto hnn
      rw [Int.toNat_natCast] at hto
      have hel := enc_len 9 n (by omega)
      have HTO := Aside0.mk hto
      have HLE : Aside0 ((l ++ encs (xs.take i)).length + 10 ≤ 2000000010 ∧ (enc n).length ≤ 10 ∧ ((l ++ encs (xs.take i)).length + (enc n).length) * 1 ≤ 140737488355328) := ⟨by rw [List.length_append]; have := HL.out; omega⟩
      generalize l ++ encs (xs.take i) = acc at *
      obtain ⟨hpb, v, hblk, ho⟩ := HW.out
      obtain ⟨Av, cv, rfl⟩ := Kd.R_slice ho
      have HN : Aside0 (n < 18446744073709551616) := ⟨by omega⟩
      have kn : IntKind.u64.wrap (n : Int) = (n : Int) := u64_id (by omega) (by omega)
      have HP := Aside0.mk hblk
      have HO := Aside0.mk ho
      have HSW : Aside0 (B ≤ wr.heap.size) := ⟨by have := blk_lt hblk; omega⟩
      clear hix hn hnn hto hle hel hpb hblk ho HW
      go_wp2_with fail
      refine wp_region_tree (fun _ _ => True) (.rd 0 (.rd 1 (.rd 2 (.rd 3 (.rd 5 (.rd 6 (.two 4 7 (.ef 7 (.ef 8 (.rd 9 (.rd 10 (.ef 11 .nil))))) (.ef 4 (.ef 8 (.rd 9 (.rd 10 (.ef 11 .nil)))))))))))) (by kernel_rfl) (by kernel_rfl) (fun _ => trivial) (fun _ _ => trivial) (fun wd hhp_ hbw_ => ?_)
      have HBd := Aside0.mk (HB.out.trans (hbw_.mono HSW.out))
      have HKd := Aside0.mk (HK.out.trans (Kt.below hbw_))
      have hpd := blk_below HP.out hbw_
      have HPd := Aside0.mk hpd
      have HOd := Aside0.mk (Kd.R_below HO.out hbw_)
      have c_d : wd.cell? ⟨p, 0, none⟩ = some (.slice Av acc.length cv) := blk_cell hpd 0
      have HSz : Aside0 (B ≤ wd.heap.size) := ⟨Nat.le_trans HSW.out hbw_.size⟩
      clear hhp_ hbw_ hpd h0
      (refine t_read (o := { dst := some 12, op := Op.move (Operand.tmp 0), type := 114, pos := "edit.go:59", after := #[], guard := none }) rfl (by first | rfl | (simp [Region.wanted, yielded]; done)) (by intro w_ hE_; (try dsimp only at hE_); first | (go_simp; done) | (go_simp; rfl)) ?_)
      (try simp only [Act.put, List.setIfInBounds_toArray, List.set_cons_zero, List.set_cons_succ])
      (refine t_read (o := { dst := some 13, op := Op.move (Operand.tmp 0), type := 114, pos := "edit.go:59", after := #[], guard := none }) rfl (by first | rfl | (simp [Region.wanted, yielded]; done)) (by intro w_ hE_; (try dsimp only at hE_); first | (go_simp; done) | (go_simp; rfl)) ?_)
      (try simp only [Act.put, List.setIfInBounds_toArray, List.set_cons_zero, List.set_cons_succ])
      (refine t_read (o := { dst := some 14, op := Op.nilCheck (Operand.tmp 13), type := 0, pos := "edit.go:59", after := #[{ on := 1, ground := Ground.data }], guard := none }) rfl (by first | rfl | (simp [Region.wanted, yielded]; done)) (by intro w_ hE_; (try dsimp only at hE_); first | (go_simp; done) | (go_simp; rfl)) ?_)
      (try simp only [Act.put, List.setIfInBounds_toArray, List.set_cons_zero, List.set_cons_succ])
      (refine t_read (o := { dst := some 15, op := Op.fieldAddr 116 (Operand.tmp 14) 0, type := 0, pos := "edit.go:59", after := #[{ on := 2, ground := Ground.data }], guard := none }) rfl (by first | rfl | (simp [Region.wanted, yielded]; done)) (by intro w_ hE_; (try dsimp only at hE_); first | (go_simp; done) | (go_simp; rfl)) ?_)
      (try simp only [Act.put, List.setIfInBounds_toArray, List.set_cons_zero, List.set_cons_succ])
      (refine t_read (o := { dst := some 17, op := Op.move (Operand.tmp 5), type := 2, pos := "edit.go:59", after := #[], guard := none }) rfl (by first | rfl | (simp [Region.wanted, yielded]; done)) (by intro w_ hE_; (try dsimp only at hE_); first | (go_simp; done) | (go_simp; rfl)) ?_)
      (try simp only [Act.put, List.setIfInBounds_toArray, List.set_cons_zero, List.set_cons_succ])
      (refine t_read (o := { dst := some 18, op := Op.convert 2 83 (Operand.tmp 17), type := 83, pos := "edit.go:59", after := #[{ on := 5, ground := Ground.data }], guard := none }) rfl (by first | rfl | (simp [Region.wanted, yielded]; done)) (by intro w_ hE_; (try dsimp only at hE_); first | (go_simp; done) | (go_simp; rfl)) ?_)
      (try simp only [Act.put, List.setIfInBounds_toArray, List.set_cons_zero, List.set_cons_succ])
      refine t_two ?_ ?_
      · refine s_val (o := { dst := some 16, op := Op.load 22 (Operand.tmp 15), type := 22, pos := "edit.go:59", after := #[{ on := 3, ground := Ground.data }], guard := none }) (w1 := wd) rfl (by first | rfl | (simp [Region.wanted, yielded]; done)) (by first | (go_simp; done) | (go_simp; rfl)) (trivial) ?_
        (try simp only [Act.put, List.setIfInBounds_toArray, List.set_cons_zero, List.set_cons_succ])
        refine t_ef ?_
        refine s_call (o := { dst := some 19, op := Op.call { callee := Callee.value (Operand.func 54), args := #[Operand.tmp 18], argTypes := #[83] }, type := 22, pos := "edit.go:59", after := #[{ on := 6, ground := Ground.data }], guard := none }) rfl (by first | rfl | (simp [Region.wanted, yielded]; done)) (by first | (go_simp; done) | (go_simp; exact ⟨rfl, rfl⟩) | (go_simp; rfl)) ?_
        refine (put_calls n HN.out _).mono ?_
        rintro e_ x1 ⟨v1, rfl, ho, hb⟩
        obtain ⟨A1, ca, rfl⟩ := Kd.R_slice ho
        have HV7 := Aside0.mk (Kd.R_reads' ho).2.2
        have hp7 := blk_below HPd.out hb
        have HP7 := Aside0.mk hp7
        have HO7 := Aside0.mk (Kd.R_below HOd.out hb)
        have HB7 := Aside0.mk (HBd.out.trans (hb.mono HSz.out))
        have HK7 := Aside0.mk (HKd.out.trans (Kt.below hb))
        have c_x : x1.cell? ⟨p, 0, none⟩ = some (.slice Av acc.length cv) := blk_cell hp7 0
        have HZ7 : Aside0 (B ≤ x1.heap.size) := ⟨Nat.le_trans HSz.out hb.size⟩
        refine ⟨_, rfl, trivial, ?_⟩
        clear ho hb hp7 c_d
        (try simp only [Act.put, List.setIfInBounds_toArray, List.set_cons_zero, List.set_cons_succ])
        refine t_ef ?_
        refine s_list (o := { dst := some 20, op := Op.call { callee := Callee.builtin Builtin.append, args := #[Operand.tmp 16, Operand.tmp 19], argTypes := #[22, 22] }, type := 22, pos := "edit.go:59", after := #[{ on := 4, ground := Ground.data }, { on := 7, ground := Ground.data }, { on := 7, ground := Ground.chain }], guard := none }) rfl (by first | rfl | (simp [Region.wanted, yielded]; done)) ?_
        refine Kd.R_append_row (Value.int .u8) (0) (h1 := fun _ => rfl) (w0 := w) B rfl (.tmp 16) (.tmp 19) 22 5 (.int .u8 0) 1 rfl Try.underlying22 info5 rfl (by decide) (.slice Av acc.length cv) acc (enc n) A1 (enc n).length ca (fun _ => True) rfl rfl (fun _ _ => trivial) HO7.out HV7.out HB7.out HZ7.out ?aL_ ?_
        case aL_ => have := HLE.out; omega
        intro v5 w5 ho hb hg hat
        refine ⟨trivial, ?_⟩
        obtain ⟨acc2, hac2⟩ : ∃ q, acc ++ enc n = q := ⟨_, rfl⟩
        rw [hac2] at ho
        obtain ⟨A5, c5, e5⟩ := Kd.R_slice ho
        subst e5
        have hp5 := blk_grown HP7.out hg (own_ne (Kd.own_of_R HO7.out) HP7.out (by decide))
        have HP5 := Aside0.mk hp5
        have HAC := Aside0.mk hac2
        have HO5 := Aside0.mk ho
        have HB5 := Aside0.mk hb
        have HK5 := Aside0.mk (HK7.out.trans (Kt.grown hg (fun k hk => own_typed (Kd.own_of_R HO7.out) k hk)))
        have f_5 := blk_frozen hp5 0
        have c_5 : w5.cell? ⟨p, 0, none⟩ = some (.slice Av acc.length cv) := blk_cell hp5 0
        clear ho hb hg hat hac2 hp5 c_x
        (try simp only [Act.put, List.setIfInBounds_toArray, List.set_cons_zero, List.set_cons_succ])
        (refine t_read (o := { dst := some 21, op := Op.nilCheck (Operand.tmp 12), type := 0, pos := "edit.go:59", after := #[{ on := 0, ground := Ground.data }, { on := 0, ground := Ground.phase }, { on := 1, ground := Ground.phase }, { on := 2, ground := Ground.phase }, { on := 3, ground := Ground.phase }, { on := 4, ground := Ground.phase }, { on := 5, ground := Ground.phase }, { on := 6, ground := Ground.phase }, { on := 7, ground := Ground.phase }, { on := 8, ground := Ground.phase }], guard := none }) rfl (by first | rfl | (simp [Region.wanted, yielded]; done)) (by intro w_ hE_; (try dsimp only at hE_); first | (go_simp; done) | (go_simp; rfl)) ?_)
        (try simp only [Act.put, List.setIfInBounds_toArray, List.set_cons_zero, List.set_cons_succ])
        (refine t_read (o := { dst := some 22, op := Op.fieldAddr 116 (Operand.tmp 21) 0, type := 0, pos := "edit.go:59", after := #[{ on := 9, ground := Ground.data }, { on := 0, ground := Ground.phase }, { on := 1, ground := Ground.phase }, { on := 2, ground := Ground.phase }, { on := 3, ground := Ground.phase }, { on := 4, ground := Ground.phase }, { on := 5, ground := Ground.phase }, { on := 6, ground := Ground.phase }, { on := 7, ground := Ground.phase }, { on := 8, ground := Ground.phase }], guard := none }) rfl (by first | rfl | (simp [Region.wanted, yielded]; done)) (by intro w_ hE_; (try dsimp only at hE_); first | (go_simp; done) | (go_simp; rfl)) ?_)
        (try simp only [Act.put, List.setIfInBounds_toArray, List.set_cons_zero, List.set_cons_succ])
        refine t_ef ?_
        refine s_store (o := { dst := none, op := Op.store 22 (Operand.tmp 22) (Operand.tmp 20), type := 0, pos := "edit.go:59", after := #[{ on := 10, ground := Ground.data }, { on := 8, ground := Ground.data }, { on := 8, ground := Ground.chain }, { on := 0, ground := Ground.phase }, { on := 1, ground := Ground.phase }, { on := 2, ground := Ground.phase }, { on := 3, ground := Ground.phase }, { on := 4, ground := Ground.phase }, { on := 5, ground := Ground.phase }, { on := 6, ground := Ground.phase }, { on := 7, ground := Ground.phase }, { on := 8, ground := Ground.phase }], guard := none }) (w1 := w5.setCell ⟨p, 0, none⟩ (.slice A5 acc2.length c5)) rfl (by first | rfl | (simp [Region.wanted, yielded]; done)) (by first | (go_simp; done) | (go_simp; rfl)) (trivial) ?_
        (try simp only [Act.put, List.setIfInBounds_toArray, List.set_cons_zero, List.set_cons_succ])
        refine t_nil ?_
        have HWF : Aside0 (WrAt (w5.setCell ⟨p, 0, none⟩ (.slice A5 acc2.length c5)) B p acc2) := ⟨HPB.out, _, blk_set HP5.out 0 _, Kd.R_set HO5.out HP5.out (by decide) 0 _⟩
        have HBF : Aside0 (Below B w (w5.setCell ⟨p, 0, none⟩ (.slice A5 acc2.length c5))) := ⟨HB5.out.setCell HPB.out _⟩
        have HKF : Aside0 (Kt WT UT w (w5.setCell ⟨p, 0, none⟩ (.slice A5 acc2.length c5))) := ⟨HK5.out.trans (Kt.set HP5.out 0 _)⟩
        clear f_5 c_5
        generalize w5.setCell ⟨p, 0, none⟩ (.slice A5 acc2.length c5) = w6 at *
        go_wp2_with fail
        go_roundg f
        case measure => omega
        case rel => exact ⟨i + 1, by simp, ⟨by have := HI.out; omega⟩, ⟨by rw [HTO.out, HAC.out]; exact HWF.out⟩, HKF, HBF⟩
      · refine s_call (o := { dst := some 19, op := Op.call { callee := Callee.value (Operand.func 54), args := #[Operand.tmp 18], argTypes := #[83] }, type := 22, pos := "edit.go:59", after := #[{ on := 6, ground := Ground.data }], guard := none }) rfl (by first | rfl | (simp [Region.wanted, yielded]; done)) (by first | (go_simp; done) | (go_simp; exact ⟨rfl, rfl⟩) | (go_simp; rfl)) ?_
        refine (put_calls n HN.out _).mono ?_
        rintro e_ x1 ⟨v1, rfl, ho, hb⟩
        obtain ⟨A1, ca, rfl⟩ := Kd.R_slice ho
        have HV7 := Aside0.mk (Kd.R_reads' ho).2.2
        have hp7 := blk_below HPd.out hb
        have HP7 := Aside0.mk hp7
        have HO7 := Aside0.mk (Kd.R_below HOd.out hb)
        have HB7 := Aside0.mk (HBd.out.trans (hb.mono HSz.out))
        have HK7 := Aside0.mk (HKd.out.trans (Kt.below hb))
        have c_x : x1.cell? ⟨p, 0, none⟩ = some (.slice Av acc.length cv) := blk_cell hp7 0
        have HZ7 : Aside0 (B ≤ x1.heap.size) := ⟨Nat.le_trans HSz.out hb.size⟩
        refine ⟨_, rfl, trivial, ?_⟩
        clear ho hb hp7 c_d
        (try simp only [Act.put, List.setIfInBounds_toArray, List.set_cons_zero, List.set_cons_succ])
        refine t_ef ?_
        refine s_val (o := { dst := some 16, op := Op.load 22 (Operand.tmp 15), type := 22, pos := "edit.go:59", after := #[{ on := 3, ground := Ground.data }], guard := none }) (w1 := x1) rfl (by first | rfl | (simp [Region.wanted, yielded]; done)) (by first | (go_simp; done) | (go_simp; rfl)) (trivial) ?_
        (try simp only [Act.put, List.setIfInBounds_toArray, List.set_cons_zero, List.set_cons_succ])
        refine t_ef ?_
        refine s_list (o := { dst := some 20, op := Op.call { callee := Callee.builtin Builtin.append, args := #[Operand.tmp 16, Operand.tmp 19], argTypes := #[22, 22] }, type := 22, pos := "edit.go:59", after := #[{ on := 4, ground := Ground.data }, { on := 7, ground := Ground.data }, { on := 7, ground := Ground.chain }], guard := none }) rfl (by first | rfl | (simp [Region.wanted, yielded]; done)) ?_
        refine Kd.R_append_row (Value.int .u8) (0) (h1 := fun _ => rfl) (w0 := w) B rfl (.tmp 16) (.tmp 19) 22 5 (.int .u8 0) 1 rfl Try.underlying22 info5 rfl (by decide) (.slice Av acc.length cv) acc (enc n) A1 (enc n).length ca (fun _ => True) rfl rfl (fun _ _ => trivial) HO7.out HV7.out HB7.out HZ7.out ?aL_ ?_
        case aL_ => have := HLE.out; omega
        intro v5 w5 ho hb hg hat
        refine ⟨trivial, ?_⟩
        obtain ⟨acc2, hac2⟩ : ∃ q, acc ++ enc n = q := ⟨_, rfl⟩
        rw [hac2] at ho
        obtain ⟨A5, c5, e5⟩ := Kd.R_slice ho
        subst e5
        have hp5 := blk_grown HP7.out hg (own_ne (Kd.own_of_R HO7.out) HP7.out (by decide))
        have HP5 := Aside0.mk hp5
        have HAC := Aside0.mk hac2
        have HO5 := Aside0.mk ho
        have HB5 := Aside0.mk hb
        have HK5 := Aside0.mk (HK7.out.trans (Kt.grown hg (fun k hk => own_typed (Kd.own_of_R HO7.out) k hk)))
        have f_5 := blk_frozen hp5 0
        have c_5 : w5.cell? ⟨p, 0, none⟩ = some (.slice Av acc.length cv) := blk_cell hp5 0
        clear ho hb hg hat hac2 hp5 c_x
        (try simp only [Act.put, List.setIfInBounds_toArray, List.set_cons_zero, List.set_cons_succ])
        (refine t_read (o := { dst := some 21, op := Op.nilCheck (Operand.tmp 12), type := 0, pos := "edit.go:59", after := #[{ on := 0, ground := Ground.data }, { on := 0, ground := Ground.phase }, { on := 1, ground := Ground.phase }, { on := 2, ground := Ground.phase }, { on := 3, ground := Ground.phase }, { on := 4, ground := Ground.phase }, { on := 5, ground := Ground.phase }, { on := 6, ground := Ground.phase }, { on := 7, ground := Ground.phase }, { on := 8, ground := Ground.phase }], guard := none }) rfl (by first | rfl | (simp [Region.wanted, yielded]; done)) (by intro w_ hE_; (try dsimp only at hE_); first | (go_simp; done) | (go_simp; rfl)) ?_)
        (try simp only [Act.put, List.setIfInBounds_toArray, List.set_cons_zero, List.set_cons_succ])
        (refine t_read (o := { dst := some 22, op := Op.fieldAddr 116 (Operand.tmp 21) 0, type := 0, pos := "edit.go:59", after := #[{ on := 9, ground := Ground.data }, { on := 0, ground := Ground.phase }, { on := 1, ground := Ground.phase }, { on := 2, ground := Ground.phase }, { on := 3, ground := Ground.phase }, { on := 4, ground := Ground.phase }, { on := 5, ground := Ground.phase }, { on := 6, ground := Ground.phase }, { on := 7, ground := Ground.phase }, { on := 8, ground := Ground.phase }], guard := none }) rfl (by first | rfl | (simp [Region.wanted, yielded]; done)) (by intro w_ hE_; (try dsimp only at hE_); first | (go_simp; done) | (go_simp; rfl)) ?_)
        (try simp only [Act.put, List.setIfInBounds_toArray, List.set_cons_zero, List.set_cons_succ])
        refine t_ef ?_
        refine s_store (o := { dst := none, op := Op.store 22 (Operand.tmp 22) (Operand.tmp 20), type := 0, pos := "edit.go:59", after := #[{ on := 10, ground := Ground.data }, { on := 8, ground := Ground.data }, { on := 8, ground := Ground.chain }, { on := 0, ground := Ground.phase }, { on := 1, ground := Ground.phase }, { on := 2, ground := Ground.phase }, { on := 3, ground := Ground.phase }, { on := 4, ground := Ground.phase }, { on := 5, ground := Ground.phase }, { on := 6, ground := Ground.phase }, { on := 7, ground := Ground.phase }, { on := 8, ground := Ground.phase }], guard := none }) (w1 := w5.setCell ⟨p, 0, none⟩ (.slice A5 acc2.length c5)) rfl (by first | rfl | (simp [Region.wanted, yielded]; done)) (by first | (go_simp; done) | (go_simp; rfl)) (trivial) ?_
        (try simp only [Act.put, List.setIfInBounds_toArray, List.set_cons_zero, List.set_cons_succ])
        refine t_nil ?_
        have HWF : Aside0 (WrAt (w5.setCell ⟨p, 0, none⟩ (.slice A5 acc2.length c5)) B p acc2) := ⟨HPB.out, _, blk_set HP5.out 0 _, Kd.R_set HO5.out HP5.out (by decide) 0 _⟩
        have HBF : Aside0 (Below B w (w5.setCell ⟨p, 0, none⟩ (.slice A5 acc2.length c5))) := ⟨HB5.out.setCell HPB.out _⟩
        have HKF : Aside0 (Kt WT UT w (w5.setCell ⟨p, 0, none⟩ (.slice A5 acc2.length c5))) := ⟨HK5.out.trans (Kt.set HP5.out 0 _)⟩
        clear f_5 c_5
        generalize w5.setCell ⟨p, 0, none⟩ (.slice A5 acc2.length c5) = w6 at *
        go_wp2_with fail
        go_roundg f
        case measure => omega
        case rel => exact ⟨i + 1, by simp, ⟨by have := HI.out; omega⟩, ⟨by rw [HTO.out, HAC.out]; exact HWF.out⟩, HKF, HBF⟩
    · have hix2 := HI.out
      have k0 : ((i : Int) < (xs.length : Int)) = False := eq_false (by omega)
      rw [List.take_of_length_le (by omega)] at HW
      clear hix hix2 hlt
      go_wp2
      go_end0
      exact ⟨rfl, HW.out, HK.out, HB.out⟩
end Go.Proofs.Ytfojeegepfjbiaa.EdE
