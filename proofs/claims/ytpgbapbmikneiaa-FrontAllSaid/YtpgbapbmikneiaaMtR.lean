/- Contracts of folioref1.Front and folioref1.Back. -/
import Derived.Test.YtpgbapbmikneiaaProg
import Derived.Below
import Derived.Deep.Draws
import Derived.Deep.AppendLies
import Derived.Maps.AppendAt
import Derived.OwnWalk
import Derived.Laws.BytesArg
import Derived.Laws.MakeOwn
import Derived.Laws.OwnMore
import Derived.Deep.OwnRows
import Derived.Tactics
import Derived.Lib.ConvBytes
import Derived.Laws.Slices
import Derived.WalkKit
import Derived.KernelRfl
import Derived.RowKit3
import Derived.Deep.LoopGhost
import Derived.Deep.QuietTactic
import Derived.BigQuiet
import Derived.WideLaws
import Derived.Deep.DeepCutAuto
import Derived.Deep.CutBlock
import Derived.Deep.RegionHeld3
import Derived.Laws.Rows
import Derived.Lib.AppendStr
import Derived.ArgAppend
import Derived.Laws.IdiomCopy
import Derived.OrdersHeld
import Derived.Laws.BitsLemmas
import Derived.RowKit
import Derived.WalkSpells
import Derived.Outline
import Derived.Test.YtpgbapbmikneiaaWWords
import Derived.Test.YtpgbapbmikneiaaWLast
import Derived.Test.YtpgbapbmikneiaaWMore
import Derived.Test.YtpgbapbmikneiaaWArr
import Derived.Test.YtpgbapbmikneiaaWTab
import Derived.Test.YtpgbapbmikneiaaWZeros
import Derived.Test.YtpgbapbmikneiaaWRepsOne
import Derived.Test.YtpgbapbmikneiaaMtB
namespace Go.Proofs.Ytpgbapbmikneiaa.MtR
open Go.RowKit Go.Proofs.YtpgbapbmikneiaaW.PrintWords Go.Proofs.YtpgbapbmikneiaaW.PrintLast Go.Proofs.YtpgbapbmikneiaaW.PrintMore Go.Proofs.Ytpgbapbmikneiaa.Nm Go.Proofs.Ytpgbapbmikneiaa.NmA Go.Proofs.Ytpgbapbmikneiaa.Mt Go.Proofs.Ytpgbapbmikneiaa.Mix Go.Proofs.Ytpgbapbmikneiaa.MtA Go.Proofs.Ytpgbapbmikneiaa.MtB
set_option linter.unusedSimpArgs false
set_option linter.unusedVariables false
attribute [local go_sem] max2_int min2_int max_two min_two

theorem zero_parts : ∃ C : Array Value, C.size = 256 ∧ ∀ W : World, (zeroValue 48).run Try.prog W = .ok (.agg C) W := by
  have h : (Try.prog.info? 48).map (fun i => i.zero.map (fun z => match z with | .agg c => c.size | _ => 0)) = some (some 256) := by kernel_rfl
  obtain ⟨i, hi, h2⟩ := Option.map_eq_some_iff.1 h
  obtain ⟨z, hz, h3⟩ := Option.map_eq_some_iff.1 h2
  cases z <;> simp at h3
  rename_i C
  exact ⟨C, h3, fun W => by simp [zeroValue, typeInfo, hi, hz]⟩
theorem put_step {w w' : World} {g t n : Nat} {f : Nat → Value} (h : w'.rowIs g t n f) (HB : Below w.heap.size w w') (hg : w.heap.size ≤ g) (i : Nat) (v : Value) :
    Below w.heap.size w (w'.setCell ⟨g, i, none⟩ v) ∧ w'.grownBy (w'.setCell ⟨g, i, none⟩ v) (some g) ∧ (w'.setCell ⟨g, i, none⟩ v).rowIs g t n (fun j => if j = i then v else f j) := by
  refine ⟨⟨HB.os, HB.tape, HB.output, by have := HB.size; simpa using this, fun j hj => ?_⟩, ⟨rfl, rfl, rfl, by simp, fun j hj hne => Below.heap_setCell w' ⟨g, i, none⟩ v j (fun e => hne (by rw [e]))⟩, h.set i v⟩
  rw [Below.heap_setCell w' ⟨g, i, none⟩ v j (fun e => by have : j = g := e; omega)]
  exact HB.block j hj

theorem grown_of {w w' : World} (h : Below w.heap.size w w') : w.grownBy w' none := ⟨h.os, h.tape, h.output, h.size, fun j hj _ => h.block j hj⟩
/-- The list while it is shifted. -/
def sh (L : List Int) (p k j : Nat) : Value := .int .u8 (if k < j ∧ j ≤ p then rd L ((j - 1 : Nat) : Int) else rd L (j : Int))
theorem sh_top (L : List Int) (p : Nat) (j : Nat) : sh L p p j = .int .u8 (rd L (j : Int)) := by unfold sh; rw [if_neg (by omega)]
theorem sh_step (L : List Int) (p m : Nat) (hm : m + 1 ≤ p) (j : Nat) : (if j = m + 1 then sh L p (m + 1) m else sh L p (m + 1) j) = sh L p m j := by
  unfold sh
  by_cases e : j = m + 1
  · rw [if_pos e, if_neg (by omega), if_pos (by omega)]; subst e; simp
  · rw [if_neg e]
    by_cases h : m + 1 < j ∧ j ≤ p
    · rw [if_pos h, if_pos (by omega)]
    · rw [if_neg h, if_neg (by omega)]
theorem rd_nat (L : List Int) (j : Nat) : rd L (j : Int) = (L[j]?).getD 0 := by
  unfold rd; rw [Int.toNat_natCast, List.getD_eq_getElem?_getD]
theorem sh_end (L : List Int) (p : Nat) (hp : p < L.length) (j : Nat) : (if j = 0 then .int .u8 (rd L (p : Int)) else sh L p 0 j) = Value.int .u8 (rd (mvf L p) (j : Int)) := by
  cases j with
  | zero => rw [if_pos rfl]; rfl
  | succ j =>
    rw [if_neg (by omega)]
    unfold sh mvf
    rw [rd_nat (_ :: _), List.getElem?_cons_succ]
    by_cases h : j + 1 ≤ p
    · rw [if_pos (by omega), List.getElem?_append_left (by rw [List.length_take]; omega), List.getElem?_take_of_lt (by omega), ← rd_nat]; rfl
    · rw [if_neg (by omega), List.getElem?_append_right (by rw [List.length_take]; omega), List.length_take, List.getElem?_drop, rd_nat]
      congr 3; omega

set_option maxRecDepth 100000 in
theorem front_calls (A : Option Addr) (c : Nat) (l : List Int) (hby : Bys l) (w : World) (hr : Kd.C (Kd.int .u8) w A l.length l) (hl : l.length ≤ 140737488351232) :
    Calls Try.prog 15 #[.slice A l.length c] w fun e w' => ∃ v : Value, e = .returned v ∧ Kd.R (Kd.int .u8) 5 w' w.heap.size (fun _ => True) v (encM initL l) ∧ Below w.heap.size w w' := by
  have HR := Aside0.mk hr
  have HBY := Aside0.mk hby
  have HENC : Aside0 (∃ e, encM initL l = e) := ⟨⟨_, rfl⟩⟩
  obtain ⟨E, hE⟩ := HENC.out
  have HE := Aside0.mk hE
  have HB0 := Aside0.mk (Below.refl w.heap.size w)
  clear hr hby hE HENC
  go_enter Try.func15, Try.ntmps15
  obtain ⟨C, hC, hz⟩ := zero_parts
  have hz48 := hz w
  have HB1 := Aside0.mk (HB0.out.alloc (Nat.le_refl _) (.cells C 48))
  have HA1 : Aside0 (World.rowIs (w.alloc (.cells C 48)) w.heap.size 48 256 (fun j => C.getD j undef)) := ⟨by
    rw [← hC]
    exact World.rowIs_alloc w C _ _ (fun i hi => by simp [hi])⟩
  clear hz
  go_wp2_with fail
  go_loopg [4] 256 (fun g v4 w' => ∃ (i : Nat) (f : Nat → Value), v4 = .int .i64 (i : Int) ∧ Aside0 (i + g = 256) ∧ Aside0 (w'.rowIs w.heap.size 48 256 f ∧ ∀ j, j < i → f j = .int .u8 (j : Int)) ∧ Aside0 (Below w.heap.size w w'))
  case atStart => exact ⟨0, _, rfl, ⟨rfl⟩, ⟨HA1.out, fun j hj => by omega⟩, HB1⟩
  case round =>
    clear HB0 HB1 HA1 hz48
    obtain ⟨i, f, rfl, HI, HA, HB⟩ := hrel
    by_cases hlt : i < 256
    · have hx := HA.out.1.cell hlt
      have hfz := HA.out.1.frozen i
      have hcv : IntKind.u8.wrap (i : Int) = (i : Int) := by rw [IntKind.wrap_u8]; omega
      obtain ⟨hb2, _, hr2⟩ := put_step HA.out.1 HB.out (Nat.le_refl _) i (.int .u8 (i : Int))
      have HB2 := Aside0.mk hb2
      have HA2 := Aside0.mk hr2
      generalize hy : f i = y at hx
      clear hb2 hr2 hy
      go_wp2_with fail
      go_roundg (256 - (i + 1))
      case measure => have := HI.out; omega
      case rel =>
        refine ⟨i + 1, _, by simp, ⟨by omega⟩, ⟨HA2.out, fun j hj => ?_⟩, HB2⟩
        by_cases e : j = i
        · rw [if_pos e, e]
        · rw [if_neg e]; exact HA.out.2 j (by omega)
    · have HA2 : Aside0 (wr.rowIs w.heap.size 48 256 (fun j => .int .u8 (rd initL (j : Int)))) := ⟨HA.out.1.congr (fun j hj => by
        rw [HA.out.2 j (by have := HI.out; omega)]; simp [rd_nat, initL, hj])⟩
      clear HA
      go_wp2_with fail
      go_loopg [5, 6] l.length (fun q v5 v6 w' => ∃ (i : Nat) (L acc : List Int), v6 = .int .i64 (i : Int) ∧ Aside0 (i + q = l.length ∧ acc ++ encM L (l.drop i) = E ∧ Ok L ∧ acc.length = i) ∧ Aside0 (Kd.R (Kd.int .u8) 5 w' w.heap.size (fun k => k ≠ w.heap.size) v5 acc) ∧
        Aside0 (w'.rowIs w.heap.size 48 256 (fun j => .int .u8 (rd L (j : Int)))) ∧ Aside0 (Below w.heap.size w w'))
      case atStart => exact ⟨0, initL, [], rfl, ⟨by omega, by rw [← HE.out]; rfl, ok_initL, rfl⟩, ⟨Kd.R_nil _ _ _ _ _⟩, HA2, HB⟩
      case round =>
        clear HB HA2 hlt HI
        obtain ⟨i, L, acc, rfl, HI, HO, HL, HB⟩ := hrel
        by_cases hlt : i < l.length
        · obtain ⟨ad, e_, _⟩ := Kd.at_int HR.out (i : Int) (by omega) (by omega)
          subst e_
          have hx := cell_at HR.out HB.out i hlt
          have hbx := rd_bys HBY.out hlt
          obtain ⟨hp, hpx⟩ := pos_spec (HI.out.2.2.1.mem.2 hbx)
          rw [HI.out.2.2.1.len] at hp
          have hpb := fun j (h : j < pos L (rd l (i : Int))) => pos_before h
          have hst : l.drop i = rd l (i : Int) :: l.drop (i + 1) := by
            have e := split_rd hlt
            have e2 : (l.take i).length = i := by rw [List.length_take]; omega
            conv => lhs; rw [e]
            rw [List.drop_left' e2]
          have henc : acc ++ [((pos L (rd l (i : Int)) : Nat) : Int)] ++ encM (mvf L (pos L (rd l (i : Int)))) (l.drop (i + 1)) = E := by
            rw [← HI.out.2.1, hst]; simp [encM]
          have HX : Aside0 (∀ w', Below w.heap.size w w' → w'.cell? (ad.add i) = some (.int .u8 (rd l (i : Int)))) := ⟨fun w' h => cell_at HR.out h i hlt⟩
          generalize pos L (rd l (i : Int)) = p at *
          generalize rd l (i : Int) = x at *
          have HEN := Aside0.mk henc
          have HPB := Aside0.mk hpb
          have HPX := Aside0.mk hpx
          have HPL : Aside0 (p < 256) := ⟨hp⟩
          have HAL : Aside0 (acc.length ≤ 140737488351232) := ⟨by have := HI.out; omega⟩
          have hxb : 0 ≤ x ∧ x < 256 := hbx
          clear henc hpb hpx hst hbx
          go_wp2
          go_loopg [7] p (fun q v7 w' => ∃ j : Nat, v7 = .int .i64 (j : Int) ∧ Aside0 (j + q = p) ∧ Aside0 (Kd.R (Kd.int .u8) 5 w' w.heap.size (fun k => k ≠ w.heap.size) u5 acc) ∧
            Aside0 (w'.rowIs w.heap.size 48 256 (fun j => .int .u8 (rd L (j : Int)))) ∧ Aside0 (Below w.heap.size w w'))
          case atStart => exact ⟨0, rfl, ⟨by omega⟩, HO, HL, HB⟩
          case round =>
            clear HO HL HB hx
            obtain ⟨j, rfl, HJ, HO, HL, HB⟩ := hrel
            have hjp : j ≤ p := by have := HJ.out; omega
            have hx := HX.out wr HB.out
            have hc := HL.out.cell (i := j) (by omega)
            have q256 : ((j : Int) < 256) = True := eq_true (by omega)
            by_cases hjl : j < p
            · have hne := HPB.out j hjl
              have hc2 : wr.cell? ⟨w.heap.size, j, none⟩ = some (.int .u8 (rd L (j : Int))) := hc
              generalize rd L (j : Int) = y at hc2 hne
              have bn : (y != x) = true := bne_iff_ne.2 hne
              have be : (y == x) = false := beq_eq_false_iff_ne.2 hne
              clear hc hne
              go_wp2
              refine wp_region_mix (fun w_ w1_ => w_ = w1_) [(false, 0), (false, 1), (false, 2), (false, 3), (false, 4), (false, 5), (false, 6), (false, 7)] (by kernel_rfl) (by kernel_rfl) (fun _ => rfl) (fun h h' => h.trans h') (fun wd hhp_ hbw_ => ?_)
              have y1_ : wd.cell? ⟨w.heap.size, j, none⟩ = _ := (hbw_.cell (World.block_lt_of_cell? wr _ hc2)).trans hc2
              have y0_ : wd.cell? (ad.add i) = _ := (hbw_.cell (World.block_lt_of_cell? wr _ hx)).trans hx
              have HOw := Aside0.mk (Kd.R_grown HO.out (grown_of hbw_) (fun k _ => Option.some_ne_none k))
              have HLw := Aside0.mk (HL.out.of_block (congrArg (fun h => h[w.heap.size]?) hhp_))
              have HBw := Aside0.mk (below_step HB.out hbw_)
              clear hc2 hx hhp_ hbw_ HO HL HB
              (refine mix_read (o := { dst := some 22, op := Op.move (Operand.tmp 7), type := 3, pos := "ref.go:137", after := #[], guard := none }) rfl (by first | rfl | (simp [Region.wanted, yielded]; done)) (by intro w_ hE_; (try dsimp only at hE_); subst hE_; first | (go_simp; done) | (go_simp; rfl)) ?_)
              (try simp only [Act.put, List.setIfInBounds_toArray, List.set_cons_zero, List.set_cons_succ])
              (refine mix_read (o := { dst := some 23, op := Op.indexAddr 48 (Operand.tmp 3) (Operand.tmp 22), type := 0, pos := "ref.go:137", after := #[{ on := 0, ground := Ground.data }], guard := none }) rfl (by first | rfl | (simp [Region.wanted, yielded]; done)) (by intro w_ hE_; (try dsimp only at hE_); subst hE_; first | (go_simp; done) | (go_simp; rfl)) ?_)
              (try simp only [Act.put, List.setIfInBounds_toArray, List.set_cons_zero, List.set_cons_succ])
              (refine mix_read (o := { dst := some 24, op := Op.load 5 (Operand.tmp 23), type := 5, pos := "ref.go:137", after := #[{ on := 1, ground := Ground.data }], guard := none }) rfl (by first | rfl | (simp [Region.wanted, yielded]; done)) (by intro w_ hE_; (try dsimp only at hE_); subst hE_; first | (go_simp; done) | (go_simp; rfl)) ?_)
              (try simp only [Act.put, List.setIfInBounds_toArray, List.set_cons_zero, List.set_cons_succ])
              (refine mix_read (o := { dst := some 25, op := Op.move (Operand.tmp 0), type := 24, pos := "ref.go:137", after := #[], guard := none }) rfl (by first | rfl | (simp [Region.wanted, yielded]; done)) (by intro w_ hE_; (try dsimp only at hE_); subst hE_; first | (go_simp; done) | (go_simp; rfl)) ?_)
              (try simp only [Act.put, List.setIfInBounds_toArray, List.set_cons_zero, List.set_cons_succ])
              (refine mix_read (o := { dst := some 26, op := Op.move (Operand.tmp 6), type := 3, pos := "ref.go:137", after := #[], guard := none }) rfl (by first | rfl | (simp [Region.wanted, yielded]; done)) (by intro w_ hE_; (try dsimp only at hE_); subst hE_; first | (go_simp; done) | (go_simp; rfl)) ?_)
              (try simp only [Act.put, List.setIfInBounds_toArray, List.set_cons_zero, List.set_cons_succ])
              (refine mix_read (o := { dst := some 27, op := Op.indexAddr 24 (Operand.tmp 25) (Operand.tmp 26), type := 0, pos := "ref.go:137", after := #[{ on := 3, ground := Ground.data }, { on := 4, ground := Ground.data }], guard := none }) rfl (by first | rfl | (simp [Region.wanted, yielded]; done)) (by intro w_ hE_; (try dsimp only at hE_); subst hE_; first | (go_simp; done) | (go_simp; rfl)) ?_)
              (try simp only [Act.put, List.setIfInBounds_toArray, List.set_cons_zero, List.set_cons_succ])
              (refine mix_read (o := { dst := some 28, op := Op.load 5 (Operand.tmp 27), type := 5, pos := "ref.go:137", after := #[{ on := 5, ground := Ground.data }], guard := none }) rfl (by first | rfl | (simp [Region.wanted, yielded]; done)) (by intro w_ hE_; (try dsimp only at hE_); subst hE_; first | (go_simp; done) | (go_simp; rfl)) ?_)
              (try simp only [Act.put, List.setIfInBounds_toArray, List.set_cons_zero, List.set_cons_succ])
              (refine mix_read (o := { dst := some 29, op := Op.binOp BinOp.neq 5 (Operand.tmp 24) (Operand.tmp 28) 5, type := 4, pos := "ref.go:137", after := #[{ on := 2, ground := Ground.data }, { on := 6, ground := Ground.data }], guard := none }) rfl (by first | rfl | (simp [Region.wanted, yielded]; done)) (by intro w_ hE_; (try dsimp only at hE_); subst hE_; first | (go_simp; done) | (go_simp; rfl)) ?_)
              (try simp only [Act.put, List.setIfInBounds_toArray, List.set_cons_zero, List.set_cons_succ])
              refine mix_nil ?_
              go_wp2
              go_roundg (p - (j + 1))
              case measure => have := HJ.out; omega
              case rel => exact ⟨j + 1, by simp, ⟨by omega⟩, HOw, HLw, HBw⟩
            · obtain rfl : j = p := by omega
              have hc2 : wr.cell? ⟨w.heap.size, j, none⟩ = some (.int .u8 x) := by rw [← HPX.out]; exact hc
              have hcv : IntKind.u8.wrap (j : Int) = (j : Int) := by rw [IntKind.wrap_u8]; omega
              clear hc hjl
              go_wp2
              refine wp_region_mix (fun w_ w1_ => w_ = w1_) [(false, 0), (false, 1), (false, 2), (false, 3), (false, 4), (false, 5), (false, 6), (false, 7)] (by kernel_rfl) (by kernel_rfl) (fun _ => rfl) (fun h h' => h.trans h') (fun wd hhp_ hbw_ => ?_)
              have y1_ : wd.cell? ⟨w.heap.size, j, none⟩ = _ := (hbw_.cell (World.block_lt_of_cell? wr _ hc2)).trans hc2
              have y0_ : wd.cell? (ad.add i) = _ := (hbw_.cell (World.block_lt_of_cell? wr _ hx)).trans hx
              have HOw := Aside0.mk (Kd.R_grown HO.out (grown_of hbw_) (fun k _ => Option.some_ne_none k))
              have HLw := Aside0.mk (HL.out.of_block (congrArg (fun h => h[w.heap.size]?) hhp_))
              have HBw := Aside0.mk (below_step HB.out hbw_)
              clear hc2 hx hhp_ hbw_ HO HL HB
              (refine mix_read (o := { dst := some 22, op := Op.move (Operand.tmp 7), type := 3, pos := "ref.go:137", after := #[], guard := none }) rfl (by first | rfl | (simp [Region.wanted, yielded]; done)) (by intro w_ hE_; (try dsimp only at hE_); subst hE_; first | (go_simp; done) | (go_simp; rfl)) ?_)
              (try simp only [Act.put, List.setIfInBounds_toArray, List.set_cons_zero, List.set_cons_succ])
              (refine mix_read (o := { dst := some 23, op := Op.indexAddr 48 (Operand.tmp 3) (Operand.tmp 22), type := 0, pos := "ref.go:137", after := #[{ on := 0, ground := Ground.data }], guard := none }) rfl (by first | rfl | (simp [Region.wanted, yielded]; done)) (by intro w_ hE_; (try dsimp only at hE_); subst hE_; first | (go_simp; done) | (go_simp; rfl)) ?_)
              (try simp only [Act.put, List.setIfInBounds_toArray, List.set_cons_zero, List.set_cons_succ])
              (refine mix_read (o := { dst := some 24, op := Op.load 5 (Operand.tmp 23), type := 5, pos := "ref.go:137", after := #[{ on := 1, ground := Ground.data }], guard := none }) rfl (by first | rfl | (simp [Region.wanted, yielded]; done)) (by intro w_ hE_; (try dsimp only at hE_); subst hE_; first | (go_simp; done) | (go_simp; rfl)) ?_)
              (try simp only [Act.put, List.setIfInBounds_toArray, List.set_cons_zero, List.set_cons_succ])
              (refine mix_read (o := { dst := some 25, op := Op.move (Operand.tmp 0), type := 24, pos := "ref.go:137", after := #[], guard := none }) rfl (by first | rfl | (simp [Region.wanted, yielded]; done)) (by intro w_ hE_; (try dsimp only at hE_); subst hE_; first | (go_simp; done) | (go_simp; rfl)) ?_)
              (try simp only [Act.put, List.setIfInBounds_toArray, List.set_cons_zero, List.set_cons_succ])
              (refine mix_read (o := { dst := some 26, op := Op.move (Operand.tmp 6), type := 3, pos := "ref.go:137", after := #[], guard := none }) rfl (by first | rfl | (simp [Region.wanted, yielded]; done)) (by intro w_ hE_; (try dsimp only at hE_); subst hE_; first | (go_simp; done) | (go_simp; rfl)) ?_)
              (try simp only [Act.put, List.setIfInBounds_toArray, List.set_cons_zero, List.set_cons_succ])
              (refine mix_read (o := { dst := some 27, op := Op.indexAddr 24 (Operand.tmp 25) (Operand.tmp 26), type := 0, pos := "ref.go:137", after := #[{ on := 3, ground := Ground.data }, { on := 4, ground := Ground.data }], guard := none }) rfl (by first | rfl | (simp [Region.wanted, yielded]; done)) (by intro w_ hE_; (try dsimp only at hE_); subst hE_; first | (go_simp; done) | (go_simp; rfl)) ?_)
              (try simp only [Act.put, List.setIfInBounds_toArray, List.set_cons_zero, List.set_cons_succ])
              (refine mix_read (o := { dst := some 28, op := Op.load 5 (Operand.tmp 27), type := 5, pos := "ref.go:137", after := #[{ on := 5, ground := Ground.data }], guard := none }) rfl (by first | rfl | (simp [Region.wanted, yielded]; done)) (by intro w_ hE_; (try dsimp only at hE_); subst hE_; first | (go_simp; done) | (go_simp; rfl)) ?_)
              (try simp only [Act.put, List.setIfInBounds_toArray, List.set_cons_zero, List.set_cons_succ])
              (refine mix_read (o := { dst := some 29, op := Op.binOp BinOp.neq 5 (Operand.tmp 24) (Operand.tmp 28) 5, type := 4, pos := "ref.go:137", after := #[{ on := 2, ground := Ground.data }, { on := 6, ground := Ground.data }], guard := none }) rfl (by first | rfl | (simp [Region.wanted, yielded]; done)) (by intro w_ hE_; (try dsimp only at hE_); subst hE_; first | (go_simp; done) | (go_simp; rfl)) ?_)
              (try simp only [Act.put, List.setIfInBounds_toArray, List.set_cons_zero, List.set_cons_succ])
              refine mix_nil ?_
              go_wp2_with ((with_reducible refine gate_builtin (b := .append) (xs := #[.tmp 32, .tmp 35]) rfl ?_); at_builtin; go_must (refine Kd.R_append (Kd.int .u8) (w0 := w) (w.heap.size) rfl (.tmp 32) (.tmp 35) 24 5 (.int .u8 0) 1 rfl Try.underlying24 info5 rfl (by decide) (by omega) u5 acc (j : Int) [.int .u8 (j : Int)] (fun k => k ≠ w.heap.size) (fun _ => False) rfl rfl rfl (fun _ hk => hk.elim) (fun k hk => by have := HLw.out.lt; omega) HOw.out HBw.out HBw.out.size (by have := HAL.out; omega) ?_; intro v102 w4 ho hb hg hat; have HO3 := Aside0.mk ho; have HB2 := Aside0.mk hb; have HL2 := Aside0.mk (HLw.out.of_block (hg.block _ HLw.out.lt (fun e => (HOw.out.1 _ e.symm) rfl))); clear ho hb hg hat))
              have HPJ : Aside0 (rd L (j : Int) = x) := HPX
              clear HPX HPB HJ hcv hjp y1_ y0_ hp q256
              go_loopg [7] j (fun q v7 w' => ∃ m : Nat, v7 = .int .i64 (m : Int) ∧ Aside0 (m = q ∧ m ≤ j) ∧ Aside0 (Kd.R (Kd.int .u8) 5 w' w.heap.size (fun k => k ≠ w.heap.size) v102 (acc ++ [(j : Int)])) ∧
                Aside0 (w'.rowIs w.heap.size 48 256 (sh L j m)) ∧ Aside0 (Below w.heap.size w w'))
              case atStart => exact ⟨j, rfl, ⟨rfl, Nat.le_refl _⟩, HO3, ⟨HL2.out.congr (fun t _ => (sh_top L j t).symm)⟩, HB2⟩
              case round =>
                clear HO3 HL2 HB2 HOw HLw HBw
                obtain ⟨m, rfl, HM, HO, HL, HB⟩ := hrel
                have hj256 := HPL.out
                obtain rfl | ⟨m, rfl⟩ : m = 0 ∨ ∃ m', m = m' + 1 := by cases m with
                  | zero => exact .inl rfl
                  | succ m => exact .inr ⟨m, rfl⟩
                · have hx := HX.out wr HB.out
                  have hc := HL.out.cell (i := 0) (by omega)
                  have hf := HL.out.frozen 0
                  obtain ⟨hb2, hg2, hr2⟩ := put_step HL.out HB.out (Nat.le_refl _) 0 (.int .u8 x)
                  have HB3 := Aside0.mk hb2
                  have HO3 := Aside0.mk (Kd.R_grown HO.out hg2 (fun k hk => by simpa using hk))
                  have HL3 := Aside0.mk (hr2.congr (g := fun t => .int .u8 (rd (mvf L j) (t : Int))) (fun t ht => by
                    rw [← HPJ.out]; exact sh_end L j (by rw [HI.out.2.2.1.len]; exact hj256) t))
                  generalize sh L j 0 0 = z at hc
                  clear hb2 hg2 hr2
                  go_wp2_with fail
                  go_roundg (l.length - (i + 1))
                  case measure => have := HI.out; omega
                  case rel => exact ⟨i + 1, mvf L j, _, by simp, ⟨by omega, HEN.out, HI.out.2.2.1.mvf hj256, by simp; exact HI.out.2.2.2⟩, HO3, HL3, HB3⟩
                · have hmj := HM.out.2
                  have q1 : ((m : Int) + 1 < 256) = True := eq_true (by omega)
                  have q0 : ((m : Int) < 256) = True := eq_true (by omega)
                  have q2 : ((0 : Int) ≤ (m : Int) + 1) = True := eq_true (by omega)
                  have n1 : ((m : Int) + 1).toNat = m + 1 := by omega
                  have q3 : (0 < (m : Int) + 1) = True := eq_true (by omega)
                  have hc1 := HL.out.cell (i := m + 1) (by omega)
                  have hc0 := HL.out.cell (i := m) (by omega)
                  have hf := HL.out.frozen (m + 1)
                  obtain ⟨hb2, hg2, hr2⟩ := put_step HL.out HB.out (Nat.le_refl _) (m + 1) (sh L j (m + 1) m)
                  have HB3 := Aside0.mk hb2
                  have HO3 := Aside0.mk (Kd.R_grown HO.out hg2 (fun k hk => by simpa using hk))
                  have HL3 := Aside0.mk (hr2.congr (g := sh L j m) (fun t ht => sh_step L j m hmj t))
                  obtain ⟨y, hy⟩ : ∃ y, sh L j (m + 1) m = .int .u8 y := ⟨_, rfl⟩
                  rw [hy] at hc0 HB3 HO3 HL3
                  generalize sh L j (m + 1) (m + 1) = z at hc1
                  clear hb2 hg2 hr2 hy
                  go_wp2_with fail
                  go_roundg m
                  case measure => have := HM.out; omega
                  case rel => exact ⟨m, by simp, ⟨rfl, by omega⟩, HO3, HL3, HB3⟩
        · have hi : i = l.length := by have := HI.out; omega
          have he := HI.out.2.1
          rw [hi, List.drop_length] at he
          simp only [encM, List.append_nil] at he
          have h1 := HO.out
          rw [he] at h1
          have HF := Aside0.mk (Kd.R_mono h1 (fun _ _ => trivial) : Kd.R (Kd.int .u8) 5 wr w.heap.size (fun _ => True) u5 E)
          clear he h1 hi
          go_wp2
          go_ret
          exact ⟨_, rfl, by rw [HE.out]; exact HF.out, HB.out⟩
set_option maxRecDepth 100000 in
theorem back_calls (A : Option Addr) (c : Nat) (l : List Int) (hby : Bys l) (w : World) (hr : Kd.C (Kd.int .u8) w A l.length l) (hl : l.length ≤ 140737488351232) :
    Calls Try.prog 17 #[.slice A l.length c] w fun e w' => ∃ v : Value, e = .returned v ∧ Kd.R (Kd.int .u8) 5 w' w.heap.size (fun _ => True) v (decM initL l) ∧ Below w.heap.size w w' := by
  have HR := Aside0.mk hr
  have HBY := Aside0.mk hby
  have HENC : Aside0 (∃ e, decM initL l = e) := ⟨⟨_, rfl⟩⟩
  obtain ⟨E, hE⟩ := HENC.out
  have HE := Aside0.mk hE
  have HB0 := Aside0.mk (Below.refl w.heap.size w)
  clear hr hby hE HENC
  go_enter Try.func17, Try.ntmps17
  obtain ⟨C, hC, hz⟩ := zero_parts
  have hz48 := hz w
  have HB1 := Aside0.mk (HB0.out.alloc (Nat.le_refl _) (.cells C 48))
  have HA1 : Aside0 (World.rowIs (w.alloc (.cells C 48)) w.heap.size 48 256 (fun j => C.getD j undef)) := ⟨by
    rw [← hC]
    exact World.rowIs_alloc w C _ _ (fun i hi => by simp [hi])⟩
  clear hz
  go_wp2_with fail
  go_loopg [4] 256 (fun g v4 w' => ∃ (i : Nat) (f : Nat → Value), v4 = .int .i64 (i : Int) ∧ Aside0 (i + g = 256) ∧ Aside0 (w'.rowIs w.heap.size 48 256 f ∧ ∀ j, j < i → f j = .int .u8 (j : Int)) ∧ Aside0 (Below w.heap.size w w'))
  case atStart => exact ⟨0, _, rfl, ⟨rfl⟩, ⟨HA1.out, fun j hj => by omega⟩, HB1⟩
  case round =>
    clear HB0 HB1 HA1 hz48
    obtain ⟨i, f, rfl, HI, HA, HB⟩ := hrel
    by_cases hlt : i < 256
    · have hx := HA.out.1.cell hlt
      have hfz := HA.out.1.frozen i
      have hcv : IntKind.u8.wrap (i : Int) = (i : Int) := by rw [IntKind.wrap_u8]; omega
      obtain ⟨hb2, _, hr2⟩ := put_step HA.out.1 HB.out (Nat.le_refl _) i (.int .u8 (i : Int))
      have HB2 := Aside0.mk hb2
      have HA2 := Aside0.mk hr2
      generalize hy : f i = y at hx
      clear hb2 hr2 hy
      go_wp2_with fail
      go_roundg (256 - (i + 1))
      case measure => have := HI.out; omega
      case rel =>
        refine ⟨i + 1, _, by simp, ⟨by omega⟩, ⟨HA2.out, fun j hj => ?_⟩, HB2⟩
        by_cases e : j = i
        · rw [if_pos e, e]
        · rw [if_neg e]; exact HA.out.2 j (by omega)
    · have HA2 : Aside0 (wr.rowIs w.heap.size 48 256 (fun j => .int .u8 (rd initL (j : Int)))) := ⟨HA.out.1.congr (fun j hj => by
        rw [HA.out.2 j (by have := HI.out; omega)]; simp [rd_nat, initL, hj])⟩
      clear HA
      go_wp2_with fail
      go_loopg [5, 6] l.length (fun q v5 v6 w' => ∃ (i : Nat) (L acc : List Int), v6 = .int .i64 (i : Int) ∧ Aside0 (i + q = l.length ∧ acc ++ decM L (l.drop i) = E ∧ Ok L ∧ acc.length = i) ∧ Aside0 (Kd.R (Kd.int .u8) 5 w' w.heap.size (fun k => k ≠ w.heap.size) v5 acc) ∧
        Aside0 (w'.rowIs w.heap.size 48 256 (fun j => .int .u8 (rd L (j : Int)))) ∧ Aside0 (Below w.heap.size w w'))
      case atStart => exact ⟨0, initL, [], rfl, ⟨by omega, by rw [← HE.out]; rfl, ok_initL, rfl⟩, ⟨Kd.R_nil _ _ _ _ _⟩, HA2, HB⟩
      case round =>
        clear HB HA2 hlt HI
        obtain ⟨i, L, acc, rfl, HI, HO, HL, HB⟩ := hrel
        by_cases hlt : i < l.length
        · obtain ⟨ad, e_, _⟩ := Kd.at_int HR.out (i : Int) (by omega) (by omega)
          subst e_
          have hx := cell_at HR.out HB.out i hlt
          have hbx := rd_bys HBY.out hlt
          have hst : l.drop i = rd l (i : Int) :: l.drop (i + 1) := by
            have e := split_rd hlt
            have e2 : (l.take i).length = i := by rw [List.length_take]; omega
            conv => lhs; rw [e]
            rw [List.drop_left' e2]
          obtain ⟨j, hj⟩ : ∃ j : Nat, rd l (i : Int) = (j : Int) := ⟨(rd l (i : Int)).toNat, by omega⟩
          rw [hj] at hx hst hbx
          have hj256 : j < 256 := by omega
          have henc : acc ++ [rd L (j : Int)] ++ decM (mvf L j) (l.drop (i + 1)) = E := by
            rw [← HI.out.2.1, hst]; simp [decM]
          have hc := HL.out.cell (i := j) hj256
          obtain ⟨x, hxx⟩ : ∃ x, rd L (j : Int) = x := ⟨_, rfl⟩
          have hc2 : wr.cell? ⟨w.heap.size, j, none⟩ = some (.int .u8 x) := by rw [← hxx]; exact hc
          rw [hxx] at henc
          have HPX := Aside0.mk hxx
          have HPL := Aside0.mk hj256
          have HEN := Aside0.mk henc
          have HAL : Aside0 (acc.length ≤ 140737488351232) := ⟨by have := HI.out; omega⟩
          have q256 : ((j : Int) < 256) = True := eq_true (by omega)
          clear henc hst hj hbx hc hxx
          go_wp2_with ((with_reducible refine gate_builtin (b := .append) (xs := #[.tmp 31, .tmp 33]) rfl ?_); at_builtin; go_must (refine Kd.R_append (Kd.int .u8) (w0 := w) (w.heap.size) rfl (.tmp 31) (.tmp 33) 24 5 (.int .u8 0) 1 rfl Try.underlying24 info5 rfl (by decide) (by omega) u5 acc x [.int .u8 x] (fun k => k ≠ w.heap.size) (fun _ => False) rfl rfl rfl (fun _ hk => hk.elim) (fun k hk => by have := HL.out.lt; omega) HO.out HB.out HB.out.size (by have := HAL.out; omega) ?_; intro v102 w4 ho hb hg hat; have HO3 := Aside0.mk ho; have HB2 := Aside0.mk hb; have HL2 := Aside0.mk (HL.out.of_block (hg.block _ HL.out.lt (fun e => (HO.out.1 _ e.symm) rfl))); clear ho hb hg hat))
          have HPJ : Aside0 (rd L (j : Int) = x) := HPX
          clear HPX hc2 hx q256 hj256
          go_loopg [7] j (fun q v7 w' => ∃ m : Nat, v7 = .int .i64 (m : Int) ∧ Aside0 (m = q ∧ m ≤ j) ∧ Aside0 (Kd.R (Kd.int .u8) 5 w' w.heap.size (fun k => k ≠ w.heap.size) v102 (acc ++ [x])) ∧
            Aside0 (w'.rowIs w.heap.size 48 256 (sh L j m)) ∧ Aside0 (Below w.heap.size w w'))
          case atStart => exact ⟨j, rfl, ⟨rfl, Nat.le_refl _⟩, HO3, ⟨HL2.out.congr (fun t _ => (sh_top L j t).symm)⟩, HB2⟩
          case round =>
            clear HO3 HL2 HB2 HO HL HB
            obtain ⟨m, rfl, HM, HO, HL, HB⟩ := hrel
            have hj256 := HPL.out
            obtain rfl | ⟨m, rfl⟩ : m = 0 ∨ ∃ m', m = m' + 1 := by cases m with
              | zero => exact .inl rfl
              | succ m => exact .inr ⟨m, rfl⟩
            · have q00 : ((0 : Int) < 256) = True := eq_true (by omega)
              have hc := HL.out.cell (i := 0) (by omega)
              have hf := HL.out.frozen 0
              obtain ⟨hb2, hg2, hr2⟩ := put_step HL.out HB.out (Nat.le_refl _) 0 (.int .u8 x)
              have HB3 := Aside0.mk hb2
              have HO3 := Aside0.mk (Kd.R_grown HO.out hg2 (fun k hk => by simpa using hk))
              have HL3 := Aside0.mk (hr2.congr (g := fun t => .int .u8 (rd (mvf L j) (t : Int))) (fun t ht => by
                rw [← HPJ.out]; exact sh_end L j (by rw [HI.out.2.2.1.len]; exact hj256) t))
              generalize sh L j 0 0 = z at hc
              clear hb2 hg2 hr2
              go_wp2_with fail
              go_roundg (l.length - (i + 1))
              case measure => have := HI.out; omega
              case rel => exact ⟨i + 1, mvf L j, _, by simp, ⟨by omega, HEN.out, HI.out.2.2.1.mvf hj256, by simp; exact HI.out.2.2.2⟩, HO3, HL3, HB3⟩
            · have hmj := HM.out.2
              have q1 : ((m : Int) + 1 < 256) = True := eq_true (by omega)
              have q0 : ((m : Int) < 256) = True := eq_true (by omega)
              have q2 : ((0 : Int) ≤ (m : Int) + 1) = True := eq_true (by omega)
              have n1 : ((m : Int) + 1).toNat = m + 1 := by omega
              have q3 : (0 < (m : Int) + 1) = True := eq_true (by omega)
              have hc1 := HL.out.cell (i := m + 1) (by omega)
              have hc0 := HL.out.cell (i := m) (by omega)
              have hf := HL.out.frozen (m + 1)
              obtain ⟨hb2, hg2, hr2⟩ := put_step HL.out HB.out (Nat.le_refl _) (m + 1) (sh L j (m + 1) m)
              have HB3 := Aside0.mk hb2
              have HO3 := Aside0.mk (Kd.R_grown HO.out hg2 (fun k hk => by simpa using hk))
              have HL3 := Aside0.mk (hr2.congr (g := sh L j m) (fun t ht => sh_step L j m hmj t))
              obtain ⟨y, hy⟩ : ∃ y, sh L j (m + 1) m = .int .u8 y := ⟨_, rfl⟩
              rw [hy] at hc0 HB3 HO3 HL3
              generalize sh L j (m + 1) (m + 1) = z at hc1
              clear hb2 hg2 hr2 hy
              go_wp2_with fail
              go_roundg m
              case measure => have := HM.out; omega
              case rel => exact ⟨m, by simp, ⟨rfl, by omega⟩, HO3, HL3, HB3⟩
        · have hi : i = l.length := by have := HI.out; omega
          have he := HI.out.2.1
          rw [hi, List.drop_length] at he
          simp only [decM, List.append_nil] at he
          have h1 := HO.out
          rw [he] at h1
          have HF := Aside0.mk (Kd.R_mono h1 (fun _ _ => trivial) : Kd.R (Kd.int .u8) 5 wr w.heap.size (fun _ => True) u5 E)
          clear he h1 hi
          go_wp2
          go_ret
          exact ⟨_, rfl, by rw [HE.out]; exact HF.out, HB.out⟩
end Go.Proofs.Ytpgbapbmikneiaa.MtR
