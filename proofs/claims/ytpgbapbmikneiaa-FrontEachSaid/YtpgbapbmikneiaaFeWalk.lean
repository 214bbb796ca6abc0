/- FrontEach: of each byte once: it answers true. No condition. -/
import Derived.Test.YtpgbapbmikneiaaProg
import Derived.Below
import Derived.Deep.Draws
import Derived.Deep.AppendLies
import Derived.Maps.AppendAt
import Derived.OwnWalk
import Derived.Laws.BytesArg
import Derived.Laws.MakeOwn
import Derived.Laws.OwnMore
import Derived.Deep.OwnRows
import Derived.Tactics
import Derived.Lib.ConvBytes
import Derived.Laws.Slices
import Derived.WalkKit
import Derived.KernelRfl
import Derived.RowKit3
import Derived.Deep.LoopGhost
import Derived.Deep.QuietTactic
import Derived.BigQuiet
import Derived.WideLaws
import Derived.Deep.DeepCutAuto
import Derived.Deep.CutBlock
import Derived.Deep.RegionHeld3
import Derived.Laws.Rows
import Derived.Lib.AppendStr
import Derived.ArgAppend
import Derived.Laws.IdiomCopy
import Derived.OrdersHeld
import Derived.Laws.BitsLemmas
import Derived.RowKit
import Derived.Deep.RegionWith
import Derived.WalkSpells
import Derived.Outline
import Derived.Test.YtpgbapbmikneiaaWWords
import Derived.Test.YtpgbapbmikneiaaWLast
import Derived.Test.YtpgbapbmikneiaaWMore
import Derived.Test.YtpgbapbmikneiaaWArr
import Derived.Test.YtpgbapbmikneiaaWTab
import Derived.Test.YtpgbapbmikneiaaWZeros
import Derived.Test.YtpgbapbmikneiaaWRepsOne
import Derived.Test.YtpgbapbmikneiaaMtC
import Derived.Test.YtpgbapbmikneiaaNbWalk
import Derived.Test.YtpgbapbmikneiaaFePure
namespace Go.Proofs.Ytpgbapbmikneiaa.FeWalk
open Go.RowKit Go.Proofs.YtpgbapbmikneiaaW.PrintWords Go.Proofs.YtpgbapbmikneiaaW.PrintLast Go.Proofs.YtpgbapbmikneiaaW.PrintMore Go.Proofs.Ytpgbapbmikneiaa.Nm Go.Proofs.Ytpgbapbmikneiaa.NmA Go.Proofs.Ytpgbapbmikneiaa.NmB Go.Proofs.Ytpgbapbmikneiaa.NmC Go.Proofs.Ytpgbapbmikneiaa.Mt Go.Proofs.Ytpgbapbmikneiaa.Mix Go.Proofs.Ytpgbapbmikneiaa.MtA Go.Proofs.Ytpgbapbmikneiaa.MtB Go.Proofs.Ytpgbapbmikneiaa.MtC Go.Proofs.Ytpgbapbmikneiaa.NbWalk Go.Proofs.Ytpgbapbmikneiaa.FePure
set_option linter.unusedSimpArgs false
set_option linter.unusedVariables false
attribute [local go_sem] max2_int min2_int max_two min_two

set_option maxRecDepth 100000 in
set_option maxHeartbeats 4000000 in
theorem walk (a0 : Int) (w : World) (w0 : (Lit.int .i64 a0).wf = true) :
    Calls Try.prog 6 #[.int .i64 a0] w fun e w' => e = .returned (.bool true) ∧ Below w.heap.size w w' := by
  have hw0 : -9223372036854775808 ≤ a0 ∧ a0 ≤ 9223372036854775807 := by
    simp [Lit.wf, IntKind.min, IntKind.max, IntKind.bits, IntKind.signed] at w0
    omega
  clear w0
  go_enter Try.func6, Try.ntmps6
  go_wp2_with fail
  refine (begun_calls w).mono ?_
  rintro e_ w1 ⟨rfl, hb⟩
  have HB1 := Aside0.mk hb
  clear hb
  by_cases h1 : a0 < 1
  · go_wp2
    go_ret
    exact ⟨by simp, HB1.out⟩
  by_cases h2 : 255 < a0
  · go_wp2
    go_ret
    exact ⟨by simp, HB1.out⟩
  by_cases h3 : a0 % 2 = 0
  · go_wp2
    go_ret
    exact ⟨by simp, HB1.out⟩
  obtain ⟨s, rfl⟩ := Int.eq_ofNat_of_zero_le (by omega : 0 ≤ a0)
  have hs : s < 256 := by omega
  have ho : s % 2 = 1 := by omega
  have hne := bL_ne hs ho
  have HS := Aside0.mk hs
  have h3b : (((s : Int) % 2) == 0) = false := beq_eq_false_iff_ne.2 h3
  have h3c : ((s % 2) == 0) = false := beq_eq_false_iff_ne.2 (by omega)
  clear hw0 ho
  go_wp2
  go_loopg [4, 5, 6] 256 (fun g v4 v5 v6 w' => ∃ (i k : Nat), v6 = .int .i64 (i : Int) ∧ v5 = .int .i64 (k : Int) ∧ Aside0 (i + g = 256 ∧ k = i * s % 256) ∧ Aside0 (Kd.R (Kd.int .u8) 5 w' w.heap.size (fun _ => True) v4 (bL s i)) ∧ Aside0 (Below w.heap.size w w'))
  case atStart => exact ⟨0, 0, rfl, rfl, ⟨rfl, by simp⟩, ⟨Kd.R_nil _ _ _ _ _⟩, HB1⟩
  case round =>
    clear HB1
    obtain ⟨i, k, rfl, rfl, HI, HR, HB⟩ := hrel
    by_cases hlt : i < 256
    · have HL : Aside0 ((bL s i).length ≤ 256) := ⟨by rw [bL_len]; omega⟩
      have hk : k < 256 := by have := HI.out.2; omega
      have hsl := HS.out
      have hcv : IntKind.u8.wrap (k : Int) = (k : Int) := by rw [IntKind.wrap_u8]; omega
      have hw1 : IntKind.i64.wrap ((k : Int) + (s : Int)) = (k : Int) + (s : Int) := by rw [IntKind.wrap_i64]; omega
      obtain ⟨k2, hk2⟩ : ∃ k2, k2 = (k + s) % 256 := ⟨_, rfl⟩
      have hm1 : ((k : Int) + (s : Int)) % 256 = (k2 : Int) := by omega
      have hm2 : ((k : Int) + (s : Int)).tmod 256 = (k2 : Int) := by rw [Int.tmod_eq_emod_of_nonneg (by omega)]; exact hm1
      have hw2 : IntKind.i64.wrap (k2 : Int) = (k2 : Int) := by rw [IntKind.wrap_i64]; omega
      have HK : Aside0 (k2 = (i + 1) * s % 256) := ⟨by rw [hk2, HI.out.2, Nat.add_mul, Nat.one_mul, Nat.mod_add_mod]⟩
      clear hk2
      have HBL : Aside0 (bL s i ++ [(k : Int)] = bL s (i + 1)) := ⟨by rw [bL_succ, HI.out.2]⟩
      generalize bL s i = bb at HR HL HBL
      go_wp2_with ((with_reducible refine gate_builtin (b := .append) (xs := #[.tmp 29, .tmp 32]) rfl ?_); at_builtin; go_must (refine Kd.R_append (Kd.int .u8) (w0 := w) (w.heap.size) rfl (.tmp 29) (.tmp 32) 24 5 (.int .u8 0) 1 rfl Try.underlying24 info5 rfl (by decide) (by omega) u4 bb (k : Int) [.int .u8 (k : Int)] (fun _ => True) (fun _ => False) rfl rfl rfl (fun _ hk => hk.elim) (fun _ _ => trivial) HR.out HB.out HB.out.size (by have := HL.out; omega) ?_; intro v102 w4 ho hb hg hat; have HO := Aside0.mk ho; have HB2 := Aside0.mk hb; clear ho hb hg hat))
      go_roundg (256 - (i + 1))
      case measure => have := HI.out; omega
      case rel =>
        refine ⟨i + 1, k2, by simp, rfl, ⟨by omega, HK.out⟩, ⟨?_⟩, HB2⟩
        rw [← HBL.out]; exact HO.out
    · have hi : i = 256 := by have := HI.out; omega
      have hr := HR.out
      rw [hi] at hr
      have hby := bys_bL s 256
      have hlen := bL_len s 256
      have hea := fun i hi => each hby hne i hi
      have hdp := fun A' c' w h => decode_calls A' c' (encM initL (bL s 256)) (bys_encM ok_initL hby) w h (by rw [encM_len, hlen]; decide)
      rw [decM_encM ok_initL hby] at hdp
      have hel := encM_len initL (bL s 256)
      have hen := fun A c w h => encode_calls A c (bL s 256) hby w h (by rw [hlen]; decide)
      clear HR
      generalize bL s 256 = b at *
      generalize encM initL b = p at *
      obtain ⟨A1, c1, e1⟩ := Kd.R_slice hr
      subst e1
      have HR := Aside0.mk (Kd.R_reads' hr).2.2
      rw [hel] at hdp
      have HEN := Aside0.mk hen
      have HEA := Aside0.mk hea
      have HDP := Aside0.mk hdp
      have HLEN := Aside0.mk hlen
      have HPL := Aside0.mk hel
      have HBY := Aside0.mk hby
      clear hen hea hdp hlen hel hby hr hi hne
      go_wp2_with fail
      refine (HEN.out A1 c1 wr HR.out).mono ?_
      rintro e_ w2 ⟨v1, rfl, ho, hb⟩
      obtain ⟨A2, c2, rfl⟩ := Kd.R_slice ho
      have HO := Aside0.mk (Kd.R_reads' ho).2.2
      have HB2 := Aside0.mk (below_step HB.out hb)
      have HQ := Aside0.mk (Kd.C_below HR.out hb)
      have hpl := HPL.out
      clear ho hb HR HB
      rw [hpl] at HO
      rw [hpl]
      clear hpl hlt
      go_wp2_with fail
      go_loopg [8] 256 (fun g v8 w' => ∃ (i : Nat), v8 = .int .i64 (i : Int) ∧ Aside0 (i + g = 256) ∧ Aside0 (Below w2.heap.size w2 w'))
      case atStart => exact ⟨0, rfl, ⟨rfl⟩, ⟨Below.refl _ _⟩⟩
      case round =>
        rename_i ipast hpast
        obtain ⟨i2, rfl, HI2, HB⟩ := hrel
        by_cases hlt : i2 < 256
        · have hlb : i2 < b.length := by rw [HLEN.out]; exact hlt
          obtain ⟨ad, e_, _⟩ := Kd.at_int HQ.out (i2 : Int) (by omega) (by omega)
          subst e_
          obtain ⟨ad2, e_, _⟩ := Kd.at_int HO.out (i2 : Int) (by omega) (by omega)
          subst e_
          have hxb := rd_bys HBY.out hlb
          have hea := HEA.out i2 hlb
          have HXI : Aside0 (∀ w', Below w2.heap.size w2 w' → w'.cell? (ad.add i2) = some (.int .u8 (rd b (i2 : Int)))) := ⟨fun w' h => cell_at HQ.out h i2 hlb⟩
          have HXP : Aside0 (∀ w', Below w2.heap.size w2 w' → w'.cell? (ad2.add i2) = some (.int .u8 (rd p (i2 : Int)))) := ⟨fun w' h => cell_at HO.out h i2 hlb⟩
          generalize rd b (i2 : Int) = x at *
          generalize rd p (i2 : Int) = y at *
          have HEY := Aside0.mk hea
          have q0 : ((i2 : Int) < (b.length : Int)) = True := eq_true (by omega)
          have q256 : ((i2 : Int) < 256) = True := eq_true (by omega)
          clear hea
          go_wp2_with fail
          go_loopg [9, 10] i2 (fun g v9 v10 w' => ∃ (j n : Nat), v10 = .int .i64 (j : Int) ∧ v9 = .int .i64 (n : Int) ∧ Aside0 (j + g = i2 ∧ n = cnt b x j) ∧ Aside0 (Below w2.heap.size w2 w'))
          case atStart => exact ⟨0, 0, rfl, rfl, ⟨by omega, rfl⟩, HB⟩
          case round =>
            clear HB
            obtain ⟨j, n, rfl, rfl, HJ, HB⟩ := hrel
            have hn : n ≤ 256 := by have := HJ.out; have := cnt_le b x j; omega
            by_cases hj : j < i2
            · have hjb : j < b.length := by omega
              have q1 : ((j : Int) < (b.length : Int)) = True := eq_true (by omega)
              have hx := HXI.out wr HB.out
              have hy := cell_at HQ.out HB.out j hjb
              have HCN : Aside0 (cnt b x (j + 1) = n + if x < rd b (j : Int) then 1 else 0) := ⟨by rw [cnt, HJ.out.2]⟩
              generalize rd b (j : Int) = z at *
              by_cases hg : x < z
              · rw [if_pos hg] at HCN
                go_wp2
                refine wp_region_mix (fun w_ w1_ => w_ = w1_) [(false, 0), (false, 1), (false, 2), (false, 3), (false, 4), (false, 5), (false, 6), (false, 7), (false, 8)] (by kernel_rfl) (by kernel_rfl) (fun _ => rfl) (fun h h' => h.trans h') (fun wd hhp_ hbw_ => ?_)
                have y1_ : wd.cell? (ad.add i2) = _ := (hbw_.cell (World.block_lt_of_cell? wr _ hx)).trans hx
                have y0_ : wd.cell? (ad.add j) = _ := (hbw_.cell (World.block_lt_of_cell? wr _ hy)).trans hy
                clear hx hy
                have HBw := Aside0.mk (below_step HB.out hbw_)
                clear hhp_ hbw_ HB
                (refine mix_read (o := { dst := some 49, op := Op.move (Operand.tmp 4), type := 24, pos := "wide.go:24", after := #[], guard := none }) rfl (by first | rfl | (simp [Region.wanted, yielded]; done)) (by intro w_ hE_; (try dsimp only at hE_); subst hE_; first | (go_simp; done) | (go_simp; rfl)) ?_)
                (try simp only [Act.put, List.setIfInBounds_toArray, List.set_cons_zero, List.set_cons_succ])
                (refine mix_read (o := { dst := some 50, op := Op.move (Operand.tmp 10), type := 3, pos := "wide.go:24", after := #[], guard := none }) rfl (by first | rfl | (simp [Region.wanted, yielded]; done)) (by intro w_ hE_; (try dsimp only at hE_); subst hE_; first | (go_simp; done) | (go_simp; rfl)) ?_)
                (try simp only [Act.put, List.setIfInBounds_toArray, List.set_cons_zero, List.set_cons_succ])
                (refine mix_read (o := { dst := some 51, op := Op.indexAddr 24 (Operand.tmp 49) (Operand.tmp 50), type := 0, pos := "wide.go:24", after := #[{ on := 0, ground := Ground.data }, { on := 1, ground := Ground.data }], guard := none }) rfl (by first | rfl | (simp [Region.wanted, yielded]; done)) (by intro w_ hE_; (try dsimp only at hE_); subst hE_; first | (go_simp; done) | (go_simp; rfl)) ?_)
                (try simp only [Act.put, List.setIfInBounds_toArray, List.set_cons_zero, List.set_cons_succ])
                (refine mix_read (o := { dst := some 52, op := Op.load 5 (Operand.tmp 51), type := 5, pos := "wide.go:24", after := #[{ on := 2, ground := Ground.data }], guard := none }) rfl (by first | rfl | (simp [Region.wanted, yielded]; done)) (by intro w_ hE_; (try dsimp only at hE_); subst hE_; first | (go_simp; done) | (go_simp; rfl)) ?_)
                (try simp only [Act.put, List.setIfInBounds_toArray, List.set_cons_zero, List.set_cons_succ])
                (refine mix_read (o := { dst := some 53, op := Op.move (Operand.tmp 4), type := 24, pos := "wide.go:24", after := #[], guard := none }) rfl (by first | rfl | (simp [Region.wanted, yielded]; done)) (by intro w_ hE_; (try dsimp only at hE_); subst hE_; first | (go_simp; done) | (go_simp; rfl)) ?_)
                (try simp only [Act.put, List.setIfInBounds_toArray, List.set_cons_zero, List.set_cons_succ])
                (refine mix_read (o := { dst := some 54, op := Op.move (Operand.tmp 8), type := 3, pos := "wide.go:24", after := #[], guard := none }) rfl (by first | rfl | (simp [Region.wanted, yielded]; done)) (by intro w_ hE_; (try dsimp only at hE_); subst hE_; first | (go_simp; done) | (go_simp; rfl)) ?_)
                (try simp only [Act.put, List.setIfInBounds_toArray, List.set_cons_zero, List.set_cons_succ])
                (refine mix_read (o := { dst := some 55, op := Op.indexAddr 24 (Operand.tmp 53) (Operand.tmp 54), type := 0, pos := "wide.go:24", after := #[{ on := 4, ground := Ground.data }, { on := 5, ground := Ground.data }], guard := none }) rfl (by first | rfl | (simp [Region.wanted, yielded]; done)) (by intro w_ hE_; (try dsimp only at hE_); subst hE_; first | (go_simp; done) | (go_simp; rfl)) ?_)
                (try simp only [Act.put, List.setIfInBounds_toArray, List.set_cons_zero, List.set_cons_succ])
                (refine mix_read (o := { dst := some 56, op := Op.load 5 (Operand.tmp 55), type := 5, pos := "wide.go:24", after := #[{ on := 6, ground := Ground.data }], guard := none }) rfl (by first | rfl | (simp [Region.wanted, yielded]; done)) (by intro w_ hE_; (try dsimp only at hE_); subst hE_; first | (go_simp; done) | (go_simp; rfl)) ?_)
                (try simp only [Act.put, List.setIfInBounds_toArray, List.set_cons_zero, List.set_cons_succ])
                (refine mix_read (o := { dst := some 57, op := Op.binOp BinOp.gtr 5 (Operand.tmp 52) (Operand.tmp 56) 5, type := 4, pos := "wide.go:24", after := #[{ on := 3, ground := Ground.data }, { on := 7, ground := Ground.data }], guard := none }) rfl (by first | rfl | (simp [Region.wanted, yielded]; done)) (by intro w_ hE_; (try dsimp only at hE_); subst hE_; first | (go_simp; done) | (go_simp; rfl)) ?_)
                (try simp only [Act.put, List.setIfInBounds_toArray, List.set_cons_zero, List.set_cons_succ])
                refine mix_nil ?_
                go_wp2
                go_roundg (i2 - (j + 1))
                case measure => have := HJ.out; omega
                case rel => exact ⟨j + 1, n + 1, by simp, by simp, ⟨by omega, HCN.out.symm⟩, HBw⟩
              · rw [if_neg hg] at HCN
                go_wp2
                refine wp_region_mix (fun w_ w1_ => w_ = w1_) [(false, 0), (false, 1), (false, 2), (false, 3), (false, 4), (false, 5), (false, 6), (false, 7), (false, 8)] (by kernel_rfl) (by kernel_rfl) (fun _ => rfl) (fun h h' => h.trans h') (fun wd hhp_ hbw_ => ?_)
                have y1_ : wd.cell? (ad.add i2) = _ := (hbw_.cell (World.block_lt_of_cell? wr _ hx)).trans hx
                have y0_ : wd.cell? (ad.add j) = _ := (hbw_.cell (World.block_lt_of_cell? wr _ hy)).trans hy
                clear hx hy
                have HBw := Aside0.mk (below_step HB.out hbw_)
                clear hhp_ hbw_ HB
                (refine mix_read (o := { dst := some 49, op := Op.move (Operand.tmp 4), type := 24, pos := "wide.go:24", after := #[], guard := none }) rfl (by first | rfl | (simp [Region.wanted, yielded]; done)) (by intro w_ hE_; (try dsimp only at hE_); subst hE_; first | (go_simp; done) | (go_simp; rfl)) ?_)
                (try simp only [Act.put, List.setIfInBounds_toArray, List.set_cons_zero, List.set_cons_succ])
                (refine mix_read (o := { dst := some 50, op := Op.move (Operand.tmp 10), type := 3, pos := "wide.go:24", after := #[], guard := none }) rfl (by first | rfl | (simp [Region.wanted, yielded]; done)) (by intro w_ hE_; (try dsimp only at hE_); subst hE_; first | (go_simp; done) | (go_simp; rfl)) ?_)
                (try simp only [Act.put, List.setIfInBounds_toArray, List.set_cons_zero, List.set_cons_succ])
                (refine mix_read (o := { dst := some 51, op := Op.indexAddr 24 (Operand.tmp 49) (Operand.tmp 50), type := 0, pos := "wide.go:24", after := #[{ on := 0, ground := Ground.data }, { on := 1, ground := Ground.data }], guard := none }) rfl (by first | rfl | (simp [Region.wanted, yielded]; done)) (by intro w_ hE_; (try dsimp only at hE_); subst hE_; first | (go_simp; done) | (go_simp; rfl)) ?_)
                (try simp only [Act.put, List.setIfInBounds_toArray, List.set_cons_zero, List.set_cons_succ])
                (refine mix_read (o := { dst := some 52, op := Op.load 5 (Operand.tmp 51), type := 5, pos := "wide.go:24", after := #[{ on := 2, ground := Ground.data }], guard := none }) rfl (by first | rfl | (simp [Region.wanted, yielded]; done)) (by intro w_ hE_; (try dsimp only at hE_); subst hE_; first | (go_simp; done) | (go_simp; rfl)) ?_)
                (try simp only [Act.put, List.setIfInBounds_toArray, List.set_cons_zero, List.set_cons_succ])
                (refine mix_read (o := { dst := some 53, op := Op.move (Operand.tmp 4), type := 24, pos := "wide.go:24", after := #[], guard := none }) rfl (by first | rfl | (simp [Region.wanted, yielded]; done)) (by intro w_ hE_; (try dsimp only at hE_); subst hE_; first | (go_simp; done) | (go_simp; rfl)) ?_)
                (try simp only [Act.put, List.setIfInBounds_toArray, List.set_cons_zero, List.set_cons_succ])
                (refine mix_read (o := { dst := some 54, op := Op.move (Operand.tmp 8), type := 3, pos := "wide.go:24", after := #[], guard := none }) rfl (by first | rfl | (simp [Region.wanted, yielded]; done)) (by intro w_ hE_; (try dsimp only at hE_); subst hE_; first | (go_simp; done) | (go_simp; rfl)) ?_)
                (try simp only [Act.put, List.setIfInBounds_toArray, List.set_cons_zero, List.set_cons_succ])
                (refine mix_read (o := { dst := some 55, op := Op.indexAddr 24 (Operand.tmp 53) (Operand.tmp 54), type := 0, pos := "wide.go:24", after := #[{ on := 4, ground := Ground.data }, { on := 5, ground := Ground.data }], guard := none }) rfl (by first | rfl | (simp [Region.wanted, yielded]; done)) (by intro w_ hE_; (try dsimp only at hE_); subst hE_; first | (go_simp; done) | (go_simp; rfl)) ?_)
                (try simp only [Act.put, List.setIfInBounds_toArray, List.set_cons_zero, List.set_cons_succ])
                (refine mix_read (o := { dst := some 56, op := Op.load 5 (Operand.tmp 55), type := 5, pos := "wide.go:24", after := #[{ on := 6, ground := Ground.data }], guard := none }) rfl (by first | rfl | (simp [Region.wanted, yielded]; done)) (by intro w_ hE_; (try dsimp only at hE_); subst hE_; first | (go_simp; done) | (go_simp; rfl)) ?_)
                (try simp only [Act.put, List.setIfInBounds_toArray, List.set_cons_zero, List.set_cons_succ])
                (refine mix_read (o := { dst := some 57, op := Op.binOp BinOp.gtr 5 (Operand.tmp 52) (Operand.tmp 56) 5, type := 4, pos := "wide.go:24", after := #[{ on := 3, ground := Ground.data }, { on := 7, ground := Ground.data }], guard := none }) rfl (by first | rfl | (simp [Region.wanted, yielded]; done)) (by intro w_ hE_; (try dsimp only at hE_); subst hE_; first | (go_simp; done) | (go_simp; rfl)) ?_)
                (try simp only [Act.put, List.setIfInBounds_toArray, List.set_cons_zero, List.set_cons_succ])
                refine mix_nil ?_
                go_wp2
                go_roundg (i2 - (j + 1))
                case measure => have := HJ.out; omega
                case rel => exact ⟨j + 1, n, by simp, rfl, ⟨by omega, HCN.out.symm⟩, HBw⟩
            · obtain rfl : j = i2 := by have := HJ.out; omega
              have hx := HXI.out wr HB.out
              have hp := HXP.out wr HB.out
              have hyx : y = x + (n : Int) := by rw [HEY.out, HJ.out.2]
              have b1 : (y == x + (n : Int)) = true := beq_iff_eq.2 hyx
              have b2 : (y != x + (n : Int)) = false := by simp [hyx]
              have k1 : IntKind.i64.wrap y = y := by rw [IntKind.wrap_i64]; omega
              have k2 : IntKind.i64.wrap x = x := by rw [IntKind.wrap_i64]; omega
              have k3 : IntKind.i64.wrap (x + (n : Int)) = x + (n : Int) := by rw [IntKind.wrap_i64]; omega
              clear hyx
              go_wp2
              refine wp_region_mix (fun w_ w1_ => w_ = w1_) [(false, 0), (false, 1), (false, 2), (false, 3), (false, 4), (false, 5), (false, 6), (false, 7), (false, 8), (false, 9), (false, 10), (false, 11), (false, 12)] (by kernel_rfl) (by kernel_rfl) (fun _ => rfl) (fun h h' => h.trans h') (fun wd hhp_ hbw_ => ?_)
              have y1_ : wd.cell? (ad.add j) = _ := (hbw_.cell (World.block_lt_of_cell? wr _ hx)).trans hx
              have y0_ : wd.cell? (ad2.add j) = _ := (hbw_.cell (World.block_lt_of_cell? wr _ hp)).trans hp
              clear hx hp
              have HBw := Aside0.mk (below_step HB.out hbw_)
              clear hhp_ hbw_ HB
              (refine mix_read (o := { dst := some 60, op := Op.move (Operand.tmp 7), type := 24, pos := "wide.go:28", after := #[], guard := none }) rfl (by first | rfl | (simp [Region.wanted, yielded]; done)) (by intro w_ hE_; (try dsimp only at hE_); subst hE_; first | (go_simp; done) | (go_simp; rfl)) ?_)
              (try simp only [Act.put, List.setIfInBounds_toArray, List.set_cons_zero, List.set_cons_succ])
              (refine mix_read (o := { dst := some 61, op := Op.move (Operand.tmp 8), type := 3, pos := "wide.go:28", after := #[], guard := none }) rfl (by first | rfl | (simp [Region.wanted, yielded]; done)) (by intro w_ hE_; (try dsimp only at hE_); subst hE_; first | (go_simp; done) | (go_simp; rfl)) ?_)
              (try simp only [Act.put, List.setIfInBounds_toArray, List.set_cons_zero, List.set_cons_succ])
              (refine mix_read (o := { dst := some 62, op := Op.indexAddr 24 (Operand.tmp 60) (Operand.tmp 61), type := 0, pos := "wide.go:28", after := #[{ on := 0, ground := Ground.data }, { on := 1, ground := Ground.data }], guard := none }) rfl (by first | rfl | (simp [Region.wanted, yielded]; done)) (by intro w_ hE_; (try dsimp only at hE_); subst hE_; first | (go_simp; done) | (go_simp; rfl)) ?_)
              (try simp only [Act.put, List.setIfInBounds_toArray, List.set_cons_zero, List.set_cons_succ])
              (refine mix_read (o := { dst := some 63, op := Op.load 5 (Operand.tmp 62), type := 5, pos := "wide.go:28", after := #[{ on := 2, ground := Ground.data }], guard := none }) rfl (by first | rfl | (simp [Region.wanted, yielded]; done)) (by intro w_ hE_; (try dsimp only at hE_); subst hE_; first | (go_simp; done) | (go_simp; rfl)) ?_)
              (try simp only [Act.put, List.setIfInBounds_toArray, List.set_cons_zero, List.set_cons_succ])
              (refine mix_read (o := { dst := some 64, op := Op.convert 5 3 (Operand.tmp 63), type := 3, pos := "wide.go:28", after := #[{ on := 3, ground := Ground.data }], guard := none }) rfl (by first | rfl | (simp [Region.wanted, yielded]; done)) (by intro w_ hE_; (try dsimp only at hE_); subst hE_; first | (go_simp; done) | (go_simp; rfl)) ?_)
              (try simp only [Act.put, List.setIfInBounds_toArray, List.set_cons_zero, List.set_cons_succ])
              (refine mix_read (o := { dst := some 65, op := Op.move (Operand.tmp 4), type := 24, pos := "wide.go:28", after := #[], guard := none }) rfl (by first | rfl | (simp [Region.wanted, yielded]; done)) (by intro w_ hE_; (try dsimp only at hE_); subst hE_; first | (go_simp; done) | (go_simp; rfl)) ?_)
              (try simp only [Act.put, List.setIfInBounds_toArray, List.set_cons_zero, List.set_cons_succ])
              (refine mix_read (o := { dst := some 66, op := Op.move (Operand.tmp 8), type := 3, pos := "wide.go:28", after := #[], guard := none }) rfl (by first | rfl | (simp [Region.wanted, yielded]; done)) (by intro w_ hE_; (try dsimp only at hE_); subst hE_; first | (go_simp; done) | (go_simp; rfl)) ?_)
              (try simp only [Act.put, List.setIfInBounds_toArray, List.set_cons_zero, List.set_cons_succ])
              (refine mix_read (o := { dst := some 67, op := Op.indexAddr 24 (Operand.tmp 65) (Operand.tmp 66), type := 0, pos := "wide.go:28", after := #[{ on := 5, ground := Ground.data }, { on := 6, ground := Ground.data }], guard := none }) rfl (by first | rfl | (simp [Region.wanted, yielded]; done)) (by intro w_ hE_; (try dsimp only at hE_); subst hE_; first | (go_simp; done) | (go_simp; rfl)) ?_)
              (try simp only [Act.put, List.setIfInBounds_toArray, List.set_cons_zero, List.set_cons_succ])
              (refine mix_read (o := { dst := some 68, op := Op.load 5 (Operand.tmp 67), type := 5, pos := "wide.go:28", after := #[{ on := 7, ground := Ground.data }], guard := none }) rfl (by first | rfl | (simp [Region.wanted, yielded]; done)) (by intro w_ hE_; (try dsimp only at hE_); subst hE_; first | (go_simp; done) | (go_simp; rfl)) ?_)
              (try simp only [Act.put, List.setIfInBounds_toArray, List.set_cons_zero, List.set_cons_succ])
              (refine mix_read (o := { dst := some 69, op := Op.convert 5 3 (Operand.tmp 68), type := 3, pos := "wide.go:28", after := #[{ on := 8, ground := Ground.data }], guard := none }) rfl (by first | rfl | (simp [Region.wanted, yielded]; done)) (by intro w_ hE_; (try dsimp only at hE_); subst hE_; first | (go_simp; done) | (go_simp; rfl)) ?_)
              (try simp only [Act.put, List.setIfInBounds_toArray, List.set_cons_zero, List.set_cons_succ])
              (refine mix_read (o := { dst := some 70, op := Op.move (Operand.tmp 9), type := 3, pos := "wide.go:28", after := #[], guard := none }) rfl (by first | rfl | (simp [Region.wanted, yielded]; done)) (by intro w_ hE_; (try dsimp only at hE_); subst hE_; first | (go_simp; done) | (go_simp; rfl)) ?_)
              (try simp only [Act.put, List.setIfInBounds_toArray, List.set_cons_zero, List.set_cons_succ])
              (refine mix_read (o := { dst := some 71, op := Op.binOp BinOp.add 3 (Operand.tmp 69) (Operand.tmp 70) 3, type := 3, pos := "wide.go:28", after := #[{ on := 9, ground := Ground.data }, { on := 10, ground := Ground.data }], guard := none }) rfl (by first | rfl | (simp [Region.wanted, yielded]; done)) (by intro w_ hE_; (try dsimp only at hE_); subst hE_; first | (go_simp; done) | (go_simp; rfl)) ?_)
              (try simp only [Act.put, List.setIfInBounds_toArray, List.set_cons_zero, List.set_cons_succ])
              (refine mix_read (o := { dst := some 72, op := Op.binOp BinOp.neq 3 (Operand.tmp 64) (Operand.tmp 71) 3, type := 4, pos := "wide.go:28", after := #[{ on := 4, ground := Ground.data }, { on := 11, ground := Ground.data }], guard := none }) rfl (by first | rfl | (simp [Region.wanted, yielded]; done)) (by intro w_ hE_; (try dsimp only at hE_); subst hE_; first | (go_simp; done) | (go_simp; rfl)) ?_)
              (try simp only [Act.put, List.setIfInBounds_toArray, List.set_cons_zero, List.set_cons_succ])
              refine mix_nil ?_
              go_wp2
              go_roundg (256 - (j + 1))
              case measure => have := HI2.out; omega
              case rel => exact ⟨j + 1, by simp, ⟨by omega⟩, HBw⟩
        · clear HEA HLEN HBY
          go_wp2_with fail
          refine wp_region_mix (fun w_ w1_ => Below w_.heap.size w_ w1_) [(false, 0), (false, 3), (false, 4), (true, 1), (false, 2), (false, 5), (false, 6)] (by kernel_rfl) (by kernel_rfl) (fun _ => Below.refl _ _) (fun h h' => below_step h h') (fun wd hhp_ hbw_ => ?_)
          have HZ0 := Aside0.mk (below_step HB2.out (below_step HB.out hbw_))
          have HP0 := Aside0.mk (Kd.C_below HO.out (below_step HB.out hbw_))
          have tc0 := fun (wx : World) (h : Below wd.heap.size wd wx) => Kd.C_string (P := Try.prog) (A := A1) (c := c1) Try.underlying24 Try.underlying5 Try.underlying9 (Kd.C_below HQ.out (below_step (below_step HB.out hbw_) h))
          clear hhp_ hbw_
          (refine mix_read (o := { dst := some 73, op := Op.move (Operand.tmp 7), type := 24, pos := "wide.go:32", after := #[], guard := none }) rfl (by first | rfl | (simp [Region.wanted, yielded]; done)) (by intro w_ hE_; (try dsimp only at hE_); first | (go_simp; done) | (go_simp; rfl)) ?_)
          (try simp only [Act.put, List.setIfInBounds_toArray, List.set_cons_zero, List.set_cons_succ])
          (refine mix_read (o := { dst := some 76, op := Op.move (Operand.tmp 4), type := 24, pos := "wide.go:32", after := #[], guard := none }) rfl (by first | rfl | (simp [Region.wanted, yielded]; done)) (by intro w_ hE_; (try dsimp only at hE_); first | (go_simp; done) | (go_simp; rfl)) ?_)
          (try simp only [Act.put, List.setIfInBounds_toArray, List.set_cons_zero, List.set_cons_succ])
          (refine mix_read (o := { dst := some 77, op := Op.convert 24 9 (Operand.tmp 76), type := 9, pos := "wide.go:32", after := #[{ on := 3, ground := Ground.data }], guard := none }) rfl (by first | rfl | (simp [Region.wanted, yielded]; done)) (by intro w_ hE_; (try dsimp only at hE_); first | (go_simp; done) | (go_simp; rfl)) ?_)
          (try simp only [Act.put, List.setIfInBounds_toArray, List.set_cons_zero, List.set_cons_succ])
          refine mix_call (o := { dst := some 74, op := Op.call { callee := Callee.value (Operand.func 16), args := #[Operand.tmp 73], argTypes := #[24] }, type := 24, pos := "wide.go:32", after := #[{ on := 0, ground := Ground.data }], guard := none }) rfl (by first | rfl | (simp [Region.wanted, yielded]; done)) (by first | (go_simp; done) | (go_simp; exact ⟨rfl, rfl⟩) | (go_simp; rfl)) ?_
          refine (HDP.out A2 c2 _ HP0.out).mono ?_
          rintro e_ x1 ⟨y1, rfl, ho, hb⟩
          obtain ⟨B1, d1, rfl⟩ := Kd.R_slice ho
          have HR1 := Aside0.mk (Kd.R_reads' ho)
          have HZ1 := Aside0.mk (below_step HZ0.out hb)
          have cv1 := fun (wx : World) (h : Below x1.heap.size x1 wx) => Kd.C_string (P := Try.prog) (A := B1) (c := d1) Try.underlying24 Try.underlying5 Try.underlying9 (Kd.C_below HR1.out.2.2 h)
          have tc1 := fun (wx : World) (h : Below x1.heap.size x1 wx) => tc0 wx (below_step hb h)
          refine ⟨_, rfl, hb, ?_⟩
          clear ho hb tc0
          (try simp only [Act.put, List.setIfInBounds_toArray, List.set_cons_zero, List.set_cons_succ])
          (refine mix_read (o := { dst := some 75, op := Op.convert 24 9 (Operand.tmp 74), type := 9, pos := "wide.go:32", after := #[{ on := 1, ground := Ground.data }], guard := none }) rfl (by first | rfl | (simp [Region.wanted, yielded]; done)) (by intro w_ hE_; (try dsimp only at hE_); first | (go_simp; done) | (go_simp; rfl)) ?_)
          (try simp only [Act.put, List.setIfInBounds_toArray, List.set_cons_zero, List.set_cons_succ])
          (refine mix_read (o := { dst := some 78, op := Op.binOp BinOp.eql 9 (Operand.tmp 75) (Operand.tmp 77) 9, type := 4, pos := "wide.go:32", after := #[{ on := 2, ground := Ground.data }, { on := 4, ground := Ground.data }], guard := none }) rfl (by first | rfl | (simp [Region.wanted, yielded]; done)) (by intro w_ hE_; (try dsimp only at hE_); first | (go_simp; done) | (go_simp; rfl)) ?_)
          (try simp only [Act.put, List.setIfInBounds_toArray, List.set_cons_zero, List.set_cons_succ])
          (refine mix_read (o := { dst := some 2, op := Op.assign (Operand.tmp 78), type := 4, pos := "wide.go:32", after := #[{ on := 5, ground := Ground.data }, { on := 1, ground := Ground.chain }, { on := 0, ground := Ground.phase }, { on := 1, ground := Ground.phase }, { on := 2, ground := Ground.phase }, { on := 3, ground := Ground.phase }, { on := 4, ground := Ground.phase }, { on := 5, ground := Ground.phase }], guard := none }) rfl (by first | rfl | (simp [Region.wanted, yielded]; done)) (by intro w_ hE_; (try dsimp only at hE_); first | (go_simp; done) | (go_simp; rfl)) ?_)
          (try simp only [Act.put, List.setIfInBounds_toArray, List.set_cons_zero, List.set_cons_succ])
          refine mix_nil ?_
          go_wp2_with fail
          go_ret
          exact ⟨by simp, HZ1.out⟩
end Go.Proofs.Ytpgbapbmikneiaa.FeWalk
