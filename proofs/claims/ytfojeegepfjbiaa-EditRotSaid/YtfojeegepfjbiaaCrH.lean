/- Contracts of laid and same: seals one behind the other; are texts the same? -/
import Derived.Test.YtfojeegepfjbiaaProg
import Derived.Below
import Derived.Deep.Draws
import Derived.Deep.AppendLies
import Derived.Maps.AppendAt
import Derived.OwnWalk
import Derived.Laws.BytesArg
import Derived.Laws.MakeOwn
import Derived.Laws.OwnMore
import Derived.Deep.OwnRows
import Derived.Tactics
import Derived.Lib.ConvBytes
import Derived.Laws.Slices
import Derived.WalkKit
import Derived.KernelRfl
import Derived.RowKit3
import Derived.Deep.LoopGhost
import Derived.Deep.QuietTactic
import Derived.BigQuiet
import Derived.WideLaws
import Derived.Deep.DeepCutAuto
import Derived.Deep.CutBlock
import Derived.Deep.RegionHeld3
import Derived.Laws.Rows
import Derived.Lib.AppendStr
import Derived.ArgAppend
import Derived.Laws.IdiomCopy
import Derived.OrdersHeld
import Derived.Laws.BitsLemmas
import Derived.RowKit
import Derived.Deep.RegionWith
import Derived.Laws.Strings
import Derived.WalkSpells
import Derived.Outline
import Derived.Test.YtfojeegepfjbiaaWWords
import Derived.Test.YtfojeegepfjbiaaWLast
import Derived.Test.YtfojeegepfjbiaaWMore
import Derived.Test.YtfojeegepfjbiaaWArr
import Derived.Test.YtfojeegepfjbiaaWTab
import Derived.Test.YtfojeegepfjbiaaWZeros
import Derived.Test.YtfojeegepfjbiaaWRepsOne
import Derived.Test.YtfojeegepfjbiaaCrF
import Derived.Test.YtfojeegepfjbiaaCrG
namespace Go.Proofs.Ytfojeegepfjbiaa.CrH
open Go.RowKit Go.Proofs.YtfojeegepfjbiaaW.PrintWords Go.Proofs.YtfojeegepfjbiaaW.PrintLast Go.Proofs.YtfojeegepfjbiaaW.PrintMore Go.Proofs.Ytfojeegepfjbiaa.Nm Go.Proofs.Ytfojeegepfjbiaa.NmA Go.Proofs.Ytfojeegepfjbiaa.NmB Go.Proofs.Ytfojeegepfjbiaa.NmC Go.Proofs.Ytfojeegepfjbiaa.NmH Go.Proofs.Ytfojeegepfjbiaa.CrP Go.Proofs.Ytfojeegepfjbiaa.CrA Go.Proofs.Ytfojeegepfjbiaa.CrB Go.Proofs.Ytfojeegepfjbiaa.CrC Go.Proofs.Ytfojeegepfjbiaa.CrD Go.Proofs.Ytfojeegepfjbiaa.CrE Go.Proofs.Ytfojeegepfjbiaa.CrF Go.Proofs.Ytfojeegepfjbiaa.CrG Go.Proofs.Ytfojeegepfjbiaa.Mix
set_option linter.unusedSimpArgs false
set_option linter.unusedVariables false
attribute [local go_sem] max2_int min2_int max_two min_two

/-- An element of a row of rows that is read. -/
theorem row_at {e : Nat} {w : World} {A : Option Addr} {n : Nat} {ps : List (List Int)} (h : (Kd.slice e (Kd.int .u8)).C w A n ps) (i : Nat) (hi : i < n) :
    ∃ ad A' c', A = some ad ∧ w.cell? (ad.add i) = some (.slice A' (ps.getD i []).length c') ∧ (ps.getD i []).length ≤ c' ∧ (Kd.int .u8).C w A' (ps.getD i []).length (ps.getD i []) := by
  obtain ⟨ad, cs, e1, hs, ⟨A', c', e2, hl, hc⟩, hcell⟩ := ReadsRow.get_ h [] (i : Int) (by omega) (by omega)
  rw [Int.toNat_natCast] at e2 hl hc hcell
  subst e2
  have := hcell 0 _ rfl
  refine ⟨ad, A', c', e1, ?_, hl, hc⟩
  have hz : (Kd.slice e (Kd.int .u8)).sz = 1 := rfl
  rw [hz, Nat.mul_one, Nat.add_zero] at this
  exact this
theorem strOf_inj {a b : List Int} (ha : Bys a) (hb : Bys b) (h : strOfNums a = strOfNums b) : a = b := by
  unfold strOfNums at h
  have h1 : a.map (fun n : Int => UInt8.ofNat n.toNat) = b.map (fun n : Int => UInt8.ofNat n.toNat) := by simpa using h
  clear h
  induction a generalizing b with
  | nil => cases b with
    | nil => rfl
    | cons y b => simp at h1
  | cons x a ih =>
    cases b with
    | nil => simp at h1
    | cons y b =>
      simp only [List.map_cons, List.cons.injEq] at h1
      have hx := ha x (by simp)
      have hy := hb y (by simp)
      have h2 := congrArg UInt8.toNat h1.1
      simp only [UInt8.toNat_ofNat'] at h2
      rw [ih (fun v hv => ha v (by simp [hv])) (fun v hv => hb v (by simp [hv])) h1.2]
      congr 1
      omega
theorem strOf_ne {a b : List Int} (ha : Bys a) (hb : Bys b) (h : a ≠ b) : ((strOfNums a).toList == (strOfNums b).toList) = false := by
  refine beq_eq_false_iff_ne.2 (fun e => h (strOf_inj ha hb ?_))
  unfold strOfNums at e ⊢
  rw [ByteArray.toList_mk, ByteArray.toList_mk] at e
  rw [e]
theorem list_ext_getD {ps qs : List (List Int)} (hl : ps.length = qs.length) (h : ∀ j, j < ps.length → ps.getD j [] = qs.getD j []) : ps = qs := by
  refine List.ext_getElem hl (fun j h1 h2 => ?_)
  have := h j h1
  rw [List.getD_eq_getElem?_getD, List.getD_eq_getElem?_getD, List.getElem?_eq_getElem h1, List.getElem?_eq_getElem h2] at this
  exact this
/-- Seals one behind the other. -/
def laidL (ps : List (List Int)) : List Int := ps.flatMap (fun p => sealL (p.take 60))
theorem laidL_snoc (ps : List (List Int)) (p : List Int) : laidL (ps ++ [p]) = laidL ps ++ sealL (p.take 60) := by simp [laidL]
theorem laidL_len (ps : List (List Int)) : (laidL ps).length ≤ 72 * ps.length := by
  unfold laidL
  induction ps with
  | nil => simp
  | cons p ps ih =>
    rw [List.flatMap_cons, List.length_append, sealL_len, List.length_take, List.length_cons]
    omega
theorem bys_laidL {ps : List (List Int)} (h : ∀ p ∈ ps, Bys p) : Bys (laidL ps) := by
  induction ps with
  | nil => intro z hz; simp [laidL] at hz
  | cons p ps ih =>
    unfold laidL
    rw [List.flatMap_cons]
    exact bys_append (bys_sealL (bys_take (h p (by simp)) 60)) (ih (fun q hq => h q (by simp [hq])))
theorem take_snoc {ps : List (List Int)} {i : Nat} (h : i < ps.length) : ps.take (i + 1) = ps.take i ++ [ps.getD i []] := by
  rw [List.take_add_one, List.getElem?_eq_getElem h, List.getD_eq_getElem?_getD, List.getElem?_eq_getElem h]
  rfl
theorem getD_mem {ps : List (List Int)} {i : Nat} (h : i < ps.length) : ps.getD i [] ∈ ps := by
  rw [List.getD_eq_getElem?_getD, List.getElem?_eq_getElem h]
  exact List.getElem_mem h
set_option maxRecDepth 100000 in
theorem laid_calls (A : Option Addr) (c : Nat) (ps : List (List Int)) (hby : ∀ p ∈ ps, Bys p) (n : Nat) (hn : n ≤ 60) (w : World) (hr : (Kd.slice 5 (Kd.int .u8)).C w A ps.length ps) (hl : ps.length ≤ 9223372036854775807) :
    Calls Try.prog 26 #[.slice A ps.length c, .int .i64 (n : Int)] w fun e w' => ∃ v : Value, e = .returned v ∧ Kd.R (Kd.int .u8) 5 w' w.heap.size (fun _ => True) v (laidL (ps.take n)) ∧ Below w.heap.size w w' := by
  have HR := Aside0.mk hr
  have HBY := Aside0.mk hby
  have HB := Aside0.mk (Below.refl w.heap.size w)
  clear hr hby
  go_enter Try.func26, Try.ntmps26
  go_wp2_with fail
  go_loopg [5, 6] n (fun q v5 v6 w' => ∃ i : Nat, v6 = .int .i64 (i : Int) ∧ Aside0 (i + q = n ∧ i ≤ ps.length) ∧ Aside0 (Kd.R (Kd.int .u8) 5 w' w.heap.size (fun _ => True) v5 (laidL (ps.take i))) ∧ Aside0 (Below w.heap.size w w'))
  case atStart => exact ⟨0, rfl, ⟨by omega, by omega⟩, ⟨Kd.R_nil _ _ _ _ _⟩, HB⟩
  case round =>
    clear HB
    obtain ⟨i, rfl, HI, HO, HB⟩ := hrel
    have hi := HI.out
    by_cases hlt : i < n ∧ i < ps.length
    · obtain ⟨f, rfl⟩ : ∃ f, gk = f + 1 := ⟨gk - 1, by omega⟩
      obtain ⟨ad, A1, c1, e1, hcell, hc1, hC1⟩ := row_at (Kd.C_below HR.out HB.out) i hlt.2
      subst e1
      have hpb := HBY.out _ (getD_mem hlt.2)
      have htk := take_snoc hlt.2
      generalize ps.getD i [] = p at *
      have HT : Aside0 (laidL (ps.take (i + 1)) = laidL (ps.take i) ++ sealL (p.take 60)) := ⟨by rw [htk, laidL_snoc]⟩
      have hll := laidL_len (ps.take i)
      rw [List.length_take] at hll
      have k0 : ((i : Int) < (ps.length : Int)) = True := eq_true (by omega)
      have k1 : ((i : Int) < (n : Int)) = True := eq_true (by omega)
      have kw : IntKind.i64.wrap ((i : Int) + 1) = ((i + 1 : Nat) : Int) := by rw [IntKind.wrap_i64]; omega
      have HSH := Aside0.mk (fun w => short_calls A1 c1 p 60 hc1 w)
      have hpl : (p.take 60).length ≤ 60 := by rw [List.length_take]; omega
      have hb60 := bys_take hpb 60
      have HC60 := Aside0.mk (C_take 60 hC1)
      have hsl := sealL_len (p.take 60)
      have HSE := Aside0.mk (fun w h => seal_calls A1 c1 (p.take 60) hb60 w h (by omega))
      have HSE := Aside0.mk (fun w h => rseal_calls A1 c1 (p.take 60) hb60 w h (by omega))
      generalize p.take 60 = t at *
      generalize sealL t = s at *
      generalize laidL (ps.take i) = acc at *
      have HLN : Aside0 (acc.length ≤ 4320 ∧ s.length ≤ 72) := ⟨by omega⟩
      clear htk hll hpl hb60 hsl hC1 hpb hi
      go_wp2_with fail
      refine (HSH.out wr).mono ?_
      rintro e_ w2 ⟨rfl, rfl⟩
      go_wp2_with fail
      refine (HSE.out wr HC60.out).mono ?_
      rintro e_ w3 ⟨v3, rfl, ho, hb⟩
      obtain ⟨A3, c3, rfl⟩ := Kd.R_slice ho
      have HC3 := Aside0.mk (Kd.R_reads' ho).2.2
      have HO3 := Aside0.mk (Kd.R_below HO.out hb)
      have HB3 := Aside0.mk (below_step HB.out hb)
      clear ho hb HO HB
      go_wp2_with ((with_reducible refine gate_builtin (b := .append) (xs := #[.tmp 18, .tmp 24]) rfl ?_); at_builtin; go_must (refine Kd.R_append_row (Value.int .u8) (0) (h1 := fun _ => rfl) (w0 := w) (w.heap.size) rfl (.tmp 18) (.tmp 24) 22 5 (.int .u8 0) 1 rfl Try.underlying22 info5 rfl (by decide) u5 acc s A3 (s.length) c3 (fun _ => True) rfl rfl (fun _ _ => trivial) (HO3.out) (HC3.out) (HB3.out) (Below.size (HB3.out)) ?aL_ ?_; (case aL_ => have := HLN.out; omega); intro v4 w4 ho hb hg hat; have HO4 := Aside0.mk ho; have HB4 := Aside0.mk hb; clear ho hb hg hat))
      go_roundg f
      case measure => omega
      case rel => exact ⟨i + 1, by simp, ⟨by have := HI.out; omega, by omega⟩, ⟨by rw [HT.out]; exact HO4.out⟩, HB4⟩
    · have hte : laidL (ps.take i) = laidL (ps.take n) := by
        rcases Nat.lt_or_ge i n with h | h
        · rw [List.take_of_length_le (by omega), List.take_of_length_le (by omega)]
        · rw [show i = n by omega]
      rw [hte] at HO
      by_cases h1 : i < ps.length
      · have k0 : ((i : Int) < (ps.length : Int)) = True := eq_true (by omega)
        have k1 : ((i : Int) < (n : Int)) = False := eq_false (by omega)
        clear hte hi hlt
        go_wp2
        go_ret
        exact ⟨_, rfl, HO.out, HB.out⟩
      · have k0 : ((i : Int) < (ps.length : Int)) = False := eq_false (by omega)
        clear hte hi hlt
        go_wp2
        go_ret
        exact ⟨_, rfl, HO.out, HB.out⟩
set_option maxRecDepth 100000 in
theorem same_calls (A : Option Addr) (c : Nat) (ps : List (List Int)) (hby : ∀ p ∈ ps, Bys p) (A2 : Option Addr) (c2 : Nat) (qs : List (List Int)) (hby2 : ∀ p ∈ qs, Bys p) (w : World)
    (hr : (Kd.slice 5 (Kd.int .u8)).C w A ps.length ps) (hl : ps.length ≤ 9223372036854775807) (hr2 : (Kd.slice 5 (Kd.int .u8)).C w A2 qs.length qs) (hl2 : qs.length ≤ 9223372036854775807) :
    Calls Try.prog 29 #[.slice A ps.length c, .slice A2 qs.length c2] w fun e w' => e = .returned (.bool (decide (ps = qs))) ∧ Below w.heap.size w w' := by
  have HR := Aside0.mk hr
  have HR2 := Aside0.mk hr2
  have HY := Aside0.mk (And.intro hby hby2)
  have HB := Aside0.mk (Below.refl w.heap.size w)
  clear hr hr2 hby hby2
  go_enter Try.func29, Try.ntmps29
  by_cases hlen : ps.length = qs.length
  · have b0 : ((ps.length : Int) != (qs.length : Int)) = false := by simp [hlen]
    have HLEN := Aside0.mk hlen
    clear hlen
    go_wp2_with fail
    go_loopg [5] ps.length (fun q v5 w' => ∃ i : Nat, v5 = .int .i64 (i : Int) ∧ Aside0 (i + q = ps.length ∧ ∀ j, j < i → ps.getD j [] = qs.getD j []) ∧ Aside0 (Below w.heap.size w w'))
    case atStart => exact ⟨0, rfl, ⟨by omega, fun j hj => by omega⟩, HB⟩
    case round =>
      clear HB
      obtain ⟨i, rfl, HI, HB⟩ := hrel
      have hi := HI.out.1
      have hlen := HLEN.out
      by_cases hlt : i < ps.length
      · obtain ⟨f, rfl⟩ : ∃ f, gk = f + 1 := ⟨gk - 1, by omega⟩
        obtain ⟨ad, A1, c1, e1, hcell, hc1, hC1⟩ := row_at (Kd.C_below HR.out HB.out) i hlt
        subst e1
        obtain ⟨ad2, A3, c3, e1, hcell2, hc3, hC3⟩ := row_at (Kd.C_below HR2.out HB.out) i (by omega)
        subst e1
        have hb1 := HY.out.1 _ (getD_mem hlt)
        have hb2 := HY.out.2 _ (getD_mem (ps := qs) (i := i) (by omega))
        obtain ⟨p, hp⟩ : ∃ p, ps.getD i [] = p := ⟨_, rfl⟩
        obtain ⟨q, hq⟩ : ∃ q, qs.getD i [] = q := ⟨_, rfl⟩
        rw [hp] at hb1 hcell hc1 hC1
        rw [hq] at hb2 hcell2 hc3 hC3
        have HP := Aside0.mk (And.intro hp hq)
        have k0 : ((i : Int) < (ps.length : Int)) = True := eq_true (by omega)
        have k1 : ((i : Int) < (qs.length : Int)) = True := eq_true (by omega)
        have kw : IntKind.i64.wrap ((i : Int) + 1) = ((i + 1 : Nat) : Int) := by rw [IntKind.wrap_i64]; omega
        clear hp hq hi hlen
        have HC1 := Aside0.mk hC1
        have HC3 := Aside0.mk hC3
        clear hC1 hC3
        go_wp2_with fail
        refine wp_region_mix (fun w_ w1_ => w_ = w1_) [(false, 0), (false, 1), (false, 2), (false, 3), (false, 4), (false, 5), (false, 6), (false, 7), (false, 8), (false, 9), (false, 10)] (by kernel_rfl) (by kernel_rfl) (fun _ => rfl) (fun h h' => h.trans h') (fun wd hhp_ hbw_ => ?_)
        have y1_ : wd.cell? (ad.add i) = _ := (hbw_.cell (World.block_lt_of_cell? wr _ hcell)).trans hcell
        have y0_ : wd.cell? (ad2.add i) = _ := (hbw_.cell (World.block_lt_of_cell? wr _ hcell2)).trans hcell2
        have cv1 := Kd.C_string (P := Try.prog) (A := A1) (c := c1) Try.underlying22 Try.underlying5 Try.underlying9 (Kd.C_below HC1.out hbw_)
        have cv2 := Kd.C_string (P := Try.prog) (A := A3) (c := c3) Try.underlying22 Try.underlying5 Try.underlying9 (Kd.C_below HC3.out hbw_)
        clear hcell hcell2
        have HBw := Aside0.mk (below_step HB.out hbw_)
        clear hhp_ hbw_ HB
        (refine mix_read (o := { dst := some 17, op := Op.move (Operand.tmp 0), type := 32, pos := "law.go:63", after := #[], guard := none }) rfl (by first | rfl | (simp [Region.wanted, yielded]; done)) (by intro w_ hE_; (try dsimp only at hE_); subst hE_; first | (go_simp; done) | (go_simp; rfl)) ?_)
        (try simp only [Act.put, List.setIfInBounds_toArray, List.set_cons_zero, List.set_cons_succ])
        (refine mix_read (o := { dst := some 18, op := Op.move (Operand.tmp 5), type := 3, pos := "law.go:63", after := #[], guard := none }) rfl (by first | rfl | (simp [Region.wanted, yielded]; done)) (by intro w_ hE_; (try dsimp only at hE_); subst hE_; first | (go_simp; done) | (go_simp; rfl)) ?_)
        (try simp only [Act.put, List.setIfInBounds_toArray, List.set_cons_zero, List.set_cons_succ])
        (refine mix_read (o := { dst := some 19, op := Op.indexAddr 32 (Operand.tmp 17) (Operand.tmp 18), type := 0, pos := "law.go:63", after := #[{ on := 0, ground := Ground.data }, { on := 1, ground := Ground.data }], guard := none }) rfl (by first | rfl | (simp [Region.wanted, yielded]; done)) (by intro w_ hE_; (try dsimp only at hE_); subst hE_; first | (go_simp; done) | (go_simp; rfl)) ?_)
        (try simp only [Act.put, List.setIfInBounds_toArray, List.set_cons_zero, List.set_cons_succ])
        (refine mix_read (o := { dst := some 20, op := Op.load 22 (Operand.tmp 19), type := 22, pos := "law.go:63", after := #[{ on := 2, ground := Ground.data }], guard := none }) rfl (by first | rfl | (simp [Region.wanted, yielded]; done)) (by intro w_ hE_; (try dsimp only at hE_); subst hE_; first | (go_simp; done) | (go_simp; rfl)) ?_)
        (try simp only [Act.put, List.setIfInBounds_toArray, List.set_cons_zero, List.set_cons_succ])
        (refine mix_read (o := { dst := some 21, op := Op.convert 22 9 (Operand.tmp 20), type := 9, pos := "law.go:63", after := #[{ on := 3, ground := Ground.data }], guard := none }) rfl (by first | rfl | (simp [Region.wanted, yielded]; done)) (by intro w_ hE_; (try dsimp only at hE_); subst hE_; first | (go_simp; done) | (go_simp; rfl)) ?_)
        (try simp only [Act.put, List.setIfInBounds_toArray, List.set_cons_zero, List.set_cons_succ])
        (refine mix_read (o := { dst := some 22, op := Op.move (Operand.tmp 1), type := 32, pos := "law.go:63", after := #[], guard := none }) rfl (by first | rfl | (simp [Region.wanted, yielded]; done)) (by intro w_ hE_; (try dsimp only at hE_); subst hE_; first | (go_simp; done) | (go_simp; rfl)) ?_)
        (try simp only [Act.put, List.setIfInBounds_toArray, List.set_cons_zero, List.set_cons_succ])
        (refine mix_read (o := { dst := some 23, op := Op.move (Operand.tmp 5), type := 3, pos := "law.go:63", after := #[], guard := none }) rfl (by first | rfl | (simp [Region.wanted, yielded]; done)) (by intro w_ hE_; (try dsimp only at hE_); subst hE_; first | (go_simp; done) | (go_simp; rfl)) ?_)
        (try simp only [Act.put, List.setIfInBounds_toArray, List.set_cons_zero, List.set_cons_succ])
        (refine mix_read (o := { dst := some 24, op := Op.indexAddr 32 (Operand.tmp 22) (Operand.tmp 23), type := 0, pos := "law.go:63", after := #[{ on := 5, ground := Ground.data }, { on := 6, ground := Ground.data }], guard := none }) rfl (by first | rfl | (simp [Region.wanted, yielded]; done)) (by intro w_ hE_; (try dsimp only at hE_); subst hE_; first | (go_simp; done) | (go_simp; rfl)) ?_)
        (try simp only [Act.put, List.setIfInBounds_toArray, List.set_cons_zero, List.set_cons_succ])
        (refine mix_read (o := { dst := some 25, op := Op.load 22 (Operand.tmp 24), type := 22, pos := "law.go:63", after := #[{ on := 7, ground := Ground.data }], guard := none }) rfl (by first | rfl | (simp [Region.wanted, yielded]; done)) (by intro w_ hE_; (try dsimp only at hE_); subst hE_; first | (go_simp; done) | (go_simp; rfl)) ?_)
        (try simp only [Act.put, List.setIfInBounds_toArray, List.set_cons_zero, List.set_cons_succ])
        (refine mix_read (o := { dst := some 26, op := Op.convert 22 9 (Operand.tmp 25), type := 9, pos := "law.go:63", after := #[{ on := 8, ground := Ground.data }], guard := none }) rfl (by first | rfl | (simp [Region.wanted, yielded]; done)) (by intro w_ hE_; (try dsimp only at hE_); subst hE_; first | (go_simp; done) | (go_simp; rfl)) ?_)
        (try simp only [Act.put, List.setIfInBounds_toArray, List.set_cons_zero, List.set_cons_succ])
        (refine mix_read (o := { dst := some 27, op := Op.binOp BinOp.neq 9 (Operand.tmp 21) (Operand.tmp 26) 9, type := 4, pos := "law.go:63", after := #[{ on := 4, ground := Ground.data }, { on := 9, ground := Ground.data }], guard := none }) rfl (by first | rfl | (simp [Region.wanted, yielded]; done)) (by intro w_ hE_; (try dsimp only at hE_); subst hE_; first | (go_simp; done) | (go_simp; rfl)) ?_)
        (try simp only [Act.put, List.setIfInBounds_toArray, List.set_cons_zero, List.set_cons_succ])
        refine mix_nil ?_
        by_cases hpq : p = q
        · subst hpq
          have b1 : (!((strOfNums p).toList == (strOfNums p).toList)) = false := by rw [beq_self_eq_true]; rfl
          rw [b1]
          go_wp2_with fail
          go_roundg f
          case measure => omega
          case rel =>
            refine ⟨i + 1, by simp, ⟨by have := HI.out.1; omega, fun j hj => ?_⟩, HBw⟩
            rcases Nat.lt_or_ge j i with h | h
            · exact HI.out.2 j h
            · rw [show j = i by omega, HP.out.1, HP.out.2]
        · have b1 : (!((strOfNums p).toList == (strOfNums q).toList)) = true := by rw [strOf_ne hb1 hb2 hpq]; rfl
          rw [b1]
          have HD : Aside0 (decide (ps = qs) = false) := ⟨decide_eq_false (fun e => hpq (by rw [← HP.out.1, ← HP.out.2, e]))⟩
          clear hpq
          go_wp2
          go_ret
          exact ⟨by rw [HD.out]; rfl, HBw.out⟩
      · have hin : i = ps.length := by omega
        have k0 : ((i : Int) < (ps.length : Int)) = False := eq_false (by omega)
        have HD : Aside0 (decide (ps = qs) = true) := ⟨decide_eq_true (list_ext_getD hlen (by rw [← hin]; exact HI.out.2))⟩
        clear hin hi hlen
        go_wp2
        go_ret
        exact ⟨by rw [HD.out]; rfl, HB.out⟩
  · have b0 : ((ps.length : Int) != (qs.length : Int)) = true := bne_iff_ne.2 (by omega)
    have HNE : Aside0 (decide (ps = qs) = false) := ⟨decide_eq_false (fun e => hlen (by rw [e]))⟩
    clear hlen
    go_wp2
    go_ret
    exact ⟨by rw [HNE.out]; rfl, HB.out⟩
end Go.Proofs.Ytfojeegepfjbiaa.CrH
