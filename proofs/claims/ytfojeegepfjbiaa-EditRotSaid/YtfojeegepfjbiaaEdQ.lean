/- Contract of the law Cut: an edit that is not too great. -/
import Derived.Test.YtfojeegepfjbiaaProg
import Derived.Below
import Derived.Deep.Draws
import Derived.Deep.AppendLies
import Derived.Maps.AppendAt
import Derived.OwnWalk
import Derived.Laws.BytesArg
import Derived.Laws.MakeOwn
import Derived.Laws.OwnMore
import Derived.Deep.OwnRows
import Derived.Tactics
import Derived.Lib.ConvBytes
import Derived.Laws.Slices
import Derived.WalkKit
import Derived.KernelRfl
import Derived.RowKit3
import Derived.Deep.LoopGhost
import Derived.Deep.QuietTactic
import Derived.BigQuiet
import Derived.WideLaws
import Derived.Deep.DeepCutAuto
import Derived.Deep.CutBlock
import Derived.Deep.RegionHeld3
import Derived.Laws.Rows
import Derived.Lib.AppendStr
import Derived.ArgAppend
import Derived.Laws.IdiomCopy
import Derived.OrdersHeld
import Derived.Laws.BitsLemmas
import Derived.RowKit
import Derived.Deep.RegionWith
import Derived.Deep.DeepCutAuto
import Derived.WalkSpells
import Derived.Outline
import Derived.Test.YtfojeegepfjbiaaWWords
import Derived.Test.YtfojeegepfjbiaaWLast
import Derived.Test.YtfojeegepfjbiaaWMore
import Derived.Test.YtfojeegepfjbiaaWArr
import Derived.Test.YtfojeegepfjbiaaWTab
import Derived.Test.YtfojeegepfjbiaaWZeros
import Derived.Test.YtfojeegepfjbiaaWRepsOne
import Derived.Test.YtfojeegepfjbiaaEdO
namespace Go.Proofs.Ytfojeegepfjbiaa.EdQ
open Go.RowKit Go.Proofs.YtfojeegepfjbiaaW.PrintWords Go.Proofs.YtfojeegepfjbiaaW.PrintLast Go.Proofs.YtfojeegepfjbiaaW.PrintMore Go.Proofs.Ytfojeegepfjbiaa.Mix Go.Proofs.Ytfojeegepfjbiaa.MixB Go.Proofs.Ytfojeegepfjbiaa.MixT Go.Proofs.Ytfojeegepfjbiaa.Nm Go.Proofs.Ytfojeegepfjbiaa.NmA Go.Proofs.Ytfojeegepfjbiaa.NmB Go.Proofs.Ytfojeegepfjbiaa.NmC Go.Proofs.Ytfojeegepfjbiaa.NmH Go.Proofs.Ytfojeegepfjbiaa.CrP Go.Proofs.Ytfojeegepfjbiaa.CrA Go.Proofs.Ytfojeegepfjbiaa.CrB Go.Proofs.Ytfojeegepfjbiaa.CrC Go.Proofs.Ytfojeegepfjbiaa.CrD Go.Proofs.Ytfojeegepfjbiaa.CrE Go.Proofs.Ytfojeegepfjbiaa.CrG Go.Proofs.Ytfojeegepfjbiaa.CrH Go.Proofs.Ytfojeegepfjbiaa.CrI Go.Proofs.Ytfojeegepfjbiaa.EdZ Go.Proofs.Ytfojeegepfjbiaa.EdA Go.Proofs.Ytfojeegepfjbiaa.EdB Go.Proofs.Ytfojeegepfjbiaa.EdC Go.Proofs.Ytfojeegepfjbiaa.EdD Go.Proofs.Ytfojeegepfjbiaa.EdE Go.Proofs.Ytfojeegepfjbiaa.EdF Go.Proofs.Ytfojeegepfjbiaa.EdG Go.Proofs.Ytfojeegepfjbiaa.EdH Go.Proofs.Ytfojeegepfjbiaa.EdI Go.Proofs.Ytfojeegepfjbiaa.EdJ Go.Proofs.Ytfojeegepfjbiaa.EdK Go.Proofs.Ytfojeegepfjbiaa.EdL Go.Proofs.Ytfojeegepfjbiaa.EdM Go.Proofs.Ytfojeegepfjbiaa.EdN Go.Proofs.Ytfojeegepfjbiaa.EdO
set_option linter.unusedSimpArgs false
set_option linter.unusedVariables false
attribute [local go_sem] max2_int min2_int max_two min_two

def cutP (p : ParT) : ParT := (p.1, p.2.1.take 5, p.2.2.1.take 5, p.2.2.2.1, p.2.2.2.2)
def cutE (e : EdT) : EdT := (e.1, e.2.1, e.2.2.1.take 10, e.2.2.2.1.take 10, (e.2.2.2.2.1.take 5).map cutP, e.2.2.2.2.2.take 5)
theorem CK_take {α : Type} {d : Kd α} {w : World} {A : Option Addr} {l : List α} (n : Nat) (h : d.C w A l.length l) : d.C w A (l.take n).length (l.take n) := by
  refine ⟨rfl, Nat.le_trans (by rw [List.length_take]; omega) h.2.1, fun hp => ?_⟩
  obtain ⟨ad, e, hc⟩ := h.2.2 (by rw [List.length_take] at hp; omega)
  exact ⟨ad, e, fun j p hj => hc j p (by rw [List.getElem?_take] at hj; split at hj; exact hj; cases hj)⟩
theorem par_K {w : World} {g z u : Int} {ns zs : List Int} {A1 A2 : Option Addr} {c1 c2 : Nat} (l1 : ns.length ≤ c1) (l2 : zs.length ≤ c2) (r1 : (Kd.int .i64).C w A1 ns.length ns) (r2 : (Kd.int .i64).C w A2 zs.length zs) :
    KPar.K w (g, ns, zs, z, u) [.int .i64 g, .slice A1 ns.length c1, .slice A2 zs.length c2, .int .i64 z, .int .u32 u] :=
  ⟨[_], [_, _, _, _], rfl, rfl, [_], [_, _, _], rfl, ⟨A1, c1, rfl, l1, r1⟩, [_], [_, _], rfl, ⟨A2, c2, rfl, l2, r2⟩, [_], [_], rfl, rfl, rfl⟩
theorem cut_take {prs : List ParT} {i : Nat} (h : i < prs.length) (h5 : i < 5) : ((prs.take 5).map cutP).take (i + 1) = ((prs.take 5).map cutP).take i ++ [cutP (prs.getD i par0)] := by
  rw [← List.map_take, ← List.map_take, List.take_take, List.take_take, Nat.min_eq_left (by omega), Nat.min_eq_left (by omega), take_getD (d := par0) h, List.map_append]
  rfl
theorem fixed_C {α : Type} {d : Kd α} {w0 w : World} {A : Option Addr} {n : Nat} {xs : List α} (h : (Kd.fixed d w0).C w A n xs) (hb : Below w0.heap.size w0 w) : d.C w A n xs :=
  ReadsRow.imp_ h (Below.refl _ _) (fun _ _ hp => d.K_below hb hp)
theorem fix_ne {α : Type} {d : Kd α} {w0 : World} {e t : Nat} (h : e ≠ t) : ∀ q : Nat, q ∈ e :: (Kd.fixed d w0).E → q ≠ t := fun q hq => by
  rcases List.mem_cons.1 hq with rfl | hq
  · exact h
  · exact absurd hq List.not_mem_nil
theorem to_lit {t e : TypeId} {a : Value} {s b : Nat} (hi : (Try.prog.info? e).map (fun i => (i.zero, i.size, i.bytes)) = some (some a, s, b)) (ht : Try.prog.underlying t = some (.slice e)) {A : Option Addr} {n c : Nat} (m : Nat) (h0 : 0 < m) (hm : m ≤ n) (hc : n ≤ c) :
    ∀ W : World, (Instr.slice t (.slice A n c) none (some (.int .i64 (m : Int))) none).run Try.prog W = .ok (.slice A m c) W := by
  obtain ⟨i05, hi05, _, hsz5, _⟩ := info_parts hi
  intro W
  have h := cut_to (P := Try.prog) t e .i64 ht hi05 A n c (m : Int) (by omega) (by omega) hc W
  rw [Int.toNat_natCast] at h
  exact h
/-- An edit that was made of what came in: its rows are read in w0, but for its own row of parity segments. -/
abbrev KM (w0 : World) : Kd EdT := Kd.pair (Kd.int .i64) (Kd.pair (Kd.int .i64) (Kd.pair (Kd.fixed (Kd.slice 77 KSeg) w0) (Kd.pair (Kd.fixed (Kd.slice 2 (Kd.int .i64)) w0) (Kd.pair (Kd.slice 90 (Kd.fixed KPar w0)) (Kd.fixed (Kd.slice 2 (Kd.int .i64)) w0)))))
theorem km_ed {w0 w : World} {e : EdT} {cs : Array Value} (h : (KM w0).K w e cs.toList) (hb : Below w0.heap.size w0 w) : EdAt w (.agg cs) e := by
  obtain ⟨x0, x1, e0, h0, y0, y1, e1, h1, z0, z1, e2, ⟨A1, c1, h2, l1, r1⟩, t0, t1, e3, ⟨A2, c2, h3, l2, r2⟩, u0, u1, e4, ⟨A3, c3, h4, l3, r3⟩, ⟨A4, c4, h5, l4, r4⟩⟩ := h
  have h0' : x0 = [.int .i64 e.1] := h0
  have h1' : y0 = [.int .i64 e.2.1] := h1
  subst h0' h1' h2 h3 h4 h5 e4 e3 e2 e1
  refine ⟨A1, c1, A2, c2, A3, c3, A4, c4, ?_, ⟨l1, l2, l3, l4⟩, Kd.C_below r1 hb, Kd.C_below r2 hb, fixed_C r3 hb, Kd.C_below r4 hb⟩
  congr 1
  exact Array.ext' e0
set_option maxRecDepth 100000 in
set_option maxHeartbeats 4000000 in
theorem cut_callsM (e : EdT) (v : Value) (w0 w : World) (h : EdAt w0 v e) (hw0 : Below w0.heap.size w0 w) :
    Calls Try.prog 43 #[v] w fun x w' => ∃ cs : Array Value, x = .returned (.agg cs) ∧ (KM w0).M w' w.heap.size (fun _ => True) (cutE e) cs.toList ∧ Below w.heap.size w w' := by
  obtain ⟨A1, c1, A2, c2, A3, c3, A4, c4, rfl, hl, r1, r2, r3, r4⟩ := h
  obtain ⟨nx, sq, ads, dls, prs, drs⟩ := e
  dsimp only at hl r1 r2 r3 r4
  have hl' : ads.length ≤ c1 ∧ dls.length ≤ c2 ∧ prs.length ≤ c3 ∧ drs.length ≤ c4 := hl
  have HRR := Aside0.mk (And.intro (CK_take 10 r1) (And.intro (CK_take 10 r2) (CK_take 5 r4)))
  have HS1 : Aside0 (10 < ads.length → ∀ W : World, (Instr.slice 62 (.slice A1 ads.length c1) none (some (.int .i64 10)) none).run Try.prog W = .ok (.slice A1 10 c1) W) := ⟨fun hq W => to_lit info77 Try.underlying62 10 (by decide) (by omega) hl'.1 W⟩
  have HS2 : Aside0 (10 < dls.length → ∀ W : World, (Instr.slice 63 (.slice A2 dls.length c2) none (some (.int .i64 10)) none).run Try.prog W = .ok (.slice A2 10 c2) W) := ⟨fun hq W => to_lit info2 Try.underlying63 10 (by decide) (by omega) hl'.2.1 W⟩
  have HS3 : Aside0 (5 < prs.length → ∀ W : World, (Instr.slice 64 (.slice A3 prs.length c3) none (some (.int .i64 5)) none).run Try.prog W = .ok (.slice A3 5 c3) W) := ⟨fun hq W => to_lit info90 Try.underlying64 5 (by decide) (by omega) hl'.2.2.1 W⟩
  have HS4 : Aside0 (5 < drs.length → ∀ W : World, (Instr.slice 63 (.slice A4 drs.length c4) none (some (.int .i64 5)) none).run Try.prog W = .ok (.slice A4 5 c4) W) := ⟨fun hq W => to_lit info2 Try.underlying63 5 (by decide) (by omega) hl'.2.2.2 W⟩
  show Calls _ _ #[.agg #[.int .i64 nx, .int .i64 sq, .slice A1 ads.length c1, .slice A2 dls.length c2, .slice A3 prs.length c3, .slice A4 drs.length c4]] _ _
  obtain ⟨m1, hm1⟩ : ∃ q, ads.length = q := ⟨_, rfl⟩
  obtain ⟨m2, hm2⟩ : ∃ q, dls.length = q := ⟨_, rfl⟩
  obtain ⟨m3, hm3⟩ : ∃ q, prs.length = q := ⟨_, rfl⟩
  obtain ⟨m4, hm4⟩ : ∃ q, drs.length = q := ⟨_, rfl⟩
  obtain ⟨k1, hk1⟩ : ∃ q, (ads.take 10).length = q := ⟨_, rfl⟩
  obtain ⟨k2, hk2⟩ : ∃ q, (dls.take 10).length = q := ⟨_, rfl⟩
  obtain ⟨k3, hk3⟩ : ∃ q, (prs.take 5).length = q := ⟨_, rfl⟩
  obtain ⟨k4, hk4⟩ : ∃ q, (drs.take 5).length = q := ⟨_, rfl⟩
  have HR3 := Aside0.mk r3
  rw [hm1] at HS1
  rw [hm2] at HS2
  rw [hm3] at HS3 HR3
  rw [hm4] at HS4
  rw [hm1, hm2, hm3, hm4] at hl' ⊢
  have HM := Aside0.mk (And.intro hm1 (And.intro hm2 (And.intro hm3 hm4)))
  have HKL := Aside0.mk (And.intro hk1 (And.intro hk2 (And.intro hk3 hk4)))
  have HK : Aside0 (k1 = min 10 m1 ∧ k2 = min 10 m2 ∧ k3 = min 5 m3 ∧ k4 = min 5 m4) := ⟨by rw [List.length_take] at hk1 hk2 hk3 hk4; omega⟩
  have HL := Aside0.mk hl'
  obtain ⟨hba, hbb, hbe⟩ := alloc2 w (.cells #[.int .i64 nx, .int .i64 sq, .slice A1 m1 c1, .slice A2 m2 c2, .slice A3 m3 c3, .slice A4 m4 c4] 66 (0, 0)) (.cells #[.int .i64 0, .int .i64 0, .slice none 0 0, .slice none 0 0, .slice none 0 0, .slice none 0 0] 66 (0, 0))
  obtain ⟨w2, hw2⟩ : ∃ q, (w.alloc (.cells #[.int .i64 nx, .int .i64 sq, .slice A1 m1 c1, .slice A2 m2 c2, .slice A3 m3 c3, .slice A4 m4 c4] 66 (0, 0))).alloc (.cells #[.int .i64 0, .int .i64 0, .slice none 0 0, .slice none 0 0, .slice none 0 0, .slice none 0 0] 66 (0, 0)) = q := ⟨_, rfl⟩
  rw [hw2] at hba hbb hbe
  obtain ⟨x, hx⟩ : ∃ q, w.heap.size = q := ⟨_, rfl⟩
  obtain ⟨y, hy⟩ : ∃ q, x + 1 = q := ⟨_, rfl⟩
  obtain ⟨B, hB⟩ : ∃ q, w.heap.size = q := ⟨_, rfl⟩
  rw [hB] at hbe
  rw [hx] at hba hbb
  rw [hy] at hbb
  have HBB := Aside0.mk hB
  have HW0 : Aside0 (∀ wx, Below B w wx → Below w0.heap.size w0 wx) := ⟨fun wx h => hw0.trans (h.mono (by have := hw0.size; omega))⟩
  have HXB : Aside0 (B ≤ x) := ⟨by omega⟩
  have HYB : Aside0 (B ≤ y) := ⟨by omega⟩
  have HNE : Aside0 (y ≠ x) := ⟨by omega⟩
  have HX := Aside0.mk hba
  have HY := Aside0.mk hbb
  have HB := Aside0.mk hbe
  clear hl hl' r1 r2 r3 r4 hm1 hm2 hm3 hm4 hk1 hk2 hk3 hk4 hba hbb hbe hB hw0
  go_enter Try.func43, Try.ntmps43
  have c_ : w2.cell? ⟨x, 2, none⟩ = some (.slice A1 m1 c1) := blk_cell HX.out 2
  have f_ := blk_frozen HX.out 2
  go_upto_if 9 with fail
  go_cut [] (fun wx => Aside0 (Blk wx x #[.int .i64 nx, .int .i64 sq, .slice A1 k1 c1, .slice A2 m2 c2, .slice A3 m3 c3, .slice A4 m4 c4] 66) ∧ Aside0 (Blk wx y #[.int .i64 0, .int .i64 0, .slice none 0 0, .slice none 0 0, .slice none 0 0, .slice none 0 0] 66) ∧ Aside0 (Below B w wx))
  case first =>
    by_cases q : 10 < m1
    · have kk : decide ((10 : Int) < (m1 : Int)) = true := decide_eq_true (by omega)
      rw [kk]
      have hk : k1 = 10 := by have := HK.out; omega
      have HKK := Aside0.mk hk
      have hs := HS1.out q
      clear q hk kk
      go_wp2_with fail
      go_meet
      exact ⟨⟨by rw [HKK.out]; exact blk_set HX.out 2 _⟩, ⟨blk_far HY.out HNE.out _⟩, ⟨HB.out.setCell (by have := HXB.out; exact this) _⟩⟩
    · have kk : decide ((10 : Int) < (m1 : Int)) = false := decide_eq_false (by omega)
      rw [kk]
      have hk : k1 = m1 := by have := HK.out; omega
      have HKK := Aside0.mk hk
      clear q hk kk
      go_wp2_with fail
      go_meet
      exact ⟨⟨by rw [HKK.out]; exact HX.out⟩, HY, HB⟩
  case rest =>
    clear HX HY HB c_ f_
    obtain ⟨HX, HY, HB⟩ := hcut
    have c_ : wc.cell? ⟨x, 3, none⟩ = some (.slice A2 m2 c2) := blk_cell HX.out 3
    have f_ := blk_frozen HX.out 3
    go_upto_if 17 with fail
    go_cut [] (fun wx => Aside0 (Blk wx x #[.int .i64 nx, .int .i64 sq, .slice A1 k1 c1, .slice A2 k2 c2, .slice A3 m3 c3, .slice A4 m4 c4] 66) ∧ Aside0 (Blk wx y #[.int .i64 0, .int .i64 0, .slice none 0 0, .slice none 0 0, .slice none 0 0, .slice none 0 0] 66) ∧ Aside0 (Below B w wx))
    case first =>
      by_cases q : 10 < m2
      · have kk : decide ((10 : Int) < (m2 : Int)) = true := decide_eq_true (by omega)
        rw [kk]
        have hk : k2 = 10 := by have := HK.out; omega
        have HKK := Aside0.mk hk
        have hs := HS2.out q
        clear q hk kk
        go_wp2_with fail
        go_meet
        exact ⟨⟨by rw [HKK.out]; exact blk_set HX.out 3 _⟩, ⟨blk_far HY.out HNE.out _⟩, ⟨HB.out.setCell (by have := HXB.out; exact this) _⟩⟩
      · have kk : decide ((10 : Int) < (m2 : Int)) = false := decide_eq_false (by omega)
        rw [kk]
        have hk : k2 = m2 := by have := HK.out; omega
        have HKK := Aside0.mk hk
        clear q hk kk
        go_wp2_with fail
        go_meet
        exact ⟨⟨by rw [HKK.out]; exact HX.out⟩, HY, HB⟩
    case rest =>
      clear HX HY HB c_ f_
      obtain ⟨HX, HY, HB⟩ := hcut
      have c_ : wc.cell? ⟨x, 4, none⟩ = some (.slice A3 m3 c3) := blk_cell HX.out 4
      have f_ := blk_frozen HX.out 4
      go_upto_if 25 with fail
      go_cut [] (fun wx => Aside0 (Blk wx x #[.int .i64 nx, .int .i64 sq, .slice A1 k1 c1, .slice A2 k2 c2, .slice A3 k3 c3, .slice A4 m4 c4] 66) ∧ Aside0 (Blk wx y #[.int .i64 0, .int .i64 0, .slice none 0 0, .slice none 0 0, .slice none 0 0, .slice none 0 0] 66) ∧ Aside0 (Below B w wx))
      case first =>
        by_cases q : 5 < m3
        · have kk : decide ((5 : Int) < (m3 : Int)) = true := decide_eq_true (by omega)
          rw [kk]
          have hk : k3 = 5 := by have := HK.out; omega
          have HKK := Aside0.mk hk
          have hs := HS3.out q
          clear q hk kk
          go_wp2_with fail
          go_meet
          exact ⟨⟨by rw [HKK.out]; exact blk_set HX.out 4 _⟩, ⟨blk_far HY.out HNE.out _⟩, ⟨HB.out.setCell (by have := HXB.out; exact this) _⟩⟩
        · have kk : decide ((5 : Int) < (m3 : Int)) = false := decide_eq_false (by omega)
          rw [kk]
          have hk : k3 = m3 := by have := HK.out; omega
          have HKK := Aside0.mk hk
          clear q hk kk
          go_wp2_with fail
          go_meet
          exact ⟨⟨by rw [HKK.out]; exact HX.out⟩, HY, HB⟩
      case rest =>
        clear HX HY HB c_ f_
        obtain ⟨HX, HY, HB⟩ := hcut
        have c_ : wc.cell? ⟨x, 5, none⟩ = some (.slice A4 m4 c4) := blk_cell HX.out 5
        have f_ := blk_frozen HX.out 5
        go_upto_if 33 with fail
        go_cut [] (fun wx => Aside0 (Blk wx x #[.int .i64 nx, .int .i64 sq, .slice A1 k1 c1, .slice A2 k2 c2, .slice A3 k3 c3, .slice A4 k4 c4] 66) ∧ Aside0 (Blk wx y #[.int .i64 0, .int .i64 0, .slice none 0 0, .slice none 0 0, .slice none 0 0, .slice none 0 0] 66) ∧ Aside0 (Below B w wx))
        case first =>
          by_cases q : 5 < m4
          · have kk : decide ((5 : Int) < (m4 : Int)) = true := decide_eq_true (by omega)
            rw [kk]
            have hk : k4 = 5 := by have := HK.out; omega
            have HKK := Aside0.mk hk
            have hs := HS4.out q
            clear q hk kk
            go_wp2_with fail
            go_meet
            exact ⟨⟨by rw [HKK.out]; exact blk_set HX.out 5 _⟩, ⟨blk_far HY.out HNE.out _⟩, ⟨HB.out.setCell (by have := HXB.out; exact this) _⟩⟩
          · have kk : decide ((5 : Int) < (m4 : Int)) = false := decide_eq_false (by omega)
            rw [kk]
            have hk : k4 = m4 := by have := HK.out; omega
            have HKK := Aside0.mk hk
            clear q hk kk
            go_wp2_with fail
            go_meet
            exact ⟨⟨by rw [HKK.out]; exact HX.out⟩, HY, HB⟩
        case rest =>
          clear HX HY HB c_ f_
          obtain ⟨HX, HY, HB⟩ := hcut
          go_wp2_with fail
          go_loopg [3, 4, 5] k3 (fun q v3 v4 v5 w' => ∃ i : Nat, v4 = .int .i64 (i : Int) ∧ Aside0 (i + q = k3) ∧ Aside0 (Blk w' x #[.int .i64 nx, .int .i64 sq, .slice A1 k1 c1, .slice A2 k2 c2, .slice A3 k3 c3, .slice A4 k4 c4] 66) ∧ Aside0 (Blk w' y #[.int .i64 0, .int .i64 0, .slice none 0 0, .slice none 0 0, .slice none 0 0, .slice none 0 0] 66) ∧ Aside0 ((Kd.fixed KPar w0).R 90 w' B (fun _ => True) v3 (((prs.take 5).map cutP).take i)) ∧ Aside0 (Below B w w'))
          case atStart => exact ⟨0, rfl, ⟨by omega⟩, HX, HY, ⟨Kd.R_nil _ _ _ _ _⟩, HB⟩
          case round =>
            clear HX HY HB
            obtain ⟨i, rfl, HI, HX, HY, HO, HB⟩ := hrel
            have hix := HI.out
            have c_ : wr.cell? ⟨x, 4, none⟩ = some (.slice A3 k3 c3) := blk_cell HX.out 4
            by_cases hlt : i < k3
            · obtain ⟨f, rfl⟩ : ∃ f, gk = f + 1 := ⟨gk - 1, by omega⟩
              have k0 : ((i : Int) < (k3 : Int)) = True := eq_true (by omega)
              have kw : IntKind.i64.wrap ((i : Int) + 1) = (i : Int) + 1 := by have := HK.out; rw [IntKind.wrap_i64]; omega
              obtain ⟨ad, P1, d1, P2, d2, e_, y0, y1, y2, y3, y4, l1, l2, s1, s2⟩ := par_at HR3.out i (by have := HK.out; omega)
              subst e_
              have hto : ((prs.take 5).map cutP).take (i + 1) = ((prs.take 5).map cutP).take i ++ [cutP (prs.getD i par0)] := cut_take (by have := HK.out; have := HM.out; omega) (by have := HK.out; omega)
              have hal : (((prs.take 5).map cutP).take i).length ≤ 5 := by rw [List.length_take, List.length_map, List.length_take]; omega
              have HAL := Aside0.mk hal
              generalize ((prs.take 5).map cutP).take i = acc at *
              generalize prs.getD i par0 = pp at *
              obtain ⟨g, ns, zs, z, u⟩ := pp
              dsimp only at y0 y1 y2 y3 y4 l1 l2 s1 s2
              have hto' : ((prs.take 5).map cutP).take (i + 1) = acc ++ [(g, ns.take 5, zs.take 5, z, u)] := hto
              have HTO := Aside0.mk hto'
              obtain ⟨j1, hj1⟩ : ∃ q, (ns.take 5).length = q := ⟨_, rfl⟩
              obtain ⟨j2, hj2⟩ : ∃ q, (zs.take 5).length = q := ⟨_, rfl⟩
              have hmm : KPar.K w0 (g, ns.take 5, zs.take 5, z, u) [.int .i64 g, .slice P1 j1 d1, .slice P2 j2 d2, .int .i64 z, .int .u32 u] := by
                rw [← hj1, ← hj2]
                exact par_K (by rw [List.length_take]; omega) (by rw [List.length_take]; omega) (CK_take 5 s1) (CK_take 5 s2)
              have HMM : Aside0 ((Kd.fixed KPar w0).M wr B (fun _ => False) (g, ns.take 5, zs.take 5, z, u) [.int .i64 g, .slice P1 j1 d1, .slice P2 j2 d2, .int .i64 z, .int .u32 u]) := ⟨hmm⟩
              rw [List.length_take] at hj1 hj2
              have HT1 : Aside0 (5 < ns.length → ∀ W : World, (Instr.slice 63 (.slice P1 ns.length d1) none (some (.int .i64 5)) none).run Try.prog W = .ok (.slice P1 5 d1) W) := ⟨fun hq W => to_lit info2 Try.underlying63 5 (by decide) (by omega) l1 W⟩
              have HT2 : Aside0 (5 < zs.length → ∀ W : World, (Instr.slice 60 (.slice P2 zs.length d2) none (some (.int .i64 5)) none).run Try.prog W = .ok (.slice P2 5 d2) W) := ⟨fun hq W => to_lit info3 Try.underlying60 5 (by decide) (by omega) l2 W⟩
              obtain ⟨n1, hn1⟩ : ∃ q, ns.length = q := ⟨_, rfl⟩
              obtain ⟨n2, hn2⟩ : ∃ q, zs.length = q := ⟨_, rfl⟩
              rw [hn1] at HT1 y1 hj1
              rw [hn2] at HT2 y2 hj2
              have HJ : Aside0 (j1 = min 5 n1 ∧ j2 = min 5 n2) := ⟨hj1.symm, hj2.symm⟩
              have y0 := pw_cell_below (HW0.out wr HB.out) y0
              have y1 := pw_cell_below (HW0.out wr HB.out) y1
              have y2 := pw_cell_below (HW0.out wr HB.out) y2
              have y3 := pw_cell_below (HW0.out wr HB.out) y3
              have y4 := pw_cell_below (HW0.out wr HB.out) y4
              have hp3 := blk_new wr (.cells #[.int .i64 g, .slice P1 n1 d1, .slice P2 n2 d2, .int .i64 z, .int .u32 u] 90 (0, 0))
              have hbp := (Below.refl wr.heap.size wr).alloc (Nat.le_refl _) (.cells #[.int .i64 g, .slice P1 n1 d1, .slice P2 n2 d2, .int .i64 z, .int .u32 u] 90 (0, 0))
              obtain ⟨wp, hwp⟩ : ∃ q, wr.alloc (.cells #[.int .i64 g, .slice P1 n1 d1, .slice P2 n2 d2, .int .i64 z, .int .u32 u] 90 (0, 0)) = q := ⟨_, rfl⟩
              rw [hwp] at hp3 hbp
              obtain ⟨p, hp⟩ : ∃ q, wr.heap.size = q := ⟨_, rfl⟩
              have hxl := blk_lt HX.out
              have hyl := blk_lt HY.out
              have hro := Kd.R_mono (ok' := fun k => k ≠ p) (Kd.R_bound HO.out) (fun k hk => by have := hk.2.2.1; omega)
              have hbs := HB.out.size
              have HPN : Aside0 (x ≠ p ∧ y ≠ p ∧ B ≤ p ∧ True) := ⟨by omega, by omega, by have := HBB.out; omega, trivial⟩
              have HX1 := Aside0.mk (blk_below HX.out hbp)
              have HY1 := Aside0.mk (blk_below HY.out hbp)
              have HB1 := Aside0.mk (HB.out.trans (hbp.mono (by have := HBB.out; omega)))
              have HO1 := Aside0.mk (Kd.R_below hro hbp)
              rw [hp] at hp3
              have HP := Aside0.mk hp3
              clear HX HY HB HO hp3 hbp hxl hyl hro hbs hto hto' hal hmm l1 l2 s1 s2 hn1 hn2 hj1 hj2 hix
              have HX := HX1
              have HY := HY1
              have HB := HB1
              have HO := HO1
              have HOP : Aside0 (∀ k, k ≠ p → k ≠ p) := ⟨fun _ h => h⟩
              clear HX1 HY1 HB1 HO1
              have c_ : wp.cell? ⟨p, 1, none⟩ = some (.slice P1 n1 d1) := blk_cell HP.out 1
              have f_ := blk_frozen HP.out 1
              go_upto_if 53 with fail
              go_cut [] (fun wx => Aside0 (Blk wx p #[.int .i64 g, .slice P1 j1 d1, .slice P2 n2 d2, .int .i64 z, .int .u32 u] 90) ∧ Aside0 (Blk wx x #[.int .i64 nx, .int .i64 sq, .slice A1 k1 c1, .slice A2 k2 c2, .slice (some ad) k3 c3, .slice A4 k4 c4] 66) ∧ Aside0 (Blk wx y #[.int .i64 0, .int .i64 0, .slice none 0 0, .slice none 0 0, .slice none 0 0, .slice none 0 0] 66) ∧ Aside0 (Below B w wx) ∧ Aside0 ((Kd.fixed KPar w0).R 90 wx B (fun k => k ≠ p) u3 acc))
              case first =>
                by_cases q : 5 < n1
                · have kk : decide ((5 : Int) < (n1 : Int)) = true := decide_eq_true (by omega)
                  rw [kk]
                  have hk : j1 = 5 := by have := HJ.out; omega
                  have HKK := Aside0.mk hk
                  have hs := HT1.out q
                  clear q hk kk
                  go_wp2_with fail
                  go_meet
                  exact ⟨⟨by rw [HKK.out]; exact blk_set HP.out 1 _⟩, ⟨blk_far HX.out HPN.out.1 _⟩, ⟨blk_far HY.out HPN.out.2.1 _⟩, ⟨HB.out.setCell (by have := HPN.out.2.2.1; exact this) _⟩, ⟨num_R HO.out grown_set HOP.out⟩⟩
                · have kk : decide ((5 : Int) < (n1 : Int)) = false := decide_eq_false (by omega)
                  rw [kk]
                  have hk : j1 = n1 := by have := HJ.out; omega
                  have HKK := Aside0.mk hk
                  clear q hk kk
                  go_wp2_with fail
                  go_meet
                  exact ⟨⟨by rw [HKK.out]; exact HP.out⟩, HX, HY, HB, HO⟩
              case rest =>
                clear HP HX HY HB HO c_ f_
                obtain ⟨HP, HX, HY, HB, HO⟩ := hcut
                have c_ : wc.cell? ⟨p, 2, none⟩ = some (.slice P2 n2 d2) := blk_cell HP.out 2
                have f_ := blk_frozen HP.out 2
                go_upto_if 61 with fail
                go_cut [] (fun wx => Aside0 (Blk wx p #[.int .i64 g, .slice P1 j1 d1, .slice P2 j2 d2, .int .i64 z, .int .u32 u] 90) ∧ Aside0 (Blk wx x #[.int .i64 nx, .int .i64 sq, .slice A1 k1 c1, .slice A2 k2 c2, .slice (some ad) k3 c3, .slice A4 k4 c4] 66) ∧ Aside0 (Blk wx y #[.int .i64 0, .int .i64 0, .slice none 0 0, .slice none 0 0, .slice none 0 0, .slice none 0 0] 66) ∧ Aside0 (Below B w wx) ∧ Aside0 ((Kd.fixed KPar w0).R 90 wx B (fun k => k ≠ p) u3 acc))
                case first =>
                  by_cases q : 5 < n2
                  · have kk : decide ((5 : Int) < (n2 : Int)) = true := decide_eq_true (by omega)
                    rw [kk]
                    have hk : j2 = 5 := by have := HJ.out; omega
                    have HKK := Aside0.mk hk
                    have hs := HT2.out q
                    clear q hk kk
                    go_wp2_with fail
                    go_meet
                    exact ⟨⟨by rw [HKK.out]; exact blk_set HP.out 2 _⟩, ⟨blk_far HX.out HPN.out.1 _⟩, ⟨blk_far HY.out HPN.out.2.1 _⟩, ⟨HB.out.setCell (by have := HPN.out.2.2.1; exact this) _⟩, ⟨num_R HO.out grown_set HOP.out⟩⟩
                  · have kk : decide ((5 : Int) < (n2 : Int)) = false := decide_eq_false (by omega)
                    rw [kk]
                    have hk : j2 = n2 := by have := HJ.out; omega
                    have HKK := Aside0.mk hk
                    clear q hk kk
                    go_wp2_with fail
                    go_meet
                    exact ⟨⟨by rw [HKK.out]; exact HP.out⟩, HX, HY, HB, HO⟩
                case rest =>
                  clear HP HX HY HB HO c_ f_
                  obtain ⟨HP, HX, HY, HB, HO⟩ := hcut
                  have y0 : World.cell? wc ⟨p, 0, none⟩ = some (.int .i64 g) := blk_cell HP.out 0
                  have y1 : World.cell? wc ⟨p, 1, none⟩ = some (.slice P1 j1 d1) := blk_cell HP.out 1
                  have y2 : World.cell? wc ⟨p, 2, none⟩ = some (.slice P2 j2 d2) := blk_cell HP.out 2
                  have y3 : World.cell? wc ⟨p, 3, none⟩ = some (.int .i64 z) := blk_cell HP.out 3
                  have y4 : World.cell? wc ⟨p, 4, none⟩ = some (.int .u32 u) := blk_cell HP.out 4
                  have HO1 := Aside0.mk (Kd.R_mono (ok' := fun _ => True) HO.out (fun _ _ => trivial))
                  have HSZ : Aside0 (B ≤ wc.heap.size) := ⟨by have := blk_lt HP.out; have := HXB.out; have := HPN.out.2.2.1; omega⟩
                  go_wp2_with ((with_reducible refine gate_builtin (b := .append) (xs := #[.tmp 66, .tmp 68]) rfl ?_); at_builtin; go_must (refine Kd.R_append (Kd.fixed KPar w0) (w0 := w) B rfl (.tmp 66) (.tmp 68) 64 90 (.agg #[.int .i64 0, .slice none 0 0, .slice none 0 0, .int .i64 0, .int .u32 0]) 72 rfl Try.underlying64 info90 rfl (by show 0 < 5; decide) (by decide) u3 acc (g, ns.take 5, zs.take 5, z, u) [.int .i64 g, .slice P1 j1 d1, .slice P2 j2 d2, .int .i64 z, .int .u32 u] (fun _ => True) (fun _ => False) ?hs_ ?hx_ HMM.out (fun _ hk => hk.elim) (fun _ _ => trivial) HO1.out HB.out HSZ.out (by have := HAL.out; omega) ?_; (case hs_ => rfl); (case hx_ => rfl); intro v9 w9 ho hb hg hat; have HO9 := Aside0.mk ho; have HB9 := Aside0.mk hb; have HX9 := Aside0.mk (blk_grown HX.out hg (Kd.R_ne HO1.out HX.out (by decide))); have HY9 := Aside0.mk (blk_grown HY.out hg (Kd.R_ne HO1.out HY.out (by decide))); clear ho hb hg hat))
                  go_roundg f
                  case measure => omega
                  case rel => exact ⟨i + 1, by simp, ⟨by have := HI.out; omega⟩, HX9, HY9, ⟨by rw [HTO.out]; exact HO9.out⟩, HB9⟩
            · have k0 : ((i : Int) < (k3 : Int)) = False := eq_false (by omega)
              obtain rfl : i = k3 := by omega
              have hfu : ((prs.take 5).map cutP).take i = (prs.take 5).map cutP := List.take_of_length_le (by rw [List.length_map, List.length_take]; have := HK.out; have := HM.out; omega)
              rw [hfu] at HO
              clear hix hlt hfu
              obtain ⟨Ap, cp, e_⟩ := Kd.R_slice HO.out
              subst e_
              have hpl : ((prs.take 5).map cutP).length = i := by rw [List.length_map, List.length_take]; have := HK.out; have := HM.out; omega
              rw [hpl] at HO ⊢
              have f_ := blk_frozen HX.out 4
              have hx4 : Blk (wr.setCell ⟨x, 4, none⟩ (.slice Ap i cp)) x #[.int .i64 nx, .int .i64 sq, .slice A1 k1 c1, .slice A2 k2 c2, .slice Ap i cp, .slice A4 k4 c4] 66 := blk_set HX.out 4 _
              have hy4 : Blk (wr.setCell ⟨x, 4, none⟩ (.slice Ap i cp)) y #[.int .i64 0, .int .i64 0, .slice none 0 0, .slice none 0 0, .slice none 0 0, .slice none 0 0] 66 := blk_far HY.out HNE.out _
              have hb4 := HB.out.setCell (p := ⟨x, 4, none⟩) (by have := HXB.out; exact this) (.slice Ap i cp)
              have ho4 := Kd.R_set HO.out HX.out (fix_ne (by decide)) 4 (.slice Ap i cp)
              obtain ⟨w4, hw4⟩ : ∃ q, wr.setCell ⟨x, 4, none⟩ (.slice Ap i cp) = q := ⟨_, rfl⟩
              rw [hw4] at hx4 hy4 hb4 ho4
              have x0 : w4.cell? ⟨x, 0, none⟩ = some (.int .i64 nx) := blk_cell hx4 0
              have x1 : w4.cell? ⟨x, 1, none⟩ = some (.int .i64 sq) := blk_cell hx4 1
              have x2 : w4.cell? ⟨x, 2, none⟩ = some (.slice A1 k1 c1) := blk_cell hx4 2
              have x3 : w4.cell? ⟨x, 3, none⟩ = some (.slice A2 k2 c2) := blk_cell hx4 3
              have x4 : w4.cell? ⟨x, 4, none⟩ = some (.slice Ap i cp) := blk_cell hx4 4
              have x5 : w4.cell? ⟨x, 5, none⟩ = some (.slice A4 k4 c4) := blk_cell hx4 5
              obtain ⟨wa, wb, wd, we, wf, wg, ya, yb, yc, yd, ye, yf, ⟨z0, z1, z2, z3, z4, z5⟩, ⟨f0, f1, f2, f3, f4, f5⟩, hyz, hyg⟩ := store6 hy4 (.int .i64 nx) (.int .i64 sq) (.slice A1 k1 c1) (.slice A2 k2 c2) (.slice Ap i cp) (.slice A4 k4 c4)
              have hbz := hb4.trans (pw_below_grown (Below.refl B w4) (some y) (by have := hb4.size; have := HBB.out; omega) hyg (fun q hq => by injection hq with hq; have := HXB.out; have := HYB.out; omega))
              have hoz := num_R (Kd.R_mono (ok' := fun k => k ≠ y) (Kd.R_bound ho4) (fun k hk e_ => by obtain ⟨_, _, _, q, hq, cells, hc⟩ := hk; subst e_; exact blk_ne hc hy4 (fix_ne (by decide) q hq) rfl)) hyg (fun _ h => h)
              have HYZ := Aside0.mk hyz
              have HBZ := Aside0.mk hbz
              have HOZ := Aside0.mk hoz
              have HCP := Aside0.mk (Kd.R_reads' hoz).2.1
              clear hx4 hy4 hb4 ho4 hyz hyg hbz hoz HX HY HB HO
              go_wp2
              (try simp only [Exit.inBlock, Exit.then])
              refine bodyPost_ret (results_cell_row rfl _ _ y 66 #[.int .i64 nx, .int .i64 sq, .slice A1 k1 c1, .slice A2 k2 c2, .slice Ap i cp, .slice A4 k4 c4] (0, 0) _ rfl HYZ.out Try.underlying66 rfl (by kernel_rfl)) rfl ?_
              obtain ⟨s1, s2, s4⟩ := HRR.out
              have hkl := HKL.out
              have hk := HK.out
              have hlc := HL.out
              have hozz := HOZ.out
              refine ⟨_, rfl, ?_, by rw [HBB.out]; exact HBZ.out⟩
              rw [HBB.out]
              have hm : (KM w0).M wg B (fun _ => True) (nx, sq, ads.take 10, dls.take 10, (prs.take 5).map cutP, drs.take 5) [.int .i64 nx, .int .i64 sq, .slice A1 (ads.take 10).length c1, .slice A2 (dls.take 10).length c2, .slice Ap i cp, .slice A4 (drs.take 5).length c4] :=
                ⟨[_], [_, _, _, _, _], rfl, rfl, [_], [_, _, _, _], rfl, rfl, [_], [_, _, _], rfl, ⟨A1, c1, rfl, by rw [hkl.1]; omega, s1⟩, [_], [_, _], rfl, ⟨A2, c2, rfl, by rw [hkl.2.1]; omega, s2⟩, [_], [_], rfl, ⟨_, rfl, Kd.R_mono (ok' := fun _ => True) hozz (fun _ _ => trivial)⟩, ⟨A4, c4, rfl, by rw [hkl.2.2.2]; omega, s4⟩⟩
              rw [hkl.1, hkl.2.1, hkl.2.2.2] at hm
              exact hm
theorem cut_calls0 (e : EdT) (v : Value) (w0 w : World) (h : EdAt w0 v e) (hw0 : Below w0.heap.size w0 w) :
    Calls Try.prog 43 #[v] w fun x w' => ∃ y : Value, x = .returned y ∧ (∀ wx : World, Below w0.heap.size w0 wx → (∀ k, w.heap.size ≤ k → k < w'.heap.size → wx.heap[k]? = w'.heap[k]?) → EdAt wx y (cutE e)) ∧ Below w.heap.size w w' :=
  (cut_callsM e v w0 w h hw0).mono fun x w' ⟨cs, h1, h2, h3⟩ => ⟨_, h1, fun wx hb hk => km_ed ((KM w0).K_of_M (Kd.M_step ((KM w0).M_bound h2) (fun k hk1 hk2 => hk k hk1.2.1 hk2))) hb, h3⟩
theorem cut_calls (e : EdT) (v : Value) (w : World) (h : EdAt w v e) :
    Calls Try.prog 43 #[v] w fun x w' => ∃ y : Value, x = .returned y ∧ EdAt w' y (cutE e) ∧ Below w.heap.size w w' :=
  (cut_calls0 e v w w h (Below.refl _ _)).mono fun x w' ⟨y, h1, h2, h3⟩ => ⟨y, h1, h2 w' h3 (fun _ _ _ => rfl), h3⟩
/-- What an argument says of itself: numbers of their kinds. -/
def EdGd (e : EdT) : Prop := (Lit.int .i64 e.1).wf = true ∧ (Lit.int .i64 e.2.1).wf = true ∧ (e.2.2.1.length ≤ maxLen ∧ ∀ s ∈ e.2.2.1, (Lit.int .i64 s.1).wf = true ∧ True ∧ (Lit.int .i64 s.2.2.1).wf = true ∧ (Lit.int .i64 s.2.2.2.1).wf = true ∧ (Lit.int .i64 s.2.2.2.2.1).wf = true ∧ (Lit.int .u32 s.2.2.2.2.2).wf = true) ∧
  (e.2.2.2.1.length ≤ maxLen ∧ ∀ n ∈ e.2.2.2.1, (Lit.int .i64 n).wf = true) ∧ (e.2.2.2.2.1.length ≤ maxLen ∧ ∀ p ∈ e.2.2.2.2.1, (Lit.int .i64 p.1).wf = true ∧ (p.2.1.length ≤ maxLen ∧ ∀ n ∈ p.2.1, (Lit.int .i64 n).wf = true) ∧ (p.2.2.1.length ≤ maxLen ∧ ∀ n ∈ p.2.2.1, (Lit.int .i64 n).wf = true) ∧ (Lit.int .i64 p.2.2.2.1).wf = true ∧ (Lit.int .u32 p.2.2.2.2).wf = true) ∧
  (e.2.2.2.2.2.length ≤ maxLen ∧ ∀ n ∈ e.2.2.2.2.2, (Lit.int .i64 n).wf = true)
theorem u32_wf {n : Int} (h : (Lit.int .u32 n).wf = true) : 0 ≤ n ∧ n < 4294967296 := by
  simp [Lit.wf, IntKind.min, IntKind.max, IntKind.bits, IntKind.signed] at h
  omega
theorem good_cut {e : EdT} (h : EdGd e) : edGood (cutE e) := by
  obtain ⟨_, _, ⟨_, h1⟩, _, ⟨_, h2⟩, _⟩ := h
  refine ⟨fun s hs => ?_, fun p hp => ?_⟩
  · exact u32_wf (h1 s (List.mem_of_mem_take (show s ∈ e.2.2.1.take 10 from hs))).2.2.2.2.2
  · obtain ⟨q, hq, rfl⟩ := List.mem_map.1 (show p ∈ (e.2.2.2.2.1.take 5).map cutP from hp)
    exact u32_wf (h2 q (List.mem_of_mem_take hq)).2.2.2.2
theorem ed_six {w : World} {v : Value} {e : EdT} (h : EdAt w v e) : ∃ (i0 i1 : Int) (A2 : Option Addr) (l2 c2 : Nat) (A3 : Option Addr) (l3 c3 : Nat) (A4 : Option Addr) (l4 c4 : Nat) (A5 : Option Addr) (l5 c5 : Nat), v = .agg #[.int .i64 i0, .int .i64 i1, .slice A2 l2 c2, .slice A3 l3 c3, .slice A4 l4 c4, .slice A5 l5 c5] := by
  obtain ⟨A1, c1, A2, c2, A3, c3, A4, c4, h, _⟩ := h
  exact ⟨_, _, _, _, _, _, _, _, _, _, _, _, _, _, h⟩
theorem ed_at6 {w : World} {A : Option Addr} {n : Nat} {os : List EdT} (h : KEd.C w A n os) (i : Nat) (hi : i < n) : ∃ (ad : Addr) (i0 i1 : Int) (A2 : Option Addr) (l2 c2 : Nat) (A3 : Option Addr) (l3 c3 : Nat) (A4 : Option Addr) (l4 c4 : Nat) (A5 : Option Addr) (l5 c5 : Nat), A = some ad ∧ w.cell? (ad.add (i * 6)) = some (.int .i64 i0) ∧ w.cell? ⟨(ad.add (i * 6)).block, (ad.add (i * 6)).off + 1, none⟩ = some (.int .i64 i1) ∧
    w.cell? ⟨(ad.add (i * 6)).block, (ad.add (i * 6)).off + 2, none⟩ = some (.slice A2 l2 c2) ∧ w.cell? ⟨(ad.add (i * 6)).block, (ad.add (i * 6)).off + 3, none⟩ = some (.slice A3 l3 c3) ∧ w.cell? ⟨(ad.add (i * 6)).block, (ad.add (i * 6)).off + 4, none⟩ = some (.slice A4 l4 c4) ∧ w.cell? ⟨(ad.add (i * 6)).block, (ad.add (i * 6)).off + 5, none⟩ = some (.slice A5 l5 c5) ∧
    EdAt w (.agg #[.int .i64 i0, .int .i64 i1, .slice A2 l2 c2, .slice A3 l3 c3, .slice A4 l4 c4, .slice A5 l5 c5]) (os.getD i ed0) := by
  obtain ⟨ad, A1, c1, A2, c2, A3, c3, A4, c4, e1, p0, p1, p2, p3, p4, p5, hed, _⟩ := ed_at h i hi
  exact ⟨ad, _, _, _, _, _, _, _, _, _, _, _, _, _, _, e1, p0, p1, p2, p3, p4, p5, hed⟩
end Go.Proofs.Ytfojeegepfjbiaa.EdQ
