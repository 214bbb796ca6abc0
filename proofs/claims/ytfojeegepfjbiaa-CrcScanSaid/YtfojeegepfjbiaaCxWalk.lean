/- CrcScan: any bytes are seals as far as they go, and what stands behind is cut off or spoilt: it answers true. No condition. -/
import Derived.Test.YtfojeegepfjbiaaProg
import Derived.Below
import Derived.Deep.Draws
import Derived.Deep.AppendLies
import Derived.Maps.AppendAt
import Derived.OwnWalk
import Derived.Laws.BytesArg
import Derived.Laws.MakeOwn
import Derived.Laws.OwnMore
import Derived.Deep.OwnRows
import Derived.Tactics
import Derived.Lib.ConvBytes
import Derived.Laws.Slices
import Derived.WalkKit
import Derived.KernelRfl
import Derived.RowKit3
import Derived.Deep.LoopGhost
import Derived.Deep.QuietTactic
import Derived.BigQuiet
import Derived.WideLaws
import Derived.Deep.DeepCutAuto
import Derived.Deep.CutBlock
import Derived.Deep.RegionHeld3
import Derived.Laws.Rows
import Derived.Lib.AppendStr
import Derived.ArgAppend
import Derived.Laws.IdiomCopy
import Derived.OrdersHeld
import Derived.Laws.BitsLemmas
import Derived.RowKit
import Derived.Deep.RegionWith
import Derived.Laws.BitsAllLaws
import Derived.WalkSpells
import Derived.Outline
import Derived.Test.YtfojeegepfjbiaaWWords
import Derived.Test.YtfojeegepfjbiaaWLast
import Derived.Test.YtfojeegepfjbiaaWMore
import Derived.Test.YtfojeegepfjbiaaWArr
import Derived.Test.YtfojeegepfjbiaaWTab
import Derived.Test.YtfojeegepfjbiaaWZeros
import Derived.Test.YtfojeegepfjbiaaWRepsOne
import Derived.Test.YtfojeegepfjbiaaCwWalk
import Derived.Test.YtfojeegepfjbiaaCrK
namespace Go.Proofs.Ytfojeegepfjbiaa.CxWalk
open Go.RowKit Go.Proofs.YtfojeegepfjbiaaW.PrintWords Go.Proofs.YtfojeegepfjbiaaW.PrintLast Go.Proofs.YtfojeegepfjbiaaW.PrintMore Go.Proofs.Ytfojeegepfjbiaa.Nm Go.Proofs.Ytfojeegepfjbiaa.NmA Go.Proofs.Ytfojeegepfjbiaa.NmB Go.Proofs.Ytfojeegepfjbiaa.NmC Go.Proofs.Ytfojeegepfjbiaa.NmH Go.Proofs.Ytfojeegepfjbiaa.CrP Go.Proofs.Ytfojeegepfjbiaa.CrA Go.Proofs.Ytfojeegepfjbiaa.CrB Go.Proofs.Ytfojeegepfjbiaa.CrC Go.Proofs.Ytfojeegepfjbiaa.CrD Go.Proofs.Ytfojeegepfjbiaa.CrE Go.Proofs.Ytfojeegepfjbiaa.CrF Go.Proofs.Ytfojeegepfjbiaa.CrG Go.Proofs.Ytfojeegepfjbiaa.CrH Go.Proofs.Ytfojeegepfjbiaa.CrI Go.Proofs.Ytfojeegepfjbiaa.CrJ Go.Proofs.Ytfojeegepfjbiaa.CrK Go.Proofs.Ytfojeegepfjbiaa.CrL Go.Proofs.Ytfojeegepfjbiaa.CvWalk Go.Proofs.Ytfojeegepfjbiaa.Mix
set_option linter.unusedSimpArgs false
set_option linter.unusedVariables false
attribute [local go_sem] max2_int min2_int max_two min_two

theorem fixed_C {α : Type} {d : Kd α} {w0 w : World} {A : Option Addr} {n : Nat} {xs : List α} (h : (Kd.fixed d w0).C w A n xs) (hb : Below w0.heap.size w0 w) : d.C w A n xs :=
  ReadsRow.imp_ h (Below.refl _ _) (fun _ _ hp => d.K_below hb hp)
theorem scanF_nil {f : Nat} {l : List Int} {a : Nat} (h : (scanF (f + 1) l a).1 = []) : (scanF (f + 1) l a).2.1 = a := by
  rw [scanF_succ] at h ⊢
  split
  · rfl
  · rename_i h0
    rw [if_neg h0] at h
    simp at h
/-- One seal and nothing else, by Scan and by Open. -/
theorem whole_law (l : List Int) : (((scanL l).1.length = 1 ∧ (scanL l).2.1 = l.length) → (openL l).2 = true ∧ (openL l).1 = (scanL l).1.getD 0 []) ∧ (¬((scanL l).1.length = 1 ∧ (scanL l).2.1 = l.length) → (openL l).2 = false) := by
  have hs : scanL l = scanF (l.length + 1) l 0 := rfl
  rw [scanF_succ, List.drop_zero, Nat.zero_add] at hs
  unfold openL
  by_cases h0 : (firstL l).2.1 = 0
  · rw [if_pos h0] at hs
    rw [hs, if_pos (Or.inl h0)]
    simp
  · rw [if_neg h0] at hs
    rw [hs]
    by_cases h1 : (firstL l).2.1 = l.length
    · rw [if_neg (by omega), h1]
      obtain ⟨f, hf⟩ : ∃ f, l.length = f + 1 := ⟨l.length - 1, by omega⟩
      have : scanF l.length l l.length = ([], l.length, true) := by
        conv => lhs; arg 1; rw [hf]
        rw [scanF_succ, List.drop_length, first_nil]
        rfl
      rw [this]
      simp
    · rw [if_pos (Or.inr h1)]
      refine ⟨fun h => ?_, fun _ => rfl⟩
      exfalso
      obtain ⟨hl, hn⟩ := h
      simp only [List.length_cons] at hl hn
      have hnil : (scanF l.length l (firstL l).2.1).1 = [] := List.eq_nil_of_length_eq_zero (by omega)
      obtain ⟨f, hf⟩ : ∃ f, l.length = f + 1 := by
        refine ⟨l.length - 1, ?_⟩
        have : l ≠ [] := by intro e; subst e; rw [first_nil] at h0; exact h0 rfl
        have := List.length_pos_iff.2 this
        omega
      generalize hln : l.length = ll at *
      subst hf
      have := scanF_nil hnil
      omega
theorem first_bys {l : List Int} (h : Bys l) : Bys (firstL l).1 := by
  have h0 : Bys [] := by intro z hz; simp at hz
  unfold firstL
  split
  · exact h0
  · split
    · exact h0
    · split
      · exact h0
      · split
        · exact h0
        · unfold bodyL; exact bys_drop (bys_take h _) _
theorem scanF_bys {l : List Int} (h : Bys l) : ∀ (f a : Nat), ∀ p ∈ (scanF f l a).1, Bys p := by
  intro f
  induction f with
  | zero => intro a p hp; simp [scanF] at hp
  | succ f ih =>
    intro a p hp
    rw [scanF_succ] at hp
    split at hp
    · simp at hp
    · rcases List.mem_cons.1 hp with rfl | hp
      · exact first_bys (bys_drop h a)
      · exact ih _ p hp
theorem scan_bys {l : List Int} (h : Bys l) : ∀ p ∈ (scanL l).1, Bys p := scanF_bys h _ _
theorem scanF_len (l : List Int) : ∀ (f a : Nat), (scanF f l a).1.length ≤ f := by
  intro f
  induction f with
  | zero => intro a; simp [scanF]
  | succ f ih =>
    intro a
    rw [scanF_succ]
    split
    · simp
    · have := ih (a + (firstL (l.drop a)).2.1)
      simp only [List.length_cons]
      omega
theorem scan_len (l : List Int) : (scanL l).1.length ≤ l.length + 1 := scanF_len l _ _
set_option maxRecDepth 100000 in
set_option maxHeartbeats 2000000 in
theorem walk (A : Option Addr) (c : Nat) (ps : List (List Int)) (a1 : Int) (x : Int) (A2 : Option Addr) (c2 : Nat) (l2 : List Int) (w : World) (hr : (Kd.slice 5 (Kd.int .u8)).C w A ps.length ps) (hc : ps.length ≤ c)
    (hg : ps.length ≤ maxLen ∧ ∀ p ∈ ps, p.length ≤ maxLen ∧ ∀ x ∈ p, (Lit.int .u8 x).wf = true) (w1 : (Lit.int .i64 a1).wf = true) (w2 : (Lit.int .u8 x).wf = true)
    (hr2 : (Kd.int .u8).C w A2 l2.length l2) (hc2 : l2.length ≤ c2) (hm2 : l2.length * 1 ≤ 140737488351232) (hw2 : ∀ x ∈ l2, (Lit.int .u8 x).wf = true) :
    Calls Try.prog 5 #[.slice A ps.length c, .int .i64 a1, .int .u8 x, .slice A2 l2.length c2] w fun e w' => e = .returned (.bool true) ∧ Below w.heap.size w w' := by
  have hby := bys_ps (fun p hp => (hg.2 p hp).2)
  have hpl : ps.length ≤ 9223372036854775807 := by have := hg.1; unfold maxLen at this; omega
  have hx : 0 ≤ x ∧ x < 256 := by
    simp [Lit.wf, IntKind.min, IntKind.max, IntKind.bits, IntKind.signed] at w2
    omega
  have ha : -9223372036854775808 ≤ a1 ∧ a1 ≤ 9223372036854775807 := by
    simp [Lit.wf, IntKind.min, IntKind.max, IntKind.bits, IntKind.signed] at w1
    omega
  have HL := Aside0.mk (fun w h => laid_calls A c ps hby 6 (by omega) w h hpl)
  have hbb := bys_laidL (ps := ps.take 6) (fun p hp => hby p (List.mem_of_mem_take hp))
  have hbl := laidL_len (ps.take 6)
  rw [List.length_take] at hbl
  have HSH := Aside0.mk (fun w => short_calls A2 c2 l2 30 hc2 w)
  have hb2 := bys_take (bys_wf hw2) 30
  have hl2 : (l2.take 30).length ≤ 30 := by rw [List.length_take]; omega
  have HC2 := Aside0.mk (C_take 30 hr2)
  have HR := Aside0.mk hr
  clear hg w1 w2 hby hr hr2 hm2 hw2
  generalize l2.take 30 = t at *
  generalize laidL (ps.take 6) = b at *
  have HBB := Aside0.mk (bys_append hbb hb2)
  have HBL : Aside0 (b.length ≤ 432 ∧ t.length ≤ 30) := ⟨by omega⟩
  clear hbb hbl hb2 hl2
  go_enter Try.func5, Try.ntmps5
  go_wp2_with fail
  refine (begun_calls w).mono ?_
  rintro e_ w1 ⟨rfl, hb⟩
  have HB1 := Aside0.mk hb
  clear hb
  go_wp2_with fail
  refine (HL.out w1 (Kd.C_below HR.out HB1.out)).mono ?_
  rintro e_ w2 ⟨v2, rfl, ho, hb⟩
  have HO2 := Aside0.mk (Kd.R_lower ho HB1.out.size)
  have HB2 := Aside0.mk (below_step HB1.out hb)
  have HT2 := Aside0.mk (Kd.C_below HC2.out HB2.out)
  clear ho hb HB1
  go_wp2_with fail
  refine (HSH.out w2).mono ?_
  rintro e_ w3 ⟨rfl, rfl⟩
  obtain ⟨b0, hb0⟩ : ∃ b0, b ++ t = b0 := ⟨_, rfl⟩
  have hbl0 : b0.length ≤ 462 := by rw [← hb0, List.length_append]; have := HBL.out; omega
  rw [hb0] at HBB
  have HBE := Aside0.mk hb0
  have HBXL := Aside0.mk hbl0
  clear hb0 hbl0
  rcases Nat.eq_zero_or_pos b0.length with h0 | h0
  · have HL0 := Aside0.mk h0
    have k0 : (0 < b0.length) = False := eq_false (by omega)
    clear h0
    go_wp2_with ((with_reducible refine gate_builtin (b := .append) (xs := #[.tmp 24, .tmp 26]) rfl ?_); at_builtin; go_must (refine Kd.R_append_row (Value.int .u8) (0) (h1 := fun _ => rfl) (w0 := w) (w.heap.size) rfl (.tmp 24) (.tmp 26) 22 5 (.int .u8 0) 1 rfl Try.underlying22 info5 rfl (by decide) v2 b t A2 (t.length) c2 (fun _ => True) rfl rfl (fun _ _ => trivial) (HO2.out) (HT2.out) (HB2.out) (Below.size (HB2.out)) ?aL_ ?_; (case aL_ => have := HBL.out; omega); intro v4 w4 ho hb hg hat; have HO4 := Aside0.mk ho; have HB4 := Aside0.mk hb; have ho5 := HO4.out; rw [HBE.out] at ho5; obtain ⟨Ax, cx, e4⟩ := Kd.R_slice ho5; subst e4; have HO5 := Aside0.mk ho5; clear ho5 HO4; clear ho hb hg hat))
    obtain ⟨bx, hbx⟩ : ∃ bx, b0 = bx := ⟨_, rfl⟩
    subst hbx
    have HBXB := HBB
    have HCX := Aside0.mk (Kd.R_reads' HO5.out).2.2
    have HCXL := Aside0.mk (Kd.R_reads' HO5.out).2.1
    have HBX := HB4
    clear HO5 HB4 HO2 HB2 HT2
    generalize b0 = bx at *
    have hbl : bx.length ≤ 462 := HBXL.out
    have HSC := Aside0.mk (fun w h => scan_calls Ax cx bx HBXB.out w h HCXL.out (by omega))
    have HRSC := Aside0.mk (fun w h => rscan_calls Ax cx bx HBXB.out w h HCXL.out (by omega))
    have HOP := Aside0.mk (fun w h => open_calls Ax cx bx HBXB.out w h HCXL.out (by omega))
    have hwl := whole_law bx
    have hsb := scan_bys HBXB.out
    have hsl := scan_len bx
    obtain ⟨Ls, hLs⟩ : ∃ q, (scanL bx).1 = q := ⟨_, rfl⟩
    obtain ⟨Nn, hNn⟩ : ∃ q, (scanL bx).2.1 = q := ⟨_, rfl⟩
    obtain ⟨Oo, hOo⟩ : ∃ q, (scanL bx).2.2 = q := ⟨_, rfl⟩
    rw [hLs, hNn, hOo] at HSC HRSC
    rw [hLs, hNn] at hwl
    rw [hLs] at hsb hsl
    clear hLs hNn hOo
    obtain ⟨yo, hyo⟩ : ∃ q, (openL bx).1 = q := ⟨_, rfl⟩
    obtain ⟨oo, hoo⟩ : ∃ q, (openL bx).2 = q := ⟨_, rfl⟩
    rw [hyo, hoo] at HOP hwl
    clear hyo hoo
    have HSB := Aside0.mk (And.intro hsb hsl)
    have HWL := Aside0.mk hwl
    clear hsb hsl hwl hbl
    refine (HSC.out _ HCX.out).mono ?_
    rintro e_ w6 ⟨v6, rfl, ho, hb⟩
    obtain ⟨A6, c6, rfl⟩ := Kd.R_slice ho
    have HV6 := Aside0.mk (Kd.R_reads' ho)
    have HX6 := Aside0.mk (Kd.C_below HCX.out hb)
    have HB6 := Aside0.mk (below_step HBX.out hb)
    clear ho hb
    go_wp2_with fail
    refine (HRSC.out _ HX6.out).mono ?_
    rintro e_ w7 ⟨v7, rfl, ho, hb⟩
    obtain ⟨A7, c7, rfl⟩ := Kd.R_slice ho
    have HV7 := Aside0.mk (fixed_C (Kd.R_reads' ho).2.2 hb)
    have HX7 := Aside0.mk (Kd.C_below HX6.out hb)
    have HV67 := Aside0.mk (Kd.C_below HV6.out.2.2 hb)
    have HB7 := Aside0.mk (below_step HB6.out hb)
    clear ho hb
    go_wp2_with fail
    refine (HOP.out _ HX7.out).mono ?_
    rintro e_ w8 ⟨v8, rfl, ho, hb⟩
    obtain ⟨A8, c8, rfl⟩ := Kd.R_slice ho
    have HV8 := Aside0.mk (Kd.R_reads' ho).2.2
    have HV68 := Aside0.mk (Kd.C_below HV67.out hb)
    have HV78 := Aside0.mk (Kd.C_below HV7.out hb)
    have HB8 := Aside0.mk (below_step HB7.out hb)
    clear ho hb HSC HRSC HOP HX6 HX7 HV6 HV7 HV67 HB6 HB7 HCX HBX
    have HSA := Aside0.mk (fun w h1 h2 => same_calls A6 c6 Ls HSB.out.1 A7 c7 Ls HSB.out.1 w h1 (by have := HSB.out.2; have := HBXL.out; omega) h2 (by have := HSB.out.2; have := HBXL.out; omega))
    simp only [decide_true] at HSA
    by_cases hw1 : Ls.length = 1
    · have k1 : ((Ls.length : Int) == 1) = true := by simp [hw1]
      by_cases hw2 : Nn = bx.length
      · have k2 : ((Nn : Int) == (bx.length : Int)) = true := by simp [hw2]
        obtain ⟨hoo, hy⟩ := HWL.out.1 ⟨hw1, hw2⟩
        subst hoo
        subst hy
        obtain ⟨ad, A9, c9, e9, hcell, _, hC9⟩ := row_at HV78.out 0 (by omega)
        subst e9
        have HC9 := Aside0.mk hC9
        have hl0 : (0 < Ls.length) = True := eq_true (by omega)
        have HW1 := Aside0.mk hw1
        clear hw1 hw2 hC9
        generalize Ls.getD 0 [] = x0 at *
        go_wp2_with fail
        refine wp_region_mix (fun w_ w1_ => Below w_.heap.size w_ w1_) [(false, 0), (false, 1), (true, 2), (false, 3), (false, 4), (false, 5), (false, 6), (false, 7), (false, 8), (false, 9), (false, 10), (false, 11), (false, 12), (false, 13), (false, 14), (false, 15), (false, 16), (false, 17), (false, 18), (false, 19), (false, 20), (false, 21), (false, 22), (false, 23), (false, 24), (false, 25), (false, 26), (false, 27), (false, 28), (false, 29), (false, 30), (false, 31)] (by kernel_rfl) (by kernel_rfl) (fun _ => Below.refl _ _) (fun h h' => below_step h h') (fun wd hhp_ hbw_ => ?_)
        have HZw := Aside0.mk hbw_
        have HZ0 := Aside0.mk (below_step HB8.out hbw_)
        have cy0 := fun (wx : World) (h : Below wd.heap.size wd wx) => Kd.C_string (P := Try.prog) (A := A8) (c := c8) Try.underlying22 Try.underlying5 Try.underlying9 (Kd.C_below HV8.out (below_step hbw_ h))
        have cz0 := fun (wx : World) (h : Below wd.heap.size wd wx) => Kd.C_string (P := Try.prog) (A := A9) (c := c9) Try.underlying22 Try.underlying5 Try.underlying9 (Kd.C_below HC9.out (below_step hbw_ h))
        have hd0 : ∀ wx : World, Below wd.heap.size wd wx → wx.cell? ad = some (.slice A9 x0.length c9) := fun wx h => ((below_step hbw_ h).cell (World.block_lt_of_cell? w8 _ hcell)).trans hcell
        clear hhp_ hbw_
        (refine mix_read (o := { dst := some 71, op := Op.move (Operand.tmp 11), type := 32, pos := "law.go:84", after := #[], guard := none }) rfl (by first | rfl | (simp [Region.wanted, yielded]; done)) (by intro w_ hE_; (try dsimp only at hE_); first | (go_simp; done) | (go_simp; rfl)) ?_)
        (try simp only [Act.put, List.setIfInBounds_toArray, List.set_cons_zero, List.set_cons_succ])
        (refine mix_read (o := { dst := some 72, op := Op.move (Operand.tmp 14), type := 32, pos := "law.go:84", after := #[], guard := none }) rfl (by first | rfl | (simp [Region.wanted, yielded]; done)) (by intro w_ hE_; (try dsimp only at hE_); first | (go_simp; done) | (go_simp; rfl)) ?_)
        (try simp only [Act.put, List.setIfInBounds_toArray, List.set_cons_zero, List.set_cons_succ])
        refine mix_call (o := { dst := some 73, op := Op.call { callee := Callee.value (Operand.func 29), args := #[Operand.tmp 71, Operand.tmp 72], argTypes := #[32, 32] }, type := 4, pos := "law.go:84", after := #[{ on := 0, ground := Ground.data }, { on := 1, ground := Ground.data }], guard := none }) rfl (by first | rfl | (simp [Region.wanted, yielded]; done)) (by first | (go_simp; done) | (go_simp; exact ⟨rfl, rfl⟩) | (go_simp; rfl)) ?_
        refine (HSA.out _ (Kd.C_below HV68.out HZw.out) (Kd.C_below HV78.out HZw.out)).mono ?_
        rintro e_ x1 ⟨rfl, hb⟩
        have HZ1 := Aside0.mk (below_step HZ0.out hb)
        have cy1 := fun (wx : World) (h : Below x1.heap.size x1 wx) => cy0 wx (below_step hb h)
        have cz1 := fun (wx : World) (h : Below x1.heap.size x1 wx) => cz0 wx (below_step hb h)
        have hd1 : ∀ wx : World, Below x1.heap.size x1 wx → wx.cell? ad = some (.slice A9 x0.length c9) := fun wx h => hd0 wx (below_step hb h)
        refine ⟨_, rfl, hb, ?_⟩
        clear cy0 cz0 hd0
        clear hb
        (try simp only [Act.put, List.setIfInBounds_toArray, List.set_cons_zero, List.set_cons_succ])
        (refine mix_read (o := { dst := some 74, op := Op.move (Operand.tmp 73), type := 4, pos := "law.go:84", after := #[{ on := 2, ground := Ground.data }, { on := 2, ground := Ground.chain }], guard := none }) rfl (by first | rfl | (simp [Region.wanted, yielded]; done)) (by intro w_ hE_; (try dsimp only at hE_); first | (go_simp; done) | (go_simp; rfl)) ?_)
        (try simp only [Act.put, List.setIfInBounds_toArray, List.set_cons_zero, List.set_cons_succ])
        first | (refine mix_read (o := { dst := some 75, op := Op.move (Operand.tmp 12), type := 3, pos := "law.go:84", after := #[{ on := 3, ground := Ground.guard }], guard := some (3, true) }) rfl (by first | rfl | (simp [Region.wanted, yielded]; done)) (by intro w_ hE_; (try dsimp only at hE_); first | (go_simp; done) | (go_simp; rfl)) ?_) | (refine mix_skip (o := { dst := some 75, op := Op.move (Operand.tmp 12), type := 3, pos := "law.go:84", after := #[{ on := 3, ground := Ground.guard }], guard := some (3, true) }) rfl (by first | rfl | (simp [Region.wanted, yielded]; done)) ?_)
        (try simp only [Act.put, List.setIfInBounds_toArray, List.set_cons_zero, List.set_cons_succ])
        first | (refine mix_read (o := { dst := some 76, op := Op.move (Operand.tmp 15), type := 3, pos := "law.go:84", after := #[{ on := 3, ground := Ground.guard }], guard := some (3, true) }) rfl (by first | rfl | (simp [Region.wanted, yielded]; done)) (by intro w_ hE_; (try dsimp only at hE_); first | (go_simp; done) | (go_simp; rfl)) ?_) | (refine mix_skip (o := { dst := some 76, op := Op.move (Operand.tmp 15), type := 3, pos := "law.go:84", after := #[{ on := 3, ground := Ground.guard }], guard := some (3, true) }) rfl (by first | rfl | (simp [Region.wanted, yielded]; done)) ?_)
        (try simp only [Act.put, List.setIfInBounds_toArray, List.set_cons_zero, List.set_cons_succ])
        first | (refine mix_read (o := { dst := some 77, op := Op.binOp BinOp.eql 3 (Operand.tmp 75) (Operand.tmp 76) 3, type := 4, pos := "law.go:84", after := #[{ on := 4, ground := Ground.data }, { on := 5, ground := Ground.data }, { on := 3, ground := Ground.guard }], guard := some (3, true) }) rfl (by first | rfl | (simp [Region.wanted, yielded]; done)) (by intro w_ hE_; (try dsimp only at hE_); first | (go_simp; done) | (go_simp; rfl)) ?_) | (refine mix_skip (o := { dst := some 77, op := Op.binOp BinOp.eql 3 (Operand.tmp 75) (Operand.tmp 76) 3, type := 4, pos := "law.go:84", after := #[{ on := 4, ground := Ground.data }, { on := 5, ground := Ground.data }, { on := 3, ground := Ground.guard }], guard := some (3, true) }) rfl (by first | rfl | (simp [Region.wanted, yielded]; done)) ?_)
        (try simp only [Act.put, List.setIfInBounds_toArray, List.set_cons_zero, List.set_cons_succ])
        (refine mix_read (o := { dst := some 78, op := Op.pick (Operand.tmp 74) (Operand.tmp 77) (Operand.const (Value.bool false)), type := 4, pos := "law.go:84", after := #[{ on := 3, ground := Ground.data }, { on := 6, ground := Ground.data }], guard := none }) rfl (by first | rfl | (simp [Region.wanted, yielded]; done)) (by intro w_ hE_; (try dsimp only at hE_); first | (go_simp; done) | (go_simp; rfl)) ?_)
        (try simp only [Act.put, List.setIfInBounds_toArray, List.set_cons_zero, List.set_cons_succ])
        (refine mix_read (o := { dst := some 79, op := Op.move (Operand.tmp 78), type := 4, pos := "law.go:84", after := #[{ on := 7, ground := Ground.data }, { on := 3, ground := Ground.chain }], guard := none }) rfl (by first | rfl | (simp [Region.wanted, yielded]; done)) (by intro w_ hE_; (try dsimp only at hE_); first | (go_simp; done) | (go_simp; rfl)) ?_)
        (try simp only [Act.put, List.setIfInBounds_toArray, List.set_cons_zero, List.set_cons_succ])
        first | (refine mix_read (o := { dst := some 80, op := Op.move (Operand.tmp 13), type := 4, pos := "law.go:84", after := #[{ on := 8, ground := Ground.guard }], guard := some (8, true) }) rfl (by first | rfl | (simp [Region.wanted, yielded]; done)) (by intro w_ hE_; (try dsimp only at hE_); first | (go_simp; done) | (go_simp; rfl)) ?_) | (refine mix_skip (o := { dst := some 80, op := Op.move (Operand.tmp 13), type := 4, pos := "law.go:84", after := #[{ on := 8, ground := Ground.guard }], guard := some (8, true) }) rfl (by first | rfl | (simp [Region.wanted, yielded]; done)) ?_)
        (try simp only [Act.put, List.setIfInBounds_toArray, List.set_cons_zero, List.set_cons_succ])
        first | (refine mix_read (o := { dst := some 81, op := Op.move (Operand.tmp 16), type := 4, pos := "law.go:84", after := #[{ on := 8, ground := Ground.guard }], guard := some (8, true) }) rfl (by first | rfl | (simp [Region.wanted, yielded]; done)) (by intro w_ hE_; (try dsimp only at hE_); first | (go_simp; done) | (go_simp; rfl)) ?_) | (refine mix_skip (o := { dst := some 81, op := Op.move (Operand.tmp 16), type := 4, pos := "law.go:84", after := #[{ on := 8, ground := Ground.guard }], guard := some (8, true) }) rfl (by first | rfl | (simp [Region.wanted, yielded]; done)) ?_)
        (try simp only [Act.put, List.setIfInBounds_toArray, List.set_cons_zero, List.set_cons_succ])
        first | (refine mix_read (o := { dst := some 82, op := Op.binOp BinOp.eql 4 (Operand.tmp 80) (Operand.tmp 81) 4, type := 4, pos := "law.go:84", after := #[{ on := 9, ground := Ground.data }, { on := 10, ground := Ground.data }, { on := 8, ground := Ground.guard }], guard := some (8, true) }) rfl (by first | rfl | (simp [Region.wanted, yielded]; done)) (by intro w_ hE_; (try dsimp only at hE_); first | (go_simp; done) | (go_simp; rfl)) ?_) | (refine mix_skip (o := { dst := some 82, op := Op.binOp BinOp.eql 4 (Operand.tmp 80) (Operand.tmp 81) 4, type := 4, pos := "law.go:84", after := #[{ on := 9, ground := Ground.data }, { on := 10, ground := Ground.data }, { on := 8, ground := Ground.guard }], guard := some (8, true) }) rfl (by first | rfl | (simp [Region.wanted, yielded]; done)) ?_)
        (try simp only [Act.put, List.setIfInBounds_toArray, List.set_cons_zero, List.set_cons_succ])
        (refine mix_read (o := { dst := some 83, op := Op.pick (Operand.tmp 79) (Operand.tmp 82) (Operand.const (Value.bool false)), type := 4, pos := "law.go:84", after := #[{ on := 8, ground := Ground.data }, { on := 11, ground := Ground.data }], guard := none }) rfl (by first | rfl | (simp [Region.wanted, yielded]; done)) (by intro w_ hE_; (try dsimp only at hE_); first | (go_simp; done) | (go_simp; rfl)) ?_)
        (try simp only [Act.put, List.setIfInBounds_toArray, List.set_cons_zero, List.set_cons_succ])
        (refine mix_read (o := { dst := some 84, op := Op.move (Operand.tmp 83), type := 4, pos := "law.go:84", after := #[{ on := 12, ground := Ground.data }, { on := 8, ground := Ground.chain }], guard := none }) rfl (by first | rfl | (simp [Region.wanted, yielded]; done)) (by intro w_ hE_; (try dsimp only at hE_); first | (go_simp; done) | (go_simp; rfl)) ?_)
        (try simp only [Act.put, List.setIfInBounds_toArray, List.set_cons_zero, List.set_cons_succ])
        first | (refine mix_read (o := { dst := some 85, op := Op.move (Operand.tmp 18), type := 4, pos := "law.go:84", after := #[{ on := 13, ground := Ground.guard }], guard := some (13, true) }) rfl (by first | rfl | (simp [Region.wanted, yielded]; done)) (by intro w_ hE_; (try dsimp only at hE_); first | (go_simp; done) | (go_simp; rfl)) ?_) | (refine mix_skip (o := { dst := some 85, op := Op.move (Operand.tmp 18), type := 4, pos := "law.go:84", after := #[{ on := 13, ground := Ground.guard }], guard := some (13, true) }) rfl (by first | rfl | (simp [Region.wanted, yielded]; done)) ?_)
        (try simp only [Act.put, List.setIfInBounds_toArray, List.set_cons_zero, List.set_cons_succ])
        first | (refine mix_read (o := { dst := some 86, op := Op.move (Operand.tmp 19), type := 4, pos := "law.go:84", after := #[{ on := 13, ground := Ground.guard }], guard := some (13, true) }) rfl (by first | rfl | (simp [Region.wanted, yielded]; done)) (by intro w_ hE_; (try dsimp only at hE_); first | (go_simp; done) | (go_simp; rfl)) ?_) | (refine mix_skip (o := { dst := some 86, op := Op.move (Operand.tmp 19), type := 4, pos := "law.go:84", after := #[{ on := 13, ground := Ground.guard }], guard := some (13, true) }) rfl (by first | rfl | (simp [Region.wanted, yielded]; done)) ?_)
        (try simp only [Act.put, List.setIfInBounds_toArray, List.set_cons_zero, List.set_cons_succ])
        first | (refine mix_read (o := { dst := some 87, op := Op.binOp BinOp.eql 4 (Operand.tmp 85) (Operand.tmp 86) 4, type := 4, pos := "law.go:84", after := #[{ on := 14, ground := Ground.data }, { on := 15, ground := Ground.data }, { on := 13, ground := Ground.guard }], guard := some (13, true) }) rfl (by first | rfl | (simp [Region.wanted, yielded]; done)) (by intro w_ hE_; (try dsimp only at hE_); first | (go_simp; done) | (go_simp; rfl)) ?_) | (refine mix_skip (o := { dst := some 87, op := Op.binOp BinOp.eql 4 (Operand.tmp 85) (Operand.tmp 86) 4, type := 4, pos := "law.go:84", after := #[{ on := 14, ground := Ground.data }, { on := 15, ground := Ground.data }, { on := 13, ground := Ground.guard }], guard := some (13, true) }) rfl (by first | rfl | (simp [Region.wanted, yielded]; done)) ?_)
        (try simp only [Act.put, List.setIfInBounds_toArray, List.set_cons_zero, List.set_cons_succ])
        (refine mix_read (o := { dst := some 88, op := Op.pick (Operand.tmp 84) (Operand.tmp 87) (Operand.const (Value.bool false)), type := 4, pos := "law.go:84", after := #[{ on := 13, ground := Ground.data }, { on := 16, ground := Ground.data }], guard := none }) rfl (by first | rfl | (simp [Region.wanted, yielded]; done)) (by intro w_ hE_; (try dsimp only at hE_); first | (go_simp; done) | (go_simp; rfl)) ?_)
        (try simp only [Act.put, List.setIfInBounds_toArray, List.set_cons_zero, List.set_cons_succ])
        (refine mix_read (o := { dst := some 89, op := Op.move (Operand.tmp 88), type := 4, pos := "law.go:84", after := #[{ on := 17, ground := Ground.data }, { on := 13, ground := Ground.chain }], guard := none }) rfl (by first | rfl | (simp [Region.wanted, yielded]; done)) (by intro w_ hE_; (try dsimp only at hE_); first | (go_simp; done) | (go_simp; rfl)) ?_)
        (try simp only [Act.put, List.setIfInBounds_toArray, List.set_cons_zero, List.set_cons_succ])
        first | (refine mix_read (o := { dst := some 90, op := Op.move (Operand.tmp 19), type := 4, pos := "law.go:84", after := #[{ on := 18, ground := Ground.guard }], guard := some (18, true) }) rfl (by first | rfl | (simp [Region.wanted, yielded]; done)) (by intro w_ hE_; (try dsimp only at hE_); first | (go_simp; done) | (go_simp; rfl)) ?_) | (refine mix_skip (o := { dst := some 90, op := Op.move (Operand.tmp 19), type := 4, pos := "law.go:84", after := #[{ on := 18, ground := Ground.guard }], guard := some (18, true) }) rfl (by first | rfl | (simp [Region.wanted, yielded]; done)) ?_)
        (try simp only [Act.put, List.setIfInBounds_toArray, List.set_cons_zero, List.set_cons_succ])
        first | (refine mix_read (o := { dst := some 91, op := Op.unOp UnOp.not 4 (Operand.tmp 90), type := 4, pos := "law.go:84", after := #[{ on := 19, ground := Ground.data }, { on := 18, ground := Ground.guard }], guard := some (18, true) }) rfl (by first | rfl | (simp [Region.wanted, yielded]; done)) (by intro w_ hE_; (try dsimp only at hE_); first | (go_simp; done) | (go_simp; rfl)) ?_) | (refine mix_skip (o := { dst := some 91, op := Op.unOp UnOp.not 4 (Operand.tmp 90), type := 4, pos := "law.go:84", after := #[{ on := 19, ground := Ground.data }, { on := 18, ground := Ground.guard }], guard := some (18, true) }) rfl (by first | rfl | (simp [Region.wanted, yielded]; done)) ?_)
        (try simp only [Act.put, List.setIfInBounds_toArray, List.set_cons_zero, List.set_cons_succ])
        first | (refine mix_read (o := { dst := some 92, op := Op.move (Operand.tmp 91), type := 4, pos := "law.go:84", after := #[{ on := 20, ground := Ground.data }, { on := 18, ground := Ground.chain }, { on := 18, ground := Ground.guard }], guard := some (18, true) }) rfl (by first | rfl | (simp [Region.wanted, yielded]; done)) (by intro w_ hE_; (try dsimp only at hE_); first | (go_simp; done) | (go_simp; rfl)) ?_) | (refine mix_skip (o := { dst := some 92, op := Op.move (Operand.tmp 91), type := 4, pos := "law.go:84", after := #[{ on := 20, ground := Ground.data }, { on := 18, ground := Ground.chain }, { on := 18, ground := Ground.guard }], guard := some (18, true) }) rfl (by first | rfl | (simp [Region.wanted, yielded]; done)) ?_)
        (try simp only [Act.put, List.setIfInBounds_toArray, List.set_cons_zero, List.set_cons_succ])
        first | (refine mix_read (o := { dst := some 93, op := Op.move (Operand.tmp 17), type := 22, pos := "law.go:84", after := #[{ on := 21, ground := Ground.guard }], guard := some (21, false) }) rfl (by first | rfl | (simp [Region.wanted, yielded]; done)) (by intro w_ hE_; (try dsimp only at hE_); first | (go_simp; done) | (go_simp; rfl)) ?_) | (refine mix_skip (o := { dst := some 93, op := Op.move (Operand.tmp 17), type := 22, pos := "law.go:84", after := #[{ on := 21, ground := Ground.guard }], guard := some (21, false) }) rfl (by first | rfl | (simp [Region.wanted, yielded]; done)) ?_)
        (try simp only [Act.put, List.setIfInBounds_toArray, List.set_cons_zero, List.set_cons_succ])
        first | (refine mix_read (o := { dst := some 94, op := Op.convert 22 9 (Operand.tmp 93), type := 9, pos := "law.go:84", after := #[{ on := 22, ground := Ground.data }, { on := 21, ground := Ground.guard }], guard := some (21, false) }) rfl (by first | rfl | (simp [Region.wanted, yielded]; done)) (by intro w_ hE_; (try dsimp only at hE_); first | (go_simp; done) | (go_simp; rfl)) ?_) | (refine mix_skip (o := { dst := some 94, op := Op.convert 22 9 (Operand.tmp 93), type := 9, pos := "law.go:84", after := #[{ on := 22, ground := Ground.data }, { on := 21, ground := Ground.guard }], guard := some (21, false) }) rfl (by first | rfl | (simp [Region.wanted, yielded]; done)) ?_)
        (try simp only [Act.put, List.setIfInBounds_toArray, List.set_cons_zero, List.set_cons_succ])
        first | (refine mix_read (o := { dst := some 95, op := Op.move (Operand.tmp 14), type := 32, pos := "law.go:84", after := #[{ on := 21, ground := Ground.guard }], guard := some (21, false) }) rfl (by first | rfl | (simp [Region.wanted, yielded]; done)) (by intro w_ hE_; (try dsimp only at hE_); first | (go_simp; done) | (go_simp; rfl)) ?_) | (refine mix_skip (o := { dst := some 95, op := Op.move (Operand.tmp 14), type := 32, pos := "law.go:84", after := #[{ on := 21, ground := Ground.guard }], guard := some (21, false) }) rfl (by first | rfl | (simp [Region.wanted, yielded]; done)) ?_)
        (try simp only [Act.put, List.setIfInBounds_toArray, List.set_cons_zero, List.set_cons_succ])
        first | (refine mix_read (o := { dst := some 96, op := Op.indexAddr 32 (Operand.tmp 95) (Operand.const (Value.int IntKind.i64 0)), type := 0, pos := "law.go:84", after := #[{ on := 24, ground := Ground.data }, { on := 21, ground := Ground.guard }], guard := some (21, false) }) rfl (by first | rfl | (simp [Region.wanted, yielded]; done)) (by intro w_ hE_; (try dsimp only at hE_); first | (go_simp; done) | (go_simp; rfl)) ?_) | (refine mix_skip (o := { dst := some 96, op := Op.indexAddr 32 (Operand.tmp 95) (Operand.const (Value.int IntKind.i64 0)), type := 0, pos := "law.go:84", after := #[{ on := 24, ground := Ground.data }, { on := 21, ground := Ground.guard }], guard := some (21, false) }) rfl (by first | rfl | (simp [Region.wanted, yielded]; done)) ?_)
        (try simp only [Act.put, List.setIfInBounds_toArray, List.set_cons_zero, List.set_cons_succ])
        first | (refine mix_read (o := { dst := some 97, op := Op.load 22 (Operand.tmp 96), type := 22, pos := "law.go:84", after := #[{ on := 25, ground := Ground.data }, { on := 21, ground := Ground.guard }], guard := some (21, false) }) rfl (by first | rfl | (simp [Region.wanted, yielded]; done)) (by intro w_ hE_; (try dsimp only at hE_); first | (go_simp; done) | (go_simp; rfl)) ?_) | (refine mix_skip (o := { dst := some 97, op := Op.load 22 (Operand.tmp 96), type := 22, pos := "law.go:84", after := #[{ on := 25, ground := Ground.data }, { on := 21, ground := Ground.guard }], guard := some (21, false) }) rfl (by first | rfl | (simp [Region.wanted, yielded]; done)) ?_)
        (try simp only [Act.put, List.setIfInBounds_toArray, List.set_cons_zero, List.set_cons_succ])
        first | (refine mix_read (o := { dst := some 98, op := Op.convert 22 9 (Operand.tmp 97), type := 9, pos := "law.go:84", after := #[{ on := 26, ground := Ground.data }, { on := 21, ground := Ground.guard }], guard := some (21, false) }) rfl (by first | rfl | (simp [Region.wanted, yielded]; done)) (by intro w_ hE_; (try dsimp only at hE_); first | (go_simp; done) | (go_simp; rfl)) ?_) | (refine mix_skip (o := { dst := some 98, op := Op.convert 22 9 (Operand.tmp 97), type := 9, pos := "law.go:84", after := #[{ on := 26, ground := Ground.data }, { on := 21, ground := Ground.guard }], guard := some (21, false) }) rfl (by first | rfl | (simp [Region.wanted, yielded]; done)) ?_)
        (try simp only [Act.put, List.setIfInBounds_toArray, List.set_cons_zero, List.set_cons_succ])
        first | (refine mix_read (o := { dst := some 99, op := Op.binOp BinOp.eql 9 (Operand.tmp 94) (Operand.tmp 98) 9, type := 4, pos := "law.go:84", after := #[{ on := 23, ground := Ground.data }, { on := 27, ground := Ground.data }, { on := 21, ground := Ground.guard }], guard := some (21, false) }) rfl (by first | rfl | (simp [Region.wanted, yielded]; done)) (by intro w_ hE_; (try dsimp only at hE_); first | (go_simp; done) | (go_simp; rfl)) ?_) | (refine mix_skip (o := { dst := some 99, op := Op.binOp BinOp.eql 9 (Operand.tmp 94) (Operand.tmp 98) 9, type := 4, pos := "law.go:84", after := #[{ on := 23, ground := Ground.data }, { on := 27, ground := Ground.data }, { on := 21, ground := Ground.guard }], guard := some (21, false) }) rfl (by first | rfl | (simp [Region.wanted, yielded]; done)) ?_)
        (try simp only [Act.put, List.setIfInBounds_toArray, List.set_cons_zero, List.set_cons_succ])
        first | (refine mix_read (o := { dst := some 100, op := Op.pick (Operand.tmp 92) (Operand.const (Value.bool true)) (Operand.tmp 99), type := 4, pos := "law.go:84", after := #[{ on := 21, ground := Ground.data }, { on := 28, ground := Ground.data }, { on := 18, ground := Ground.guard }], guard := some (18, true) }) rfl (by first | rfl | (simp [Region.wanted, yielded]; done)) (by intro w_ hE_; (try dsimp only at hE_); first | (go_simp; done) | (go_simp; rfl)) ?_) | (refine mix_skip (o := { dst := some 100, op := Op.pick (Operand.tmp 92) (Operand.const (Value.bool true)) (Operand.tmp 99), type := 4, pos := "law.go:84", after := #[{ on := 21, ground := Ground.data }, { on := 28, ground := Ground.data }, { on := 18, ground := Ground.guard }], guard := some (18, true) }) rfl (by first | rfl | (simp [Region.wanted, yielded]; done)) ?_)
        (try simp only [Act.put, List.setIfInBounds_toArray, List.set_cons_zero, List.set_cons_succ])
        (refine mix_read (o := { dst := some 101, op := Op.pick (Operand.tmp 89) (Operand.tmp 100) (Operand.const (Value.bool false)), type := 4, pos := "law.go:84", after := #[{ on := 18, ground := Ground.data }, { on := 29, ground := Ground.data }], guard := none }) rfl (by first | rfl | (simp [Region.wanted, yielded]; done)) (by intro w_ hE_; (try dsimp only at hE_); first | (go_simp; done) | (go_simp; rfl)) ?_)
        (try simp only [Act.put, List.setIfInBounds_toArray, List.set_cons_zero, List.set_cons_succ])
        (refine mix_read (o := { dst := some 8, op := Op.assign (Operand.tmp 101), type := 4, pos := "law.go:84", after := #[{ on := 30, ground := Ground.data }, { on := 21, ground := Ground.chain }, { on := 0, ground := Ground.phase }, { on := 1, ground := Ground.phase }, { on := 2, ground := Ground.phase }, { on := 3, ground := Ground.phase }, { on := 4, ground := Ground.phase }, { on := 5, ground := Ground.phase }, { on := 6, ground := Ground.phase }, { on := 7, ground := Ground.phase }, { on := 8, ground := Ground.phase }, { on := 9, ground := Ground.phase }, { on := 10, ground := Ground.phase }, { on := 11, ground := Ground.phase }, { on := 12, ground := Ground.phase }, { on := 13, ground := Ground.phase }, { on := 14, ground := Ground.phase }, { on := 15, ground := Ground.phase }, { on := 16, ground := Ground.phase }, { on := 17, ground := Ground.phase }, { on := 18, ground := Ground.phase }, { on := 19, ground := Ground.phase }, { on := 20, ground := Ground.phase }, { on := 21, ground := Ground.phase }, { on := 22, ground := Ground.phase }, { on := 23, ground := Ground.phase }, { on := 24, ground := Ground.phase }, { on := 25, ground := Ground.phase }, { on := 26, ground := Ground.phase }, { on := 27, ground := Ground.phase }, { on := 28, ground := Ground.phase }, { on := 29, ground := Ground.phase }, { on := 30, ground := Ground.phase }], guard := none }) rfl (by first | rfl | (simp [Region.wanted, yielded]; done)) (by intro w_ hE_; (try dsimp only at hE_); first | (go_simp; done) | (go_simp; rfl)) ?_)
        (try simp only [Act.put, List.setIfInBounds_toArray, List.set_cons_zero, List.set_cons_succ])
        refine mix_nil ?_
        go_wp2_with fail
        go_ret
        exact ⟨by simp, HZ1.out⟩
      · have k2 : ((Nn : Int) == (bx.length : Int)) = false := beq_eq_false_iff_ne.2 (by omega)
        have hoo := HWL.out.2 (fun h => hw2 h.2)
        subst hoo
        clear hw1 hw2
        go_wp2_with fail
        refine wp_region_mix (fun w_ w1_ => Below w_.heap.size w_ w1_) [(false, 0), (false, 1), (true, 2), (false, 3), (false, 4), (false, 5), (false, 6), (false, 7), (false, 8), (false, 9), (false, 10), (false, 11), (false, 12), (false, 13), (false, 14), (false, 15), (false, 16), (false, 17), (false, 18), (false, 19), (false, 20), (false, 21), (false, 22), (false, 23), (false, 24), (false, 25), (false, 26), (false, 27), (false, 28), (false, 29), (false, 30), (false, 31)] (by kernel_rfl) (by kernel_rfl) (fun _ => Below.refl _ _) (fun h h' => below_step h h') (fun wd hhp_ hbw_ => ?_)
        have HZw := Aside0.mk hbw_
        have HZ0 := Aside0.mk (below_step HB8.out hbw_)
        clear hhp_ hbw_
        (refine mix_read (o := { dst := some 71, op := Op.move (Operand.tmp 11), type := 32, pos := "law.go:84", after := #[], guard := none }) rfl (by first | rfl | (simp [Region.wanted, yielded]; done)) (by intro w_ hE_; (try dsimp only at hE_); first | (go_simp; done) | (go_simp; rfl)) ?_)
        (try simp only [Act.put, List.setIfInBounds_toArray, List.set_cons_zero, List.set_cons_succ])
        (refine mix_read (o := { dst := some 72, op := Op.move (Operand.tmp 14), type := 32, pos := "law.go:84", after := #[], guard := none }) rfl (by first | rfl | (simp [Region.wanted, yielded]; done)) (by intro w_ hE_; (try dsimp only at hE_); first | (go_simp; done) | (go_simp; rfl)) ?_)
        (try simp only [Act.put, List.setIfInBounds_toArray, List.set_cons_zero, List.set_cons_succ])
        refine mix_call (o := { dst := some 73, op := Op.call { callee := Callee.value (Operand.func 29), args := #[Operand.tmp 71, Operand.tmp 72], argTypes := #[32, 32] }, type := 4, pos := "law.go:84", after := #[{ on := 0, ground := Ground.data }, { on := 1, ground := Ground.data }], guard := none }) rfl (by first | rfl | (simp [Region.wanted, yielded]; done)) (by first | (go_simp; done) | (go_simp; exact ⟨rfl, rfl⟩) | (go_simp; rfl)) ?_
        refine (HSA.out _ (Kd.C_below HV68.out HZw.out) (Kd.C_below HV78.out HZw.out)).mono ?_
        rintro e_ x1 ⟨rfl, hb⟩
        have HZ1 := Aside0.mk (below_step HZ0.out hb)
        refine ⟨_, rfl, hb, ?_⟩
        clear hb
        (try simp only [Act.put, List.setIfInBounds_toArray, List.set_cons_zero, List.set_cons_succ])
        (refine mix_read (o := { dst := some 74, op := Op.move (Operand.tmp 73), type := 4, pos := "law.go:84", after := #[{ on := 2, ground := Ground.data }, { on := 2, ground := Ground.chain }], guard := none }) rfl (by first | rfl | (simp [Region.wanted, yielded]; done)) (by intro w_ hE_; (try dsimp only at hE_); first | (go_simp; done) | (go_simp; rfl)) ?_)
        (try simp only [Act.put, List.setIfInBounds_toArray, List.set_cons_zero, List.set_cons_succ])
        first | (refine mix_read (o := { dst := some 75, op := Op.move (Operand.tmp 12), type := 3, pos := "law.go:84", after := #[{ on := 3, ground := Ground.guard }], guard := some (3, true) }) rfl (by first | rfl | (simp [Region.wanted, yielded]; done)) (by intro w_ hE_; (try dsimp only at hE_); first | (go_simp; done) | (go_simp; rfl)) ?_) | (refine mix_skip (o := { dst := some 75, op := Op.move (Operand.tmp 12), type := 3, pos := "law.go:84", after := #[{ on := 3, ground := Ground.guard }], guard := some (3, true) }) rfl (by first | rfl | (simp [Region.wanted, yielded]; done)) ?_)
        (try simp only [Act.put, List.setIfInBounds_toArray, List.set_cons_zero, List.set_cons_succ])
        first | (refine mix_read (o := { dst := some 76, op := Op.move (Operand.tmp 15), type := 3, pos := "law.go:84", after := #[{ on := 3, ground := Ground.guard }], guard := some (3, true) }) rfl (by first | rfl | (simp [Region.wanted, yielded]; done)) (by intro w_ hE_; (try dsimp only at hE_); first | (go_simp; done) | (go_simp; rfl)) ?_) | (refine mix_skip (o := { dst := some 76, op := Op.move (Operand.tmp 15), type := 3, pos := "law.go:84", after := #[{ on := 3, ground := Ground.guard }], guard := some (3, true) }) rfl (by first | rfl | (simp [Region.wanted, yielded]; done)) ?_)
        (try simp only [Act.put, List.setIfInBounds_toArray, List.set_cons_zero, List.set_cons_succ])
        first | (refine mix_read (o := { dst := some 77, op := Op.binOp BinOp.eql 3 (Operand.tmp 75) (Operand.tmp 76) 3, type := 4, pos := "law.go:84", after := #[{ on := 4, ground := Ground.data }, { on := 5, ground := Ground.data }, { on := 3, ground := Ground.guard }], guard := some (3, true) }) rfl (by first | rfl | (simp [Region.wanted, yielded]; done)) (by intro w_ hE_; (try dsimp only at hE_); first | (go_simp; done) | (go_simp; rfl)) ?_) | (refine mix_skip (o := { dst := some 77, op := Op.binOp BinOp.eql 3 (Operand.tmp 75) (Operand.tmp 76) 3, type := 4, pos := "law.go:84", after := #[{ on := 4, ground := Ground.data }, { on := 5, ground := Ground.data }, { on := 3, ground := Ground.guard }], guard := some (3, true) }) rfl (by first | rfl | (simp [Region.wanted, yielded]; done)) ?_)
        (try simp only [Act.put, List.setIfInBounds_toArray, List.set_cons_zero, List.set_cons_succ])
        (refine mix_read (o := { dst := some 78, op := Op.pick (Operand.tmp 74) (Operand.tmp 77) (Operand.const (Value.bool false)), type := 4, pos := "law.go:84", after := #[{ on := 3, ground := Ground.data }, { on := 6, ground := Ground.data }], guard := none }) rfl (by first | rfl | (simp [Region.wanted, yielded]; done)) (by intro w_ hE_; (try dsimp only at hE_); first | (go_simp; done) | (go_simp; rfl)) ?_)
        (try simp only [Act.put, List.setIfInBounds_toArray, List.set_cons_zero, List.set_cons_succ])
        (refine mix_read (o := { dst := some 79, op := Op.move (Operand.tmp 78), type := 4, pos := "law.go:84", after := #[{ on := 7, ground := Ground.data }, { on := 3, ground := Ground.chain }], guard := none }) rfl (by first | rfl | (simp [Region.wanted, yielded]; done)) (by intro w_ hE_; (try dsimp only at hE_); first | (go_simp; done) | (go_simp; rfl)) ?_)
        (try simp only [Act.put, List.setIfInBounds_toArray, List.set_cons_zero, List.set_cons_succ])
        first | (refine mix_read (o := { dst := some 80, op := Op.move (Operand.tmp 13), type := 4, pos := "law.go:84", after := #[{ on := 8, ground := Ground.guard }], guard := some (8, true) }) rfl (by first | rfl | (simp [Region.wanted, yielded]; done)) (by intro w_ hE_; (try dsimp only at hE_); first | (go_simp; done) | (go_simp; rfl)) ?_) | (refine mix_skip (o := { dst := some 80, op := Op.move (Operand.tmp 13), type := 4, pos := "law.go:84", after := #[{ on := 8, ground := Ground.guard }], guard := some (8, true) }) rfl (by first | rfl | (simp [Region.wanted, yielded]; done)) ?_)
        (try simp only [Act.put, List.setIfInBounds_toArray, List.set_cons_zero, List.set_cons_succ])
        first | (refine mix_read (o := { dst := some 81, op := Op.move (Operand.tmp 16), type := 4, pos := "law.go:84", after := #[{ on := 8, ground := Ground.guard }], guard := some (8, true) }) rfl (by first | rfl | (simp [Region.wanted, yielded]; done)) (by intro w_ hE_; (try dsimp only at hE_); first | (go_simp; done) | (go_simp; rfl)) ?_) | (refine mix_skip (o := { dst := some 81, op := Op.move (Operand.tmp 16), type := 4, pos := "law.go:84", after := #[{ on := 8, ground := Ground.guard }], guard := some (8, true) }) rfl (by first | rfl | (simp [Region.wanted, yielded]; done)) ?_)
        (try simp only [Act.put, List.setIfInBounds_toArray, List.set_cons_zero, List.set_cons_succ])
        first | (refine mix_read (o := { dst := some 82, op := Op.binOp BinOp.eql 4 (Operand.tmp 80) (Operand.tmp 81) 4, type := 4, pos := "law.go:84", after := #[{ on := 9, ground := Ground.data }, { on := 10, ground := Ground.data }, { on := 8, ground := Ground.guard }], guard := some (8, true) }) rfl (by first | rfl | (simp [Region.wanted, yielded]; done)) (by intro w_ hE_; (try dsimp only at hE_); first | (go_simp; done) | (go_simp; rfl)) ?_) | (refine mix_skip (o := { dst := some 82, op := Op.binOp BinOp.eql 4 (Operand.tmp 80) (Operand.tmp 81) 4, type := 4, pos := "law.go:84", after := #[{ on := 9, ground := Ground.data }, { on := 10, ground := Ground.data }, { on := 8, ground := Ground.guard }], guard := some (8, true) }) rfl (by first | rfl | (simp [Region.wanted, yielded]; done)) ?_)
        (try simp only [Act.put, List.setIfInBounds_toArray, List.set_cons_zero, List.set_cons_succ])
        (refine mix_read (o := { dst := some 83, op := Op.pick (Operand.tmp 79) (Operand.tmp 82) (Operand.const (Value.bool false)), type := 4, pos := "law.go:84", after := #[{ on := 8, ground := Ground.data }, { on := 11, ground := Ground.data }], guard := none }) rfl (by first | rfl | (simp [Region.wanted, yielded]; done)) (by intro w_ hE_; (try dsimp only at hE_); first | (go_simp; done) | (go_simp; rfl)) ?_)
        (try simp only [Act.put, List.setIfInBounds_toArray, List.set_cons_zero, List.set_cons_succ])
        (refine mix_read (o := { dst := some 84, op := Op.move (Operand.tmp 83), type := 4, pos := "law.go:84", after := #[{ on := 12, ground := Ground.data }, { on := 8, ground := Ground.chain }], guard := none }) rfl (by first | rfl | (simp [Region.wanted, yielded]; done)) (by intro w_ hE_; (try dsimp only at hE_); first | (go_simp; done) | (go_simp; rfl)) ?_)
        (try simp only [Act.put, List.setIfInBounds_toArray, List.set_cons_zero, List.set_cons_succ])
        first | (refine mix_read (o := { dst := some 85, op := Op.move (Operand.tmp 18), type := 4, pos := "law.go:84", after := #[{ on := 13, ground := Ground.guard }], guard := some (13, true) }) rfl (by first | rfl | (simp [Region.wanted, yielded]; done)) (by intro w_ hE_; (try dsimp only at hE_); first | (go_simp; done) | (go_simp; rfl)) ?_) | (refine mix_skip (o := { dst := some 85, op := Op.move (Operand.tmp 18), type := 4, pos := "law.go:84", after := #[{ on := 13, ground := Ground.guard }], guard := some (13, true) }) rfl (by first | rfl | (simp [Region.wanted, yielded]; done)) ?_)
        (try simp only [Act.put, List.setIfInBounds_toArray, List.set_cons_zero, List.set_cons_succ])
        first | (refine mix_read (o := { dst := some 86, op := Op.move (Operand.tmp 19), type := 4, pos := "law.go:84", after := #[{ on := 13, ground := Ground.guard }], guard := some (13, true) }) rfl (by first | rfl | (simp [Region.wanted, yielded]; done)) (by intro w_ hE_; (try dsimp only at hE_); first | (go_simp; done) | (go_simp; rfl)) ?_) | (refine mix_skip (o := { dst := some 86, op := Op.move (Operand.tmp 19), type := 4, pos := "law.go:84", after := #[{ on := 13, ground := Ground.guard }], guard := some (13, true) }) rfl (by first | rfl | (simp [Region.wanted, yielded]; done)) ?_)
        (try simp only [Act.put, List.setIfInBounds_toArray, List.set_cons_zero, List.set_cons_succ])
        first | (refine mix_read (o := { dst := some 87, op := Op.binOp BinOp.eql 4 (Operand.tmp 85) (Operand.tmp 86) 4, type := 4, pos := "law.go:84", after := #[{ on := 14, ground := Ground.data }, { on := 15, ground := Ground.data }, { on := 13, ground := Ground.guard }], guard := some (13, true) }) rfl (by first | rfl | (simp [Region.wanted, yielded]; done)) (by intro w_ hE_; (try dsimp only at hE_); first | (go_simp; done) | (go_simp; rfl)) ?_) | (refine mix_skip (o := { dst := some 87, op := Op.binOp BinOp.eql 4 (Operand.tmp 85) (Operand.tmp 86) 4, type := 4, pos := "law.go:84", after := #[{ on := 14, ground := Ground.data }, { on := 15, ground := Ground.data }, { on := 13, ground := Ground.guard }], guard := some (13, true) }) rfl (by first | rfl | (simp [Region.wanted, yielded]; done)) ?_)
        (try simp only [Act.put, List.setIfInBounds_toArray, List.set_cons_zero, List.set_cons_succ])
        (refine mix_read (o := { dst := some 88, op := Op.pick (Operand.tmp 84) (Operand.tmp 87) (Operand.const (Value.bool false)), type := 4, pos := "law.go:84", after := #[{ on := 13, ground := Ground.data }, { on := 16, ground := Ground.data }], guard := none }) rfl (by first | rfl | (simp [Region.wanted, yielded]; done)) (by intro w_ hE_; (try dsimp only at hE_); first | (go_simp; done) | (go_simp; rfl)) ?_)
        (try simp only [Act.put, List.setIfInBounds_toArray, List.set_cons_zero, List.set_cons_succ])
        (refine mix_read (o := { dst := some 89, op := Op.move (Operand.tmp 88), type := 4, pos := "law.go:84", after := #[{ on := 17, ground := Ground.data }, { on := 13, ground := Ground.chain }], guard := none }) rfl (by first | rfl | (simp [Region.wanted, yielded]; done)) (by intro w_ hE_; (try dsimp only at hE_); first | (go_simp; done) | (go_simp; rfl)) ?_)
        (try simp only [Act.put, List.setIfInBounds_toArray, List.set_cons_zero, List.set_cons_succ])
        first | (refine mix_read (o := { dst := some 90, op := Op.move (Operand.tmp 19), type := 4, pos := "law.go:84", after := #[{ on := 18, ground := Ground.guard }], guard := some (18, true) }) rfl (by first | rfl | (simp [Region.wanted, yielded]; done)) (by intro w_ hE_; (try dsimp only at hE_); first | (go_simp; done) | (go_simp; rfl)) ?_) | (refine mix_skip (o := { dst := some 90, op := Op.move (Operand.tmp 19), type := 4, pos := "law.go:84", after := #[{ on := 18, ground := Ground.guard }], guard := some (18, true) }) rfl (by first | rfl | (simp [Region.wanted, yielded]; done)) ?_)
        (try simp only [Act.put, List.setIfInBounds_toArray, List.set_cons_zero, List.set_cons_succ])
        first | (refine mix_read (o := { dst := some 91, op := Op.unOp UnOp.not 4 (Operand.tmp 90), type := 4, pos := "law.go:84", after := #[{ on := 19, ground := Ground.data }, { on := 18, ground := Ground.guard }], guard := some (18, true) }) rfl (by first | rfl | (simp [Region.wanted, yielded]; done)) (by intro w_ hE_; (try dsimp only at hE_); first | (go_simp; done) | (go_simp; rfl)) ?_) | (refine mix_skip (o := { dst := some 91, op := Op.unOp UnOp.not 4 (Operand.tmp 90), type := 4, pos := "law.go:84", after := #[{ on := 19, ground := Ground.data }, { on := 18, ground := Ground.guard }], guard := some (18, true) }) rfl (by first | rfl | (simp [Region.wanted, yielded]; done)) ?_)
        (try simp only [Act.put, List.setIfInBounds_toArray, List.set_cons_zero, List.set_cons_succ])
        first | (refine mix_read (o := { dst := some 92, op := Op.move (Operand.tmp 91), type := 4, pos := "law.go:84", after := #[{ on := 20, ground := Ground.data }, { on := 18, ground := Ground.chain }, { on := 18, ground := Ground.guard }], guard := some (18, true) }) rfl (by first | rfl | (simp [Region.wanted, yielded]; done)) (by intro w_ hE_; (try dsimp only at hE_); first | (go_simp; done) | (go_simp; rfl)) ?_) | (refine mix_skip (o := { dst := some 92, op := Op.move (Operand.tmp 91), type := 4, pos := "law.go:84", after := #[{ on := 20, ground := Ground.data }, { on := 18, ground := Ground.chain }, { on := 18, ground := Ground.guard }], guard := some (18, true) }) rfl (by first | rfl | (simp [Region.wanted, yielded]; done)) ?_)
        (try simp only [Act.put, List.setIfInBounds_toArray, List.set_cons_zero, List.set_cons_succ])
        refine mix_skip (o := { dst := some 93, op := Op.move (Operand.tmp 17), type := 22, pos := "law.go:84", after := #[{ on := 21, ground := Ground.guard }], guard := some (21, false) }) rfl (by first | rfl | (simp [Region.wanted, yielded]; done)) ?_
        (try simp only [Act.put, List.setIfInBounds_toArray, List.set_cons_zero, List.set_cons_succ])
        refine mix_skip (o := { dst := some 94, op := Op.convert 22 9 (Operand.tmp 93), type := 9, pos := "law.go:84", after := #[{ on := 22, ground := Ground.data }, { on := 21, ground := Ground.guard }], guard := some (21, false) }) rfl (by first | rfl | (simp [Region.wanted, yielded]; done)) ?_
        (try simp only [Act.put, List.setIfInBounds_toArray, List.set_cons_zero, List.set_cons_succ])
        refine mix_skip (o := { dst := some 95, op := Op.move (Operand.tmp 14), type := 32, pos := "law.go:84", after := #[{ on := 21, ground := Ground.guard }], guard := some (21, false) }) rfl (by first | rfl | (simp [Region.wanted, yielded]; done)) ?_
        (try simp only [Act.put, List.setIfInBounds_toArray, List.set_cons_zero, List.set_cons_succ])
        refine mix_skip (o := { dst := some 96, op := Op.indexAddr 32 (Operand.tmp 95) (Operand.const (Value.int IntKind.i64 0)), type := 0, pos := "law.go:84", after := #[{ on := 24, ground := Ground.data }, { on := 21, ground := Ground.guard }], guard := some (21, false) }) rfl (by first | rfl | (simp [Region.wanted, yielded]; done)) ?_
        (try simp only [Act.put, List.setIfInBounds_toArray, List.set_cons_zero, List.set_cons_succ])
        refine mix_skip (o := { dst := some 97, op := Op.load 22 (Operand.tmp 96), type := 22, pos := "law.go:84", after := #[{ on := 25, ground := Ground.data }, { on := 21, ground := Ground.guard }], guard := some (21, false) }) rfl (by first | rfl | (simp [Region.wanted, yielded]; done)) ?_
        (try simp only [Act.put, List.setIfInBounds_toArray, List.set_cons_zero, List.set_cons_succ])
        refine mix_skip (o := { dst := some 98, op := Op.convert 22 9 (Operand.tmp 97), type := 9, pos := "law.go:84", after := #[{ on := 26, ground := Ground.data }, { on := 21, ground := Ground.guard }], guard := some (21, false) }) rfl (by first | rfl | (simp [Region.wanted, yielded]; done)) ?_
        (try simp only [Act.put, List.setIfInBounds_toArray, List.set_cons_zero, List.set_cons_succ])
        refine mix_skip (o := { dst := some 99, op := Op.binOp BinOp.eql 9 (Operand.tmp 94) (Operand.tmp 98) 9, type := 4, pos := "law.go:84", after := #[{ on := 23, ground := Ground.data }, { on := 27, ground := Ground.data }, { on := 21, ground := Ground.guard }], guard := some (21, false) }) rfl (by first | rfl | (simp [Region.wanted, yielded]; done)) ?_
        (try simp only [Act.put, List.setIfInBounds_toArray, List.set_cons_zero, List.set_cons_succ])
        first | (refine mix_read (o := { dst := some 100, op := Op.pick (Operand.tmp 92) (Operand.const (Value.bool true)) (Operand.tmp 99), type := 4, pos := "law.go:84", after := #[{ on := 21, ground := Ground.data }, { on := 28, ground := Ground.data }, { on := 18, ground := Ground.guard }], guard := some (18, true) }) rfl (by first | rfl | (simp [Region.wanted, yielded]; done)) (by intro w_ hE_; (try dsimp only at hE_); first | (go_simp; done) | (go_simp; rfl)) ?_) | (refine mix_skip (o := { dst := some 100, op := Op.pick (Operand.tmp 92) (Operand.const (Value.bool true)) (Operand.tmp 99), type := 4, pos := "law.go:84", after := #[{ on := 21, ground := Ground.data }, { on := 28, ground := Ground.data }, { on := 18, ground := Ground.guard }], guard := some (18, true) }) rfl (by first | rfl | (simp [Region.wanted, yielded]; done)) ?_)
        (try simp only [Act.put, List.setIfInBounds_toArray, List.set_cons_zero, List.set_cons_succ])
        (refine mix_read (o := { dst := some 101, op := Op.pick (Operand.tmp 89) (Operand.tmp 100) (Operand.const (Value.bool false)), type := 4, pos := "law.go:84", after := #[{ on := 18, ground := Ground.data }, { on := 29, ground := Ground.data }], guard := none }) rfl (by first | rfl | (simp [Region.wanted, yielded]; done)) (by intro w_ hE_; (try dsimp only at hE_); first | (go_simp; done) | (go_simp; rfl)) ?_)
        (try simp only [Act.put, List.setIfInBounds_toArray, List.set_cons_zero, List.set_cons_succ])
        (refine mix_read (o := { dst := some 8, op := Op.assign (Operand.tmp 101), type := 4, pos := "law.go:84", after := #[{ on := 30, ground := Ground.data }, { on := 21, ground := Ground.chain }, { on := 0, ground := Ground.phase }, { on := 1, ground := Ground.phase }, { on := 2, ground := Ground.phase }, { on := 3, ground := Ground.phase }, { on := 4, ground := Ground.phase }, { on := 5, ground := Ground.phase }, { on := 6, ground := Ground.phase }, { on := 7, ground := Ground.phase }, { on := 8, ground := Ground.phase }, { on := 9, ground := Ground.phase }, { on := 10, ground := Ground.phase }, { on := 11, ground := Ground.phase }, { on := 12, ground := Ground.phase }, { on := 13, ground := Ground.phase }, { on := 14, ground := Ground.phase }, { on := 15, ground := Ground.phase }, { on := 16, ground := Ground.phase }, { on := 17, ground := Ground.phase }, { on := 18, ground := Ground.phase }, { on := 19, ground := Ground.phase }, { on := 20, ground := Ground.phase }, { on := 21, ground := Ground.phase }, { on := 22, ground := Ground.phase }, { on := 23, ground := Ground.phase }, { on := 24, ground := Ground.phase }, { on := 25, ground := Ground.phase }, { on := 26, ground := Ground.phase }, { on := 27, ground := Ground.phase }, { on := 28, ground := Ground.phase }, { on := 29, ground := Ground.phase }, { on := 30, ground := Ground.phase }], guard := none }) rfl (by first | rfl | (simp [Region.wanted, yielded]; done)) (by intro w_ hE_; (try dsimp only at hE_); first | (go_simp; done) | (go_simp; rfl)) ?_)
        (try simp only [Act.put, List.setIfInBounds_toArray, List.set_cons_zero, List.set_cons_succ])
        refine mix_nil ?_
        go_wp2_with fail
        go_ret
        exact ⟨by simp, HZ1.out⟩
    · have k1 : ((Ls.length : Int) == 1) = false := beq_eq_false_iff_ne.2 (by omega)
      have hoo := HWL.out.2 (fun h => hw1 h.1)
      subst hoo
      clear hw1
      go_wp2_with fail
      refine wp_region_mix (fun w_ w1_ => Below w_.heap.size w_ w1_) [(false, 0), (false, 1), (true, 2), (false, 3), (false, 4), (false, 5), (false, 6), (false, 7), (false, 8), (false, 9), (false, 10), (false, 11), (false, 12), (false, 13), (false, 14), (false, 15), (false, 16), (false, 17), (false, 18), (false, 19), (false, 20), (false, 21), (false, 22), (false, 23), (false, 24), (false, 25), (false, 26), (false, 27), (false, 28), (false, 29), (false, 30), (false, 31)] (by kernel_rfl) (by kernel_rfl) (fun _ => Below.refl _ _) (fun h h' => below_step h h') (fun wd hhp_ hbw_ => ?_)
      have HZw := Aside0.mk hbw_
      have HZ0 := Aside0.mk (below_step HB8.out hbw_)
      clear hhp_ hbw_
      (refine mix_read (o := { dst := some 71, op := Op.move (Operand.tmp 11), type := 32, pos := "law.go:84", after := #[], guard := none }) rfl (by first | rfl | (simp [Region.wanted, yielded]; done)) (by intro w_ hE_; (try dsimp only at hE_); first | (go_simp; done) | (go_simp; rfl)) ?_)
      (try simp only [Act.put, List.setIfInBounds_toArray, List.set_cons_zero, List.set_cons_succ])
      (refine mix_read (o := { dst := some 72, op := Op.move (Operand.tmp 14), type := 32, pos := "law.go:84", after := #[], guard := none }) rfl (by first | rfl | (simp [Region.wanted, yielded]; done)) (by intro w_ hE_; (try dsimp only at hE_); first | (go_simp; done) | (go_simp; rfl)) ?_)
      (try simp only [Act.put, List.setIfInBounds_toArray, List.set_cons_zero, List.set_cons_succ])
      refine mix_call (o := { dst := some 73, op := Op.call { callee := Callee.value (Operand.func 29), args := #[Operand.tmp 71, Operand.tmp 72], argTypes := #[32, 32] }, type := 4, pos := "law.go:84", after := #[{ on := 0, ground := Ground.data }, { on := 1, ground := Ground.data }], guard := none }) rfl (by first | rfl | (simp [Region.wanted, yielded]; done)) (by first | (go_simp; done) | (go_simp; exact ⟨rfl, rfl⟩) | (go_simp; rfl)) ?_
      refine (HSA.out _ (Kd.C_below HV68.out HZw.out) (Kd.C_below HV78.out HZw.out)).mono ?_
      rintro e_ x1 ⟨rfl, hb⟩
      have HZ1 := Aside0.mk (below_step HZ0.out hb)
      refine ⟨_, rfl, hb, ?_⟩
      clear hb
      (try simp only [Act.put, List.setIfInBounds_toArray, List.set_cons_zero, List.set_cons_succ])
      (refine mix_read (o := { dst := some 74, op := Op.move (Operand.tmp 73), type := 4, pos := "law.go:84", after := #[{ on := 2, ground := Ground.data }, { on := 2, ground := Ground.chain }], guard := none }) rfl (by first | rfl | (simp [Region.wanted, yielded]; done)) (by intro w_ hE_; (try dsimp only at hE_); first | (go_simp; done) | (go_simp; rfl)) ?_)
      (try simp only [Act.put, List.setIfInBounds_toArray, List.set_cons_zero, List.set_cons_succ])
      first | (refine mix_read (o := { dst := some 75, op := Op.move (Operand.tmp 12), type := 3, pos := "law.go:84", after := #[{ on := 3, ground := Ground.guard }], guard := some (3, true) }) rfl (by first | rfl | (simp [Region.wanted, yielded]; done)) (by intro w_ hE_; (try dsimp only at hE_); first | (go_simp; done) | (go_simp; rfl)) ?_) | (refine mix_skip (o := { dst := some 75, op := Op.move (Operand.tmp 12), type := 3, pos := "law.go:84", after := #[{ on := 3, ground := Ground.guard }], guard := some (3, true) }) rfl (by first | rfl | (simp [Region.wanted, yielded]; done)) ?_)
      (try simp only [Act.put, List.setIfInBounds_toArray, List.set_cons_zero, List.set_cons_succ])
      first | (refine mix_read (o := { dst := some 76, op := Op.move (Operand.tmp 15), type := 3, pos := "law.go:84", after := #[{ on := 3, ground := Ground.guard }], guard := some (3, true) }) rfl (by first | rfl | (simp [Region.wanted, yielded]; done)) (by intro w_ hE_; (try dsimp only at hE_); first | (go_simp; done) | (go_simp; rfl)) ?_) | (refine mix_skip (o := { dst := some 76, op := Op.move (Operand.tmp 15), type := 3, pos := "law.go:84", after := #[{ on := 3, ground := Ground.guard }], guard := some (3, true) }) rfl (by first | rfl | (simp [Region.wanted, yielded]; done)) ?_)
      (try simp only [Act.put, List.setIfInBounds_toArray, List.set_cons_zero, List.set_cons_succ])
      first | (refine mix_read (o := { dst := some 77, op := Op.binOp BinOp.eql 3 (Operand.tmp 75) (Operand.tmp 76) 3, type := 4, pos := "law.go:84", after := #[{ on := 4, ground := Ground.data }, { on := 5, ground := Ground.data }, { on := 3, ground := Ground.guard }], guard := some (3, true) }) rfl (by first | rfl | (simp [Region.wanted, yielded]; done)) (by intro w_ hE_; (try dsimp only at hE_); first | (go_simp; done) | (go_simp; rfl)) ?_) | (refine mix_skip (o := { dst := some 77, op := Op.binOp BinOp.eql 3 (Operand.tmp 75) (Operand.tmp 76) 3, type := 4, pos := "law.go:84", after := #[{ on := 4, ground := Ground.data }, { on := 5, ground := Ground.data }, { on := 3, ground := Ground.guard }], guard := some (3, true) }) rfl (by first | rfl | (simp [Region.wanted, yielded]; done)) ?_)
      (try simp only [Act.put, List.setIfInBounds_toArray, List.set_cons_zero, List.set_cons_succ])
      (refine mix_read (o := { dst := some 78, op := Op.pick (Operand.tmp 74) (Operand.tmp 77) (Operand.const (Value.bool false)), type := 4, pos := "law.go:84", after := #[{ on := 3, ground := Ground.data }, { on := 6, ground := Ground.data }], guard := none }) rfl (by first | rfl | (simp [Region.wanted, yielded]; done)) (by intro w_ hE_; (try dsimp only at hE_); first | (go_simp; done) | (go_simp; rfl)) ?_)
      (try simp only [Act.put, List.setIfInBounds_toArray, List.set_cons_zero, List.set_cons_succ])
      (refine mix_read (o := { dst := some 79, op := Op.move (Operand.tmp 78), type := 4, pos := "law.go:84", after := #[{ on := 7, ground := Ground.data }, { on := 3, ground := Ground.chain }], guard := none }) rfl (by first | rfl | (simp [Region.wanted, yielded]; done)) (by intro w_ hE_; (try dsimp only at hE_); first | (go_simp; done) | (go_simp; rfl)) ?_)
      (try simp only [Act.put, List.setIfInBounds_toArray, List.set_cons_zero, List.set_cons_succ])
      first | (refine mix_read (o := { dst := some 80, op := Op.move (Operand.tmp 13), type := 4, pos := "law.go:84", after := #[{ on := 8, ground := Ground.guard }], guard := some (8, true) }) rfl (by first | rfl | (simp [Region.wanted, yielded]; done)) (by intro w_ hE_; (try dsimp only at hE_); first | (go_simp; done) | (go_simp; rfl)) ?_) | (refine mix_skip (o := { dst := some 80, op := Op.move (Operand.tmp 13), type := 4, pos := "law.go:84", after := #[{ on := 8, ground := Ground.guard }], guard := some (8, true) }) rfl (by first | rfl | (simp [Region.wanted, yielded]; done)) ?_)
      (try simp only [Act.put, List.setIfInBounds_toArray, List.set_cons_zero, List.set_cons_succ])
      first | (refine mix_read (o := { dst := some 81, op := Op.move (Operand.tmp 16), type := 4, pos := "law.go:84", after := #[{ on := 8, ground := Ground.guard }], guard := some (8, true) }) rfl (by first | rfl | (simp [Region.wanted, yielded]; done)) (by intro w_ hE_; (try dsimp only at hE_); first | (go_simp; done) | (go_simp; rfl)) ?_) | (refine mix_skip (o := { dst := some 81, op := Op.move (Operand.tmp 16), type := 4, pos := "law.go:84", after := #[{ on := 8, ground := Ground.guard }], guard := some (8, true) }) rfl (by first | rfl | (simp [Region.wanted, yielded]; done)) ?_)
      (try simp only [Act.put, List.setIfInBounds_toArray, List.set_cons_zero, List.set_cons_succ])
      first | (refine mix_read (o := { dst := some 82, op := Op.binOp BinOp.eql 4 (Operand.tmp 80) (Operand.tmp 81) 4, type := 4, pos := "law.go:84", after := #[{ on := 9, ground := Ground.data }, { on := 10, ground := Ground.data }, { on := 8, ground := Ground.guard }], guard := some (8, true) }) rfl (by first | rfl | (simp [Region.wanted, yielded]; done)) (by intro w_ hE_; (try dsimp only at hE_); first | (go_simp; done) | (go_simp; rfl)) ?_) | (refine mix_skip (o := { dst := some 82, op := Op.binOp BinOp.eql 4 (Operand.tmp 80) (Operand.tmp 81) 4, type := 4, pos := "law.go:84", after := #[{ on := 9, ground := Ground.data }, { on := 10, ground := Ground.data }, { on := 8, ground := Ground.guard }], guard := some (8, true) }) rfl (by first | rfl | (simp [Region.wanted, yielded]; done)) ?_)
      (try simp only [Act.put, List.setIfInBounds_toArray, List.set_cons_zero, List.set_cons_succ])
      (refine mix_read (o := { dst := some 83, op := Op.pick (Operand.tmp 79) (Operand.tmp 82) (Operand.const (Value.bool false)), type := 4, pos := "law.go:84", after := #[{ on := 8, ground := Ground.data }, { on := 11, ground := Ground.data }], guard := none }) rfl (by first | rfl | (simp [Region.wanted, yielded]; done)) (by intro w_ hE_; (try dsimp only at hE_); first | (go_simp; done) | (go_simp; rfl)) ?_)
      (try simp only [Act.put, List.setIfInBounds_toArray, List.set_cons_zero, List.set_cons_succ])
      (refine mix_read (o := { dst := some 84, op := Op.move (Operand.tmp 83), type := 4, pos := "law.go:84", after := #[{ on := 12, ground := Ground.data }, { on := 8, ground := Ground.chain }], guard := none }) rfl (by first | rfl | (simp [Region.wanted, yielded]; done)) (by intro w_ hE_; (try dsimp only at hE_); first | (go_simp; done) | (go_simp; rfl)) ?_)
      (try simp only [Act.put, List.setIfInBounds_toArray, List.set_cons_zero, List.set_cons_succ])
      first | (refine mix_read (o := { dst := some 85, op := Op.move (Operand.tmp 18), type := 4, pos := "law.go:84", after := #[{ on := 13, ground := Ground.guard }], guard := some (13, true) }) rfl (by first | rfl | (simp [Region.wanted, yielded]; done)) (by intro w_ hE_; (try dsimp only at hE_); first | (go_simp; done) | (go_simp; rfl)) ?_) | (refine mix_skip (o := { dst := some 85, op := Op.move (Operand.tmp 18), type := 4, pos := "law.go:84", after := #[{ on := 13, ground := Ground.guard }], guard := some (13, true) }) rfl (by first | rfl | (simp [Region.wanted, yielded]; done)) ?_)
      (try simp only [Act.put, List.setIfInBounds_toArray, List.set_cons_zero, List.set_cons_succ])
      first | (refine mix_read (o := { dst := some 86, op := Op.move (Operand.tmp 19), type := 4, pos := "law.go:84", after := #[{ on := 13, ground := Ground.guard }], guard := some (13, true) }) rfl (by first | rfl | (simp [Region.wanted, yielded]; done)) (by intro w_ hE_; (try dsimp only at hE_); first | (go_simp; done) | (go_simp; rfl)) ?_) | (refine mix_skip (o := { dst := some 86, op := Op.move (Operand.tmp 19), type := 4, pos := "law.go:84", after := #[{ on := 13, ground := Ground.guard }], guard := some (13, true) }) rfl (by first | rfl | (simp [Region.wanted, yielded]; done)) ?_)
      (try simp only [Act.put, List.setIfInBounds_toArray, List.set_cons_zero, List.set_cons_succ])
      first | (refine mix_read (o := { dst := some 87, op := Op.binOp BinOp.eql 4 (Operand.tmp 85) (Operand.tmp 86) 4, type := 4, pos := "law.go:84", after := #[{ on := 14, ground := Ground.data }, { on := 15, ground := Ground.data }, { on := 13, ground := Ground.guard }], guard := some (13, true) }) rfl (by first | rfl | (simp [Region.wanted, yielded]; done)) (by intro w_ hE_; (try dsimp only at hE_); first | (go_simp; done) | (go_simp; rfl)) ?_) | (refine mix_skip (o := { dst := some 87, op := Op.binOp BinOp.eql 4 (Operand.tmp 85) (Operand.tmp 86) 4, type := 4, pos := "law.go:84", after := #[{ on := 14, ground := Ground.data }, { on := 15, ground := Ground.data }, { on := 13, ground := Ground.guard }], guard := some (13, true) }) rfl (by first | rfl | (simp [Region.wanted, yielded]; done)) ?_)
      (try simp only [Act.put, List.setIfInBounds_toArray, List.set_cons_zero, List.set_cons_succ])
      (refine mix_read (o := { dst := some 88, op := Op.pick (Operand.tmp 84) (Operand.tmp 87) (Operand.const (Value.bool false)), type := 4, pos := "law.go:84", after := #[{ on := 13, ground := Ground.data }, { on := 16, ground := Ground.data }], guard := none }) rfl (by first | rfl | (simp [Region.wanted, yielded]; done)) (by intro w_ hE_; (try dsimp only at hE_); first | (go_simp; done) | (go_simp; rfl)) ?_)
      (try simp only [Act.put, List.setIfInBounds_toArray, List.set_cons_zero, List.set_cons_succ])
      (refine mix_read (o := { dst := some 89, op := Op.move (Operand.tmp 88), type := 4, pos := "law.go:84", after := #[{ on := 17, ground := Ground.data }, { on := 13, ground := Ground.chain }], guard := none }) rfl (by first | rfl | (simp [Region.wanted, yielded]; done)) (by intro w_ hE_; (try dsimp only at hE_); first | (go_simp; done) | (go_simp; rfl)) ?_)
      (try simp only [Act.put, List.setIfInBounds_toArray, List.set_cons_zero, List.set_cons_succ])
      first | (refine mix_read (o := { dst := some 90, op := Op.move (Operand.tmp 19), type := 4, pos := "law.go:84", after := #[{ on := 18, ground := Ground.guard }], guard := some (18, true) }) rfl (by first | rfl | (simp [Region.wanted, yielded]; done)) (by intro w_ hE_; (try dsimp only at hE_); first | (go_simp; done) | (go_simp; rfl)) ?_) | (refine mix_skip (o := { dst := some 90, op := Op.move (Operand.tmp 19), type := 4, pos := "law.go:84", after := #[{ on := 18, ground := Ground.guard }], guard := some (18, true) }) rfl (by first | rfl | (simp [Region.wanted, yielded]; done)) ?_)
      (try simp only [Act.put, List.setIfInBounds_toArray, List.set_cons_zero, List.set_cons_succ])
      first | (refine mix_read (o := { dst := some 91, op := Op.unOp UnOp.not 4 (Operand.tmp 90), type := 4, pos := "law.go:84", after := #[{ on := 19, ground := Ground.data }, { on := 18, ground := Ground.guard }], guard := some (18, true) }) rfl (by first | rfl | (simp [Region.wanted, yielded]; done)) (by intro w_ hE_; (try dsimp only at hE_); first | (go_simp; done) | (go_simp; rfl)) ?_) | (refine mix_skip (o := { dst := some 91, op := Op.unOp UnOp.not 4 (Operand.tmp 90), type := 4, pos := "law.go:84", after := #[{ on := 19, ground := Ground.data }, { on := 18, ground := Ground.guard }], guard := some (18, true) }) rfl (by first | rfl | (simp [Region.wanted, yielded]; done)) ?_)
      (try simp only [Act.put, List.setIfInBounds_toArray, List.set_cons_zero, List.set_cons_succ])
      first | (refine mix_read (o := { dst := some 92, op := Op.move (Operand.tmp 91), type := 4, pos := "law.go:84", after := #[{ on := 20, ground := Ground.data }, { on := 18, ground := Ground.chain }, { on := 18, ground := Ground.guard }], guard := some (18, true) }) rfl (by first | rfl | (simp [Region.wanted, yielded]; done)) (by intro w_ hE_; (try dsimp only at hE_); first | (go_simp; done) | (go_simp; rfl)) ?_) | (refine mix_skip (o := { dst := some 92, op := Op.move (Operand.tmp 91), type := 4, pos := "law.go:84", after := #[{ on := 20, ground := Ground.data }, { on := 18, ground := Ground.chain }, { on := 18, ground := Ground.guard }], guard := some (18, true) }) rfl (by first | rfl | (simp [Region.wanted, yielded]; done)) ?_)
      (try simp only [Act.put, List.setIfInBounds_toArray, List.set_cons_zero, List.set_cons_succ])
      refine mix_skip (o := { dst := some 93, op := Op.move (Operand.tmp 17), type := 22, pos := "law.go:84", after := #[{ on := 21, ground := Ground.guard }], guard := some (21, false) }) rfl (by first | rfl | (simp [Region.wanted, yielded]; done)) ?_
      (try simp only [Act.put, List.setIfInBounds_toArray, List.set_cons_zero, List.set_cons_succ])
      refine mix_skip (o := { dst := some 94, op := Op.convert 22 9 (Operand.tmp 93), type := 9, pos := "law.go:84", after := #[{ on := 22, ground := Ground.data }, { on := 21, ground := Ground.guard }], guard := some (21, false) }) rfl (by first | rfl | (simp [Region.wanted, yielded]; done)) ?_
      (try simp only [Act.put, List.setIfInBounds_toArray, List.set_cons_zero, List.set_cons_succ])
      refine mix_skip (o := { dst := some 95, op := Op.move (Operand.tmp 14), type := 32, pos := "law.go:84", after := #[{ on := 21, ground := Ground.guard }], guard := some (21, false) }) rfl (by first | rfl | (simp [Region.wanted, yielded]; done)) ?_
      (try simp only [Act.put, List.setIfInBounds_toArray, List.set_cons_zero, List.set_cons_succ])
      refine mix_skip (o := { dst := some 96, op := Op.indexAddr 32 (Operand.tmp 95) (Operand.const (Value.int IntKind.i64 0)), type := 0, pos := "law.go:84", after := #[{ on := 24, ground := Ground.data }, { on := 21, ground := Ground.guard }], guard := some (21, false) }) rfl (by first | rfl | (simp [Region.wanted, yielded]; done)) ?_
      (try simp only [Act.put, List.setIfInBounds_toArray, List.set_cons_zero, List.set_cons_succ])
      refine mix_skip (o := { dst := some 97, op := Op.load 22 (Operand.tmp 96), type := 22, pos := "law.go:84", after := #[{ on := 25, ground := Ground.data }, { on := 21, ground := Ground.guard }], guard := some (21, false) }) rfl (by first | rfl | (simp [Region.wanted, yielded]; done)) ?_
      (try simp only [Act.put, List.setIfInBounds_toArray, List.set_cons_zero, List.set_cons_succ])
      refine mix_skip (o := { dst := some 98, op := Op.convert 22 9 (Operand.tmp 97), type := 9, pos := "law.go:84", after := #[{ on := 26, ground := Ground.data }, { on := 21, ground := Ground.guard }], guard := some (21, false) }) rfl (by first | rfl | (simp [Region.wanted, yielded]; done)) ?_
      (try simp only [Act.put, List.setIfInBounds_toArray, List.set_cons_zero, List.set_cons_succ])
      refine mix_skip (o := { dst := some 99, op := Op.binOp BinOp.eql 9 (Operand.tmp 94) (Operand.tmp 98) 9, type := 4, pos := "law.go:84", after := #[{ on := 23, ground := Ground.data }, { on := 27, ground := Ground.data }, { on := 21, ground := Ground.guard }], guard := some (21, false) }) rfl (by first | rfl | (simp [Region.wanted, yielded]; done)) ?_
      (try simp only [Act.put, List.setIfInBounds_toArray, List.set_cons_zero, List.set_cons_succ])
      first | (refine mix_read (o := { dst := some 100, op := Op.pick (Operand.tmp 92) (Operand.const (Value.bool true)) (Operand.tmp 99), type := 4, pos := "law.go:84", after := #[{ on := 21, ground := Ground.data }, { on := 28, ground := Ground.data }, { on := 18, ground := Ground.guard }], guard := some (18, true) }) rfl (by first | rfl | (simp [Region.wanted, yielded]; done)) (by intro w_ hE_; (try dsimp only at hE_); first | (go_simp; done) | (go_simp; rfl)) ?_) | (refine mix_skip (o := { dst := some 100, op := Op.pick (Operand.tmp 92) (Operand.const (Value.bool true)) (Operand.tmp 99), type := 4, pos := "law.go:84", after := #[{ on := 21, ground := Ground.data }, { on := 28, ground := Ground.data }, { on := 18, ground := Ground.guard }], guard := some (18, true) }) rfl (by first | rfl | (simp [Region.wanted, yielded]; done)) ?_)
      (try simp only [Act.put, List.setIfInBounds_toArray, List.set_cons_zero, List.set_cons_succ])
      (refine mix_read (o := { dst := some 101, op := Op.pick (Operand.tmp 89) (Operand.tmp 100) (Operand.const (Value.bool false)), type := 4, pos := "law.go:84", after := #[{ on := 18, ground := Ground.data }, { on := 29, ground := Ground.data }], guard := none }) rfl (by first | rfl | (simp [Region.wanted, yielded]; done)) (by intro w_ hE_; (try dsimp only at hE_); first | (go_simp; done) | (go_simp; rfl)) ?_)
      (try simp only [Act.put, List.setIfInBounds_toArray, List.set_cons_zero, List.set_cons_succ])
      (refine mix_read (o := { dst := some 8, op := Op.assign (Operand.tmp 101), type := 4, pos := "law.go:84", after := #[{ on := 30, ground := Ground.data }, { on := 21, ground := Ground.chain }, { on := 0, ground := Ground.phase }, { on := 1, ground := Ground.phase }, { on := 2, ground := Ground.phase }, { on := 3, ground := Ground.phase }, { on := 4, ground := Ground.phase }, { on := 5, ground := Ground.phase }, { on := 6, ground := Ground.phase }, { on := 7, ground := Ground.phase }, { on := 8, ground := Ground.phase }, { on := 9, ground := Ground.phase }, { on := 10, ground := Ground.phase }, { on := 11, ground := Ground.phase }, { on := 12, ground := Ground.phase }, { on := 13, ground := Ground.phase }, { on := 14, ground := Ground.phase }, { on := 15, ground := Ground.phase }, { on := 16, ground := Ground.phase }, { on := 17, ground := Ground.phase }, { on := 18, ground := Ground.phase }, { on := 19, ground := Ground.phase }, { on := 20, ground := Ground.phase }, { on := 21, ground := Ground.phase }, { on := 22, ground := Ground.phase }, { on := 23, ground := Ground.phase }, { on := 24, ground := Ground.phase }, { on := 25, ground := Ground.phase }, { on := 26, ground := Ground.phase }, { on := 27, ground := Ground.phase }, { on := 28, ground := Ground.phase }, { on := 29, ground := Ground.phase }, { on := 30, ground := Ground.phase }], guard := none }) rfl (by first | rfl | (simp [Region.wanted, yielded]; done)) (by intro w_ hE_; (try dsimp only at hE_); first | (go_simp; done) | (go_simp; rfl)) ?_)
      (try simp only [Act.put, List.setIfInBounds_toArray, List.set_cons_zero, List.set_cons_succ])
      refine mix_nil ?_
      go_wp2_with fail
      go_ret
      exact ⟨by simp, HZ1.out⟩
  · have kk : (0 < b0.length) = True := eq_true h0
    by_cases h2 : a1 < 0
    · have k3 : (0 ≤ a1) = False := eq_false (by omega)
      clear h2
      go_wp2_with ((with_reducible refine gate_builtin (b := .append) (xs := #[.tmp 24, .tmp 26]) rfl ?_); at_builtin; go_must (refine Kd.R_append_row (Value.int .u8) (0) (h1 := fun _ => rfl) (w0 := w) (w.heap.size) rfl (.tmp 24) (.tmp 26) 22 5 (.int .u8 0) 1 rfl Try.underlying22 info5 rfl (by decide) v2 b t A2 (t.length) c2 (fun _ => True) rfl rfl (fun _ _ => trivial) (HO2.out) (HT2.out) (HB2.out) (Below.size (HB2.out)) ?aL_ ?_; (case aL_ => have := HBL.out; omega); intro v4 w4 ho hb hg hat; have HO4 := Aside0.mk ho; have HB4 := Aside0.mk hb; have ho5 := HO4.out; rw [HBE.out] at ho5; obtain ⟨Ax, cx, e4⟩ := Kd.R_slice ho5; subst e4; have HO5 := Aside0.mk ho5; clear ho5 HO4; clear ho hb hg hat))
      obtain ⟨bx, hbx⟩ : ∃ bx, b0 = bx := ⟨_, rfl⟩
      subst hbx
      have HBXB := HBB
      have HCX := Aside0.mk (Kd.R_reads' HO5.out).2.2
      have HCXL := Aside0.mk (Kd.R_reads' HO5.out).2.1
      have HBX := HB4
      clear HO5 HB4 HO2 HB2 HT2
      generalize b0 = bx at *
      have hbl : bx.length ≤ 462 := HBXL.out
      have HSC := Aside0.mk (fun w h => scan_calls Ax cx bx HBXB.out w h HCXL.out (by omega))
      have HRSC := Aside0.mk (fun w h => rscan_calls Ax cx bx HBXB.out w h HCXL.out (by omega))
      have HOP := Aside0.mk (fun w h => open_calls Ax cx bx HBXB.out w h HCXL.out (by omega))
      have hwl := whole_law bx
      have hsb := scan_bys HBXB.out
      have hsl := scan_len bx
      obtain ⟨Ls, hLs⟩ : ∃ q, (scanL bx).1 = q := ⟨_, rfl⟩
      obtain ⟨Nn, hNn⟩ : ∃ q, (scanL bx).2.1 = q := ⟨_, rfl⟩
      obtain ⟨Oo, hOo⟩ : ∃ q, (scanL bx).2.2 = q := ⟨_, rfl⟩
      rw [hLs, hNn, hOo] at HSC HRSC
      rw [hLs, hNn] at hwl
      rw [hLs] at hsb hsl
      clear hLs hNn hOo
      obtain ⟨yo, hyo⟩ : ∃ q, (openL bx).1 = q := ⟨_, rfl⟩
      obtain ⟨oo, hoo⟩ : ∃ q, (openL bx).2 = q := ⟨_, rfl⟩
      rw [hyo, hoo] at HOP hwl
      clear hyo hoo
      have HSB := Aside0.mk (And.intro hsb hsl)
      have HWL := Aside0.mk hwl
      clear hsb hsl hwl hbl
      refine (HSC.out _ HCX.out).mono ?_
      rintro e_ w6 ⟨v6, rfl, ho, hb⟩
      obtain ⟨A6, c6, rfl⟩ := Kd.R_slice ho
      have HV6 := Aside0.mk (Kd.R_reads' ho)
      have HX6 := Aside0.mk (Kd.C_below HCX.out hb)
      have HB6 := Aside0.mk (below_step HBX.out hb)
      clear ho hb
      go_wp2_with fail
      refine (HRSC.out _ HX6.out).mono ?_
      rintro e_ w7 ⟨v7, rfl, ho, hb⟩
      obtain ⟨A7, c7, rfl⟩ := Kd.R_slice ho
      have HV7 := Aside0.mk (fixed_C (Kd.R_reads' ho).2.2 hb)
      have HX7 := Aside0.mk (Kd.C_below HX6.out hb)
      have HV67 := Aside0.mk (Kd.C_below HV6.out.2.2 hb)
      have HB7 := Aside0.mk (below_step HB6.out hb)
      clear ho hb
      go_wp2_with fail
      refine (HOP.out _ HX7.out).mono ?_
      rintro e_ w8 ⟨v8, rfl, ho, hb⟩
      obtain ⟨A8, c8, rfl⟩ := Kd.R_slice ho
      have HV8 := Aside0.mk (Kd.R_reads' ho).2.2
      have HV68 := Aside0.mk (Kd.C_below HV67.out hb)
      have HV78 := Aside0.mk (Kd.C_below HV7.out hb)
      have HB8 := Aside0.mk (below_step HB7.out hb)
      clear ho hb HSC HRSC HOP HX6 HX7 HV6 HV7 HV67 HB6 HB7 HCX HBX
      have HSA := Aside0.mk (fun w h1 h2 => same_calls A6 c6 Ls HSB.out.1 A7 c7 Ls HSB.out.1 w h1 (by have := HSB.out.2; have := HBXL.out; omega) h2 (by have := HSB.out.2; have := HBXL.out; omega))
      simp only [decide_true] at HSA
      by_cases hw1 : Ls.length = 1
      · have k1 : ((Ls.length : Int) == 1) = true := by simp [hw1]
        by_cases hw2 : Nn = bx.length
        · have k2 : ((Nn : Int) == (bx.length : Int)) = true := by simp [hw2]
          obtain ⟨hoo, hy⟩ := HWL.out.1 ⟨hw1, hw2⟩
          subst hoo
          subst hy
          obtain ⟨ad, A9, c9, e9, hcell, _, hC9⟩ := row_at HV78.out 0 (by omega)
          subst e9
          have HC9 := Aside0.mk hC9
          have hl0 : (0 < Ls.length) = True := eq_true (by omega)
          have HW1 := Aside0.mk hw1
          clear hw1 hw2 hC9
          generalize Ls.getD 0 [] = x0 at *
          go_wp2_with fail
          refine wp_region_mix (fun w_ w1_ => Below w_.heap.size w_ w1_) [(false, 0), (false, 1), (true, 2), (false, 3), (false, 4), (false, 5), (false, 6), (false, 7), (false, 8), (false, 9), (false, 10), (false, 11), (false, 12), (false, 13), (false, 14), (false, 15), (false, 16), (false, 17), (false, 18), (false, 19), (false, 20), (false, 21), (false, 22), (false, 23), (false, 24), (false, 25), (false, 26), (false, 27), (false, 28), (false, 29), (false, 30), (false, 31)] (by kernel_rfl) (by kernel_rfl) (fun _ => Below.refl _ _) (fun h h' => below_step h h') (fun wd hhp_ hbw_ => ?_)
          have HZw := Aside0.mk hbw_
          have HZ0 := Aside0.mk (below_step HB8.out hbw_)
          have cy0 := fun (wx : World) (h : Below wd.heap.size wd wx) => Kd.C_string (P := Try.prog) (A := A8) (c := c8) Try.underlying22 Try.underlying5 Try.underlying9 (Kd.C_below HV8.out (below_step hbw_ h))
          have cz0 := fun (wx : World) (h : Below wd.heap.size wd wx) => Kd.C_string (P := Try.prog) (A := A9) (c := c9) Try.underlying22 Try.underlying5 Try.underlying9 (Kd.C_below HC9.out (below_step hbw_ h))
          have hd0 : ∀ wx : World, Below wd.heap.size wd wx → wx.cell? ad = some (.slice A9 x0.length c9) := fun wx h => ((below_step hbw_ h).cell (World.block_lt_of_cell? w8 _ hcell)).trans hcell
          clear hhp_ hbw_
          (refine mix_read (o := { dst := some 71, op := Op.move (Operand.tmp 11), type := 32, pos := "law.go:84", after := #[], guard := none }) rfl (by first | rfl | (simp [Region.wanted, yielded]; done)) (by intro w_ hE_; (try dsimp only at hE_); first | (go_simp; done) | (go_simp; rfl)) ?_)
          (try simp only [Act.put, List.setIfInBounds_toArray, List.set_cons_zero, List.set_cons_succ])
          (refine mix_read (o := { dst := some 72, op := Op.move (Operand.tmp 14), type := 32, pos := "law.go:84", after := #[], guard := none }) rfl (by first | rfl | (simp [Region.wanted, yielded]; done)) (by intro w_ hE_; (try dsimp only at hE_); first | (go_simp; done) | (go_simp; rfl)) ?_)
          (try simp only [Act.put, List.setIfInBounds_toArray, List.set_cons_zero, List.set_cons_succ])
          refine mix_call (o := { dst := some 73, op := Op.call { callee := Callee.value (Operand.func 29), args := #[Operand.tmp 71, Operand.tmp 72], argTypes := #[32, 32] }, type := 4, pos := "law.go:84", after := #[{ on := 0, ground := Ground.data }, { on := 1, ground := Ground.data }], guard := none }) rfl (by first | rfl | (simp [Region.wanted, yielded]; done)) (by first | (go_simp; done) | (go_simp; exact ⟨rfl, rfl⟩) | (go_simp; rfl)) ?_
          refine (HSA.out _ (Kd.C_below HV68.out HZw.out) (Kd.C_below HV78.out HZw.out)).mono ?_
          rintro e_ x1 ⟨rfl, hb⟩
          have HZ1 := Aside0.mk (below_step HZ0.out hb)
          have cy1 := fun (wx : World) (h : Below x1.heap.size x1 wx) => cy0 wx (below_step hb h)
          have cz1 := fun (wx : World) (h : Below x1.heap.size x1 wx) => cz0 wx (below_step hb h)
          have hd1 : ∀ wx : World, Below x1.heap.size x1 wx → wx.cell? ad = some (.slice A9 x0.length c9) := fun wx h => hd0 wx (below_step hb h)
          refine ⟨_, rfl, hb, ?_⟩
          clear cy0 cz0 hd0
          clear hb
          (try simp only [Act.put, List.setIfInBounds_toArray, List.set_cons_zero, List.set_cons_succ])
          (refine mix_read (o := { dst := some 74, op := Op.move (Operand.tmp 73), type := 4, pos := "law.go:84", after := #[{ on := 2, ground := Ground.data }, { on := 2, ground := Ground.chain }], guard := none }) rfl (by first | rfl | (simp [Region.wanted, yielded]; done)) (by intro w_ hE_; (try dsimp only at hE_); first | (go_simp; done) | (go_simp; rfl)) ?_)
          (try simp only [Act.put, List.setIfInBounds_toArray, List.set_cons_zero, List.set_cons_succ])
          first | (refine mix_read (o := { dst := some 75, op := Op.move (Operand.tmp 12), type := 3, pos := "law.go:84", after := #[{ on := 3, ground := Ground.guard }], guard := some (3, true) }) rfl (by first | rfl | (simp [Region.wanted, yielded]; done)) (by intro w_ hE_; (try dsimp only at hE_); first | (go_simp; done) | (go_simp; rfl)) ?_) | (refine mix_skip (o := { dst := some 75, op := Op.move (Operand.tmp 12), type := 3, pos := "law.go:84", after := #[{ on := 3, ground := Ground.guard }], guard := some (3, true) }) rfl (by first | rfl | (simp [Region.wanted, yielded]; done)) ?_)
          (try simp only [Act.put, List.setIfInBounds_toArray, List.set_cons_zero, List.set_cons_succ])
          first | (refine mix_read (o := { dst := some 76, op := Op.move (Operand.tmp 15), type := 3, pos := "law.go:84", after := #[{ on := 3, ground := Ground.guard }], guard := some (3, true) }) rfl (by first | rfl | (simp [Region.wanted, yielded]; done)) (by intro w_ hE_; (try dsimp only at hE_); first | (go_simp; done) | (go_simp; rfl)) ?_) | (refine mix_skip (o := { dst := some 76, op := Op.move (Operand.tmp 15), type := 3, pos := "law.go:84", after := #[{ on := 3, ground := Ground.guard }], guard := some (3, true) }) rfl (by first | rfl | (simp [Region.wanted, yielded]; done)) ?_)
          (try simp only [Act.put, List.setIfInBounds_toArray, List.set_cons_zero, List.set_cons_succ])
          first | (refine mix_read (o := { dst := some 77, op := Op.binOp BinOp.eql 3 (Operand.tmp 75) (Operand.tmp 76) 3, type := 4, pos := "law.go:84", after := #[{ on := 4, ground := Ground.data }, { on := 5, ground := Ground.data }, { on := 3, ground := Ground.guard }], guard := some (3, true) }) rfl (by first | rfl | (simp [Region.wanted, yielded]; done)) (by intro w_ hE_; (try dsimp only at hE_); first | (go_simp; done) | (go_simp; rfl)) ?_) | (refine mix_skip (o := { dst := some 77, op := Op.binOp BinOp.eql 3 (Operand.tmp 75) (Operand.tmp 76) 3, type := 4, pos := "law.go:84", after := #[{ on := 4, ground := Ground.data }, { on := 5, ground := Ground.data }, { on := 3, ground := Ground.guard }], guard := some (3, true) }) rfl (by first | rfl | (simp [Region.wanted, yielded]; done)) ?_)
          (try simp only [Act.put, List.setIfInBounds_toArray, List.set_cons_zero, List.set_cons_succ])
          (refine mix_read (o := { dst := some 78, op := Op.pick (Operand.tmp 74) (Operand.tmp 77) (Operand.const (Value.bool false)), type := 4, pos := "law.go:84", after := #[{ on := 3, ground := Ground.data }, { on := 6, ground := Ground.data }], guard := none }) rfl (by first | rfl | (simp [Region.wanted, yielded]; done)) (by intro w_ hE_; (try dsimp only at hE_); first | (go_simp; done) | (go_simp; rfl)) ?_)
          (try simp only [Act.put, List.setIfInBounds_toArray, List.set_cons_zero, List.set_cons_succ])
          (refine mix_read (o := { dst := some 79, op := Op.move (Operand.tmp 78), type := 4, pos := "law.go:84", after := #[{ on := 7, ground := Ground.data }, { on := 3, ground := Ground.chain }], guard := none }) rfl (by first | rfl | (simp [Region.wanted, yielded]; done)) (by intro w_ hE_; (try dsimp only at hE_); first | (go_simp; done) | (go_simp; rfl)) ?_)
          (try simp only [Act.put, List.setIfInBounds_toArray, List.set_cons_zero, List.set_cons_succ])
          first | (refine mix_read (o := { dst := some 80, op := Op.move (Operand.tmp 13), type := 4, pos := "law.go:84", after := #[{ on := 8, ground := Ground.guard }], guard := some (8, true) }) rfl (by first | rfl | (simp [Region.wanted, yielded]; done)) (by intro w_ hE_; (try dsimp only at hE_); first | (go_simp; done) | (go_simp; rfl)) ?_) | (refine mix_skip (o := { dst := some 80, op := Op.move (Operand.tmp 13), type := 4, pos := "law.go:84", after := #[{ on := 8, ground := Ground.guard }], guard := some (8, true) }) rfl (by first | rfl | (simp [Region.wanted, yielded]; done)) ?_)
          (try simp only [Act.put, List.setIfInBounds_toArray, List.set_cons_zero, List.set_cons_succ])
          first | (refine mix_read (o := { dst := some 81, op := Op.move (Operand.tmp 16), type := 4, pos := "law.go:84", after := #[{ on := 8, ground := Ground.guard }], guard := some (8, true) }) rfl (by first | rfl | (simp [Region.wanted, yielded]; done)) (by intro w_ hE_; (try dsimp only at hE_); first | (go_simp; done) | (go_simp; rfl)) ?_) | (refine mix_skip (o := { dst := some 81, op := Op.move (Operand.tmp 16), type := 4, pos := "law.go:84", after := #[{ on := 8, ground := Ground.guard }], guard := some (8, true) }) rfl (by first | rfl | (simp [Region.wanted, yielded]; done)) ?_)
          (try simp only [Act.put, List.setIfInBounds_toArray, List.set_cons_zero, List.set_cons_succ])
          first | (refine mix_read (o := { dst := some 82, op := Op.binOp BinOp.eql 4 (Operand.tmp 80) (Operand.tmp 81) 4, type := 4, pos := "law.go:84", after := #[{ on := 9, ground := Ground.data }, { on := 10, ground := Ground.data }, { on := 8, ground := Ground.guard }], guard := some (8, true) }) rfl (by first | rfl | (simp [Region.wanted, yielded]; done)) (by intro w_ hE_; (try dsimp only at hE_); first | (go_simp; done) | (go_simp; rfl)) ?_) | (refine mix_skip (o := { dst := some 82, op := Op.binOp BinOp.eql 4 (Operand.tmp 80) (Operand.tmp 81) 4, type := 4, pos := "law.go:84", after := #[{ on := 9, ground := Ground.data }, { on := 10, ground := Ground.data }, { on := 8, ground := Ground.guard }], guard := some (8, true) }) rfl (by first | rfl | (simp [Region.wanted, yielded]; done)) ?_)
          (try simp only [Act.put, List.setIfInBounds_toArray, List.set_cons_zero, List.set_cons_succ])
          (refine mix_read (o := { dst := some 83, op := Op.pick (Operand.tmp 79) (Operand.tmp 82) (Operand.const (Value.bool false)), type := 4, pos := "law.go:84", after := #[{ on := 8, ground := Ground.data }, { on := 11, ground := Ground.data }], guard := none }) rfl (by first | rfl | (simp [Region.wanted, yielded]; done)) (by intro w_ hE_; (try dsimp only at hE_); first | (go_simp; done) | (go_simp; rfl)) ?_)
          (try simp only [Act.put, List.setIfInBounds_toArray, List.set_cons_zero, List.set_cons_succ])
          (refine mix_read (o := { dst := some 84, op := Op.move (Operand.tmp 83), type := 4, pos := "law.go:84", after := #[{ on := 12, ground := Ground.data }, { on := 8, ground := Ground.chain }], guard := none }) rfl (by first | rfl | (simp [Region.wanted, yielded]; done)) (by intro w_ hE_; (try dsimp only at hE_); first | (go_simp; done) | (go_simp; rfl)) ?_)
          (try simp only [Act.put, List.setIfInBounds_toArray, List.set_cons_zero, List.set_cons_succ])
          first | (refine mix_read (o := { dst := some 85, op := Op.move (Operand.tmp 18), type := 4, pos := "law.go:84", after := #[{ on := 13, ground := Ground.guard }], guard := some (13, true) }) rfl (by first | rfl | (simp [Region.wanted, yielded]; done)) (by intro w_ hE_; (try dsimp only at hE_); first | (go_simp; done) | (go_simp; rfl)) ?_) | (refine mix_skip (o := { dst := some 85, op := Op.move (Operand.tmp 18), type := 4, pos := "law.go:84", after := #[{ on := 13, ground := Ground.guard }], guard := some (13, true) }) rfl (by first | rfl | (simp [Region.wanted, yielded]; done)) ?_)
          (try simp only [Act.put, List.setIfInBounds_toArray, List.set_cons_zero, List.set_cons_succ])
          first | (refine mix_read (o := { dst := some 86, op := Op.move (Operand.tmp 19), type := 4, pos := "law.go:84", after := #[{ on := 13, ground := Ground.guard }], guard := some (13, true) }) rfl (by first | rfl | (simp [Region.wanted, yielded]; done)) (by intro w_ hE_; (try dsimp only at hE_); first | (go_simp; done) | (go_simp; rfl)) ?_) | (refine mix_skip (o := { dst := some 86, op := Op.move (Operand.tmp 19), type := 4, pos := "law.go:84", after := #[{ on := 13, ground := Ground.guard }], guard := some (13, true) }) rfl (by first | rfl | (simp [Region.wanted, yielded]; done)) ?_)
          (try simp only [Act.put, List.setIfInBounds_toArray, List.set_cons_zero, List.set_cons_succ])
          first | (refine mix_read (o := { dst := some 87, op := Op.binOp BinOp.eql 4 (Operand.tmp 85) (Operand.tmp 86) 4, type := 4, pos := "law.go:84", after := #[{ on := 14, ground := Ground.data }, { on := 15, ground := Ground.data }, { on := 13, ground := Ground.guard }], guard := some (13, true) }) rfl (by first | rfl | (simp [Region.wanted, yielded]; done)) (by intro w_ hE_; (try dsimp only at hE_); first | (go_simp; done) | (go_simp; rfl)) ?_) | (refine mix_skip (o := { dst := some 87, op := Op.binOp BinOp.eql 4 (Operand.tmp 85) (Operand.tmp 86) 4, type := 4, pos := "law.go:84", after := #[{ on := 14, ground := Ground.data }, { on := 15, ground := Ground.data }, { on := 13, ground := Ground.guard }], guard := some (13, true) }) rfl (by first | rfl | (simp [Region.wanted, yielded]; done)) ?_)
          (try simp only [Act.put, List.setIfInBounds_toArray, List.set_cons_zero, List.set_cons_succ])
          (refine mix_read (o := { dst := some 88, op := Op.pick (Operand.tmp 84) (Operand.tmp 87) (Operand.const (Value.bool false)), type := 4, pos := "law.go:84", after := #[{ on := 13, ground := Ground.data }, { on := 16, ground := Ground.data }], guard := none }) rfl (by first | rfl | (simp [Region.wanted, yielded]; done)) (by intro w_ hE_; (try dsimp only at hE_); first | (go_simp; done) | (go_simp; rfl)) ?_)
          (try simp only [Act.put, List.setIfInBounds_toArray, List.set_cons_zero, List.set_cons_succ])
          (refine mix_read (o := { dst := some 89, op := Op.move (Operand.tmp 88), type := 4, pos := "law.go:84", after := #[{ on := 17, ground := Ground.data }, { on := 13, ground := Ground.chain }], guard := none }) rfl (by first | rfl | (simp [Region.wanted, yielded]; done)) (by intro w_ hE_; (try dsimp only at hE_); first | (go_simp; done) | (go_simp; rfl)) ?_)
          (try simp only [Act.put, List.setIfInBounds_toArray, List.set_cons_zero, List.set_cons_succ])
          first | (refine mix_read (o := { dst := some 90, op := Op.move (Operand.tmp 19), type := 4, pos := "law.go:84", after := #[{ on := 18, ground := Ground.guard }], guard := some (18, true) }) rfl (by first | rfl | (simp [Region.wanted, yielded]; done)) (by intro w_ hE_; (try dsimp only at hE_); first | (go_simp; done) | (go_simp; rfl)) ?_) | (refine mix_skip (o := { dst := some 90, op := Op.move (Operand.tmp 19), type := 4, pos := "law.go:84", after := #[{ on := 18, ground := Ground.guard }], guard := some (18, true) }) rfl (by first | rfl | (simp [Region.wanted, yielded]; done)) ?_)
          (try simp only [Act.put, List.setIfInBounds_toArray, List.set_cons_zero, List.set_cons_succ])
          first | (refine mix_read (o := { dst := some 91, op := Op.unOp UnOp.not 4 (Operand.tmp 90), type := 4, pos := "law.go:84", after := #[{ on := 19, ground := Ground.data }, { on := 18, ground := Ground.guard }], guard := some (18, true) }) rfl (by first | rfl | (simp [Region.wanted, yielded]; done)) (by intro w_ hE_; (try dsimp only at hE_); first | (go_simp; done) | (go_simp; rfl)) ?_) | (refine mix_skip (o := { dst := some 91, op := Op.unOp UnOp.not 4 (Operand.tmp 90), type := 4, pos := "law.go:84", after := #[{ on := 19, ground := Ground.data }, { on := 18, ground := Ground.guard }], guard := some (18, true) }) rfl (by first | rfl | (simp [Region.wanted, yielded]; done)) ?_)
          (try simp only [Act.put, List.setIfInBounds_toArray, List.set_cons_zero, List.set_cons_succ])
          first | (refine mix_read (o := { dst := some 92, op := Op.move (Operand.tmp 91), type := 4, pos := "law.go:84", after := #[{ on := 20, ground := Ground.data }, { on := 18, ground := Ground.chain }, { on := 18, ground := Ground.guard }], guard := some (18, true) }) rfl (by first | rfl | (simp [Region.wanted, yielded]; done)) (by intro w_ hE_; (try dsimp only at hE_); first | (go_simp; done) | (go_simp; rfl)) ?_) | (refine mix_skip (o := { dst := some 92, op := Op.move (Operand.tmp 91), type := 4, pos := "law.go:84", after := #[{ on := 20, ground := Ground.data }, { on := 18, ground := Ground.chain }, { on := 18, ground := Ground.guard }], guard := some (18, true) }) rfl (by first | rfl | (simp [Region.wanted, yielded]; done)) ?_)
          (try simp only [Act.put, List.setIfInBounds_toArray, List.set_cons_zero, List.set_cons_succ])
          first | (refine mix_read (o := { dst := some 93, op := Op.move (Operand.tmp 17), type := 22, pos := "law.go:84", after := #[{ on := 21, ground := Ground.guard }], guard := some (21, false) }) rfl (by first | rfl | (simp [Region.wanted, yielded]; done)) (by intro w_ hE_; (try dsimp only at hE_); first | (go_simp; done) | (go_simp; rfl)) ?_) | (refine mix_skip (o := { dst := some 93, op := Op.move (Operand.tmp 17), type := 22, pos := "law.go:84", after := #[{ on := 21, ground := Ground.guard }], guard := some (21, false) }) rfl (by first | rfl | (simp [Region.wanted, yielded]; done)) ?_)
          (try simp only [Act.put, List.setIfInBounds_toArray, List.set_cons_zero, List.set_cons_succ])
          first | (refine mix_read (o := { dst := some 94, op := Op.convert 22 9 (Operand.tmp 93), type := 9, pos := "law.go:84", after := #[{ on := 22, ground := Ground.data }, { on := 21, ground := Ground.guard }], guard := some (21, false) }) rfl (by first | rfl | (simp [Region.wanted, yielded]; done)) (by intro w_ hE_; (try dsimp only at hE_); first | (go_simp; done) | (go_simp; rfl)) ?_) | (refine mix_skip (o := { dst := some 94, op := Op.convert 22 9 (Operand.tmp 93), type := 9, pos := "law.go:84", after := #[{ on := 22, ground := Ground.data }, { on := 21, ground := Ground.guard }], guard := some (21, false) }) rfl (by first | rfl | (simp [Region.wanted, yielded]; done)) ?_)
          (try simp only [Act.put, List.setIfInBounds_toArray, List.set_cons_zero, List.set_cons_succ])
          first | (refine mix_read (o := { dst := some 95, op := Op.move (Operand.tmp 14), type := 32, pos := "law.go:84", after := #[{ on := 21, ground := Ground.guard }], guard := some (21, false) }) rfl (by first | rfl | (simp [Region.wanted, yielded]; done)) (by intro w_ hE_; (try dsimp only at hE_); first | (go_simp; done) | (go_simp; rfl)) ?_) | (refine mix_skip (o := { dst := some 95, op := Op.move (Operand.tmp 14), type := 32, pos := "law.go:84", after := #[{ on := 21, ground := Ground.guard }], guard := some (21, false) }) rfl (by first | rfl | (simp [Region.wanted, yielded]; done)) ?_)
          (try simp only [Act.put, List.setIfInBounds_toArray, List.set_cons_zero, List.set_cons_succ])
          first | (refine mix_read (o := { dst := some 96, op := Op.indexAddr 32 (Operand.tmp 95) (Operand.const (Value.int IntKind.i64 0)), type := 0, pos := "law.go:84", after := #[{ on := 24, ground := Ground.data }, { on := 21, ground := Ground.guard }], guard := some (21, false) }) rfl (by first | rfl | (simp [Region.wanted, yielded]; done)) (by intro w_ hE_; (try dsimp only at hE_); first | (go_simp; done) | (go_simp; rfl)) ?_) | (refine mix_skip (o := { dst := some 96, op := Op.indexAddr 32 (Operand.tmp 95) (Operand.const (Value.int IntKind.i64 0)), type := 0, pos := "law.go:84", after := #[{ on := 24, ground := Ground.data }, { on := 21, ground := Ground.guard }], guard := some (21, false) }) rfl (by first | rfl | (simp [Region.wanted, yielded]; done)) ?_)
          (try simp only [Act.put, List.setIfInBounds_toArray, List.set_cons_zero, List.set_cons_succ])
          first | (refine mix_read (o := { dst := some 97, op := Op.load 22 (Operand.tmp 96), type := 22, pos := "law.go:84", after := #[{ on := 25, ground := Ground.data }, { on := 21, ground := Ground.guard }], guard := some (21, false) }) rfl (by first | rfl | (simp [Region.wanted, yielded]; done)) (by intro w_ hE_; (try dsimp only at hE_); first | (go_simp; done) | (go_simp; rfl)) ?_) | (refine mix_skip (o := { dst := some 97, op := Op.load 22 (Operand.tmp 96), type := 22, pos := "law.go:84", after := #[{ on := 25, ground := Ground.data }, { on := 21, ground := Ground.guard }], guard := some (21, false) }) rfl (by first | rfl | (simp [Region.wanted, yielded]; done)) ?_)
          (try simp only [Act.put, List.setIfInBounds_toArray, List.set_cons_zero, List.set_cons_succ])
          first | (refine mix_read (o := { dst := some 98, op := Op.convert 22 9 (Operand.tmp 97), type := 9, pos := "law.go:84", after := #[{ on := 26, ground := Ground.data }, { on := 21, ground := Ground.guard }], guard := some (21, false) }) rfl (by first | rfl | (simp [Region.wanted, yielded]; done)) (by intro w_ hE_; (try dsimp only at hE_); first | (go_simp; done) | (go_simp; rfl)) ?_) | (refine mix_skip (o := { dst := some 98, op := Op.convert 22 9 (Operand.tmp 97), type := 9, pos := "law.go:84", after := #[{ on := 26, ground := Ground.data }, { on := 21, ground := Ground.guard }], guard := some (21, false) }) rfl (by first | rfl | (simp [Region.wanted, yielded]; done)) ?_)
          (try simp only [Act.put, List.setIfInBounds_toArray, List.set_cons_zero, List.set_cons_succ])
          first | (refine mix_read (o := { dst := some 99, op := Op.binOp BinOp.eql 9 (Operand.tmp 94) (Operand.tmp 98) 9, type := 4, pos := "law.go:84", after := #[{ on := 23, ground := Ground.data }, { on := 27, ground := Ground.data }, { on := 21, ground := Ground.guard }], guard := some (21, false) }) rfl (by first | rfl | (simp [Region.wanted, yielded]; done)) (by intro w_ hE_; (try dsimp only at hE_); first | (go_simp; done) | (go_simp; rfl)) ?_) | (refine mix_skip (o := { dst := some 99, op := Op.binOp BinOp.eql 9 (Operand.tmp 94) (Operand.tmp 98) 9, type := 4, pos := "law.go:84", after := #[{ on := 23, ground := Ground.data }, { on := 27, ground := Ground.data }, { on := 21, ground := Ground.guard }], guard := some (21, false) }) rfl (by first | rfl | (simp [Region.wanted, yielded]; done)) ?_)
          (try simp only [Act.put, List.setIfInBounds_toArray, List.set_cons_zero, List.set_cons_succ])
          first | (refine mix_read (o := { dst := some 100, op := Op.pick (Operand.tmp 92) (Operand.const (Value.bool true)) (Operand.tmp 99), type := 4, pos := "law.go:84", after := #[{ on := 21, ground := Ground.data }, { on := 28, ground := Ground.data }, { on := 18, ground := Ground.guard }], guard := some (18, true) }) rfl (by first | rfl | (simp [Region.wanted, yielded]; done)) (by intro w_ hE_; (try dsimp only at hE_); first | (go_simp; done) | (go_simp; rfl)) ?_) | (refine mix_skip (o := { dst := some 100, op := Op.pick (Operand.tmp 92) (Operand.const (Value.bool true)) (Operand.tmp 99), type := 4, pos := "law.go:84", after := #[{ on := 21, ground := Ground.data }, { on := 28, ground := Ground.data }, { on := 18, ground := Ground.guard }], guard := some (18, true) }) rfl (by first | rfl | (simp [Region.wanted, yielded]; done)) ?_)
          (try simp only [Act.put, List.setIfInBounds_toArray, List.set_cons_zero, List.set_cons_succ])
          (refine mix_read (o := { dst := some 101, op := Op.pick (Operand.tmp 89) (Operand.tmp 100) (Operand.const (Value.bool false)), type := 4, pos := "law.go:84", after := #[{ on := 18, ground := Ground.data }, { on := 29, ground := Ground.data }], guard := none }) rfl (by first | rfl | (simp [Region.wanted, yielded]; done)) (by intro w_ hE_; (try dsimp only at hE_); first | (go_simp; done) | (go_simp; rfl)) ?_)
          (try simp only [Act.put, List.setIfInBounds_toArray, List.set_cons_zero, List.set_cons_succ])
          (refine mix_read (o := { dst := some 8, op := Op.assign (Operand.tmp 101), type := 4, pos := "law.go:84", after := #[{ on := 30, ground := Ground.data }, { on := 21, ground := Ground.chain }, { on := 0, ground := Ground.phase }, { on := 1, ground := Ground.phase }, { on := 2, ground := Ground.phase }, { on := 3, ground := Ground.phase }, { on := 4, ground := Ground.phase }, { on := 5, ground := Ground.phase }, { on := 6, ground := Ground.phase }, { on := 7, ground := Ground.phase }, { on := 8, ground := Ground.phase }, { on := 9, ground := Ground.phase }, { on := 10, ground := Ground.phase }, { on := 11, ground := Ground.phase }, { on := 12, ground := Ground.phase }, { on := 13, ground := Ground.phase }, { on := 14, ground := Ground.phase }, { on := 15, ground := Ground.phase }, { on := 16, ground := Ground.phase }, { on := 17, ground := Ground.phase }, { on := 18, ground := Ground.phase }, { on := 19, ground := Ground.phase }, { on := 20, ground := Ground.phase }, { on := 21, ground := Ground.phase }, { on := 22, ground := Ground.phase }, { on := 23, ground := Ground.phase }, { on := 24, ground := Ground.phase }, { on := 25, ground := Ground.phase }, { on := 26, ground := Ground.phase }, { on := 27, ground := Ground.phase }, { on := 28, ground := Ground.phase }, { on := 29, ground := Ground.phase }, { on := 30, ground := Ground.phase }], guard := none }) rfl (by first | rfl | (simp [Region.wanted, yielded]; done)) (by intro w_ hE_; (try dsimp only at hE_); first | (go_simp; done) | (go_simp; rfl)) ?_)
          (try simp only [Act.put, List.setIfInBounds_toArray, List.set_cons_zero, List.set_cons_succ])
          refine mix_nil ?_
          go_wp2_with fail
          go_ret
          exact ⟨by simp, HZ1.out⟩
        · have k2 : ((Nn : Int) == (bx.length : Int)) = false := beq_eq_false_iff_ne.2 (by omega)
          have hoo := HWL.out.2 (fun h => hw2 h.2)
          subst hoo
          clear hw1 hw2
          go_wp2_with fail
          refine wp_region_mix (fun w_ w1_ => Below w_.heap.size w_ w1_) [(false, 0), (false, 1), (true, 2), (false, 3), (false, 4), (false, 5), (false, 6), (false, 7), (false, 8), (false, 9), (false, 10), (false, 11), (false, 12), (false, 13), (false, 14), (false, 15), (false, 16), (false, 17), (false, 18), (false, 19), (false, 20), (false, 21), (false, 22), (false, 23), (false, 24), (false, 25), (false, 26), (false, 27), (false, 28), (false, 29), (false, 30), (false, 31)] (by kernel_rfl) (by kernel_rfl) (fun _ => Below.refl _ _) (fun h h' => below_step h h') (fun wd hhp_ hbw_ => ?_)
          have HZw := Aside0.mk hbw_
          have HZ0 := Aside0.mk (below_step HB8.out hbw_)
          clear hhp_ hbw_
          (refine mix_read (o := { dst := some 71, op := Op.move (Operand.tmp 11), type := 32, pos := "law.go:84", after := #[], guard := none }) rfl (by first | rfl | (simp [Region.wanted, yielded]; done)) (by intro w_ hE_; (try dsimp only at hE_); first | (go_simp; done) | (go_simp; rfl)) ?_)
          (try simp only [Act.put, List.setIfInBounds_toArray, List.set_cons_zero, List.set_cons_succ])
          (refine mix_read (o := { dst := some 72, op := Op.move (Operand.tmp 14), type := 32, pos := "law.go:84", after := #[], guard := none }) rfl (by first | rfl | (simp [Region.wanted, yielded]; done)) (by intro w_ hE_; (try dsimp only at hE_); first | (go_simp; done) | (go_simp; rfl)) ?_)
          (try simp only [Act.put, List.setIfInBounds_toArray, List.set_cons_zero, List.set_cons_succ])
          refine mix_call (o := { dst := some 73, op := Op.call { callee := Callee.value (Operand.func 29), args := #[Operand.tmp 71, Operand.tmp 72], argTypes := #[32, 32] }, type := 4, pos := "law.go:84", after := #[{ on := 0, ground := Ground.data }, { on := 1, ground := Ground.data }], guard := none }) rfl (by first | rfl | (simp [Region.wanted, yielded]; done)) (by first | (go_simp; done) | (go_simp; exact ⟨rfl, rfl⟩) | (go_simp; rfl)) ?_
          refine (HSA.out _ (Kd.C_below HV68.out HZw.out) (Kd.C_below HV78.out HZw.out)).mono ?_
          rintro e_ x1 ⟨rfl, hb⟩
          have HZ1 := Aside0.mk (below_step HZ0.out hb)
          refine ⟨_, rfl, hb, ?_⟩
          clear hb
          (try simp only [Act.put, List.setIfInBounds_toArray, List.set_cons_zero, List.set_cons_succ])
          (refine mix_read (o := { dst := some 74, op := Op.move (Operand.tmp 73), type := 4, pos := "law.go:84", after := #[{ on := 2, ground := Ground.data }, { on := 2, ground := Ground.chain }], guard := none }) rfl (by first | rfl | (simp [Region.wanted, yielded]; done)) (by intro w_ hE_; (try dsimp only at hE_); first | (go_simp; done) | (go_simp; rfl)) ?_)
          (try simp only [Act.put, List.setIfInBounds_toArray, List.set_cons_zero, List.set_cons_succ])
          first | (refine mix_read (o := { dst := some 75, op := Op.move (Operand.tmp 12), type := 3, pos := "law.go:84", after := #[{ on := 3, ground := Ground.guard }], guard := some (3, true) }) rfl (by first | rfl | (simp [Region.wanted, yielded]; done)) (by intro w_ hE_; (try dsimp only at hE_); first | (go_simp; done) | (go_simp; rfl)) ?_) | (refine mix_skip (o := { dst := some 75, op := Op.move (Operand.tmp 12), type := 3, pos := "law.go:84", after := #[{ on := 3, ground := Ground.guard }], guard := some (3, true) }) rfl (by first | rfl | (simp [Region.wanted, yielded]; done)) ?_)
          (try simp only [Act.put, List.setIfInBounds_toArray, List.set_cons_zero, List.set_cons_succ])
          first | (refine mix_read (o := { dst := some 76, op := Op.move (Operand.tmp 15), type := 3, pos := "law.go:84", after := #[{ on := 3, ground := Ground.guard }], guard := some (3, true) }) rfl (by first | rfl | (simp [Region.wanted, yielded]; done)) (by intro w_ hE_; (try dsimp only at hE_); first | (go_simp; done) | (go_simp; rfl)) ?_) | (refine mix_skip (o := { dst := some 76, op := Op.move (Operand.tmp 15), type := 3, pos := "law.go:84", after := #[{ on := 3, ground := Ground.guard }], guard := some (3, true) }) rfl (by first | rfl | (simp [Region.wanted, yielded]; done)) ?_)
          (try simp only [Act.put, List.setIfInBounds_toArray, List.set_cons_zero, List.set_cons_succ])
          first | (refine mix_read (o := { dst := some 77, op := Op.binOp BinOp.eql 3 (Operand.tmp 75) (Operand.tmp 76) 3, type := 4, pos := "law.go:84", after := #[{ on := 4, ground := Ground.data }, { on := 5, ground := Ground.data }, { on := 3, ground := Ground.guard }], guard := some (3, true) }) rfl (by first | rfl | (simp [Region.wanted, yielded]; done)) (by intro w_ hE_; (try dsimp only at hE_); first | (go_simp; done) | (go_simp; rfl)) ?_) | (refine mix_skip (o := { dst := some 77, op := Op.binOp BinOp.eql 3 (Operand.tmp 75) (Operand.tmp 76) 3, type := 4, pos := "law.go:84", after := #[{ on := 4, ground := Ground.data }, { on := 5, ground := Ground.data }, { on := 3, ground := Ground.guard }], guard := some (3, true) }) rfl (by first | rfl | (simp [Region.wanted, yielded]; done)) ?_)
          (try simp only [Act.put, List.setIfInBounds_toArray, List.set_cons_zero, List.set_cons_succ])
          (refine mix_read (o := { dst := some 78, op := Op.pick (Operand.tmp 74) (Operand.tmp 77) (Operand.const (Value.bool false)), type := 4, pos := "law.go:84", after := #[{ on := 3, ground := Ground.data }, { on := 6, ground := Ground.data }], guard := none }) rfl (by first | rfl | (simp [Region.wanted, yielded]; done)) (by intro w_ hE_; (try dsimp only at hE_); first | (go_simp; done) | (go_simp; rfl)) ?_)
          (try simp only [Act.put, List.setIfInBounds_toArray, List.set_cons_zero, List.set_cons_succ])
          (refine mix_read (o := { dst := some 79, op := Op.move (Operand.tmp 78), type := 4, pos := "law.go:84", after := #[{ on := 7, ground := Ground.data }, { on := 3, ground := Ground.chain }], guard := none }) rfl (by first | rfl | (simp [Region.wanted, yielded]; done)) (by intro w_ hE_; (try dsimp only at hE_); first | (go_simp; done) | (go_simp; rfl)) ?_)
          (try simp only [Act.put, List.setIfInBounds_toArray, List.set_cons_zero, List.set_cons_succ])
          first | (refine mix_read (o := { dst := some 80, op := Op.move (Operand.tmp 13), type := 4, pos := "law.go:84", after := #[{ on := 8, ground := Ground.guard }], guard := some (8, true) }) rfl (by first | rfl | (simp [Region.wanted, yielded]; done)) (by intro w_ hE_; (try dsimp only at hE_); first | (go_simp; done) | (go_simp; rfl)) ?_) | (refine mix_skip (o := { dst := some 80, op := Op.move (Operand.tmp 13), type := 4, pos := "law.go:84", after := #[{ on := 8, ground := Ground.guard }], guard := some (8, true) }) rfl (by first | rfl | (simp [Region.wanted, yielded]; done)) ?_)
          (try simp only [Act.put, List.setIfInBounds_toArray, List.set_cons_zero, List.set_cons_succ])
          first | (refine mix_read (o := { dst := some 81, op := Op.move (Operand.tmp 16), type := 4, pos := "law.go:84", after := #[{ on := 8, ground := Ground.guard }], guard := some (8, true) }) rfl (by first | rfl | (simp [Region.wanted, yielded]; done)) (by intro w_ hE_; (try dsimp only at hE_); first | (go_simp; done) | (go_simp; rfl)) ?_) | (refine mix_skip (o := { dst := some 81, op := Op.move (Operand.tmp 16), type := 4, pos := "law.go:84", after := #[{ on := 8, ground := Ground.guard }], guard := some (8, true) }) rfl (by first | rfl | (simp [Region.wanted, yielded]; done)) ?_)
          (try simp only [Act.put, List.setIfInBounds_toArray, List.set_cons_zero, List.set_cons_succ])
          first | (refine mix_read (o := { dst := some 82, op := Op.binOp BinOp.eql 4 (Operand.tmp 80) (Operand.tmp 81) 4, type := 4, pos := "law.go:84", after := #[{ on := 9, ground := Ground.data }, { on := 10, ground := Ground.data }, { on := 8, ground := Ground.guard }], guard := some (8, true) }) rfl (by first | rfl | (simp [Region.wanted, yielded]; done)) (by intro w_ hE_; (try dsimp only at hE_); first | (go_simp; done) | (go_simp; rfl)) ?_) | (refine mix_skip (o := { dst := some 82, op := Op.binOp BinOp.eql 4 (Operand.tmp 80) (Operand.tmp 81) 4, type := 4, pos := "law.go:84", after := #[{ on := 9, ground := Ground.data }, { on := 10, ground := Ground.data }, { on := 8, ground := Ground.guard }], guard := some (8, true) }) rfl (by first | rfl | (simp [Region.wanted, yielded]; done)) ?_)
          (try simp only [Act.put, List.setIfInBounds_toArray, List.set_cons_zero, List.set_cons_succ])
          (refine mix_read (o := { dst := some 83, op := Op.pick (Operand.tmp 79) (Operand.tmp 82) (Operand.const (Value.bool false)), type := 4, pos := "law.go:84", after := #[{ on := 8, ground := Ground.data }, { on := 11, ground := Ground.data }], guard := none }) rfl (by first | rfl | (simp [Region.wanted, yielded]; done)) (by intro w_ hE_; (try dsimp only at hE_); first | (go_simp; done) | (go_simp; rfl)) ?_)
          (try simp only [Act.put, List.setIfInBounds_toArray, List.set_cons_zero, List.set_cons_succ])
          (refine mix_read (o := { dst := some 84, op := Op.move (Operand.tmp 83), type := 4, pos := "law.go:84", after := #[{ on := 12, ground := Ground.data }, { on := 8, ground := Ground.chain }], guard := none }) rfl (by first | rfl | (simp [Region.wanted, yielded]; done)) (by intro w_ hE_; (try dsimp only at hE_); first | (go_simp; done) | (go_simp; rfl)) ?_)
          (try simp only [Act.put, List.setIfInBounds_toArray, List.set_cons_zero, List.set_cons_succ])
          first | (refine mix_read (o := { dst := some 85, op := Op.move (Operand.tmp 18), type := 4, pos := "law.go:84", after := #[{ on := 13, ground := Ground.guard }], guard := some (13, true) }) rfl (by first | rfl | (simp [Region.wanted, yielded]; done)) (by intro w_ hE_; (try dsimp only at hE_); first | (go_simp; done) | (go_simp; rfl)) ?_) | (refine mix_skip (o := { dst := some 85, op := Op.move (Operand.tmp 18), type := 4, pos := "law.go:84", after := #[{ on := 13, ground := Ground.guard }], guard := some (13, true) }) rfl (by first | rfl | (simp [Region.wanted, yielded]; done)) ?_)
          (try simp only [Act.put, List.setIfInBounds_toArray, List.set_cons_zero, List.set_cons_succ])
          first | (refine mix_read (o := { dst := some 86, op := Op.move (Operand.tmp 19), type := 4, pos := "law.go:84", after := #[{ on := 13, ground := Ground.guard }], guard := some (13, true) }) rfl (by first | rfl | (simp [Region.wanted, yielded]; done)) (by intro w_ hE_; (try dsimp only at hE_); first | (go_simp; done) | (go_simp; rfl)) ?_) | (refine mix_skip (o := { dst := some 86, op := Op.move (Operand.tmp 19), type := 4, pos := "law.go:84", after := #[{ on := 13, ground := Ground.guard }], guard := some (13, true) }) rfl (by first | rfl | (simp [Region.wanted, yielded]; done)) ?_)
          (try simp only [Act.put, List.setIfInBounds_toArray, List.set_cons_zero, List.set_cons_succ])
          first | (refine mix_read (o := { dst := some 87, op := Op.binOp BinOp.eql 4 (Operand.tmp 85) (Operand.tmp 86) 4, type := 4, pos := "law.go:84", after := #[{ on := 14, ground := Ground.data }, { on := 15, ground := Ground.data }, { on := 13, ground := Ground.guard }], guard := some (13, true) }) rfl (by first | rfl | (simp [Region.wanted, yielded]; done)) (by intro w_ hE_; (try dsimp only at hE_); first | (go_simp; done) | (go_simp; rfl)) ?_) | (refine mix_skip (o := { dst := some 87, op := Op.binOp BinOp.eql 4 (Operand.tmp 85) (Operand.tmp 86) 4, type := 4, pos := "law.go:84", after := #[{ on := 14, ground := Ground.data }, { on := 15, ground := Ground.data }, { on := 13, ground := Ground.guard }], guard := some (13, true) }) rfl (by first | rfl | (simp [Region.wanted, yielded]; done)) ?_)
          (try simp only [Act.put, List.setIfInBounds_toArray, List.set_cons_zero, List.set_cons_succ])
          (refine mix_read (o := { dst := some 88, op := Op.pick (Operand.tmp 84) (Operand.tmp 87) (Operand.const (Value.bool false)), type := 4, pos := "law.go:84", after := #[{ on := 13, ground := Ground.data }, { on := 16, ground := Ground.data }], guard := none }) rfl (by first | rfl | (simp [Region.wanted, yielded]; done)) (by intro w_ hE_; (try dsimp only at hE_); first | (go_simp; done) | (go_simp; rfl)) ?_)
          (try simp only [Act.put, List.setIfInBounds_toArray, List.set_cons_zero, List.set_cons_succ])
          (refine mix_read (o := { dst := some 89, op := Op.move (Operand.tmp 88), type := 4, pos := "law.go:84", after := #[{ on := 17, ground := Ground.data }, { on := 13, ground := Ground.chain }], guard := none }) rfl (by first | rfl | (simp [Region.wanted, yielded]; done)) (by intro w_ hE_; (try dsimp only at hE_); first | (go_simp; done) | (go_simp; rfl)) ?_)
          (try simp only [Act.put, List.setIfInBounds_toArray, List.set_cons_zero, List.set_cons_succ])
          first | (refine mix_read (o := { dst := some 90, op := Op.move (Operand.tmp 19), type := 4, pos := "law.go:84", after := #[{ on := 18, ground := Ground.guard }], guard := some (18, true) }) rfl (by first | rfl | (simp [Region.wanted, yielded]; done)) (by intro w_ hE_; (try dsimp only at hE_); first | (go_simp; done) | (go_simp; rfl)) ?_) | (refine mix_skip (o := { dst := some 90, op := Op.move (Operand.tmp 19), type := 4, pos := "law.go:84", after := #[{ on := 18, ground := Ground.guard }], guard := some (18, true) }) rfl (by first | rfl | (simp [Region.wanted, yielded]; done)) ?_)
          (try simp only [Act.put, List.setIfInBounds_toArray, List.set_cons_zero, List.set_cons_succ])
          first | (refine mix_read (o := { dst := some 91, op := Op.unOp UnOp.not 4 (Operand.tmp 90), type := 4, pos := "law.go:84", after := #[{ on := 19, ground := Ground.data }, { on := 18, ground := Ground.guard }], guard := some (18, true) }) rfl (by first | rfl | (simp [Region.wanted, yielded]; done)) (by intro w_ hE_; (try dsimp only at hE_); first | (go_simp; done) | (go_simp; rfl)) ?_) | (refine mix_skip (o := { dst := some 91, op := Op.unOp UnOp.not 4 (Operand.tmp 90), type := 4, pos := "law.go:84", after := #[{ on := 19, ground := Ground.data }, { on := 18, ground := Ground.guard }], guard := some (18, true) }) rfl (by first | rfl | (simp [Region.wanted, yielded]; done)) ?_)
          (try simp only [Act.put, List.setIfInBounds_toArray, List.set_cons_zero, List.set_cons_succ])
          first | (refine mix_read (o := { dst := some 92, op := Op.move (Operand.tmp 91), type := 4, pos := "law.go:84", after := #[{ on := 20, ground := Ground.data }, { on := 18, ground := Ground.chain }, { on := 18, ground := Ground.guard }], guard := some (18, true) }) rfl (by first | rfl | (simp [Region.wanted, yielded]; done)) (by intro w_ hE_; (try dsimp only at hE_); first | (go_simp; done) | (go_simp; rfl)) ?_) | (refine mix_skip (o := { dst := some 92, op := Op.move (Operand.tmp 91), type := 4, pos := "law.go:84", after := #[{ on := 20, ground := Ground.data }, { on := 18, ground := Ground.chain }, { on := 18, ground := Ground.guard }], guard := some (18, true) }) rfl (by first | rfl | (simp [Region.wanted, yielded]; done)) ?_)
          (try simp only [Act.put, List.setIfInBounds_toArray, List.set_cons_zero, List.set_cons_succ])
          refine mix_skip (o := { dst := some 93, op := Op.move (Operand.tmp 17), type := 22, pos := "law.go:84", after := #[{ on := 21, ground := Ground.guard }], guard := some (21, false) }) rfl (by first | rfl | (simp [Region.wanted, yielded]; done)) ?_
          (try simp only [Act.put, List.setIfInBounds_toArray, List.set_cons_zero, List.set_cons_succ])
          refine mix_skip (o := { dst := some 94, op := Op.convert 22 9 (Operand.tmp 93), type := 9, pos := "law.go:84", after := #[{ on := 22, ground := Ground.data }, { on := 21, ground := Ground.guard }], guard := some (21, false) }) rfl (by first | rfl | (simp [Region.wanted, yielded]; done)) ?_
          (try simp only [Act.put, List.setIfInBounds_toArray, List.set_cons_zero, List.set_cons_succ])
          refine mix_skip (o := { dst := some 95, op := Op.move (Operand.tmp 14), type := 32, pos := "law.go:84", after := #[{ on := 21, ground := Ground.guard }], guard := some (21, false) }) rfl (by first | rfl | (simp [Region.wanted, yielded]; done)) ?_
          (try simp only [Act.put, List.setIfInBounds_toArray, List.set_cons_zero, List.set_cons_succ])
          refine mix_skip (o := { dst := some 96, op := Op.indexAddr 32 (Operand.tmp 95) (Operand.const (Value.int IntKind.i64 0)), type := 0, pos := "law.go:84", after := #[{ on := 24, ground := Ground.data }, { on := 21, ground := Ground.guard }], guard := some (21, false) }) rfl (by first | rfl | (simp [Region.wanted, yielded]; done)) ?_
          (try simp only [Act.put, List.setIfInBounds_toArray, List.set_cons_zero, List.set_cons_succ])
          refine mix_skip (o := { dst := some 97, op := Op.load 22 (Operand.tmp 96), type := 22, pos := "law.go:84", after := #[{ on := 25, ground := Ground.data }, { on := 21, ground := Ground.guard }], guard := some (21, false) }) rfl (by first | rfl | (simp [Region.wanted, yielded]; done)) ?_
          (try simp only [Act.put, List.setIfInBounds_toArray, List.set_cons_zero, List.set_cons_succ])
          refine mix_skip (o := { dst := some 98, op := Op.convert 22 9 (Operand.tmp 97), type := 9, pos := "law.go:84", after := #[{ on := 26, ground := Ground.data }, { on := 21, ground := Ground.guard }], guard := some (21, false) }) rfl (by first | rfl | (simp [Region.wanted, yielded]; done)) ?_
          (try simp only [Act.put, List.setIfInBounds_toArray, List.set_cons_zero, List.set_cons_succ])
          refine mix_skip (o := { dst := some 99, op := Op.binOp BinOp.eql 9 (Operand.tmp 94) (Operand.tmp 98) 9, type := 4, pos := "law.go:84", after := #[{ on := 23, ground := Ground.data }, { on := 27, ground := Ground.data }, { on := 21, ground := Ground.guard }], guard := some (21, false) }) rfl (by first | rfl | (simp [Region.wanted, yielded]; done)) ?_
          (try simp only [Act.put, List.setIfInBounds_toArray, List.set_cons_zero, List.set_cons_succ])
          first | (refine mix_read (o := { dst := some 100, op := Op.pick (Operand.tmp 92) (Operand.const (Value.bool true)) (Operand.tmp 99), type := 4, pos := "law.go:84", after := #[{ on := 21, ground := Ground.data }, { on := 28, ground := Ground.data }, { on := 18, ground := Ground.guard }], guard := some (18, true) }) rfl (by first | rfl | (simp [Region.wanted, yielded]; done)) (by intro w_ hE_; (try dsimp only at hE_); first | (go_simp; done) | (go_simp; rfl)) ?_) | (refine mix_skip (o := { dst := some 100, op := Op.pick (Operand.tmp 92) (Operand.const (Value.bool true)) (Operand.tmp 99), type := 4, pos := "law.go:84", after := #[{ on := 21, ground := Ground.data }, { on := 28, ground := Ground.data }, { on := 18, ground := Ground.guard }], guard := some (18, true) }) rfl (by first | rfl | (simp [Region.wanted, yielded]; done)) ?_)
          (try simp only [Act.put, List.setIfInBounds_toArray, List.set_cons_zero, List.set_cons_succ])
          (refine mix_read (o := { dst := some 101, op := Op.pick (Operand.tmp 89) (Operand.tmp 100) (Operand.const (Value.bool false)), type := 4, pos := "law.go:84", after := #[{ on := 18, ground := Ground.data }, { on := 29, ground := Ground.data }], guard := none }) rfl (by first | rfl | (simp [Region.wanted, yielded]; done)) (by intro w_ hE_; (try dsimp only at hE_); first | (go_simp; done) | (go_simp; rfl)) ?_)
          (try simp only [Act.put, List.setIfInBounds_toArray, List.set_cons_zero, List.set_cons_succ])
          (refine mix_read (o := { dst := some 8, op := Op.assign (Operand.tmp 101), type := 4, pos := "law.go:84", after := #[{ on := 30, ground := Ground.data }, { on := 21, ground := Ground.chain }, { on := 0, ground := Ground.phase }, { on := 1, ground := Ground.phase }, { on := 2, ground := Ground.phase }, { on := 3, ground := Ground.phase }, { on := 4, ground := Ground.phase }, { on := 5, ground := Ground.phase }, { on := 6, ground := Ground.phase }, { on := 7, ground := Ground.phase }, { on := 8, ground := Ground.phase }, { on := 9, ground := Ground.phase }, { on := 10, ground := Ground.phase }, { on := 11, ground := Ground.phase }, { on := 12, ground := Ground.phase }, { on := 13, ground := Ground.phase }, { on := 14, ground := Ground.phase }, { on := 15, ground := Ground.phase }, { on := 16, ground := Ground.phase }, { on := 17, ground := Ground.phase }, { on := 18, ground := Ground.phase }, { on := 19, ground := Ground.phase }, { on := 20, ground := Ground.phase }, { on := 21, ground := Ground.phase }, { on := 22, ground := Ground.phase }, { on := 23, ground := Ground.phase }, { on := 24, ground := Ground.phase }, { on := 25, ground := Ground.phase }, { on := 26, ground := Ground.phase }, { on := 27, ground := Ground.phase }, { on := 28, ground := Ground.phase }, { on := 29, ground := Ground.phase }, { on := 30, ground := Ground.phase }], guard := none }) rfl (by first | rfl | (simp [Region.wanted, yielded]; done)) (by intro w_ hE_; (try dsimp only at hE_); first | (go_simp; done) | (go_simp; rfl)) ?_)
          (try simp only [Act.put, List.setIfInBounds_toArray, List.set_cons_zero, List.set_cons_succ])
          refine mix_nil ?_
          go_wp2_with fail
          go_ret
          exact ⟨by simp, HZ1.out⟩
      · have k1 : ((Ls.length : Int) == 1) = false := beq_eq_false_iff_ne.2 (by omega)
        have hoo := HWL.out.2 (fun h => hw1 h.1)
        subst hoo
        clear hw1
        go_wp2_with fail
        refine wp_region_mix (fun w_ w1_ => Below w_.heap.size w_ w1_) [(false, 0), (false, 1), (true, 2), (false, 3), (false, 4), (false, 5), (false, 6), (false, 7), (false, 8), (false, 9), (false, 10), (false, 11), (false, 12), (false, 13), (false, 14), (false, 15), (false, 16), (false, 17), (false, 18), (false, 19), (false, 20), (false, 21), (false, 22), (false, 23), (false, 24), (false, 25), (false, 26), (false, 27), (false, 28), (false, 29), (false, 30), (false, 31)] (by kernel_rfl) (by kernel_rfl) (fun _ => Below.refl _ _) (fun h h' => below_step h h') (fun wd hhp_ hbw_ => ?_)
        have HZw := Aside0.mk hbw_
        have HZ0 := Aside0.mk (below_step HB8.out hbw_)
        clear hhp_ hbw_
        (refine mix_read (o := { dst := some 71, op := Op.move (Operand.tmp 11), type := 32, pos := "law.go:84", after := #[], guard := none }) rfl (by first | rfl | (simp [Region.wanted, yielded]; done)) (by intro w_ hE_; (try dsimp only at hE_); first | (go_simp; done) | (go_simp; rfl)) ?_)
        (try simp only [Act.put, List.setIfInBounds_toArray, List.set_cons_zero, List.set_cons_succ])
        (refine mix_read (o := { dst := some 72, op := Op.move (Operand.tmp 14), type := 32, pos := "law.go:84", after := #[], guard := none }) rfl (by first | rfl | (simp [Region.wanted, yielded]; done)) (by intro w_ hE_; (try dsimp only at hE_); first | (go_simp; done) | (go_simp; rfl)) ?_)
        (try simp only [Act.put, List.setIfInBounds_toArray, List.set_cons_zero, List.set_cons_succ])
        refine mix_call (o := { dst := some 73, op := Op.call { callee := Callee.value (Operand.func 29), args := #[Operand.tmp 71, Operand.tmp 72], argTypes := #[32, 32] }, type := 4, pos := "law.go:84", after := #[{ on := 0, ground := Ground.data }, { on := 1, ground := Ground.data }], guard := none }) rfl (by first | rfl | (simp [Region.wanted, yielded]; done)) (by first | (go_simp; done) | (go_simp; exact ⟨rfl, rfl⟩) | (go_simp; rfl)) ?_
        refine (HSA.out _ (Kd.C_below HV68.out HZw.out) (Kd.C_below HV78.out HZw.out)).mono ?_
        rintro e_ x1 ⟨rfl, hb⟩
        have HZ1 := Aside0.mk (below_step HZ0.out hb)
        refine ⟨_, rfl, hb, ?_⟩
        clear hb
        (try simp only [Act.put, List.setIfInBounds_toArray, List.set_cons_zero, List.set_cons_succ])
        (refine mix_read (o := { dst := some 74, op := Op.move (Operand.tmp 73), type := 4, pos := "law.go:84", after := #[{ on := 2, ground := Ground.data }, { on := 2, ground := Ground.chain }], guard := none }) rfl (by first | rfl | (simp [Region.wanted, yielded]; done)) (by intro w_ hE_; (try dsimp only at hE_); first | (go_simp; done) | (go_simp; rfl)) ?_)
        (try simp only [Act.put, List.setIfInBounds_toArray, List.set_cons_zero, List.set_cons_succ])
        first | (refine mix_read (o := { dst := some 75, op := Op.move (Operand.tmp 12), type := 3, pos := "law.go:84", after := #[{ on := 3, ground := Ground.guard }], guard := some (3, true) }) rfl (by first | rfl | (simp [Region.wanted, yielded]; done)) (by intro w_ hE_; (try dsimp only at hE_); first | (go_simp; done) | (go_simp; rfl)) ?_) | (refine mix_skip (o := { dst := some 75, op := Op.move (Operand.tmp 12), type := 3, pos := "law.go:84", after := #[{ on := 3, ground := Ground.guard }], guard := some (3, true) }) rfl (by first | rfl | (simp [Region.wanted, yielded]; done)) ?_)
        (try simp only [Act.put, List.setIfInBounds_toArray, List.set_cons_zero, List.set_cons_succ])
        first | (refine mix_read (o := { dst := some 76, op := Op.move (Operand.tmp 15), type := 3, pos := "law.go:84", after := #[{ on := 3, ground := Ground.guard }], guard := some (3, true) }) rfl (by first | rfl | (simp [Region.wanted, yielded]; done)) (by intro w_ hE_; (try dsimp only at hE_); first | (go_simp; done) | (go_simp; rfl)) ?_) | (refine mix_skip (o := { dst := some 76, op := Op.move (Operand.tmp 15), type := 3, pos := "law.go:84", after := #[{ on := 3, ground := Ground.guard }], guard := some (3, true) }) rfl (by first | rfl | (simp [Region.wanted, yielded]; done)) ?_)
        (try simp only [Act.put, List.setIfInBounds_toArray, List.set_cons_zero, List.set_cons_succ])
        first | (refine mix_read (o := { dst := some 77, op := Op.binOp BinOp.eql 3 (Operand.tmp 75) (Operand.tmp 76) 3, type := 4, pos := "law.go:84", after := #[{ on := 4, ground := Ground.data }, { on := 5, ground := Ground.data }, { on := 3, ground := Ground.guard }], guard := some (3, true) }) rfl (by first | rfl | (simp [Region.wanted, yielded]; done)) (by intro w_ hE_; (try dsimp only at hE_); first | (go_simp; done) | (go_simp; rfl)) ?_) | (refine mix_skip (o := { dst := some 77, op := Op.binOp BinOp.eql 3 (Operand.tmp 75) (Operand.tmp 76) 3, type := 4, pos := "law.go:84", after := #[{ on := 4, ground := Ground.data }, { on := 5, ground := Ground.data }, { on := 3, ground := Ground.guard }], guard := some (3, true) }) rfl (by first | rfl | (simp [Region.wanted, yielded]; done)) ?_)
        (try simp only [Act.put, List.setIfInBounds_toArray, List.set_cons_zero, List.set_cons_succ])
        (refine mix_read (o := { dst := some 78, op := Op.pick (Operand.tmp 74) (Operand.tmp 77) (Operand.const (Value.bool false)), type := 4, pos := "law.go:84", after := #[{ on := 3, ground := Ground.data }, { on := 6, ground := Ground.data }], guard := none }) rfl (by first | rfl | (simp [Region.wanted, yielded]; done)) (by intro w_ hE_; (try dsimp only at hE_); first | (go_simp; done) | (go_simp; rfl)) ?_)
        (try simp only [Act.put, List.setIfInBounds_toArray, List.set_cons_zero, List.set_cons_succ])
        (refine mix_read (o := { dst := some 79, op := Op.move (Operand.tmp 78), type := 4, pos := "law.go:84", after := #[{ on := 7, ground := Ground.data }, { on := 3, ground := Ground.chain }], guard := none }) rfl (by first | rfl | (simp [Region.wanted, yielded]; done)) (by intro w_ hE_; (try dsimp only at hE_); first | (go_simp; done) | (go_simp; rfl)) ?_)
        (try simp only [Act.put, List.setIfInBounds_toArray, List.set_cons_zero, List.set_cons_succ])
        first | (refine mix_read (o := { dst := some 80, op := Op.move (Operand.tmp 13), type := 4, pos := "law.go:84", after := #[{ on := 8, ground := Ground.guard }], guard := some (8, true) }) rfl (by first | rfl | (simp [Region.wanted, yielded]; done)) (by intro w_ hE_; (try dsimp only at hE_); first | (go_simp; done) | (go_simp; rfl)) ?_) | (refine mix_skip (o := { dst := some 80, op := Op.move (Operand.tmp 13), type := 4, pos := "law.go:84", after := #[{ on := 8, ground := Ground.guard }], guard := some (8, true) }) rfl (by first | rfl | (simp [Region.wanted, yielded]; done)) ?_)
        (try simp only [Act.put, List.setIfInBounds_toArray, List.set_cons_zero, List.set_cons_succ])
        first | (refine mix_read (o := { dst := some 81, op := Op.move (Operand.tmp 16), type := 4, pos := "law.go:84", after := #[{ on := 8, ground := Ground.guard }], guard := some (8, true) }) rfl (by first | rfl | (simp [Region.wanted, yielded]; done)) (by intro w_ hE_; (try dsimp only at hE_); first | (go_simp; done) | (go_simp; rfl)) ?_) | (refine mix_skip (o := { dst := some 81, op := Op.move (Operand.tmp 16), type := 4, pos := "law.go:84", after := #[{ on := 8, ground := Ground.guard }], guard := some (8, true) }) rfl (by first | rfl | (simp [Region.wanted, yielded]; done)) ?_)
        (try simp only [Act.put, List.setIfInBounds_toArray, List.set_cons_zero, List.set_cons_succ])
        first | (refine mix_read (o := { dst := some 82, op := Op.binOp BinOp.eql 4 (Operand.tmp 80) (Operand.tmp 81) 4, type := 4, pos := "law.go:84", after := #[{ on := 9, ground := Ground.data }, { on := 10, ground := Ground.data }, { on := 8, ground := Ground.guard }], guard := some (8, true) }) rfl (by first | rfl | (simp [Region.wanted, yielded]; done)) (by intro w_ hE_; (try dsimp only at hE_); first | (go_simp; done) | (go_simp; rfl)) ?_) | (refine mix_skip (o := { dst := some 82, op := Op.binOp BinOp.eql 4 (Operand.tmp 80) (Operand.tmp 81) 4, type := 4, pos := "law.go:84", after := #[{ on := 9, ground := Ground.data }, { on := 10, ground := Ground.data }, { on := 8, ground := Ground.guard }], guard := some (8, true) }) rfl (by first | rfl | (simp [Region.wanted, yielded]; done)) ?_)
        (try simp only [Act.put, List.setIfInBounds_toArray, List.set_cons_zero, List.set_cons_succ])
        (refine mix_read (o := { dst := some 83, op := Op.pick (Operand.tmp 79) (Operand.tmp 82) (Operand.const (Value.bool false)), type := 4, pos := "law.go:84", after := #[{ on := 8, ground := Ground.data }, { on := 11, ground := Ground.data }], guard := none }) rfl (by first | rfl | (simp [Region.wanted, yielded]; done)) (by intro w_ hE_; (try dsimp only at hE_); first | (go_simp; done) | (go_simp; rfl)) ?_)
        (try simp only [Act.put, List.setIfInBounds_toArray, List.set_cons_zero, List.set_cons_succ])
        (refine mix_read (o := { dst := some 84, op := Op.move (Operand.tmp 83), type := 4, pos := "law.go:84", after := #[{ on := 12, ground := Ground.data }, { on := 8, ground := Ground.chain }], guard := none }) rfl (by first | rfl | (simp [Region.wanted, yielded]; done)) (by intro w_ hE_; (try dsimp only at hE_); first | (go_simp; done) | (go_simp; rfl)) ?_)
        (try simp only [Act.put, List.setIfInBounds_toArray, List.set_cons_zero, List.set_cons_succ])
        first | (refine mix_read (o := { dst := some 85, op := Op.move (Operand.tmp 18), type := 4, pos := "law.go:84", after := #[{ on := 13, ground := Ground.guard }], guard := some (13, true) }) rfl (by first | rfl | (simp [Region.wanted, yielded]; done)) (by intro w_ hE_; (try dsimp only at hE_); first | (go_simp; done) | (go_simp; rfl)) ?_) | (refine mix_skip (o := { dst := some 85, op := Op.move (Operand.tmp 18), type := 4, pos := "law.go:84", after := #[{ on := 13, ground := Ground.guard }], guard := some (13, true) }) rfl (by first | rfl | (simp [Region.wanted, yielded]; done)) ?_)
        (try simp only [Act.put, List.setIfInBounds_toArray, List.set_cons_zero, List.set_cons_succ])
        first | (refine mix_read (o := { dst := some 86, op := Op.move (Operand.tmp 19), type := 4, pos := "law.go:84", after := #[{ on := 13, ground := Ground.guard }], guard := some (13, true) }) rfl (by first | rfl | (simp [Region.wanted, yielded]; done)) (by intro w_ hE_; (try dsimp only at hE_); first | (go_simp; done) | (go_simp; rfl)) ?_) | (refine mix_skip (o := { dst := some 86, op := Op.move (Operand.tmp 19), type := 4, pos := "law.go:84", after := #[{ on := 13, ground := Ground.guard }], guard := some (13, true) }) rfl (by first | rfl | (simp [Region.wanted, yielded]; done)) ?_)
        (try simp only [Act.put, List.setIfInBounds_toArray, List.set_cons_zero, List.set_cons_succ])
        first | (refine mix_read (o := { dst := some 87, op := Op.binOp BinOp.eql 4 (Operand.tmp 85) (Operand.tmp 86) 4, type := 4, pos := "law.go:84", after := #[{ on := 14, ground := Ground.data }, { on := 15, ground := Ground.data }, { on := 13, ground := Ground.guard }], guard := some (13, true) }) rfl (by first | rfl | (simp [Region.wanted, yielded]; done)) (by intro w_ hE_; (try dsimp only at hE_); first | (go_simp; done) | (go_simp; rfl)) ?_) | (refine mix_skip (o := { dst := some 87, op := Op.binOp BinOp.eql 4 (Operand.tmp 85) (Operand.tmp 86) 4, type := 4, pos := "law.go:84", after := #[{ on := 14, ground := Ground.data }, { on := 15, ground := Ground.data }, { on := 13, ground := Ground.guard }], guard := some (13, true) }) rfl (by first | rfl | (simp [Region.wanted, yielded]; done)) ?_)
        (try simp only [Act.put, List.setIfInBounds_toArray, List.set_cons_zero, List.set_cons_succ])
        (refine mix_read (o := { dst := some 88, op := Op.pick (Operand.tmp 84) (Operand.tmp 87) (Operand.const (Value.bool false)), type := 4, pos := "law.go:84", after := #[{ on := 13, ground := Ground.data }, { on := 16, ground := Ground.data }], guard := none }) rfl (by first | rfl | (simp [Region.wanted, yielded]; done)) (by intro w_ hE_; (try dsimp only at hE_); first | (go_simp; done) | (go_simp; rfl)) ?_)
        (try simp only [Act.put, List.setIfInBounds_toArray, List.set_cons_zero, List.set_cons_succ])
        (refine mix_read (o := { dst := some 89, op := Op.move (Operand.tmp 88), type := 4, pos := "law.go:84", after := #[{ on := 17, ground := Ground.data }, { on := 13, ground := Ground.chain }], guard := none }) rfl (by first | rfl | (simp [Region.wanted, yielded]; done)) (by intro w_ hE_; (try dsimp only at hE_); first | (go_simp; done) | (go_simp; rfl)) ?_)
        (try simp only [Act.put, List.setIfInBounds_toArray, List.set_cons_zero, List.set_cons_succ])
        first | (refine mix_read (o := { dst := some 90, op := Op.move (Operand.tmp 19), type := 4, pos := "law.go:84", after := #[{ on := 18, ground := Ground.guard }], guard := some (18, true) }) rfl (by first | rfl | (simp [Region.wanted, yielded]; done)) (by intro w_ hE_; (try dsimp only at hE_); first | (go_simp; done) | (go_simp; rfl)) ?_) | (refine mix_skip (o := { dst := some 90, op := Op.move (Operand.tmp 19), type := 4, pos := "law.go:84", after := #[{ on := 18, ground := Ground.guard }], guard := some (18, true) }) rfl (by first | rfl | (simp [Region.wanted, yielded]; done)) ?_)
        (try simp only [Act.put, List.setIfInBounds_toArray, List.set_cons_zero, List.set_cons_succ])
        first | (refine mix_read (o := { dst := some 91, op := Op.unOp UnOp.not 4 (Operand.tmp 90), type := 4, pos := "law.go:84", after := #[{ on := 19, ground := Ground.data }, { on := 18, ground := Ground.guard }], guard := some (18, true) }) rfl (by first | rfl | (simp [Region.wanted, yielded]; done)) (by intro w_ hE_; (try dsimp only at hE_); first | (go_simp; done) | (go_simp; rfl)) ?_) | (refine mix_skip (o := { dst := some 91, op := Op.unOp UnOp.not 4 (Operand.tmp 90), type := 4, pos := "law.go:84", after := #[{ on := 19, ground := Ground.data }, { on := 18, ground := Ground.guard }], guard := some (18, true) }) rfl (by first | rfl | (simp [Region.wanted, yielded]; done)) ?_)
        (try simp only [Act.put, List.setIfInBounds_toArray, List.set_cons_zero, List.set_cons_succ])
        first | (refine mix_read (o := { dst := some 92, op := Op.move (Operand.tmp 91), type := 4, pos := "law.go:84", after := #[{ on := 20, ground := Ground.data }, { on := 18, ground := Ground.chain }, { on := 18, ground := Ground.guard }], guard := some (18, true) }) rfl (by first | rfl | (simp [Region.wanted, yielded]; done)) (by intro w_ hE_; (try dsimp only at hE_); first | (go_simp; done) | (go_simp; rfl)) ?_) | (refine mix_skip (o := { dst := some 92, op := Op.move (Operand.tmp 91), type := 4, pos := "law.go:84", after := #[{ on := 20, ground := Ground.data }, { on := 18, ground := Ground.chain }, { on := 18, ground := Ground.guard }], guard := some (18, true) }) rfl (by first | rfl | (simp [Region.wanted, yielded]; done)) ?_)
        (try simp only [Act.put, List.setIfInBounds_toArray, List.set_cons_zero, List.set_cons_succ])
        refine mix_skip (o := { dst := some 93, op := Op.move (Operand.tmp 17), type := 22, pos := "law.go:84", after := #[{ on := 21, ground := Ground.guard }], guard := some (21, false) }) rfl (by first | rfl | (simp [Region.wanted, yielded]; done)) ?_
        (try simp only [Act.put, List.setIfInBounds_toArray, List.set_cons_zero, List.set_cons_succ])
        refine mix_skip (o := { dst := some 94, op := Op.convert 22 9 (Operand.tmp 93), type := 9, pos := "law.go:84", after := #[{ on := 22, ground := Ground.data }, { on := 21, ground := Ground.guard }], guard := some (21, false) }) rfl (by first | rfl | (simp [Region.wanted, yielded]; done)) ?_
        (try simp only [Act.put, List.setIfInBounds_toArray, List.set_cons_zero, List.set_cons_succ])
        refine mix_skip (o := { dst := some 95, op := Op.move (Operand.tmp 14), type := 32, pos := "law.go:84", after := #[{ on := 21, ground := Ground.guard }], guard := some (21, false) }) rfl (by first | rfl | (simp [Region.wanted, yielded]; done)) ?_
        (try simp only [Act.put, List.setIfInBounds_toArray, List.set_cons_zero, List.set_cons_succ])
        refine mix_skip (o := { dst := some 96, op := Op.indexAddr 32 (Operand.tmp 95) (Operand.const (Value.int IntKind.i64 0)), type := 0, pos := "law.go:84", after := #[{ on := 24, ground := Ground.data }, { on := 21, ground := Ground.guard }], guard := some (21, false) }) rfl (by first | rfl | (simp [Region.wanted, yielded]; done)) ?_
        (try simp only [Act.put, List.setIfInBounds_toArray, List.set_cons_zero, List.set_cons_succ])
        refine mix_skip (o := { dst := some 97, op := Op.load 22 (Operand.tmp 96), type := 22, pos := "law.go:84", after := #[{ on := 25, ground := Ground.data }, { on := 21, ground := Ground.guard }], guard := some (21, false) }) rfl (by first | rfl | (simp [Region.wanted, yielded]; done)) ?_
        (try simp only [Act.put, List.setIfInBounds_toArray, List.set_cons_zero, List.set_cons_succ])
        refine mix_skip (o := { dst := some 98, op := Op.convert 22 9 (Operand.tmp 97), type := 9, pos := "law.go:84", after := #[{ on := 26, ground := Ground.data }, { on := 21, ground := Ground.guard }], guard := some (21, false) }) rfl (by first | rfl | (simp [Region.wanted, yielded]; done)) ?_
        (try simp only [Act.put, List.setIfInBounds_toArray, List.set_cons_zero, List.set_cons_succ])
        refine mix_skip (o := { dst := some 99, op := Op.binOp BinOp.eql 9 (Operand.tmp 94) (Operand.tmp 98) 9, type := 4, pos := "law.go:84", after := #[{ on := 23, ground := Ground.data }, { on := 27, ground := Ground.data }, { on := 21, ground := Ground.guard }], guard := some (21, false) }) rfl (by first | rfl | (simp [Region.wanted, yielded]; done)) ?_
        (try simp only [Act.put, List.setIfInBounds_toArray, List.set_cons_zero, List.set_cons_succ])
        first | (refine mix_read (o := { dst := some 100, op := Op.pick (Operand.tmp 92) (Operand.const (Value.bool true)) (Operand.tmp 99), type := 4, pos := "law.go:84", after := #[{ on := 21, ground := Ground.data }, { on := 28, ground := Ground.data }, { on := 18, ground := Ground.guard }], guard := some (18, true) }) rfl (by first | rfl | (simp [Region.wanted, yielded]; done)) (by intro w_ hE_; (try dsimp only at hE_); first | (go_simp; done) | (go_simp; rfl)) ?_) | (refine mix_skip (o := { dst := some 100, op := Op.pick (Operand.tmp 92) (Operand.const (Value.bool true)) (Operand.tmp 99), type := 4, pos := "law.go:84", after := #[{ on := 21, ground := Ground.data }, { on := 28, ground := Ground.data }, { on := 18, ground := Ground.guard }], guard := some (18, true) }) rfl (by first | rfl | (simp [Region.wanted, yielded]; done)) ?_)
        (try simp only [Act.put, List.setIfInBounds_toArray, List.set_cons_zero, List.set_cons_succ])
        (refine mix_read (o := { dst := some 101, op := Op.pick (Operand.tmp 89) (Operand.tmp 100) (Operand.const (Value.bool false)), type := 4, pos := "law.go:84", after := #[{ on := 18, ground := Ground.data }, { on := 29, ground := Ground.data }], guard := none }) rfl (by first | rfl | (simp [Region.wanted, yielded]; done)) (by intro w_ hE_; (try dsimp only at hE_); first | (go_simp; done) | (go_simp; rfl)) ?_)
        (try simp only [Act.put, List.setIfInBounds_toArray, List.set_cons_zero, List.set_cons_succ])
        (refine mix_read (o := { dst := some 8, op := Op.assign (Operand.tmp 101), type := 4, pos := "law.go:84", after := #[{ on := 30, ground := Ground.data }, { on := 21, ground := Ground.chain }, { on := 0, ground := Ground.phase }, { on := 1, ground := Ground.phase }, { on := 2, ground := Ground.phase }, { on := 3, ground := Ground.phase }, { on := 4, ground := Ground.phase }, { on := 5, ground := Ground.phase }, { on := 6, ground := Ground.phase }, { on := 7, ground := Ground.phase }, { on := 8, ground := Ground.phase }, { on := 9, ground := Ground.phase }, { on := 10, ground := Ground.phase }, { on := 11, ground := Ground.phase }, { on := 12, ground := Ground.phase }, { on := 13, ground := Ground.phase }, { on := 14, ground := Ground.phase }, { on := 15, ground := Ground.phase }, { on := 16, ground := Ground.phase }, { on := 17, ground := Ground.phase }, { on := 18, ground := Ground.phase }, { on := 19, ground := Ground.phase }, { on := 20, ground := Ground.phase }, { on := 21, ground := Ground.phase }, { on := 22, ground := Ground.phase }, { on := 23, ground := Ground.phase }, { on := 24, ground := Ground.phase }, { on := 25, ground := Ground.phase }, { on := 26, ground := Ground.phase }, { on := 27, ground := Ground.phase }, { on := 28, ground := Ground.phase }, { on := 29, ground := Ground.phase }, { on := 30, ground := Ground.phase }], guard := none }) rfl (by first | rfl | (simp [Region.wanted, yielded]; done)) (by intro w_ hE_; (try dsimp only at hE_); first | (go_simp; done) | (go_simp; rfl)) ?_)
        (try simp only [Act.put, List.setIfInBounds_toArray, List.set_cons_zero, List.set_cons_succ])
        refine mix_nil ?_
        go_wp2_with fail
        go_ret
        exact ⟨by simp, HZ1.out⟩
    · have k3 : (0 ≤ a1) = True := eq_true (by omega)
      obtain ⟨k, hk⟩ := Int.eq_ofNat_of_zero_le (Int.emod_nonneg a1 (by omega : (b0.length : Int) ≠ 0))
      have hkl : k < b0.length := by have := Int.emod_lt_of_pos a1 (by omega : (0 : Int) < (b0.length : Int)); omega
      have hr1 : a1.tmod (b0.length : Int) = (k : Int) := by rw [Int.tmod_eq_emod_of_nonneg (by omega)]; exact hk
      have hr2 : IntKind.i64.wrap (k : Int) = (k : Int) := by have := HBXL.out; rw [IntKind.wrap_i64]; omega
      have hxb := rd_bys HBB.out hkl
      obtain ⟨y, hy⟩ : ∃ y, rd b0 (k : Int) = y := ⟨_, rfl⟩
      obtain ⟨z, hz⟩ : ∃ z, bits .xor .u8 y x = z := ⟨_, rfl⟩
      rw [hy] at hxb
      have hzv := u8_xor y x hxb.1 hxb.2 hx.1 hx.2
      rw [hz] at hzv
      have hzb : 0 ≤ z ∧ z < 256 := by
        have : y.toNat ^^^ x.toNat < 2 ^ 8 := Nat.xor_lt_two_pow (by omega) (by omega)
        omega
      have HYY := Aside0.mk hy
      have hbs : Bys (b0.set k z) := bys_set HBB.out hzb
      have hln : (b0.set k z).length = b0.length := List.length_set
      have HBS := Aside0.mk (And.intro hbs hln)
      have hkz : ((k : Int) < (b0.length : Int)) = True := eq_true (by omega)
      clear hzv hzb hy hbs hln h2
      go_wp2_with ((with_reducible refine gate_builtin (b := .append) (xs := #[.tmp 24, .tmp 26]) rfl ?_); at_builtin; go_must (refine Kd.R_append_row (Value.int .u8) (0) (h1 := fun _ => rfl) (w0 := w) (w.heap.size) rfl (.tmp 24) (.tmp 26) 22 5 (.int .u8 0) 1 rfl Try.underlying22 info5 rfl (by decide) v2 b t A2 (t.length) c2 (fun _ => True) rfl rfl (fun _ _ => trivial) (HO2.out) (HT2.out) (HB2.out) (Below.size (HB2.out)) ?aL_ ?_; (case aL_ => have := HBL.out; omega); intro v4 w4 ho hb hg hat; have HO4 := Aside0.mk ho; have HB4 := Aside0.mk hb; have ho5 := HO4.out; rw [HBE.out] at ho5; obtain ⟨g, cx, e4, hgb, hgl, hj_⟩ := Kd.R_form ho5 h0; subst e4; have hcl := Kd.R_cell 0 ho5 (k : Int) (by omega) (by omega); obtain ⟨hpr, hpg⟩ := Kd.R_put ho5 (k : Int) z; rw [Int.toNat_natCast] at hcl hpr hpg; rw [show rdOf 0 b0 (k : Int) = y from HYY.out] at hcl; obtain ⟨hc1, hc2⟩ := hcl; have HPR := Aside0.mk hpr; have HB5 := Aside0.mk (pw_below_grown HB4.out (some g) HB4.out.size hpg (fun q hq => by simp at hq; omega)); clear hj_ hpr hpg ho5 HO4 HB4; clear ho hb hg hat))
      generalize w4.setCell ⟨g, k, none⟩ (.int .u8 z) = w5 at *
      have hpr := HPR.out
      obtain ⟨bx, hbx⟩ : ∃ bx, b0.set k z = bx := ⟨_, rfl⟩
      have hbb := HBS.out
      rw [hbx] at hbb hpr
      have HBXB := Aside0.mk hbb.1
      have hlx := hbb.2
      have HBXL2 : Aside0 (bx.length ≤ 462) := ⟨by rw [hlx]; exact HBXL.out⟩
      rw [← hlx] at hpr ⊢
      have HCX := Aside0.mk (Kd.R_reads' hpr).2.2
      have HCXL := Aside0.mk (Kd.R_reads' hpr).2.1
      have HBX := HB5
      clear HBXL
      have HBXL := HBXL2
      clear hpr hbb hbx HPR HB5 HBS HBB HBE HYY HO2 HB2 HT2 hkz hkl hr1 hr2 hk kk k3 hc1 hc2 h0 hlx hxb HBXL2 hz
      generalize (some ⟨g, 0, none⟩ : Option Addr) = Ax at *
      have hbl : bx.length ≤ 462 := HBXL.out
      have HSC := Aside0.mk (fun w h => scan_calls Ax cx bx HBXB.out w h HCXL.out (by omega))
      have HRSC := Aside0.mk (fun w h => rscan_calls Ax cx bx HBXB.out w h HCXL.out (by omega))
      have HOP := Aside0.mk (fun w h => open_calls Ax cx bx HBXB.out w h HCXL.out (by omega))
      have hwl := whole_law bx
      have hsb := scan_bys HBXB.out
      have hsl := scan_len bx
      obtain ⟨Ls, hLs⟩ : ∃ q, (scanL bx).1 = q := ⟨_, rfl⟩
      obtain ⟨Nn, hNn⟩ : ∃ q, (scanL bx).2.1 = q := ⟨_, rfl⟩
      obtain ⟨Oo, hOo⟩ : ∃ q, (scanL bx).2.2 = q := ⟨_, rfl⟩
      rw [hLs, hNn, hOo] at HSC HRSC
      rw [hLs, hNn] at hwl
      rw [hLs] at hsb hsl
      clear hLs hNn hOo
      obtain ⟨yo, hyo⟩ : ∃ q, (openL bx).1 = q := ⟨_, rfl⟩
      obtain ⟨oo, hoo⟩ : ∃ q, (openL bx).2 = q := ⟨_, rfl⟩
      rw [hyo, hoo] at HOP hwl
      clear hyo hoo
      have HSB := Aside0.mk (And.intro hsb hsl)
      have HWL := Aside0.mk hwl
      clear hsb hsl hwl hbl
      refine (HSC.out _ HCX.out).mono ?_
      rintro e_ w6 ⟨v6, rfl, ho, hb⟩
      obtain ⟨A6, c6, rfl⟩ := Kd.R_slice ho
      have HV6 := Aside0.mk (Kd.R_reads' ho)
      have HX6 := Aside0.mk (Kd.C_below HCX.out hb)
      have HB6 := Aside0.mk (below_step HBX.out hb)
      clear ho hb
      go_wp2_with fail
      refine (HRSC.out _ HX6.out).mono ?_
      rintro e_ w7 ⟨v7, rfl, ho, hb⟩
      obtain ⟨A7, c7, rfl⟩ := Kd.R_slice ho
      have HV7 := Aside0.mk (fixed_C (Kd.R_reads' ho).2.2 hb)
      have HX7 := Aside0.mk (Kd.C_below HX6.out hb)
      have HV67 := Aside0.mk (Kd.C_below HV6.out.2.2 hb)
      have HB7 := Aside0.mk (below_step HB6.out hb)
      clear ho hb
      go_wp2_with fail
      refine (HOP.out _ HX7.out).mono ?_
      rintro e_ w8 ⟨v8, rfl, ho, hb⟩
      obtain ⟨A8, c8, rfl⟩ := Kd.R_slice ho
      have HV8 := Aside0.mk (Kd.R_reads' ho).2.2
      have HV68 := Aside0.mk (Kd.C_below HV67.out hb)
      have HV78 := Aside0.mk (Kd.C_below HV7.out hb)
      have HB8 := Aside0.mk (below_step HB7.out hb)
      clear ho hb HSC HRSC HOP HX6 HX7 HV6 HV7 HV67 HB6 HB7 HCX HBX
      have HSA := Aside0.mk (fun w h1 h2 => same_calls A6 c6 Ls HSB.out.1 A7 c7 Ls HSB.out.1 w h1 (by have := HSB.out.2; have := HBXL.out; omega) h2 (by have := HSB.out.2; have := HBXL.out; omega))
      simp only [decide_true] at HSA
      by_cases hw1 : Ls.length = 1
      · have k1 : ((Ls.length : Int) == 1) = true := by simp [hw1]
        by_cases hw2 : Nn = bx.length
        · have k2 : ((Nn : Int) == (bx.length : Int)) = true := by simp [hw2]
          obtain ⟨hoo, hy⟩ := HWL.out.1 ⟨hw1, hw2⟩
          subst hoo
          subst hy
          obtain ⟨ad, A9, c9, e9, hcell, _, hC9⟩ := row_at HV78.out 0 (by omega)
          subst e9
          have HC9 := Aside0.mk hC9
          have hl0 : (0 < Ls.length) = True := eq_true (by omega)
          have HW1 := Aside0.mk hw1
          clear hw1 hw2 hC9
          generalize Ls.getD 0 [] = x0 at *
          go_wp2_with fail
          refine wp_region_mix (fun w_ w1_ => Below w_.heap.size w_ w1_) [(false, 0), (false, 1), (true, 2), (false, 3), (false, 4), (false, 5), (false, 6), (false, 7), (false, 8), (false, 9), (false, 10), (false, 11), (false, 12), (false, 13), (false, 14), (false, 15), (false, 16), (false, 17), (false, 18), (false, 19), (false, 20), (false, 21), (false, 22), (false, 23), (false, 24), (false, 25), (false, 26), (false, 27), (false, 28), (false, 29), (false, 30), (false, 31)] (by kernel_rfl) (by kernel_rfl) (fun _ => Below.refl _ _) (fun h h' => below_step h h') (fun wd hhp_ hbw_ => ?_)
          have HZw := Aside0.mk hbw_
          have HZ0 := Aside0.mk (below_step HB8.out hbw_)
          have cy0 := fun (wx : World) (h : Below wd.heap.size wd wx) => Kd.C_string (P := Try.prog) (A := A8) (c := c8) Try.underlying22 Try.underlying5 Try.underlying9 (Kd.C_below HV8.out (below_step hbw_ h))
          have cz0 := fun (wx : World) (h : Below wd.heap.size wd wx) => Kd.C_string (P := Try.prog) (A := A9) (c := c9) Try.underlying22 Try.underlying5 Try.underlying9 (Kd.C_below HC9.out (below_step hbw_ h))
          have hd0 : ∀ wx : World, Below wd.heap.size wd wx → wx.cell? ad = some (.slice A9 x0.length c9) := fun wx h => ((below_step hbw_ h).cell (World.block_lt_of_cell? w8 _ hcell)).trans hcell
          clear hhp_ hbw_
          (refine mix_read (o := { dst := some 71, op := Op.move (Operand.tmp 11), type := 32, pos := "law.go:84", after := #[], guard := none }) rfl (by first | rfl | (simp [Region.wanted, yielded]; done)) (by intro w_ hE_; (try dsimp only at hE_); first | (go_simp; done) | (go_simp; rfl)) ?_)
          (try simp only [Act.put, List.setIfInBounds_toArray, List.set_cons_zero, List.set_cons_succ])
          (refine mix_read (o := { dst := some 72, op := Op.move (Operand.tmp 14), type := 32, pos := "law.go:84", after := #[], guard := none }) rfl (by first | rfl | (simp [Region.wanted, yielded]; done)) (by intro w_ hE_; (try dsimp only at hE_); first | (go_simp; done) | (go_simp; rfl)) ?_)
          (try simp only [Act.put, List.setIfInBounds_toArray, List.set_cons_zero, List.set_cons_succ])
          refine mix_call (o := { dst := some 73, op := Op.call { callee := Callee.value (Operand.func 29), args := #[Operand.tmp 71, Operand.tmp 72], argTypes := #[32, 32] }, type := 4, pos := "law.go:84", after := #[{ on := 0, ground := Ground.data }, { on := 1, ground := Ground.data }], guard := none }) rfl (by first | rfl | (simp [Region.wanted, yielded]; done)) (by first | (go_simp; done) | (go_simp; exact ⟨rfl, rfl⟩) | (go_simp; rfl)) ?_
          refine (HSA.out _ (Kd.C_below HV68.out HZw.out) (Kd.C_below HV78.out HZw.out)).mono ?_
          rintro e_ x1 ⟨rfl, hb⟩
          have HZ1 := Aside0.mk (below_step HZ0.out hb)
          have cy1 := fun (wx : World) (h : Below x1.heap.size x1 wx) => cy0 wx (below_step hb h)
          have cz1 := fun (wx : World) (h : Below x1.heap.size x1 wx) => cz0 wx (below_step hb h)
          have hd1 : ∀ wx : World, Below x1.heap.size x1 wx → wx.cell? ad = some (.slice A9 x0.length c9) := fun wx h => hd0 wx (below_step hb h)
          refine ⟨_, rfl, hb, ?_⟩
          clear cy0 cz0 hd0
          clear hb
          (try simp only [Act.put, List.setIfInBounds_toArray, List.set_cons_zero, List.set_cons_succ])
          (refine mix_read (o := { dst := some 74, op := Op.move (Operand.tmp 73), type := 4, pos := "law.go:84", after := #[{ on := 2, ground := Ground.data }, { on := 2, ground := Ground.chain }], guard := none }) rfl (by first | rfl | (simp [Region.wanted, yielded]; done)) (by intro w_ hE_; (try dsimp only at hE_); first | (go_simp; done) | (go_simp; rfl)) ?_)
          (try simp only [Act.put, List.setIfInBounds_toArray, List.set_cons_zero, List.set_cons_succ])
          first | (refine mix_read (o := { dst := some 75, op := Op.move (Operand.tmp 12), type := 3, pos := "law.go:84", after := #[{ on := 3, ground := Ground.guard }], guard := some (3, true) }) rfl (by first | rfl | (simp [Region.wanted, yielded]; done)) (by intro w_ hE_; (try dsimp only at hE_); first | (go_simp; done) | (go_simp; rfl)) ?_) | (refine mix_skip (o := { dst := some 75, op := Op.move (Operand.tmp 12), type := 3, pos := "law.go:84", after := #[{ on := 3, ground := Ground.guard }], guard := some (3, true) }) rfl (by first | rfl | (simp [Region.wanted, yielded]; done)) ?_)
          (try simp only [Act.put, List.setIfInBounds_toArray, List.set_cons_zero, List.set_cons_succ])
          first | (refine mix_read (o := { dst := some 76, op := Op.move (Operand.tmp 15), type := 3, pos := "law.go:84", after := #[{ on := 3, ground := Ground.guard }], guard := some (3, true) }) rfl (by first | rfl | (simp [Region.wanted, yielded]; done)) (by intro w_ hE_; (try dsimp only at hE_); first | (go_simp; done) | (go_simp; rfl)) ?_) | (refine mix_skip (o := { dst := some 76, op := Op.move (Operand.tmp 15), type := 3, pos := "law.go:84", after := #[{ on := 3, ground := Ground.guard }], guard := some (3, true) }) rfl (by first | rfl | (simp [Region.wanted, yielded]; done)) ?_)
          (try simp only [Act.put, List.setIfInBounds_toArray, List.set_cons_zero, List.set_cons_succ])
          first | (refine mix_read (o := { dst := some 77, op := Op.binOp BinOp.eql 3 (Operand.tmp 75) (Operand.tmp 76) 3, type := 4, pos := "law.go:84", after := #[{ on := 4, ground := Ground.data }, { on := 5, ground := Ground.data }, { on := 3, ground := Ground.guard }], guard := some (3, true) }) rfl (by first | rfl | (simp [Region.wanted, yielded]; done)) (by intro w_ hE_; (try dsimp only at hE_); first | (go_simp; done) | (go_simp; rfl)) ?_) | (refine mix_skip (o := { dst := some 77, op := Op.binOp BinOp.eql 3 (Operand.tmp 75) (Operand.tmp 76) 3, type := 4, pos := "law.go:84", after := #[{ on := 4, ground := Ground.data }, { on := 5, ground := Ground.data }, { on := 3, ground := Ground.guard }], guard := some (3, true) }) rfl (by first | rfl | (simp [Region.wanted, yielded]; done)) ?_)
          (try simp only [Act.put, List.setIfInBounds_toArray, List.set_cons_zero, List.set_cons_succ])
          (refine mix_read (o := { dst := some 78, op := Op.pick (Operand.tmp 74) (Operand.tmp 77) (Operand.const (Value.bool false)), type := 4, pos := "law.go:84", after := #[{ on := 3, ground := Ground.data }, { on := 6, ground := Ground.data }], guard := none }) rfl (by first | rfl | (simp [Region.wanted, yielded]; done)) (by intro w_ hE_; (try dsimp only at hE_); first | (go_simp; done) | (go_simp; rfl)) ?_)
          (try simp only [Act.put, List.setIfInBounds_toArray, List.set_cons_zero, List.set_cons_succ])
          (refine mix_read (o := { dst := some 79, op := Op.move (Operand.tmp 78), type := 4, pos := "law.go:84", after := #[{ on := 7, ground := Ground.data }, { on := 3, ground := Ground.chain }], guard := none }) rfl (by first | rfl | (simp [Region.wanted, yielded]; done)) (by intro w_ hE_; (try dsimp only at hE_); first | (go_simp; done) | (go_simp; rfl)) ?_)
          (try simp only [Act.put, List.setIfInBounds_toArray, List.set_cons_zero, List.set_cons_succ])
          first | (refine mix_read (o := { dst := some 80, op := Op.move (Operand.tmp 13), type := 4, pos := "law.go:84", after := #[{ on := 8, ground := Ground.guard }], guard := some (8, true) }) rfl (by first | rfl | (simp [Region.wanted, yielded]; done)) (by intro w_ hE_; (try dsimp only at hE_); first | (go_simp; done) | (go_simp; rfl)) ?_) | (refine mix_skip (o := { dst := some 80, op := Op.move (Operand.tmp 13), type := 4, pos := "law.go:84", after := #[{ on := 8, ground := Ground.guard }], guard := some (8, true) }) rfl (by first | rfl | (simp [Region.wanted, yielded]; done)) ?_)
          (try simp only [Act.put, List.setIfInBounds_toArray, List.set_cons_zero, List.set_cons_succ])
          first | (refine mix_read (o := { dst := some 81, op := Op.move (Operand.tmp 16), type := 4, pos := "law.go:84", after := #[{ on := 8, ground := Ground.guard }], guard := some (8, true) }) rfl (by first | rfl | (simp [Region.wanted, yielded]; done)) (by intro w_ hE_; (try dsimp only at hE_); first | (go_simp; done) | (go_simp; rfl)) ?_) | (refine mix_skip (o := { dst := some 81, op := Op.move (Operand.tmp 16), type := 4, pos := "law.go:84", after := #[{ on := 8, ground := Ground.guard }], guard := some (8, true) }) rfl (by first | rfl | (simp [Region.wanted, yielded]; done)) ?_)
          (try simp only [Act.put, List.setIfInBounds_toArray, List.set_cons_zero, List.set_cons_succ])
          first | (refine mix_read (o := { dst := some 82, op := Op.binOp BinOp.eql 4 (Operand.tmp 80) (Operand.tmp 81) 4, type := 4, pos := "law.go:84", after := #[{ on := 9, ground := Ground.data }, { on := 10, ground := Ground.data }, { on := 8, ground := Ground.guard }], guard := some (8, true) }) rfl (by first | rfl | (simp [Region.wanted, yielded]; done)) (by intro w_ hE_; (try dsimp only at hE_); first | (go_simp; done) | (go_simp; rfl)) ?_) | (refine mix_skip (o := { dst := some 82, op := Op.binOp BinOp.eql 4 (Operand.tmp 80) (Operand.tmp 81) 4, type := 4, pos := "law.go:84", after := #[{ on := 9, ground := Ground.data }, { on := 10, ground := Ground.data }, { on := 8, ground := Ground.guard }], guard := some (8, true) }) rfl (by first | rfl | (simp [Region.wanted, yielded]; done)) ?_)
          (try simp only [Act.put, List.setIfInBounds_toArray, List.set_cons_zero, List.set_cons_succ])
          (refine mix_read (o := { dst := some 83, op := Op.pick (Operand.tmp 79) (Operand.tmp 82) (Operand.const (Value.bool false)), type := 4, pos := "law.go:84", after := #[{ on := 8, ground := Ground.data }, { on := 11, ground := Ground.data }], guard := none }) rfl (by first | rfl | (simp [Region.wanted, yielded]; done)) (by intro w_ hE_; (try dsimp only at hE_); first | (go_simp; done) | (go_simp; rfl)) ?_)
          (try simp only [Act.put, List.setIfInBounds_toArray, List.set_cons_zero, List.set_cons_succ])
          (refine mix_read (o := { dst := some 84, op := Op.move (Operand.tmp 83), type := 4, pos := "law.go:84", after := #[{ on := 12, ground := Ground.data }, { on := 8, ground := Ground.chain }], guard := none }) rfl (by first | rfl | (simp [Region.wanted, yielded]; done)) (by intro w_ hE_; (try dsimp only at hE_); first | (go_simp; done) | (go_simp; rfl)) ?_)
          (try simp only [Act.put, List.setIfInBounds_toArray, List.set_cons_zero, List.set_cons_succ])
          first | (refine mix_read (o := { dst := some 85, op := Op.move (Operand.tmp 18), type := 4, pos := "law.go:84", after := #[{ on := 13, ground := Ground.guard }], guard := some (13, true) }) rfl (by first | rfl | (simp [Region.wanted, yielded]; done)) (by intro w_ hE_; (try dsimp only at hE_); first | (go_simp; done) | (go_simp; rfl)) ?_) | (refine mix_skip (o := { dst := some 85, op := Op.move (Operand.tmp 18), type := 4, pos := "law.go:84", after := #[{ on := 13, ground := Ground.guard }], guard := some (13, true) }) rfl (by first | rfl | (simp [Region.wanted, yielded]; done)) ?_)
          (try simp only [Act.put, List.setIfInBounds_toArray, List.set_cons_zero, List.set_cons_succ])
          first | (refine mix_read (o := { dst := some 86, op := Op.move (Operand.tmp 19), type := 4, pos := "law.go:84", after := #[{ on := 13, ground := Ground.guard }], guard := some (13, true) }) rfl (by first | rfl | (simp [Region.wanted, yielded]; done)) (by intro w_ hE_; (try dsimp only at hE_); first | (go_simp; done) | (go_simp; rfl)) ?_) | (refine mix_skip (o := { dst := some 86, op := Op.move (Operand.tmp 19), type := 4, pos := "law.go:84", after := #[{ on := 13, ground := Ground.guard }], guard := some (13, true) }) rfl (by first | rfl | (simp [Region.wanted, yielded]; done)) ?_)
          (try simp only [Act.put, List.setIfInBounds_toArray, List.set_cons_zero, List.set_cons_succ])
          first | (refine mix_read (o := { dst := some 87, op := Op.binOp BinOp.eql 4 (Operand.tmp 85) (Operand.tmp 86) 4, type := 4, pos := "law.go:84", after := #[{ on := 14, ground := Ground.data }, { on := 15, ground := Ground.data }, { on := 13, ground := Ground.guard }], guard := some (13, true) }) rfl (by first | rfl | (simp [Region.wanted, yielded]; done)) (by intro w_ hE_; (try dsimp only at hE_); first | (go_simp; done) | (go_simp; rfl)) ?_) | (refine mix_skip (o := { dst := some 87, op := Op.binOp BinOp.eql 4 (Operand.tmp 85) (Operand.tmp 86) 4, type := 4, pos := "law.go:84", after := #[{ on := 14, ground := Ground.data }, { on := 15, ground := Ground.data }, { on := 13, ground := Ground.guard }], guard := some (13, true) }) rfl (by first | rfl | (simp [Region.wanted, yielded]; done)) ?_)
          (try simp only [Act.put, List.setIfInBounds_toArray, List.set_cons_zero, List.set_cons_succ])
          (refine mix_read (o := { dst := some 88, op := Op.pick (Operand.tmp 84) (Operand.tmp 87) (Operand.const (Value.bool false)), type := 4, pos := "law.go:84", after := #[{ on := 13, ground := Ground.data }, { on := 16, ground := Ground.data }], guard := none }) rfl (by first | rfl | (simp [Region.wanted, yielded]; done)) (by intro w_ hE_; (try dsimp only at hE_); first | (go_simp; done) | (go_simp; rfl)) ?_)
          (try simp only [Act.put, List.setIfInBounds_toArray, List.set_cons_zero, List.set_cons_succ])
          (refine mix_read (o := { dst := some 89, op := Op.move (Operand.tmp 88), type := 4, pos := "law.go:84", after := #[{ on := 17, ground := Ground.data }, { on := 13, ground := Ground.chain }], guard := none }) rfl (by first | rfl | (simp [Region.wanted, yielded]; done)) (by intro w_ hE_; (try dsimp only at hE_); first | (go_simp; done) | (go_simp; rfl)) ?_)
          (try simp only [Act.put, List.setIfInBounds_toArray, List.set_cons_zero, List.set_cons_succ])
          first | (refine mix_read (o := { dst := some 90, op := Op.move (Operand.tmp 19), type := 4, pos := "law.go:84", after := #[{ on := 18, ground := Ground.guard }], guard := some (18, true) }) rfl (by first | rfl | (simp [Region.wanted, yielded]; done)) (by intro w_ hE_; (try dsimp only at hE_); first | (go_simp; done) | (go_simp; rfl)) ?_) | (refine mix_skip (o := { dst := some 90, op := Op.move (Operand.tmp 19), type := 4, pos := "law.go:84", after := #[{ on := 18, ground := Ground.guard }], guard := some (18, true) }) rfl (by first | rfl | (simp [Region.wanted, yielded]; done)) ?_)
          (try simp only [Act.put, List.setIfInBounds_toArray, List.set_cons_zero, List.set_cons_succ])
          first | (refine mix_read (o := { dst := some 91, op := Op.unOp UnOp.not 4 (Operand.tmp 90), type := 4, pos := "law.go:84", after := #[{ on := 19, ground := Ground.data }, { on := 18, ground := Ground.guard }], guard := some (18, true) }) rfl (by first | rfl | (simp [Region.wanted, yielded]; done)) (by intro w_ hE_; (try dsimp only at hE_); first | (go_simp; done) | (go_simp; rfl)) ?_) | (refine mix_skip (o := { dst := some 91, op := Op.unOp UnOp.not 4 (Operand.tmp 90), type := 4, pos := "law.go:84", after := #[{ on := 19, ground := Ground.data }, { on := 18, ground := Ground.guard }], guard := some (18, true) }) rfl (by first | rfl | (simp [Region.wanted, yielded]; done)) ?_)
          (try simp only [Act.put, List.setIfInBounds_toArray, List.set_cons_zero, List.set_cons_succ])
          first | (refine mix_read (o := { dst := some 92, op := Op.move (Operand.tmp 91), type := 4, pos := "law.go:84", after := #[{ on := 20, ground := Ground.data }, { on := 18, ground := Ground.chain }, { on := 18, ground := Ground.guard }], guard := some (18, true) }) rfl (by first | rfl | (simp [Region.wanted, yielded]; done)) (by intro w_ hE_; (try dsimp only at hE_); first | (go_simp; done) | (go_simp; rfl)) ?_) | (refine mix_skip (o := { dst := some 92, op := Op.move (Operand.tmp 91), type := 4, pos := "law.go:84", after := #[{ on := 20, ground := Ground.data }, { on := 18, ground := Ground.chain }, { on := 18, ground := Ground.guard }], guard := some (18, true) }) rfl (by first | rfl | (simp [Region.wanted, yielded]; done)) ?_)
          (try simp only [Act.put, List.setIfInBounds_toArray, List.set_cons_zero, List.set_cons_succ])
          first | (refine mix_read (o := { dst := some 93, op := Op.move (Operand.tmp 17), type := 22, pos := "law.go:84", after := #[{ on := 21, ground := Ground.guard }], guard := some (21, false) }) rfl (by first | rfl | (simp [Region.wanted, yielded]; done)) (by intro w_ hE_; (try dsimp only at hE_); first | (go_simp; done) | (go_simp; rfl)) ?_) | (refine mix_skip (o := { dst := some 93, op := Op.move (Operand.tmp 17), type := 22, pos := "law.go:84", after := #[{ on := 21, ground := Ground.guard }], guard := some (21, false) }) rfl (by first | rfl | (simp [Region.wanted, yielded]; done)) ?_)
          (try simp only [Act.put, List.setIfInBounds_toArray, List.set_cons_zero, List.set_cons_succ])
          first | (refine mix_read (o := { dst := some 94, op := Op.convert 22 9 (Operand.tmp 93), type := 9, pos := "law.go:84", after := #[{ on := 22, ground := Ground.data }, { on := 21, ground := Ground.guard }], guard := some (21, false) }) rfl (by first | rfl | (simp [Region.wanted, yielded]; done)) (by intro w_ hE_; (try dsimp only at hE_); first | (go_simp; done) | (go_simp; rfl)) ?_) | (refine mix_skip (o := { dst := some 94, op := Op.convert 22 9 (Operand.tmp 93), type := 9, pos := "law.go:84", after := #[{ on := 22, ground := Ground.data }, { on := 21, ground := Ground.guard }], guard := some (21, false) }) rfl (by first | rfl | (simp [Region.wanted, yielded]; done)) ?_)
          (try simp only [Act.put, List.setIfInBounds_toArray, List.set_cons_zero, List.set_cons_succ])
          first | (refine mix_read (o := { dst := some 95, op := Op.move (Operand.tmp 14), type := 32, pos := "law.go:84", after := #[{ on := 21, ground := Ground.guard }], guard := some (21, false) }) rfl (by first | rfl | (simp [Region.wanted, yielded]; done)) (by intro w_ hE_; (try dsimp only at hE_); first | (go_simp; done) | (go_simp; rfl)) ?_) | (refine mix_skip (o := { dst := some 95, op := Op.move (Operand.tmp 14), type := 32, pos := "law.go:84", after := #[{ on := 21, ground := Ground.guard }], guard := some (21, false) }) rfl (by first | rfl | (simp [Region.wanted, yielded]; done)) ?_)
          (try simp only [Act.put, List.setIfInBounds_toArray, List.set_cons_zero, List.set_cons_succ])
          first | (refine mix_read (o := { dst := some 96, op := Op.indexAddr 32 (Operand.tmp 95) (Operand.const (Value.int IntKind.i64 0)), type := 0, pos := "law.go:84", after := #[{ on := 24, ground := Ground.data }, { on := 21, ground := Ground.guard }], guard := some (21, false) }) rfl (by first | rfl | (simp [Region.wanted, yielded]; done)) (by intro w_ hE_; (try dsimp only at hE_); first | (go_simp; done) | (go_simp; rfl)) ?_) | (refine mix_skip (o := { dst := some 96, op := Op.indexAddr 32 (Operand.tmp 95) (Operand.const (Value.int IntKind.i64 0)), type := 0, pos := "law.go:84", after := #[{ on := 24, ground := Ground.data }, { on := 21, ground := Ground.guard }], guard := some (21, false) }) rfl (by first | rfl | (simp [Region.wanted, yielded]; done)) ?_)
          (try simp only [Act.put, List.setIfInBounds_toArray, List.set_cons_zero, List.set_cons_succ])
          first | (refine mix_read (o := { dst := some 97, op := Op.load 22 (Operand.tmp 96), type := 22, pos := "law.go:84", after := #[{ on := 25, ground := Ground.data }, { on := 21, ground := Ground.guard }], guard := some (21, false) }) rfl (by first | rfl | (simp [Region.wanted, yielded]; done)) (by intro w_ hE_; (try dsimp only at hE_); first | (go_simp; done) | (go_simp; rfl)) ?_) | (refine mix_skip (o := { dst := some 97, op := Op.load 22 (Operand.tmp 96), type := 22, pos := "law.go:84", after := #[{ on := 25, ground := Ground.data }, { on := 21, ground := Ground.guard }], guard := some (21, false) }) rfl (by first | rfl | (simp [Region.wanted, yielded]; done)) ?_)
          (try simp only [Act.put, List.setIfInBounds_toArray, List.set_cons_zero, List.set_cons_succ])
          first | (refine mix_read (o := { dst := some 98, op := Op.convert 22 9 (Operand.tmp 97), type := 9, pos := "law.go:84", after := #[{ on := 26, ground := Ground.data }, { on := 21, ground := Ground.guard }], guard := some (21, false) }) rfl (by first | rfl | (simp [Region.wanted, yielded]; done)) (by intro w_ hE_; (try dsimp only at hE_); first | (go_simp; done) | (go_simp; rfl)) ?_) | (refine mix_skip (o := { dst := some 98, op := Op.convert 22 9 (Operand.tmp 97), type := 9, pos := "law.go:84", after := #[{ on := 26, ground := Ground.data }, { on := 21, ground := Ground.guard }], guard := some (21, false) }) rfl (by first | rfl | (simp [Region.wanted, yielded]; done)) ?_)
          (try simp only [Act.put, List.setIfInBounds_toArray, List.set_cons_zero, List.set_cons_succ])
          first | (refine mix_read (o := { dst := some 99, op := Op.binOp BinOp.eql 9 (Operand.tmp 94) (Operand.tmp 98) 9, type := 4, pos := "law.go:84", after := #[{ on := 23, ground := Ground.data }, { on := 27, ground := Ground.data }, { on := 21, ground := Ground.guard }], guard := some (21, false) }) rfl (by first | rfl | (simp [Region.wanted, yielded]; done)) (by intro w_ hE_; (try dsimp only at hE_); first | (go_simp; done) | (go_simp; rfl)) ?_) | (refine mix_skip (o := { dst := some 99, op := Op.binOp BinOp.eql 9 (Operand.tmp 94) (Operand.tmp 98) 9, type := 4, pos := "law.go:84", after := #[{ on := 23, ground := Ground.data }, { on := 27, ground := Ground.data }, { on := 21, ground := Ground.guard }], guard := some (21, false) }) rfl (by first | rfl | (simp [Region.wanted, yielded]; done)) ?_)
          (try simp only [Act.put, List.setIfInBounds_toArray, List.set_cons_zero, List.set_cons_succ])
          first | (refine mix_read (o := { dst := some 100, op := Op.pick (Operand.tmp 92) (Operand.const (Value.bool true)) (Operand.tmp 99), type := 4, pos := "law.go:84", after := #[{ on := 21, ground := Ground.data }, { on := 28, ground := Ground.data }, { on := 18, ground := Ground.guard }], guard := some (18, true) }) rfl (by first | rfl | (simp [Region.wanted, yielded]; done)) (by intro w_ hE_; (try dsimp only at hE_); first | (go_simp; done) | (go_simp; rfl)) ?_) | (refine mix_skip (o := { dst := some 100, op := Op.pick (Operand.tmp 92) (Operand.const (Value.bool true)) (Operand.tmp 99), type := 4, pos := "law.go:84", after := #[{ on := 21, ground := Ground.data }, { on := 28, ground := Ground.data }, { on := 18, ground := Ground.guard }], guard := some (18, true) }) rfl (by first | rfl | (simp [Region.wanted, yielded]; done)) ?_)
          (try simp only [Act.put, List.setIfInBounds_toArray, List.set_cons_zero, List.set_cons_succ])
          (refine mix_read (o := { dst := some 101, op := Op.pick (Operand.tmp 89) (Operand.tmp 100) (Operand.const (Value.bool false)), type := 4, pos := "law.go:84", after := #[{ on := 18, ground := Ground.data }, { on := 29, ground := Ground.data }], guard := none }) rfl (by first | rfl | (simp [Region.wanted, yielded]; done)) (by intro w_ hE_; (try dsimp only at hE_); first | (go_simp; done) | (go_simp; rfl)) ?_)
          (try simp only [Act.put, List.setIfInBounds_toArray, List.set_cons_zero, List.set_cons_succ])
          (refine mix_read (o := { dst := some 8, op := Op.assign (Operand.tmp 101), type := 4, pos := "law.go:84", after := #[{ on := 30, ground := Ground.data }, { on := 21, ground := Ground.chain }, { on := 0, ground := Ground.phase }, { on := 1, ground := Ground.phase }, { on := 2, ground := Ground.phase }, { on := 3, ground := Ground.phase }, { on := 4, ground := Ground.phase }, { on := 5, ground := Ground.phase }, { on := 6, ground := Ground.phase }, { on := 7, ground := Ground.phase }, { on := 8, ground := Ground.phase }, { on := 9, ground := Ground.phase }, { on := 10, ground := Ground.phase }, { on := 11, ground := Ground.phase }, { on := 12, ground := Ground.phase }, { on := 13, ground := Ground.phase }, { on := 14, ground := Ground.phase }, { on := 15, ground := Ground.phase }, { on := 16, ground := Ground.phase }, { on := 17, ground := Ground.phase }, { on := 18, ground := Ground.phase }, { on := 19, ground := Ground.phase }, { on := 20, ground := Ground.phase }, { on := 21, ground := Ground.phase }, { on := 22, ground := Ground.phase }, { on := 23, ground := Ground.phase }, { on := 24, ground := Ground.phase }, { on := 25, ground := Ground.phase }, { on := 26, ground := Ground.phase }, { on := 27, ground := Ground.phase }, { on := 28, ground := Ground.phase }, { on := 29, ground := Ground.phase }, { on := 30, ground := Ground.phase }], guard := none }) rfl (by first | rfl | (simp [Region.wanted, yielded]; done)) (by intro w_ hE_; (try dsimp only at hE_); first | (go_simp; done) | (go_simp; rfl)) ?_)
          (try simp only [Act.put, List.setIfInBounds_toArray, List.set_cons_zero, List.set_cons_succ])
          refine mix_nil ?_
          go_wp2_with fail
          go_ret
          exact ⟨by simp, HZ1.out⟩
        · have k2 : ((Nn : Int) == (bx.length : Int)) = false := beq_eq_false_iff_ne.2 (by omega)
          have hoo := HWL.out.2 (fun h => hw2 h.2)
          subst hoo
          clear hw1 hw2
          go_wp2_with fail
          refine wp_region_mix (fun w_ w1_ => Below w_.heap.size w_ w1_) [(false, 0), (false, 1), (true, 2), (false, 3), (false, 4), (false, 5), (false, 6), (false, 7), (false, 8), (false, 9), (false, 10), (false, 11), (false, 12), (false, 13), (false, 14), (false, 15), (false, 16), (false, 17), (false, 18), (false, 19), (false, 20), (false, 21), (false, 22), (false, 23), (false, 24), (false, 25), (false, 26), (false, 27), (false, 28), (false, 29), (false, 30), (false, 31)] (by kernel_rfl) (by kernel_rfl) (fun _ => Below.refl _ _) (fun h h' => below_step h h') (fun wd hhp_ hbw_ => ?_)
          have HZw := Aside0.mk hbw_
          have HZ0 := Aside0.mk (below_step HB8.out hbw_)
          clear hhp_ hbw_
          (refine mix_read (o := { dst := some 71, op := Op.move (Operand.tmp 11), type := 32, pos := "law.go:84", after := #[], guard := none }) rfl (by first | rfl | (simp [Region.wanted, yielded]; done)) (by intro w_ hE_; (try dsimp only at hE_); first | (go_simp; done) | (go_simp; rfl)) ?_)
          (try simp only [Act.put, List.setIfInBounds_toArray, List.set_cons_zero, List.set_cons_succ])
          (refine mix_read (o := { dst := some 72, op := Op.move (Operand.tmp 14), type := 32, pos := "law.go:84", after := #[], guard := none }) rfl (by first | rfl | (simp [Region.wanted, yielded]; done)) (by intro w_ hE_; (try dsimp only at hE_); first | (go_simp; done) | (go_simp; rfl)) ?_)
          (try simp only [Act.put, List.setIfInBounds_toArray, List.set_cons_zero, List.set_cons_succ])
          refine mix_call (o := { dst := some 73, op := Op.call { callee := Callee.value (Operand.func 29), args := #[Operand.tmp 71, Operand.tmp 72], argTypes := #[32, 32] }, type := 4, pos := "law.go:84", after := #[{ on := 0, ground := Ground.data }, { on := 1, ground := Ground.data }], guard := none }) rfl (by first | rfl | (simp [Region.wanted, yielded]; done)) (by first | (go_simp; done) | (go_simp; exact ⟨rfl, rfl⟩) | (go_simp; rfl)) ?_
          refine (HSA.out _ (Kd.C_below HV68.out HZw.out) (Kd.C_below HV78.out HZw.out)).mono ?_
          rintro e_ x1 ⟨rfl, hb⟩
          have HZ1 := Aside0.mk (below_step HZ0.out hb)
          refine ⟨_, rfl, hb, ?_⟩
          clear hb
          (try simp only [Act.put, List.setIfInBounds_toArray, List.set_cons_zero, List.set_cons_succ])
          (refine mix_read (o := { dst := some 74, op := Op.move (Operand.tmp 73), type := 4, pos := "law.go:84", after := #[{ on := 2, ground := Ground.data }, { on := 2, ground := Ground.chain }], guard := none }) rfl (by first | rfl | (simp [Region.wanted, yielded]; done)) (by intro w_ hE_; (try dsimp only at hE_); first | (go_simp; done) | (go_simp; rfl)) ?_)
          (try simp only [Act.put, List.setIfInBounds_toArray, List.set_cons_zero, List.set_cons_succ])
          first | (refine mix_read (o := { dst := some 75, op := Op.move (Operand.tmp 12), type := 3, pos := "law.go:84", after := #[{ on := 3, ground := Ground.guard }], guard := some (3, true) }) rfl (by first | rfl | (simp [Region.wanted, yielded]; done)) (by intro w_ hE_; (try dsimp only at hE_); first | (go_simp; done) | (go_simp; rfl)) ?_) | (refine mix_skip (o := { dst := some 75, op := Op.move (Operand.tmp 12), type := 3, pos := "law.go:84", after := #[{ on := 3, ground := Ground.guard }], guard := some (3, true) }) rfl (by first | rfl | (simp [Region.wanted, yielded]; done)) ?_)
          (try simp only [Act.put, List.setIfInBounds_toArray, List.set_cons_zero, List.set_cons_succ])
          first | (refine mix_read (o := { dst := some 76, op := Op.move (Operand.tmp 15), type := 3, pos := "law.go:84", after := #[{ on := 3, ground := Ground.guard }], guard := some (3, true) }) rfl (by first | rfl | (simp [Region.wanted, yielded]; done)) (by intro w_ hE_; (try dsimp only at hE_); first | (go_simp; done) | (go_simp; rfl)) ?_) | (refine mix_skip (o := { dst := some 76, op := Op.move (Operand.tmp 15), type := 3, pos := "law.go:84", after := #[{ on := 3, ground := Ground.guard }], guard := some (3, true) }) rfl (by first | rfl | (simp [Region.wanted, yielded]; done)) ?_)
          (try simp only [Act.put, List.setIfInBounds_toArray, List.set_cons_zero, List.set_cons_succ])
          first | (refine mix_read (o := { dst := some 77, op := Op.binOp BinOp.eql 3 (Operand.tmp 75) (Operand.tmp 76) 3, type := 4, pos := "law.go:84", after := #[{ on := 4, ground := Ground.data }, { on := 5, ground := Ground.data }, { on := 3, ground := Ground.guard }], guard := some (3, true) }) rfl (by first | rfl | (simp [Region.wanted, yielded]; done)) (by intro w_ hE_; (try dsimp only at hE_); first | (go_simp; done) | (go_simp; rfl)) ?_) | (refine mix_skip (o := { dst := some 77, op := Op.binOp BinOp.eql 3 (Operand.tmp 75) (Operand.tmp 76) 3, type := 4, pos := "law.go:84", after := #[{ on := 4, ground := Ground.data }, { on := 5, ground := Ground.data }, { on := 3, ground := Ground.guard }], guard := some (3, true) }) rfl (by first | rfl | (simp [Region.wanted, yielded]; done)) ?_)
          (try simp only [Act.put, List.setIfInBounds_toArray, List.set_cons_zero, List.set_cons_succ])
          (refine mix_read (o := { dst := some 78, op := Op.pick (Operand.tmp 74) (Operand.tmp 77) (Operand.const (Value.bool false)), type := 4, pos := "law.go:84", after := #[{ on := 3, ground := Ground.data }, { on := 6, ground := Ground.data }], guard := none }) rfl (by first | rfl | (simp [Region.wanted, yielded]; done)) (by intro w_ hE_; (try dsimp only at hE_); first | (go_simp; done) | (go_simp; rfl)) ?_)
          (try simp only [Act.put, List.setIfInBounds_toArray, List.set_cons_zero, List.set_cons_succ])
          (refine mix_read (o := { dst := some 79, op := Op.move (Operand.tmp 78), type := 4, pos := "law.go:84", after := #[{ on := 7, ground := Ground.data }, { on := 3, ground := Ground.chain }], guard := none }) rfl (by first | rfl | (simp [Region.wanted, yielded]; done)) (by intro w_ hE_; (try dsimp only at hE_); first | (go_simp; done) | (go_simp; rfl)) ?_)
          (try simp only [Act.put, List.setIfInBounds_toArray, List.set_cons_zero, List.set_cons_succ])
          first | (refine mix_read (o := { dst := some 80, op := Op.move (Operand.tmp 13), type := 4, pos := "law.go:84", after := #[{ on := 8, ground := Ground.guard }], guard := some (8, true) }) rfl (by first | rfl | (simp [Region.wanted, yielded]; done)) (by intro w_ hE_; (try dsimp only at hE_); first | (go_simp; done) | (go_simp; rfl)) ?_) | (refine mix_skip (o := { dst := some 80, op := Op.move (Operand.tmp 13), type := 4, pos := "law.go:84", after := #[{ on := 8, ground := Ground.guard }], guard := some (8, true) }) rfl (by first | rfl | (simp [Region.wanted, yielded]; done)) ?_)
          (try simp only [Act.put, List.setIfInBounds_toArray, List.set_cons_zero, List.set_cons_succ])
          first | (refine mix_read (o := { dst := some 81, op := Op.move (Operand.tmp 16), type := 4, pos := "law.go:84", after := #[{ on := 8, ground := Ground.guard }], guard := some (8, true) }) rfl (by first | rfl | (simp [Region.wanted, yielded]; done)) (by intro w_ hE_; (try dsimp only at hE_); first | (go_simp; done) | (go_simp; rfl)) ?_) | (refine mix_skip (o := { dst := some 81, op := Op.move (Operand.tmp 16), type := 4, pos := "law.go:84", after := #[{ on := 8, ground := Ground.guard }], guard := some (8, true) }) rfl (by first | rfl | (simp [Region.wanted, yielded]; done)) ?_)
          (try simp only [Act.put, List.setIfInBounds_toArray, List.set_cons_zero, List.set_cons_succ])
          first | (refine mix_read (o := { dst := some 82, op := Op.binOp BinOp.eql 4 (Operand.tmp 80) (Operand.tmp 81) 4, type := 4, pos := "law.go:84", after := #[{ on := 9, ground := Ground.data }, { on := 10, ground := Ground.data }, { on := 8, ground := Ground.guard }], guard := some (8, true) }) rfl (by first | rfl | (simp [Region.wanted, yielded]; done)) (by intro w_ hE_; (try dsimp only at hE_); first | (go_simp; done) | (go_simp; rfl)) ?_) | (refine mix_skip (o := { dst := some 82, op := Op.binOp BinOp.eql 4 (Operand.tmp 80) (Operand.tmp 81) 4, type := 4, pos := "law.go:84", after := #[{ on := 9, ground := Ground.data }, { on := 10, ground := Ground.data }, { on := 8, ground := Ground.guard }], guard := some (8, true) }) rfl (by first | rfl | (simp [Region.wanted, yielded]; done)) ?_)
          (try simp only [Act.put, List.setIfInBounds_toArray, List.set_cons_zero, List.set_cons_succ])
          (refine mix_read (o := { dst := some 83, op := Op.pick (Operand.tmp 79) (Operand.tmp 82) (Operand.const (Value.bool false)), type := 4, pos := "law.go:84", after := #[{ on := 8, ground := Ground.data }, { on := 11, ground := Ground.data }], guard := none }) rfl (by first | rfl | (simp [Region.wanted, yielded]; done)) (by intro w_ hE_; (try dsimp only at hE_); first | (go_simp; done) | (go_simp; rfl)) ?_)
          (try simp only [Act.put, List.setIfInBounds_toArray, List.set_cons_zero, List.set_cons_succ])
          (refine mix_read (o := { dst := some 84, op := Op.move (Operand.tmp 83), type := 4, pos := "law.go:84", after := #[{ on := 12, ground := Ground.data }, { on := 8, ground := Ground.chain }], guard := none }) rfl (by first | rfl | (simp [Region.wanted, yielded]; done)) (by intro w_ hE_; (try dsimp only at hE_); first | (go_simp; done) | (go_simp; rfl)) ?_)
          (try simp only [Act.put, List.setIfInBounds_toArray, List.set_cons_zero, List.set_cons_succ])
          first | (refine mix_read (o := { dst := some 85, op := Op.move (Operand.tmp 18), type := 4, pos := "law.go:84", after := #[{ on := 13, ground := Ground.guard }], guard := some (13, true) }) rfl (by first | rfl | (simp [Region.wanted, yielded]; done)) (by intro w_ hE_; (try dsimp only at hE_); first | (go_simp; done) | (go_simp; rfl)) ?_) | (refine mix_skip (o := { dst := some 85, op := Op.move (Operand.tmp 18), type := 4, pos := "law.go:84", after := #[{ on := 13, ground := Ground.guard }], guard := some (13, true) }) rfl (by first | rfl | (simp [Region.wanted, yielded]; done)) ?_)
          (try simp only [Act.put, List.setIfInBounds_toArray, List.set_cons_zero, List.set_cons_succ])
          first | (refine mix_read (o := { dst := some 86, op := Op.move (Operand.tmp 19), type := 4, pos := "law.go:84", after := #[{ on := 13, ground := Ground.guard }], guard := some (13, true) }) rfl (by first | rfl | (simp [Region.wanted, yielded]; done)) (by intro w_ hE_; (try dsimp only at hE_); first | (go_simp; done) | (go_simp; rfl)) ?_) | (refine mix_skip (o := { dst := some 86, op := Op.move (Operand.tmp 19), type := 4, pos := "law.go:84", after := #[{ on := 13, ground := Ground.guard }], guard := some (13, true) }) rfl (by first | rfl | (simp [Region.wanted, yielded]; done)) ?_)
          (try simp only [Act.put, List.setIfInBounds_toArray, List.set_cons_zero, List.set_cons_succ])
          first | (refine mix_read (o := { dst := some 87, op := Op.binOp BinOp.eql 4 (Operand.tmp 85) (Operand.tmp 86) 4, type := 4, pos := "law.go:84", after := #[{ on := 14, ground := Ground.data }, { on := 15, ground := Ground.data }, { on := 13, ground := Ground.guard }], guard := some (13, true) }) rfl (by first | rfl | (simp [Region.wanted, yielded]; done)) (by intro w_ hE_; (try dsimp only at hE_); first | (go_simp; done) | (go_simp; rfl)) ?_) | (refine mix_skip (o := { dst := some 87, op := Op.binOp BinOp.eql 4 (Operand.tmp 85) (Operand.tmp 86) 4, type := 4, pos := "law.go:84", after := #[{ on := 14, ground := Ground.data }, { on := 15, ground := Ground.data }, { on := 13, ground := Ground.guard }], guard := some (13, true) }) rfl (by first | rfl | (simp [Region.wanted, yielded]; done)) ?_)
          (try simp only [Act.put, List.setIfInBounds_toArray, List.set_cons_zero, List.set_cons_succ])
          (refine mix_read (o := { dst := some 88, op := Op.pick (Operand.tmp 84) (Operand.tmp 87) (Operand.const (Value.bool false)), type := 4, pos := "law.go:84", after := #[{ on := 13, ground := Ground.data }, { on := 16, ground := Ground.data }], guard := none }) rfl (by first | rfl | (simp [Region.wanted, yielded]; done)) (by intro w_ hE_; (try dsimp only at hE_); first | (go_simp; done) | (go_simp; rfl)) ?_)
          (try simp only [Act.put, List.setIfInBounds_toArray, List.set_cons_zero, List.set_cons_succ])
          (refine mix_read (o := { dst := some 89, op := Op.move (Operand.tmp 88), type := 4, pos := "law.go:84", after := #[{ on := 17, ground := Ground.data }, { on := 13, ground := Ground.chain }], guard := none }) rfl (by first | rfl | (simp [Region.wanted, yielded]; done)) (by intro w_ hE_; (try dsimp only at hE_); first | (go_simp; done) | (go_simp; rfl)) ?_)
          (try simp only [Act.put, List.setIfInBounds_toArray, List.set_cons_zero, List.set_cons_succ])
          first | (refine mix_read (o := { dst := some 90, op := Op.move (Operand.tmp 19), type := 4, pos := "law.go:84", after := #[{ on := 18, ground := Ground.guard }], guard := some (18, true) }) rfl (by first | rfl | (simp [Region.wanted, yielded]; done)) (by intro w_ hE_; (try dsimp only at hE_); first | (go_simp; done) | (go_simp; rfl)) ?_) | (refine mix_skip (o := { dst := some 90, op := Op.move (Operand.tmp 19), type := 4, pos := "law.go:84", after := #[{ on := 18, ground := Ground.guard }], guard := some (18, true) }) rfl (by first | rfl | (simp [Region.wanted, yielded]; done)) ?_)
          (try simp only [Act.put, List.setIfInBounds_toArray, List.set_cons_zero, List.set_cons_succ])
          first | (refine mix_read (o := { dst := some 91, op := Op.unOp UnOp.not 4 (Operand.tmp 90), type := 4, pos := "law.go:84", after := #[{ on := 19, ground := Ground.data }, { on := 18, ground := Ground.guard }], guard := some (18, true) }) rfl (by first | rfl | (simp [Region.wanted, yielded]; done)) (by intro w_ hE_; (try dsimp only at hE_); first | (go_simp; done) | (go_simp; rfl)) ?_) | (refine mix_skip (o := { dst := some 91, op := Op.unOp UnOp.not 4 (Operand.tmp 90), type := 4, pos := "law.go:84", after := #[{ on := 19, ground := Ground.data }, { on := 18, ground := Ground.guard }], guard := some (18, true) }) rfl (by first | rfl | (simp [Region.wanted, yielded]; done)) ?_)
          (try simp only [Act.put, List.setIfInBounds_toArray, List.set_cons_zero, List.set_cons_succ])
          first | (refine mix_read (o := { dst := some 92, op := Op.move (Operand.tmp 91), type := 4, pos := "law.go:84", after := #[{ on := 20, ground := Ground.data }, { on := 18, ground := Ground.chain }, { on := 18, ground := Ground.guard }], guard := some (18, true) }) rfl (by first | rfl | (simp [Region.wanted, yielded]; done)) (by intro w_ hE_; (try dsimp only at hE_); first | (go_simp; done) | (go_simp; rfl)) ?_) | (refine mix_skip (o := { dst := some 92, op := Op.move (Operand.tmp 91), type := 4, pos := "law.go:84", after := #[{ on := 20, ground := Ground.data }, { on := 18, ground := Ground.chain }, { on := 18, ground := Ground.guard }], guard := some (18, true) }) rfl (by first | rfl | (simp [Region.wanted, yielded]; done)) ?_)
          (try simp only [Act.put, List.setIfInBounds_toArray, List.set_cons_zero, List.set_cons_succ])
          refine mix_skip (o := { dst := some 93, op := Op.move (Operand.tmp 17), type := 22, pos := "law.go:84", after := #[{ on := 21, ground := Ground.guard }], guard := some (21, false) }) rfl (by first | rfl | (simp [Region.wanted, yielded]; done)) ?_
          (try simp only [Act.put, List.setIfInBounds_toArray, List.set_cons_zero, List.set_cons_succ])
          refine mix_skip (o := { dst := some 94, op := Op.convert 22 9 (Operand.tmp 93), type := 9, pos := "law.go:84", after := #[{ on := 22, ground := Ground.data }, { on := 21, ground := Ground.guard }], guard := some (21, false) }) rfl (by first | rfl | (simp [Region.wanted, yielded]; done)) ?_
          (try simp only [Act.put, List.setIfInBounds_toArray, List.set_cons_zero, List.set_cons_succ])
          refine mix_skip (o := { dst := some 95, op := Op.move (Operand.tmp 14), type := 32, pos := "law.go:84", after := #[{ on := 21, ground := Ground.guard }], guard := some (21, false) }) rfl (by first | rfl | (simp [Region.wanted, yielded]; done)) ?_
          (try simp only [Act.put, List.setIfInBounds_toArray, List.set_cons_zero, List.set_cons_succ])
          refine mix_skip (o := { dst := some 96, op := Op.indexAddr 32 (Operand.tmp 95) (Operand.const (Value.int IntKind.i64 0)), type := 0, pos := "law.go:84", after := #[{ on := 24, ground := Ground.data }, { on := 21, ground := Ground.guard }], guard := some (21, false) }) rfl (by first | rfl | (simp [Region.wanted, yielded]; done)) ?_
          (try simp only [Act.put, List.setIfInBounds_toArray, List.set_cons_zero, List.set_cons_succ])
          refine mix_skip (o := { dst := some 97, op := Op.load 22 (Operand.tmp 96), type := 22, pos := "law.go:84", after := #[{ on := 25, ground := Ground.data }, { on := 21, ground := Ground.guard }], guard := some (21, false) }) rfl (by first | rfl | (simp [Region.wanted, yielded]; done)) ?_
          (try simp only [Act.put, List.setIfInBounds_toArray, List.set_cons_zero, List.set_cons_succ])
          refine mix_skip (o := { dst := some 98, op := Op.convert 22 9 (Operand.tmp 97), type := 9, pos := "law.go:84", after := #[{ on := 26, ground := Ground.data }, { on := 21, ground := Ground.guard }], guard := some (21, false) }) rfl (by first | rfl | (simp [Region.wanted, yielded]; done)) ?_
          (try simp only [Act.put, List.setIfInBounds_toArray, List.set_cons_zero, List.set_cons_succ])
          refine mix_skip (o := { dst := some 99, op := Op.binOp BinOp.eql 9 (Operand.tmp 94) (Operand.tmp 98) 9, type := 4, pos := "law.go:84", after := #[{ on := 23, ground := Ground.data }, { on := 27, ground := Ground.data }, { on := 21, ground := Ground.guard }], guard := some (21, false) }) rfl (by first | rfl | (simp [Region.wanted, yielded]; done)) ?_
          (try simp only [Act.put, List.setIfInBounds_toArray, List.set_cons_zero, List.set_cons_succ])
          first | (refine mix_read (o := { dst := some 100, op := Op.pick (Operand.tmp 92) (Operand.const (Value.bool true)) (Operand.tmp 99), type := 4, pos := "law.go:84", after := #[{ on := 21, ground := Ground.data }, { on := 28, ground := Ground.data }, { on := 18, ground := Ground.guard }], guard := some (18, true) }) rfl (by first | rfl | (simp [Region.wanted, yielded]; done)) (by intro w_ hE_; (try dsimp only at hE_); first | (go_simp; done) | (go_simp; rfl)) ?_) | (refine mix_skip (o := { dst := some 100, op := Op.pick (Operand.tmp 92) (Operand.const (Value.bool true)) (Operand.tmp 99), type := 4, pos := "law.go:84", after := #[{ on := 21, ground := Ground.data }, { on := 28, ground := Ground.data }, { on := 18, ground := Ground.guard }], guard := some (18, true) }) rfl (by first | rfl | (simp [Region.wanted, yielded]; done)) ?_)
          (try simp only [Act.put, List.setIfInBounds_toArray, List.set_cons_zero, List.set_cons_succ])
          (refine mix_read (o := { dst := some 101, op := Op.pick (Operand.tmp 89) (Operand.tmp 100) (Operand.const (Value.bool false)), type := 4, pos := "law.go:84", after := #[{ on := 18, ground := Ground.data }, { on := 29, ground := Ground.data }], guard := none }) rfl (by first | rfl | (simp [Region.wanted, yielded]; done)) (by intro w_ hE_; (try dsimp only at hE_); first | (go_simp; done) | (go_simp; rfl)) ?_)
          (try simp only [Act.put, List.setIfInBounds_toArray, List.set_cons_zero, List.set_cons_succ])
          (refine mix_read (o := { dst := some 8, op := Op.assign (Operand.tmp 101), type := 4, pos := "law.go:84", after := #[{ on := 30, ground := Ground.data }, { on := 21, ground := Ground.chain }, { on := 0, ground := Ground.phase }, { on := 1, ground := Ground.phase }, { on := 2, ground := Ground.phase }, { on := 3, ground := Ground.phase }, { on := 4, ground := Ground.phase }, { on := 5, ground := Ground.phase }, { on := 6, ground := Ground.phase }, { on := 7, ground := Ground.phase }, { on := 8, ground := Ground.phase }, { on := 9, ground := Ground.phase }, { on := 10, ground := Ground.phase }, { on := 11, ground := Ground.phase }, { on := 12, ground := Ground.phase }, { on := 13, ground := Ground.phase }, { on := 14, ground := Ground.phase }, { on := 15, ground := Ground.phase }, { on := 16, ground := Ground.phase }, { on := 17, ground := Ground.phase }, { on := 18, ground := Ground.phase }, { on := 19, ground := Ground.phase }, { on := 20, ground := Ground.phase }, { on := 21, ground := Ground.phase }, { on := 22, ground := Ground.phase }, { on := 23, ground := Ground.phase }, { on := 24, ground := Ground.phase }, { on := 25, ground := Ground.phase }, { on := 26, ground := Ground.phase }, { on := 27, ground := Ground.phase }, { on := 28, ground := Ground.phase }, { on := 29, ground := Ground.phase }, { on := 30, ground := Ground.phase }], guard := none }) rfl (by first | rfl | (simp [Region.wanted, yielded]; done)) (by intro w_ hE_; (try dsimp only at hE_); first | (go_simp; done) | (go_simp; rfl)) ?_)
          (try simp only [Act.put, List.setIfInBounds_toArray, List.set_cons_zero, List.set_cons_succ])
          refine mix_nil ?_
          go_wp2_with fail
          go_ret
          exact ⟨by simp, HZ1.out⟩
      · have k1 : ((Ls.length : Int) == 1) = false := beq_eq_false_iff_ne.2 (by omega)
        have hoo := HWL.out.2 (fun h => hw1 h.1)
        subst hoo
        clear hw1
        go_wp2_with fail
        refine wp_region_mix (fun w_ w1_ => Below w_.heap.size w_ w1_) [(false, 0), (false, 1), (true, 2), (false, 3), (false, 4), (false, 5), (false, 6), (false, 7), (false, 8), (false, 9), (false, 10), (false, 11), (false, 12), (false, 13), (false, 14), (false, 15), (false, 16), (false, 17), (false, 18), (false, 19), (false, 20), (false, 21), (false, 22), (false, 23), (false, 24), (false, 25), (false, 26), (false, 27), (false, 28), (false, 29), (false, 30), (false, 31)] (by kernel_rfl) (by kernel_rfl) (fun _ => Below.refl _ _) (fun h h' => below_step h h') (fun wd hhp_ hbw_ => ?_)
        have HZw := Aside0.mk hbw_
        have HZ0 := Aside0.mk (below_step HB8.out hbw_)
        clear hhp_ hbw_
        (refine mix_read (o := { dst := some 71, op := Op.move (Operand.tmp 11), type := 32, pos := "law.go:84", after := #[], guard := none }) rfl (by first | rfl | (simp [Region.wanted, yielded]; done)) (by intro w_ hE_; (try dsimp only at hE_); first | (go_simp; done) | (go_simp; rfl)) ?_)
        (try simp only [Act.put, List.setIfInBounds_toArray, List.set_cons_zero, List.set_cons_succ])
        (refine mix_read (o := { dst := some 72, op := Op.move (Operand.tmp 14), type := 32, pos := "law.go:84", after := #[], guard := none }) rfl (by first | rfl | (simp [Region.wanted, yielded]; done)) (by intro w_ hE_; (try dsimp only at hE_); first | (go_simp; done) | (go_simp; rfl)) ?_)
        (try simp only [Act.put, List.setIfInBounds_toArray, List.set_cons_zero, List.set_cons_succ])
        refine mix_call (o := { dst := some 73, op := Op.call { callee := Callee.value (Operand.func 29), args := #[Operand.tmp 71, Operand.tmp 72], argTypes := #[32, 32] }, type := 4, pos := "law.go:84", after := #[{ on := 0, ground := Ground.data }, { on := 1, ground := Ground.data }], guard := none }) rfl (by first | rfl | (simp [Region.wanted, yielded]; done)) (by first | (go_simp; done) | (go_simp; exact ⟨rfl, rfl⟩) | (go_simp; rfl)) ?_
        refine (HSA.out _ (Kd.C_below HV68.out HZw.out) (Kd.C_below HV78.out HZw.out)).mono ?_
        rintro e_ x1 ⟨rfl, hb⟩
        have HZ1 := Aside0.mk (below_step HZ0.out hb)
        refine ⟨_, rfl, hb, ?_⟩
        clear hb
        (try simp only [Act.put, List.setIfInBounds_toArray, List.set_cons_zero, List.set_cons_succ])
        (refine mix_read (o := { dst := some 74, op := Op.move (Operand.tmp 73), type := 4, pos := "law.go:84", after := #[{ on := 2, ground := Ground.data }, { on := 2, ground := Ground.chain }], guard := none }) rfl (by first | rfl | (simp [Region.wanted, yielded]; done)) (by intro w_ hE_; (try dsimp only at hE_); first | (go_simp; done) | (go_simp; rfl)) ?_)
        (try simp only [Act.put, List.setIfInBounds_toArray, List.set_cons_zero, List.set_cons_succ])
        first | (refine mix_read (o := { dst := some 75, op := Op.move (Operand.tmp 12), type := 3, pos := "law.go:84", after := #[{ on := 3, ground := Ground.guard }], guard := some (3, true) }) rfl (by first | rfl | (simp [Region.wanted, yielded]; done)) (by intro w_ hE_; (try dsimp only at hE_); first | (go_simp; done) | (go_simp; rfl)) ?_) | (refine mix_skip (o := { dst := some 75, op := Op.move (Operand.tmp 12), type := 3, pos := "law.go:84", after := #[{ on := 3, ground := Ground.guard }], guard := some (3, true) }) rfl (by first | rfl | (simp [Region.wanted, yielded]; done)) ?_)
        (try simp only [Act.put, List.setIfInBounds_toArray, List.set_cons_zero, List.set_cons_succ])
        first | (refine mix_read (o := { dst := some 76, op := Op.move (Operand.tmp 15), type := 3, pos := "law.go:84", after := #[{ on := 3, ground := Ground.guard }], guard := some (3, true) }) rfl (by first | rfl | (simp [Region.wanted, yielded]; done)) (by intro w_ hE_; (try dsimp only at hE_); first | (go_simp; done) | (go_simp; rfl)) ?_) | (refine mix_skip (o := { dst := some 76, op := Op.move (Operand.tmp 15), type := 3, pos := "law.go:84", after := #[{ on := 3, ground := Ground.guard }], guard := some (3, true) }) rfl (by first | rfl | (simp [Region.wanted, yielded]; done)) ?_)
        (try simp only [Act.put, List.setIfInBounds_toArray, List.set_cons_zero, List.set_cons_succ])
        first | (refine mix_read (o := { dst := some 77, op := Op.binOp BinOp.eql 3 (Operand.tmp 75) (Operand.tmp 76) 3, type := 4, pos := "law.go:84", after := #[{ on := 4, ground := Ground.data }, { on := 5, ground := Ground.data }, { on := 3, ground := Ground.guard }], guard := some (3, true) }) rfl (by first | rfl | (simp [Region.wanted, yielded]; done)) (by intro w_ hE_; (try dsimp only at hE_); first | (go_simp; done) | (go_simp; rfl)) ?_) | (refine mix_skip (o := { dst := some 77, op := Op.binOp BinOp.eql 3 (Operand.tmp 75) (Operand.tmp 76) 3, type := 4, pos := "law.go:84", after := #[{ on := 4, ground := Ground.data }, { on := 5, ground := Ground.data }, { on := 3, ground := Ground.guard }], guard := some (3, true) }) rfl (by first | rfl | (simp [Region.wanted, yielded]; done)) ?_)
        (try simp only [Act.put, List.setIfInBounds_toArray, List.set_cons_zero, List.set_cons_succ])
        (refine mix_read (o := { dst := some 78, op := Op.pick (Operand.tmp 74) (Operand.tmp 77) (Operand.const (Value.bool false)), type := 4, pos := "law.go:84", after := #[{ on := 3, ground := Ground.data }, { on := 6, ground := Ground.data }], guard := none }) rfl (by first | rfl | (simp [Region.wanted, yielded]; done)) (by intro w_ hE_; (try dsimp only at hE_); first | (go_simp; done) | (go_simp; rfl)) ?_)
        (try simp only [Act.put, List.setIfInBounds_toArray, List.set_cons_zero, List.set_cons_succ])
        (refine mix_read (o := { dst := some 79, op := Op.move (Operand.tmp 78), type := 4, pos := "law.go:84", after := #[{ on := 7, ground := Ground.data }, { on := 3, ground := Ground.chain }], guard := none }) rfl (by first | rfl | (simp [Region.wanted, yielded]; done)) (by intro w_ hE_; (try dsimp only at hE_); first | (go_simp; done) | (go_simp; rfl)) ?_)
        (try simp only [Act.put, List.setIfInBounds_toArray, List.set_cons_zero, List.set_cons_succ])
        first | (refine mix_read (o := { dst := some 80, op := Op.move (Operand.tmp 13), type := 4, pos := "law.go:84", after := #[{ on := 8, ground := Ground.guard }], guard := some (8, true) }) rfl (by first | rfl | (simp [Region.wanted, yielded]; done)) (by intro w_ hE_; (try dsimp only at hE_); first | (go_simp; done) | (go_simp; rfl)) ?_) | (refine mix_skip (o := { dst := some 80, op := Op.move (Operand.tmp 13), type := 4, pos := "law.go:84", after := #[{ on := 8, ground := Ground.guard }], guard := some (8, true) }) rfl (by first | rfl | (simp [Region.wanted, yielded]; done)) ?_)
        (try simp only [Act.put, List.setIfInBounds_toArray, List.set_cons_zero, List.set_cons_succ])
        first | (refine mix_read (o := { dst := some 81, op := Op.move (Operand.tmp 16), type := 4, pos := "law.go:84", after := #[{ on := 8, ground := Ground.guard }], guard := some (8, true) }) rfl (by first | rfl | (simp [Region.wanted, yielded]; done)) (by intro w_ hE_; (try dsimp only at hE_); first | (go_simp; done) | (go_simp; rfl)) ?_) | (refine mix_skip (o := { dst := some 81, op := Op.move (Operand.tmp 16), type := 4, pos := "law.go:84", after := #[{ on := 8, ground := Ground.guard }], guard := some (8, true) }) rfl (by first | rfl | (simp [Region.wanted, yielded]; done)) ?_)
        (try simp only [Act.put, List.setIfInBounds_toArray, List.set_cons_zero, List.set_cons_succ])
        first | (refine mix_read (o := { dst := some 82, op := Op.binOp BinOp.eql 4 (Operand.tmp 80) (Operand.tmp 81) 4, type := 4, pos := "law.go:84", after := #[{ on := 9, ground := Ground.data }, { on := 10, ground := Ground.data }, { on := 8, ground := Ground.guard }], guard := some (8, true) }) rfl (by first | rfl | (simp [Region.wanted, yielded]; done)) (by intro w_ hE_; (try dsimp only at hE_); first | (go_simp; done) | (go_simp; rfl)) ?_) | (refine mix_skip (o := { dst := some 82, op := Op.binOp BinOp.eql 4 (Operand.tmp 80) (Operand.tmp 81) 4, type := 4, pos := "law.go:84", after := #[{ on := 9, ground := Ground.data }, { on := 10, ground := Ground.data }, { on := 8, ground := Ground.guard }], guard := some (8, true) }) rfl (by first | rfl | (simp [Region.wanted, yielded]; done)) ?_)
        (try simp only [Act.put, List.setIfInBounds_toArray, List.set_cons_zero, List.set_cons_succ])
        (refine mix_read (o := { dst := some 83, op := Op.pick (Operand.tmp 79) (Operand.tmp 82) (Operand.const (Value.bool false)), type := 4, pos := "law.go:84", after := #[{ on := 8, ground := Ground.data }, { on := 11, ground := Ground.data }], guard := none }) rfl (by first | rfl | (simp [Region.wanted, yielded]; done)) (by intro w_ hE_; (try dsimp only at hE_); first | (go_simp; done) | (go_simp; rfl)) ?_)
        (try simp only [Act.put, List.setIfInBounds_toArray, List.set_cons_zero, List.set_cons_succ])
        (refine mix_read (o := { dst := some 84, op := Op.move (Operand.tmp 83), type := 4, pos := "law.go:84", after := #[{ on := 12, ground := Ground.data }, { on := 8, ground := Ground.chain }], guard := none }) rfl (by first | rfl | (simp [Region.wanted, yielded]; done)) (by intro w_ hE_; (try dsimp only at hE_); first | (go_simp; done) | (go_simp; rfl)) ?_)
        (try simp only [Act.put, List.setIfInBounds_toArray, List.set_cons_zero, List.set_cons_succ])
        first | (refine mix_read (o := { dst := some 85, op := Op.move (Operand.tmp 18), type := 4, pos := "law.go:84", after := #[{ on := 13, ground := Ground.guard }], guard := some (13, true) }) rfl (by first | rfl | (simp [Region.wanted, yielded]; done)) (by intro w_ hE_; (try dsimp only at hE_); first | (go_simp; done) | (go_simp; rfl)) ?_) | (refine mix_skip (o := { dst := some 85, op := Op.move (Operand.tmp 18), type := 4, pos := "law.go:84", after := #[{ on := 13, ground := Ground.guard }], guard := some (13, true) }) rfl (by first | rfl | (simp [Region.wanted, yielded]; done)) ?_)
        (try simp only [Act.put, List.setIfInBounds_toArray, List.set_cons_zero, List.set_cons_succ])
        first | (refine mix_read (o := { dst := some 86, op := Op.move (Operand.tmp 19), type := 4, pos := "law.go:84", after := #[{ on := 13, ground := Ground.guard }], guard := some (13, true) }) rfl (by first | rfl | (simp [Region.wanted, yielded]; done)) (by intro w_ hE_; (try dsimp only at hE_); first | (go_simp; done) | (go_simp; rfl)) ?_) | (refine mix_skip (o := { dst := some 86, op := Op.move (Operand.tmp 19), type := 4, pos := "law.go:84", after := #[{ on := 13, ground := Ground.guard }], guard := some (13, true) }) rfl (by first | rfl | (simp [Region.wanted, yielded]; done)) ?_)
        (try simp only [Act.put, List.setIfInBounds_toArray, List.set_cons_zero, List.set_cons_succ])
        first | (refine mix_read (o := { dst := some 87, op := Op.binOp BinOp.eql 4 (Operand.tmp 85) (Operand.tmp 86) 4, type := 4, pos := "law.go:84", after := #[{ on := 14, ground := Ground.data }, { on := 15, ground := Ground.data }, { on := 13, ground := Ground.guard }], guard := some (13, true) }) rfl (by first | rfl | (simp [Region.wanted, yielded]; done)) (by intro w_ hE_; (try dsimp only at hE_); first | (go_simp; done) | (go_simp; rfl)) ?_) | (refine mix_skip (o := { dst := some 87, op := Op.binOp BinOp.eql 4 (Operand.tmp 85) (Operand.tmp 86) 4, type := 4, pos := "law.go:84", after := #[{ on := 14, ground := Ground.data }, { on := 15, ground := Ground.data }, { on := 13, ground := Ground.guard }], guard := some (13, true) }) rfl (by first | rfl | (simp [Region.wanted, yielded]; done)) ?_)
        (try simp only [Act.put, List.setIfInBounds_toArray, List.set_cons_zero, List.set_cons_succ])
        (refine mix_read (o := { dst := some 88, op := Op.pick (Operand.tmp 84) (Operand.tmp 87) (Operand.const (Value.bool false)), type := 4, pos := "law.go:84", after := #[{ on := 13, ground := Ground.data }, { on := 16, ground := Ground.data }], guard := none }) rfl (by first | rfl | (simp [Region.wanted, yielded]; done)) (by intro w_ hE_; (try dsimp only at hE_); first | (go_simp; done) | (go_simp; rfl)) ?_)
        (try simp only [Act.put, List.setIfInBounds_toArray, List.set_cons_zero, List.set_cons_succ])
        (refine mix_read (o := { dst := some 89, op := Op.move (Operand.tmp 88), type := 4, pos := "law.go:84", after := #[{ on := 17, ground := Ground.data }, { on := 13, ground := Ground.chain }], guard := none }) rfl (by first | rfl | (simp [Region.wanted, yielded]; done)) (by intro w_ hE_; (try dsimp only at hE_); first | (go_simp; done) | (go_simp; rfl)) ?_)
        (try simp only [Act.put, List.setIfInBounds_toArray, List.set_cons_zero, List.set_cons_succ])
        first | (refine mix_read (o := { dst := some 90, op := Op.move (Operand.tmp 19), type := 4, pos := "law.go:84", after := #[{ on := 18, ground := Ground.guard }], guard := some (18, true) }) rfl (by first | rfl | (simp [Region.wanted, yielded]; done)) (by intro w_ hE_; (try dsimp only at hE_); first | (go_simp; done) | (go_simp; rfl)) ?_) | (refine mix_skip (o := { dst := some 90, op := Op.move (Operand.tmp 19), type := 4, pos := "law.go:84", after := #[{ on := 18, ground := Ground.guard }], guard := some (18, true) }) rfl (by first | rfl | (simp [Region.wanted, yielded]; done)) ?_)
        (try simp only [Act.put, List.setIfInBounds_toArray, List.set_cons_zero, List.set_cons_succ])
        first | (refine mix_read (o := { dst := some 91, op := Op.unOp UnOp.not 4 (Operand.tmp 90), type := 4, pos := "law.go:84", after := #[{ on := 19, ground := Ground.data }, { on := 18, ground := Ground.guard }], guard := some (18, true) }) rfl (by first | rfl | (simp [Region.wanted, yielded]; done)) (by intro w_ hE_; (try dsimp only at hE_); first | (go_simp; done) | (go_simp; rfl)) ?_) | (refine mix_skip (o := { dst := some 91, op := Op.unOp UnOp.not 4 (Operand.tmp 90), type := 4, pos := "law.go:84", after := #[{ on := 19, ground := Ground.data }, { on := 18, ground := Ground.guard }], guard := some (18, true) }) rfl (by first | rfl | (simp [Region.wanted, yielded]; done)) ?_)
        (try simp only [Act.put, List.setIfInBounds_toArray, List.set_cons_zero, List.set_cons_succ])
        first | (refine mix_read (o := { dst := some 92, op := Op.move (Operand.tmp 91), type := 4, pos := "law.go:84", after := #[{ on := 20, ground := Ground.data }, { on := 18, ground := Ground.chain }, { on := 18, ground := Ground.guard }], guard := some (18, true) }) rfl (by first | rfl | (simp [Region.wanted, yielded]; done)) (by intro w_ hE_; (try dsimp only at hE_); first | (go_simp; done) | (go_simp; rfl)) ?_) | (refine mix_skip (o := { dst := some 92, op := Op.move (Operand.tmp 91), type := 4, pos := "law.go:84", after := #[{ on := 20, ground := Ground.data }, { on := 18, ground := Ground.chain }, { on := 18, ground := Ground.guard }], guard := some (18, true) }) rfl (by first | rfl | (simp [Region.wanted, yielded]; done)) ?_)
        (try simp only [Act.put, List.setIfInBounds_toArray, List.set_cons_zero, List.set_cons_succ])
        refine mix_skip (o := { dst := some 93, op := Op.move (Operand.tmp 17), type := 22, pos := "law.go:84", after := #[{ on := 21, ground := Ground.guard }], guard := some (21, false) }) rfl (by first | rfl | (simp [Region.wanted, yielded]; done)) ?_
        (try simp only [Act.put, List.setIfInBounds_toArray, List.set_cons_zero, List.set_cons_succ])
        refine mix_skip (o := { dst := some 94, op := Op.convert 22 9 (Operand.tmp 93), type := 9, pos := "law.go:84", after := #[{ on := 22, ground := Ground.data }, { on := 21, ground := Ground.guard }], guard := some (21, false) }) rfl (by first | rfl | (simp [Region.wanted, yielded]; done)) ?_
        (try simp only [Act.put, List.setIfInBounds_toArray, List.set_cons_zero, List.set_cons_succ])
        refine mix_skip (o := { dst := some 95, op := Op.move (Operand.tmp 14), type := 32, pos := "law.go:84", after := #[{ on := 21, ground := Ground.guard }], guard := some (21, false) }) rfl (by first | rfl | (simp [Region.wanted, yielded]; done)) ?_
        (try simp only [Act.put, List.setIfInBounds_toArray, List.set_cons_zero, List.set_cons_succ])
        refine mix_skip (o := { dst := some 96, op := Op.indexAddr 32 (Operand.tmp 95) (Operand.const (Value.int IntKind.i64 0)), type := 0, pos := "law.go:84", after := #[{ on := 24, ground := Ground.data }, { on := 21, ground := Ground.guard }], guard := some (21, false) }) rfl (by first | rfl | (simp [Region.wanted, yielded]; done)) ?_
        (try simp only [Act.put, List.setIfInBounds_toArray, List.set_cons_zero, List.set_cons_succ])
        refine mix_skip (o := { dst := some 97, op := Op.load 22 (Operand.tmp 96), type := 22, pos := "law.go:84", after := #[{ on := 25, ground := Ground.data }, { on := 21, ground := Ground.guard }], guard := some (21, false) }) rfl (by first | rfl | (simp [Region.wanted, yielded]; done)) ?_
        (try simp only [Act.put, List.setIfInBounds_toArray, List.set_cons_zero, List.set_cons_succ])
        refine mix_skip (o := { dst := some 98, op := Op.convert 22 9 (Operand.tmp 97), type := 9, pos := "law.go:84", after := #[{ on := 26, ground := Ground.data }, { on := 21, ground := Ground.guard }], guard := some (21, false) }) rfl (by first | rfl | (simp [Region.wanted, yielded]; done)) ?_
        (try simp only [Act.put, List.setIfInBounds_toArray, List.set_cons_zero, List.set_cons_succ])
        refine mix_skip (o := { dst := some 99, op := Op.binOp BinOp.eql 9 (Operand.tmp 94) (Operand.tmp 98) 9, type := 4, pos := "law.go:84", after := #[{ on := 23, ground := Ground.data }, { on := 27, ground := Ground.data }, { on := 21, ground := Ground.guard }], guard := some (21, false) }) rfl (by first | rfl | (simp [Region.wanted, yielded]; done)) ?_
        (try simp only [Act.put, List.setIfInBounds_toArray, List.set_cons_zero, List.set_cons_succ])
        first | (refine mix_read (o := { dst := some 100, op := Op.pick (Operand.tmp 92) (Operand.const (Value.bool true)) (Operand.tmp 99), type := 4, pos := "law.go:84", after := #[{ on := 21, ground := Ground.data }, { on := 28, ground := Ground.data }, { on := 18, ground := Ground.guard }], guard := some (18, true) }) rfl (by first | rfl | (simp [Region.wanted, yielded]; done)) (by intro w_ hE_; (try dsimp only at hE_); first | (go_simp; done) | (go_simp; rfl)) ?_) | (refine mix_skip (o := { dst := some 100, op := Op.pick (Operand.tmp 92) (Operand.const (Value.bool true)) (Operand.tmp 99), type := 4, pos := "law.go:84", after := #[{ on := 21, ground := Ground.data }, { on := 28, ground := Ground.data }, { on := 18, ground := Ground.guard }], guard := some (18, true) }) rfl (by first | rfl | (simp [Region.wanted, yielded]; done)) ?_)
        (try simp only [Act.put, List.setIfInBounds_toArray, List.set_cons_zero, List.set_cons_succ])
        (refine mix_read (o := { dst := some 101, op := Op.pick (Operand.tmp 89) (Operand.tmp 100) (Operand.const (Value.bool false)), type := 4, pos := "law.go:84", after := #[{ on := 18, ground := Ground.data }, { on := 29, ground := Ground.data }], guard := none }) rfl (by first | rfl | (simp [Region.wanted, yielded]; done)) (by intro w_ hE_; (try dsimp only at hE_); first | (go_simp; done) | (go_simp; rfl)) ?_)
        (try simp only [Act.put, List.setIfInBounds_toArray, List.set_cons_zero, List.set_cons_succ])
        (refine mix_read (o := { dst := some 8, op := Op.assign (Operand.tmp 101), type := 4, pos := "law.go:84", after := #[{ on := 30, ground := Ground.data }, { on := 21, ground := Ground.chain }, { on := 0, ground := Ground.phase }, { on := 1, ground := Ground.phase }, { on := 2, ground := Ground.phase }, { on := 3, ground := Ground.phase }, { on := 4, ground := Ground.phase }, { on := 5, ground := Ground.phase }, { on := 6, ground := Ground.phase }, { on := 7, ground := Ground.phase }, { on := 8, ground := Ground.phase }, { on := 9, ground := Ground.phase }, { on := 10, ground := Ground.phase }, { on := 11, ground := Ground.phase }, { on := 12, ground := Ground.phase }, { on := 13, ground := Ground.phase }, { on := 14, ground := Ground.phase }, { on := 15, ground := Ground.phase }, { on := 16, ground := Ground.phase }, { on := 17, ground := Ground.phase }, { on := 18, ground := Ground.phase }, { on := 19, ground := Ground.phase }, { on := 20, ground := Ground.phase }, { on := 21, ground := Ground.phase }, { on := 22, ground := Ground.phase }, { on := 23, ground := Ground.phase }, { on := 24, ground := Ground.phase }, { on := 25, ground := Ground.phase }, { on := 26, ground := Ground.phase }, { on := 27, ground := Ground.phase }, { on := 28, ground := Ground.phase }, { on := 29, ground := Ground.phase }, { on := 30, ground := Ground.phase }], guard := none }) rfl (by first | rfl | (simp [Region.wanted, yielded]; done)) (by intro w_ hE_; (try dsimp only at hE_); first | (go_simp; done) | (go_simp; rfl)) ?_)
        (try simp only [Act.put, List.setIfInBounds_toArray, List.set_cons_zero, List.set_cons_succ])
        refine mix_nil ?_
        go_wp2_with fail
        go_ret
        exact ⟨by simp, HZ1.out⟩
end Go.Proofs.Ytfojeegepfjbiaa.CxWalk
