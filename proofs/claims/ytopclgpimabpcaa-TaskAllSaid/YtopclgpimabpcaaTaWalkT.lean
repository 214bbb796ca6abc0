/- TaskAll: works go on, wait, are woken, are done; forty at most at once: it answers true. No condition. -/
import Derived.Test.YtopclgpimabpcaaProg
import Derived.Below
import Derived.Deep.Draws
import Derived.Deep.AppendLies
import Derived.Maps.AppendAt
import Derived.OwnWalk
import Derived.Laws.BytesArg
import Derived.Laws.MakeOwn
import Derived.Laws.OwnMore
import Derived.Deep.OwnRows
import Derived.Tactics
import Derived.Lib.ConvBytes
import Derived.Laws.Slices
import Derived.WalkKit
import Derived.KernelRfl
import Derived.RowKit3
import Derived.Deep.LoopGhost
import Derived.Deep.QuietTactic
import Derived.BigQuiet
import Derived.WideLaws
import Derived.Deep.DeepCutAuto
import Derived.Deep.CutBlock
import Derived.Deep.RegionHeld3
import Derived.Laws.Rows
import Derived.Lib.AppendStr
import Derived.ArgAppend
import Derived.Laws.IdiomCopy
import Derived.OrdersHeld
import Derived.Laws.BitsLemmas
import Derived.RowKit
import Derived.WalkSpells
import Derived.Outline
import Derived.Test.YtopclgpimabpcaaWWords
import Derived.Test.YtopclgpimabpcaaWLast
import Derived.Test.YtopclgpimabpcaaWMore
import Derived.Test.YtopclgpimabpcaaWArr
import Derived.Test.YtopclgpimabpcaaWTab
import Derived.Test.YtopclgpimabpcaaWZeros
import Derived.Test.YtopclgpimabpcaaWRepsOne
import Derived.Test.YtopclgpimabpcaaTaP
namespace Go.Proofs.Ytopclgpimabpcaa.TaWalkT
open Go.RowKit Go.Proofs.YtopclgpimabpcaaW.PrintWords Go.Proofs.YtopclgpimabpcaaW.PrintLast Go.Proofs.YtopclgpimabpcaaW.PrintMore Go.Proofs.Ytopclgpimabpcaa.Tk Go.Proofs.Ytopclgpimabpcaa.TkA Go.Proofs.Ytopclgpimabpcaa.TkB Go.Proofs.Ytopclgpimabpcaa.TkC Go.Proofs.Ytopclgpimabpcaa.TkD Go.Proofs.Ytopclgpimabpcaa.TkE Go.Proofs.Ytopclgpimabpcaa.TfWalk Go.Proofs.Ytopclgpimabpcaa.TtP Go.Proofs.Ytopclgpimabpcaa.InA Go.Proofs.Ytopclgpimabpcaa.TlA Go.Proofs.Ytopclgpimabpcaa.TaP Go.Proofs.Ytopclgpimabpcaa.Mix
set_option linter.unusedSimpArgs false
set_option linter.unusedVariables false
attribute [local go_sem] max2_int min2_int max_two min_two

/-- An op. -/
abbrev KOp : Kd (Int × Int × List Int) := Kd.pair (Kd.int .i64) (Kd.pair (Kd.int .i64) (Kd.slice 3 (Kd.int .i64)))
theorem op_at {w : World} {A : Option Addr} {n : Nat} {os : List (Int × Int × List Int)} (h : KOp.C w A n os) (i : Nat) (hi : i < n) : ∃ ad A' c', A = some ad ∧ w.cell? (ad.add (i * 3)) = some (.int .i64 (os.getD i (0, 0, [])).1) ∧ w.cell? (ad.add (i * 3 + 1)) = some (.int .i64 (os.getD i (0, 0, [])).2.1) ∧ w.cell? (ad.add (i * 3 + 2)) = some (.slice A' (os.getD i (0, 0, [])).2.2.length c') ∧ (os.getD i (0, 0, [])).2.2.length ≤ c' ∧ (Kd.int .i64).C w A' (os.getD i (0, 0, [])).2.2.length (os.getD i (0, 0, [])).2.2 := by
  obtain ⟨ad, cs, e1, hs, ⟨c0, c1, e2, h0, ⟨c2, c3, e3, h2, ⟨A', c', e4, hl, hc⟩⟩⟩, hcell⟩ := ReadsRow.get_ h (0, 0, []) (i : Int) (by omega) (by omega)
  rw [Int.toNat_natCast] at h0 h2 e4 hl hc hcell
  have h0' : c0 = [.int .i64 (os.getD i (0, 0, [])).1] := h0
  have h2' : c2 = [.int .i64 (os.getD i (0, 0, [])).2.1] := h2
  subst h0'
  subst h2'
  subst e4
  subst e3
  subst e2
  have hz : KOp.sz = 3 := rfl
  rw [hz] at hcell
  exact ⟨ad, A', c', e1, hcell 0 _ rfl, hcell 1 _ rfl, hcell 2 _ rfl, hl, hc⟩
/-- All blocks but one are as they were. -/
structure SameBut (gs : Nat) (w w' : World) : Prop where
  out : ∀ g, g ≠ gs → w'.heap[g]? = w.heap[g]?
theorem same_cell {gs a i : Nat} {w w' : World} {v : Value} (h : SameBut gs w w') (hne : a ≠ gs) (hc : w.cell? ⟨a, i, none⟩ = some v) : w'.cell? ⟨a, i, none⟩ = some v := by
  rw [← hc]
  unfold World.cell?
  rw [h.out a hne]
set_option maxRecDepth 100000 in
set_option maxHeartbeats 40000000 in
theorem walk (A : Option Addr) (c : Nat) (l : List (Int × Int × List Int)) (w : World) (hr : KOp.C w A l.length l) (hc : l.length ≤ c)
    (hg : l.length ≤ maxLen ∧ ∀ o ∈ l, (Lit.int .i64 o.1).wf = true ∧ (Lit.int .i64 o.2.1).wf = true ∧ o.2.2.length ≤ maxLen ∧ ∀ x ∈ o.2.2, (Lit.int .i64 x).wf = true) :
    Calls Try.prog 3 #[.slice A l.length c] w fun e w' => e = .returned (.bool true) ∧ Below w.heap.size w w' := by
  have HR := Aside0.mk hr
  have HG := Aside0.mk hg
  clear hr hg
  go_enter Try.func3, Try.ntmps3
  go_wp2_with fail
  refine (begun_calls w).mono ?_
  rintro e_ w1 ⟨rfl, hb⟩
  have HB1 := Aside0.mk hb
  clear hb
  go_wp2_with fail
  refine (new_calls w.heap.size w1 HB1.out.size).mono ?_
  rintro e_ w2 ⟨p, rfl, hp, hb⟩
  have HP := Aside0.mk hp
  have HB2 := Aside0.mk (below_step HB1.out hb)
  clear hp hb HB1
  go_wp2_with fail
  go_loopg [5, 6, 7, 8, 9, 10, 11, 12, 13, 14, 15, 16, 17, 18] (min l.length 120) (fun q v5 v6 v7 v8 v9 v10 v11 v12 v13 v14 v15 v16 v17 v18 w' => ∃ (i : Nat) (ts : List Tk), v8 = .int .i64 (i : Int) ∧ v7 = .int .i64 (cnt 1 ts : Int) ∧ Aside0 (i + q = min l.length 120 ∧ ts.length ≤ i ∧ ∀ t ∈ ts, t.n = t.sp ∧ (t.st = 0 ∨ t.st = 1 ∨ t.st = 2) ∧ t.n ≤ i ∧ ∀ v ∈ t.L, v = 0 ∨ v = 1 ∨ v = 2) ∧ Aside0 (PoolAt w' w.heap.size p ts) ∧ Aside0 (Kptr.R 30 w' w.heap.size (fun _ => True) v5 (ts.map Tk.h)) ∧ Aside0 (Kd.R (Kd.int .i64) 3 w' w.heap.size (fun _ => True) v6 (ts.map Tk.st)) ∧ Aside0 (Far v6 ts) ∧ Aside0 (Below w.heap.size w w'))
  case atStart => exact ⟨0, [], rfl, rfl, ⟨by omega, by simp, by simp⟩, HP, ⟨Kd.R_nil _ _ _ _ _⟩, ⟨Kd.R_nil _ _ _ _ _⟩, ⟨fun t ht => by cases ht⟩, HB2⟩
  case round =>
    clear HP HB2
    obtain ⟨i, ts, rfl, rfl, HI, HP, HW, HS, HFR, HB⟩ := hrel
    have hi := HI.out
    by_cases hlt : i < l.length ∧ i < 120
    · obtain ⟨f, rfl⟩ : ∃ f, gk = f + 1 := ⟨gk - 1, by omega⟩
      have k0 : ((i : Int) < (l.length : Int)) = True := eq_true (by omega)
      have k1 : ((i : Int) < 120) = True := eq_true (by omega)
      have kw : IntKind.i64.wrap ((i : Int) + 1) = ((i + 1 : Nat) : Int) := by rw [IntKind.wrap_i64]; omega
      obtain ⟨ad, Al, cl, e_, hc0, hc1, hc2, hcl, hC⟩ := op_at (Kd.C_below HR.out HB.out) i hlt.1
      subst e_
      rw [add_field ad (i * 3) 1 (by decide)] at hc1
      rw [add_field ad (i * 3) 2 (by decide)] at hc2
      generalize (l.getD i (0, 0, [])).1 = kd at *
      generalize (l.getD i (0, 0, [])).2.1 = id at *
      generalize (l.getD i (0, 0, [])).2.2 = L at *
      obtain ⟨Aw, cw, rfl⟩ := Kd.R_slice HW.out
      obtain ⟨As, cs, rfl⟩ := Kd.R_slice HS.out
      rw [List.length_map] at HW HS HFR
      have HSY : Aside0 (PSys wr w.heap.size p ts (.slice Aw ts.length cw) (.slice As ts.length cs) (ts.map Tk.st)) := ⟨⟨HP.out, HW.out, HS.out, HFR.out⟩⟩
      have HGD : Aside0 (PGood ts i) := ⟨hi.2.2⟩
      have HLT : Aside0 (ts.length ≤ i ∧ i < 120) := ⟨by omega⟩
      obtain ⟨wA, hwA⟩ : ∃ x, wr.alloc (.cells #[.int .i64 kd, .int .i64 id, .slice Al L.length cl] 29 (0, 0)) = x := ⟨_, rfl⟩
      have hbA : Below wr.heap.size wr wA := by rw [← hwA]; exact (Below.refl wr.heap.size wr).alloc (Nat.le_refl _) _
      have HOB : Aside0 (Blk wA wr.heap.size #[.int .i64 kd, .int .i64 id, .slice Al L.length cl] 29) := ⟨by rw [← hwA]; exact blk_new wr _⟩
      have HSA := Aside0.mk (sys_below HSY.out hbA)
      have HBA := Aside0.mk (below_to HB.out HB.out.size hbA)
      have HCA := Aside0.mk (Kd.C_below hC hbA)
      have o0 : wA.cell? ⟨wr.heap.size, 0, none⟩ = some (.int .i64 kd) := blk_cell HOB.out 0
      have o1 : wA.cell? ⟨wr.heap.size, 1, none⟩ = some (.int .i64 id) := blk_cell HOB.out 1
      have o2 : wA.cell? ⟨wr.heap.size, 2, none⟩ = some (.slice Al L.length cl) := blk_cell HOB.out 2
      clear hi HP HW HS HFR HB hbA hC HSY
      by_cases hk0 : kd = 0
      ·
        as_aux_lemma =>
          have bk0 : (kd == 0) = true := by simp [hk0]
          clear hk0 o1
          have HTI : Aside0 (1 ≤ 1) := ⟨Nat.le_refl _⟩
          have o1 : wA.cell? ⟨wr.heap.size, 1, none⟩ = some (.int .i64 id) := blk_cell HOB.out 1
          by_cases hi1 : 1 ≤ id
          · have i1 := eq_true hi1
            clear hi1
            by_cases h6 : 6 < L.length
            · have hcut := cut6 Al cl L 6 (by omega) hcl
              rw [show ((6 : Nat) : Int) = 6 from rfl] at hcut
              have k6 : ((6 : Int) < (L.length : Int)) = True := eq_true (by omega)
              have HC6 := Aside0.mk (C_take_int 6 HCA.out)
              have HL6 : Aside0 ((L.take 6).length ≤ 6) := ⟨by rw [List.length_take]; omega⟩
              clear h6
              generalize L.take 6 = L6 at *
              go_wp2_with fail
              all_goals clear hcut
              go_loopg [12, 13] L6.length (fun q v12 v13 w' => ∃ k : Nat, v13 = .int .i64 (k : Int) ∧ Aside0 (k + q = L6.length) ∧ Aside0 (Kd.R (Kd.int .i64) 3 w' wA.heap.size (fun _ => True) v12 (mL (L6.take k))) ∧ Aside0 (Below wA.heap.size wA w'))
              case atStart => exact ⟨0, rfl, ⟨by omega⟩, ⟨Kd.R_nil _ _ _ _ _⟩, ⟨Below.refl _ _⟩⟩
              case round =>
                obtain ⟨k, rfl, HK, HM, HBM⟩ := hrel
                have hk := HK.out
                have hl6 := HL6.out
                by_cases hkl : k < L6.length
                · obtain ⟨f2, rfl⟩ : ∃ f, gk = f + 1 := ⟨gk - 1, by omega⟩
                  have j0 : ((k : Int) < (L6.length : Int)) = True := eq_true (by omega)
                  have jw : IntKind.i64.wrap ((k : Int) + 1) = (k : Int) + 1 := by rw [IntKind.wrap_i64]; omega
                  obtain ⟨al, e_, _⟩ := Kd.at_int HC6.out (k : Int) (by omega) (by omega)
                  subst e_
                  have hcell := int_at HC6.out HBM.out k hkl
                  have hsn := mL_snoc hkl
                  have hmlen : (mL (L6.take k)).length ≤ 6 := by unfold mL; rw [List.length_map, List.length_take]; omega
                  generalize rd L6 (k : Int) = y at *
                  have hmd : md y = (y.tmod 3 + 3).tmod 3 := rfl
                  have hmg := md_good y
                  obtain ⟨q, hq⟩ : ∃ q, y.tmod 3 = q := ⟨_, rfl⟩
                  have hqb : -3 < q ∧ q < 3 := by
                    rw [← hq]
                    exact ⟨Int.lt_tmod_of_pos y (by decide), Int.tmod_lt_of_pos y (by decide)⟩
                  rw [hq] at hmd
                  have hq2 : IntKind.i64.wrap q = q := by rw [IntKind.wrap_i64]; omega
                  have hq3 : IntKind.i64.wrap (q + 3) = q + 3 := by rw [IntKind.wrap_i64]; omega
                  obtain ⟨z, hz⟩ : ∃ z, (q + 3).tmod 3 = z := ⟨_, rfl⟩
                  rw [hz] at hmd
                  rw [hmd] at hsn hmg
                  have hz2 : IntKind.i64.wrap z = z := by rw [IntKind.wrap_i64]; omega
                  have hz3 : (q + 3) % 3 = z := by rw [← hz, Int.tmod_eq_emod_of_nonneg (by omega)]
                  have HSN := Aside0.mk hsn
                  have HML := Aside0.mk hmlen
                  clear hsn hmlen hmd hmg hk hl6 hqb
                  generalize mL (L6.take k) = acc at *
                  go_wp2_with ((with_reducible refine gate_builtin (b := .append) (xs := #[.tmp 83, .tmp 91]) rfl ?_); at_builtin; go_must (refine Kd.R_append (Kd.int .i64) (w0 := wA) (wA.heap.size) rfl (.tmp 83) (.tmp 91) 27 3 (.int .i64 0) 8 rfl Try.underlying27 info3 rfl (by decide) (by omega) u12 acc z [.int .i64 z] (fun _ => True) (fun _ => False) rfl rfl rfl (fun _ hk => hk.elim) (fun _ _ => trivial) HM.out HBM.out HBM.out.size (by have := HML.out; omega) ?_; intro vm wn ho hb hg hat; have HM2 := Aside0.mk ho; have HBM2 := Aside0.mk hb; clear ho hb hg hat))
                  go_roundg f2
                  case measure => omega
                  case rel => exact ⟨k + 1, by simp, ⟨by have := HK.out; omega⟩, ⟨by rw [HSN.out]; exact HM2.out⟩, HBM2⟩
                · have hke : k = L6.length := by omega
                  subst hke
                  have j0 : ((L6.length : Int) < (L6.length : Int)) = False := eq_false (by omega)
                  rw [List.take_of_length_le (Nat.le_refl _)] at HM
                  generalize wr = wm at *
                  obtain ⟨Am, cm, evm⟩ := Kd.R_slice HM.out
                  have hml : (mL L6).length = L6.length := List.length_map _
                  rw [hml] at evm
                  subst evm
                  have HSM := Aside0.mk (sys_below HSA.out HBM.out)
                  have HBm := Aside0.mk (below_to HBA.out HBA.out.size HBM.out)
                  have hfr : (Value.slice Am L6.length cm).ownBlock = none ∨ (Value.slice Am L6.length cm).ownBlock ≠ (Value.slice As ts.length cs).ownBlock := by
                    cases hb1 : (Value.slice Am L6.length cm).ownBlock with
                    | none => exact .inl rfl
                    | some b1 =>
                      right
                      intro e
                      have h1 := own_base (Kd.own_of_R HM.out) b1 hb1
                      have h2 := own_lt (Kd.own_of_R HSA.out.2.2.1) b1 e.symm
                      omega
                  obtain ⟨wB, hwB⟩ : ∃ x, wm.alloc (.cells #[.slice Am L6.length cm, .int .i64 0] 32 (0, 0)) = x := ⟨_, rfl⟩
                  have hbB : Below wm.heap.size wm wB := by rw [← hwB]; exact (Below.refl wm.heap.size wm).alloc (Nat.le_refl _) _
                  have hkB : Blk wB wm.heap.size #[.slice Am L6.length cm, .int .i64 0] 32 := by rw [← hwB]; exact blk_new wm _
                  have hownB : wB.ownsRow w.heap.size 3 1 (.slice Am L6.length cm) (mL L6).length (nums .i64 (mL L6)) := pw_own_below (own_weaken (own_R HM.out) HBA.out.size) hbB
                  have HSB := Aside0.mk (sys_below HSM.out hbB)
                  have HBB := Aside0.mk (below_to HBm.out HBm.out.size hbB)
                  have HNB := Aside0.mk (And.intro hkB (And.intro hownB (And.intro (pool_fresh HSM.out.1) (And.intro HBm.out.size hfr))))
                  clear hbB hkB hownB hfr hml hkl hk hl6
                  by_cases h40 : 40 ≤ cnt 1 ts
                  · have HAD := Aside0.mk (add_full (h := wm.heap.size) HSB.out.1 (by rw [thoseL_len]; exact h40))
                    have k40 : (40 ≤ (cnt 1 ts : Int)) = True := eq_true (by omega)
                    clear h40
                    go_wp2_with fail
                    refine HAD.out.mono ?_
                    rintro e_ w6 ⟨rfl, hb⟩
                    have HS6 := Aside0.mk (sys_below HSB.out hb)
                    have HB6 := Aside0.mk (below_to HBB.out HBB.out.size hb)
                    clear hb
                    go_wp2_with fail
                    go_roundg f
                    case measure => omega
                    case rel => exact ⟨i + 1, ts, by simp, rfl, ⟨by have := HI.out; omega, by have := HLT.out; omega, good_mono HGD.out⟩, ⟨HS6.out.1⟩, ⟨HS6.out.2.1⟩, ⟨HS6.out.2.2.1⟩, ⟨HS6.out.2.2.2⟩, HB6⟩
                  · have hadd := add_go (n := 0) HSB.out.1 (by rw [thoseL_len]; omega) (by have := HLT.out; omega) HNB.out.2.2.2.1 HNB.out.1 HNB.out.2.1 HNB.out.2.2.1
                    obtain ⟨tl, htl⟩ : ∃ tl, ts.length + 1 = tl := ⟨_, rfl⟩
                    rw [htl] at hadd
                    have HAD := Aside0.mk hadd
                    have k40 : (40 ≤ (cnt 1 ts : Int)) = False := eq_false (by omega)
                    have kop : IntKind.i64.wrap ((cnt 1 ts : Int) + 1) = ((cnt 1 ts + 1 : Nat) : Int) := by rw [IntKind.wrap_i64]; omega
                    have HTL := Aside0.mk htl
                    clear hadd h40 htl
                    go_wp2_with fail
                    refine HAD.out.mono ?_
                    rintro e_ w6 ⟨rfl, ⟨g, hp⟩, hb, hk⟩
                    obtain ⟨tz, htz⟩ : ∃ tz, ts ++ [⟨g, wm.heap.size, .slice Am L6.length cm, mL L6, 0, 0, 0⟩] = tz := ⟨_, rfl⟩
                    have hgz : PGood tz (i + 1) := by rw [← htz]; exact good_new HGD.out mL_good
                    have hcz : cnt 1 tz = cnt 1 ts + 1 := by rw [← htz, cnt_append]; rfl
                    have hlz : tz.length = tl := by rw [← htz, List.length_append, ← HTL.out]; rfl
                    have hmh : tz.map Tk.h = ts.map Tk.h ++ [wm.heap.size] := by rw [← htz, List.map_append]; rfl
                    have hms : tz.map Tk.st = ts.map Tk.st ++ [0] := by rw [← htz, List.map_append]; rfl
                    have hfz : Far (.slice As ts.length cs) tz := by
                      rw [← htz]
                      intro t ht
                      rcases List.mem_append.1 ht with ht | ht
                      · exact HSB.out.2.2.2 t ht
                      · rw [List.mem_singleton.1 ht]
                        exact HNB.out.2.2.2.2
                    rw [htz] at hp
                    have HP6 := Aside0.mk hp
                    have HW6 := Aside0.mk (Rp_kp HSB.out.2.1 hk)
                    have HS6 := Aside0.mk (R_kp HSB.out.2.2.1 hk)
                    have HB6 := Aside0.mk (HBB.out.trans hb)
                    have HFZ := Aside0.mk hfz
                    have HGZ := Aside0.mk hgz
                    have HLZ : Aside0 (tz.length = tl ∧ ts.length ≤ i ∧ i < 120 ∧ tl = ts.length + 1) := ⟨hlz, HLT.out.1, HLT.out.2, HTL.out.symm⟩
                    have HMP := Aside0.mk (And.intro hmh (And.intro hms hcz))
                    have HLM : Aside0 ((ts.map Tk.h).length = ts.length ∧ (ts.map Tk.st).length = ts.length) := ⟨List.length_map _, List.length_map _⟩
                    clear hp hb hk hgz hcz hlz hmh hms hfz htz HAD HNB HSB HBB HSM HBm HM HBM HSA HBA HOB
                    generalize ts.map Tk.h = hs at *
                    have HBSZ : Aside0 (w.heap.size ≤ w6.heap.size) := ⟨HB6.out.size⟩
                    have HBND : Aside0 ((hs.length + 1) * 8 ≤ 140737488355328) := ⟨by have := HLM.out; have := HLT.out; omega⟩
                    generalize ts.map Tk.st = ss at *
                    go_wp2_with (first | ((with_reducible refine gate_builtin (b := .append) (xs := #[.tmp 104, .tmp 106]) rfl ?_); at_builtin; go_must (refine Kd.R_append Kptr (w0 := w) (w.heap.size) rfl (.tmp 104) (.tmp 106) 26 30 (.pointer none) 8 rfl ?u1 ?u2 ?u3 ?u4 ?u5 (.slice Aw ts.length cw) hs wm.heap.size [.pointer (some ⟨wm.heap.size, 0, none⟩)] (fun _ => True) (fun _ => False) ?h1 ?h2 ?h3 ?h4 ?h5 ?h6 ?h7 ?h8 ?h9 ?_; (case u1 => exact Try.underlying26); (case u2 => exact info30); (case u3 => rfl); (case u4 => decide); (case u5 => decide); (case h1 => rfl); (case h2 => rfl); (case h3 => rfl); (case h4 => exact fun _ hk => hk.elim); (case h5 => exact fun _ _ => trivial); (case h6 => exact HW6.out); (case h7 => exact HB6.out); (case h8 => exact HBSZ.out); (case h9 => have := HLM.out; have := HLT.out; omega); intro v7 w7 ho hb hg hat; have hp7 := pool_ptr HP6.out HW6.out hg; have hs7 := R_ptr HS6.out HW6.out hg; obtain ⟨Aw7, cw7, e7⟩ := Kd.R_slice ho; rw [List.length_append, HLM.out.1, List.length_singleton, HTL.out] at e7; subst e7; have HW7 := Aside0.mk ho; have HB7 := Aside0.mk hb; have HP7 := Aside0.mk hp7; have HS7 := Aside0.mk hs7; clear ho hb hg hat hp7 hs7)) | ((with_reducible refine gate_builtin (b := .append) (xs := #[.tmp 108, .tmp 109]) rfl ?_); at_builtin; go_must (refine Kd.R_append (Kd.int .i64) (w0 := w) (w.heap.size) rfl (.tmp 108) (.tmp 109) 27 3 (.int .i64 0) 8 rfl Try.underlying27 info3 rfl (by decide) (by omega) (.slice As ts.length cs) ss (0 : Int) [.int .i64 (0 : Int)] (fun _ => True) (fun _ => False) rfl rfl rfl (fun _ hk => hk.elim) (fun _ _ => trivial) HS7.out HB7.out HB7.out.size (by have := HLM.out; have := HLT.out; omega) ?_; intro v8 w8 ho hb hg hat; have HS8 := Aside0.mk ho; have HB8 := Aside0.mk hb; have HP8 := Aside0.mk (pool_int HP7.out HS7.out hg HFZ.out); have HW8 := Aside0.mk (Rp_int HW7.out HS7.out hg); have hf8 := far_append HP7.out HFZ.out hat; obtain ⟨As8, cs8, e8⟩ := Kd.R_slice HS8.out; rw [List.length_append, HLM.out.2, List.length_singleton, HTL.out] at e8; subst e8; have HF8 := Aside0.mk hf8; clear hf8; clear ho hb hg hat)))
                    have hsz : PSys w8 w.heap.size p tz (.slice Aw7 tl cw7) (.slice As8 tl cs8) (tz.map Tk.st) := ⟨HP8.out, by rw [HMP.out.1]; exact HW8.out, by rw [HMP.out.2.1]; exact HS8.out, HF8.out⟩
                    have HSZ := Aside0.mk hsz
                    have HBZ := HB8
                    clear hsz
                    refine (sys_tells HLZ.out.1 HSZ.out HGZ.out (by have := HLZ.out; omega)).mono ?_
                    rintro e_ wt ⟨rfl, hb⟩
                    have HSt := Aside0.mk (sys_below HSZ.out hb)
                    have HBt := Aside0.mk (below_to HBZ.out HBZ.out.size hb)
                    clear hb
                    go_wp2_with fail
                    go_roundg f
                    case measure => omega
                    case rel => exact ⟨i + 1, tz, by simp, by rw [HMP.out.2.2]; simp, ⟨by have := HI.out; omega, by have := HLZ.out; omega, HGZ.out⟩, ⟨HSt.out.1⟩, ⟨HSt.out.2.1⟩, ⟨HSt.out.2.2.1⟩, ⟨HSt.out.2.2.2⟩, HBt⟩
            as_aux_lemma =>
              · have hL6 : L.take 6 = L := List.take_of_length_le (by omega)
                have k6 : ((6 : Int) < (L.length : Int)) = False := eq_false (by omega)
                have HC6 := HCA
                have HL6 : Aside0 (L.length ≤ 6) := ⟨by omega⟩
                clear h6 hL6
                generalize L = L6 at *
                go_wp2_with fail
                go_loopg [12, 13] L6.length (fun q v12 v13 w' => ∃ k : Nat, v13 = .int .i64 (k : Int) ∧ Aside0 (k + q = L6.length) ∧ Aside0 (Kd.R (Kd.int .i64) 3 w' wA.heap.size (fun _ => True) v12 (mL (L6.take k))) ∧ Aside0 (Below wA.heap.size wA w'))
                case atStart => exact ⟨0, rfl, ⟨by omega⟩, ⟨Kd.R_nil _ _ _ _ _⟩, ⟨Below.refl _ _⟩⟩
                case round =>
                  obtain ⟨k, rfl, HK, HM, HBM⟩ := hrel
                  have hk := HK.out
                  have hl6 := HL6.out
                  by_cases hkl : k < L6.length
                  · obtain ⟨f2, rfl⟩ : ∃ f, gk = f + 1 := ⟨gk - 1, by omega⟩
                    have j0 : ((k : Int) < (L6.length : Int)) = True := eq_true (by omega)
                    have jw : IntKind.i64.wrap ((k : Int) + 1) = (k : Int) + 1 := by rw [IntKind.wrap_i64]; omega
                    obtain ⟨al, e_, _⟩ := Kd.at_int HC6.out (k : Int) (by omega) (by omega)
                    subst e_
                    have hcell := int_at HC6.out HBM.out k hkl
                    have hsn := mL_snoc hkl
                    have hmlen : (mL (L6.take k)).length ≤ 6 := by unfold mL; rw [List.length_map, List.length_take]; omega
                    generalize rd L6 (k : Int) = y at *
                    have hmd : md y = (y.tmod 3 + 3).tmod 3 := rfl
                    have hmg := md_good y
                    obtain ⟨q, hq⟩ : ∃ q, y.tmod 3 = q := ⟨_, rfl⟩
                    have hqb : -3 < q ∧ q < 3 := by
                      rw [← hq]
                      exact ⟨Int.lt_tmod_of_pos y (by decide), Int.tmod_lt_of_pos y (by decide)⟩
                    rw [hq] at hmd
                    have hq2 : IntKind.i64.wrap q = q := by rw [IntKind.wrap_i64]; omega
                    have hq3 : IntKind.i64.wrap (q + 3) = q + 3 := by rw [IntKind.wrap_i64]; omega
                    obtain ⟨z, hz⟩ : ∃ z, (q + 3).tmod 3 = z := ⟨_, rfl⟩
                    rw [hz] at hmd
                    rw [hmd] at hsn hmg
                    have hz2 : IntKind.i64.wrap z = z := by rw [IntKind.wrap_i64]; omega
                    have hz3 : (q + 3) % 3 = z := by rw [← hz, Int.tmod_eq_emod_of_nonneg (by omega)]
                    have HSN := Aside0.mk hsn
                    have HML := Aside0.mk hmlen
                    clear hsn hmlen hmd hmg hk hl6 hqb
                    generalize mL (L6.take k) = acc at *
                    go_wp2_with ((with_reducible refine gate_builtin (b := .append) (xs := #[.tmp 83, .tmp 91]) rfl ?_); at_builtin; go_must (refine Kd.R_append (Kd.int .i64) (w0 := wA) (wA.heap.size) rfl (.tmp 83) (.tmp 91) 27 3 (.int .i64 0) 8 rfl Try.underlying27 info3 rfl (by decide) (by omega) u12 acc z [.int .i64 z] (fun _ => True) (fun _ => False) rfl rfl rfl (fun _ hk => hk.elim) (fun _ _ => trivial) HM.out HBM.out HBM.out.size (by have := HML.out; omega) ?_; intro vm wn ho hb hg hat; have HM2 := Aside0.mk ho; have HBM2 := Aside0.mk hb; clear ho hb hg hat))
                    go_roundg f2
                    case measure => omega
                    case rel => exact ⟨k + 1, by simp, ⟨by have := HK.out; omega⟩, ⟨by rw [HSN.out]; exact HM2.out⟩, HBM2⟩
                  · have hke : k = L6.length := by omega
                    subst hke
                    have j0 : ((L6.length : Int) < (L6.length : Int)) = False := eq_false (by omega)
                    rw [List.take_of_length_le (Nat.le_refl _)] at HM
                    generalize wr = wm at *
                    obtain ⟨Am, cm, evm⟩ := Kd.R_slice HM.out
                    have hml : (mL L6).length = L6.length := List.length_map _
                    rw [hml] at evm
                    subst evm
                    have HSM := Aside0.mk (sys_below HSA.out HBM.out)
                    have HBm := Aside0.mk (below_to HBA.out HBA.out.size HBM.out)
                    have hfr : (Value.slice Am L6.length cm).ownBlock = none ∨ (Value.slice Am L6.length cm).ownBlock ≠ (Value.slice As ts.length cs).ownBlock := by
                      cases hb1 : (Value.slice Am L6.length cm).ownBlock with
                      | none => exact .inl rfl
                      | some b1 =>
                        right
                        intro e
                        have h1 := own_base (Kd.own_of_R HM.out) b1 hb1
                        have h2 := own_lt (Kd.own_of_R HSA.out.2.2.1) b1 e.symm
                        omega
                    obtain ⟨wB, hwB⟩ : ∃ x, wm.alloc (.cells #[.slice Am L6.length cm, .int .i64 0] 32 (0, 0)) = x := ⟨_, rfl⟩
                    have hbB : Below wm.heap.size wm wB := by rw [← hwB]; exact (Below.refl wm.heap.size wm).alloc (Nat.le_refl _) _
                    have hkB : Blk wB wm.heap.size #[.slice Am L6.length cm, .int .i64 0] 32 := by rw [← hwB]; exact blk_new wm _
                    have hownB : wB.ownsRow w.heap.size 3 1 (.slice Am L6.length cm) (mL L6).length (nums .i64 (mL L6)) := pw_own_below (own_weaken (own_R HM.out) HBA.out.size) hbB
                    have HSB := Aside0.mk (sys_below HSM.out hbB)
                    have HBB := Aside0.mk (below_to HBm.out HBm.out.size hbB)
                    have HNB := Aside0.mk (And.intro hkB (And.intro hownB (And.intro (pool_fresh HSM.out.1) (And.intro HBm.out.size hfr))))
                    clear hbB hkB hownB hfr hml hkl hk hl6
                    by_cases h40 : 40 ≤ cnt 1 ts
                    · have HAD := Aside0.mk (add_full (h := wm.heap.size) HSB.out.1 (by rw [thoseL_len]; exact h40))
                      have k40 : (40 ≤ (cnt 1 ts : Int)) = True := eq_true (by omega)
                      clear h40
                      go_wp2_with fail
                      refine HAD.out.mono ?_
                      rintro e_ w6 ⟨rfl, hb⟩
                      have HS6 := Aside0.mk (sys_below HSB.out hb)
                      have HB6 := Aside0.mk (below_to HBB.out HBB.out.size hb)
                      clear hb
                      go_wp2_with fail
                      go_roundg f
                      case measure => omega
                      case rel => exact ⟨i + 1, ts, by simp, rfl, ⟨by have := HI.out; omega, by have := HLT.out; omega, good_mono HGD.out⟩, ⟨HS6.out.1⟩, ⟨HS6.out.2.1⟩, ⟨HS6.out.2.2.1⟩, ⟨HS6.out.2.2.2⟩, HB6⟩
                    · have hadd := add_go (n := 0) HSB.out.1 (by rw [thoseL_len]; omega) (by have := HLT.out; omega) HNB.out.2.2.2.1 HNB.out.1 HNB.out.2.1 HNB.out.2.2.1
                      obtain ⟨tl, htl⟩ : ∃ tl, ts.length + 1 = tl := ⟨_, rfl⟩
                      rw [htl] at hadd
                      have HAD := Aside0.mk hadd
                      have k40 : (40 ≤ (cnt 1 ts : Int)) = False := eq_false (by omega)
                      have kop : IntKind.i64.wrap ((cnt 1 ts : Int) + 1) = ((cnt 1 ts + 1 : Nat) : Int) := by rw [IntKind.wrap_i64]; omega
                      have HTL := Aside0.mk htl
                      clear hadd h40 htl
                      go_wp2_with fail
                      refine HAD.out.mono ?_
                      rintro e_ w6 ⟨rfl, ⟨g, hp⟩, hb, hk⟩
                      obtain ⟨tz, htz⟩ : ∃ tz, ts ++ [⟨g, wm.heap.size, .slice Am L6.length cm, mL L6, 0, 0, 0⟩] = tz := ⟨_, rfl⟩
                      have hgz : PGood tz (i + 1) := by rw [← htz]; exact good_new HGD.out mL_good
                      have hcz : cnt 1 tz = cnt 1 ts + 1 := by rw [← htz, cnt_append]; rfl
                      have hlz : tz.length = tl := by rw [← htz, List.length_append, ← HTL.out]; rfl
                      have hmh : tz.map Tk.h = ts.map Tk.h ++ [wm.heap.size] := by rw [← htz, List.map_append]; rfl
                      have hms : tz.map Tk.st = ts.map Tk.st ++ [0] := by rw [← htz, List.map_append]; rfl
                      have hfz : Far (.slice As ts.length cs) tz := by
                        rw [← htz]
                        intro t ht
                        rcases List.mem_append.1 ht with ht | ht
                        · exact HSB.out.2.2.2 t ht
                        · rw [List.mem_singleton.1 ht]
                          exact HNB.out.2.2.2.2
                      rw [htz] at hp
                      have HP6 := Aside0.mk hp
                      have HW6 := Aside0.mk (Rp_kp HSB.out.2.1 hk)
                      have HS6 := Aside0.mk (R_kp HSB.out.2.2.1 hk)
                      have HB6 := Aside0.mk (HBB.out.trans hb)
                      have HFZ := Aside0.mk hfz
                      have HGZ := Aside0.mk hgz
                      have HLZ : Aside0 (tz.length = tl ∧ ts.length ≤ i ∧ i < 120 ∧ tl = ts.length + 1) := ⟨hlz, HLT.out.1, HLT.out.2, HTL.out.symm⟩
                      have HMP := Aside0.mk (And.intro hmh (And.intro hms hcz))
                      have HLM : Aside0 ((ts.map Tk.h).length = ts.length ∧ (ts.map Tk.st).length = ts.length) := ⟨List.length_map _, List.length_map _⟩
                      clear hp hb hk hgz hcz hlz hmh hms hfz htz HAD HNB HSB HBB HSM HBm HM HBM HSA HBA HOB
                      generalize ts.map Tk.h = hs at *
                      have HBSZ : Aside0 (w.heap.size ≤ w6.heap.size) := ⟨HB6.out.size⟩
                      have HBND : Aside0 ((hs.length + 1) * 8 ≤ 140737488355328) := ⟨by have := HLM.out; have := HLT.out; omega⟩
                      generalize ts.map Tk.st = ss at *
                      go_wp2_with (first | ((with_reducible refine gate_builtin (b := .append) (xs := #[.tmp 104, .tmp 106]) rfl ?_); at_builtin; go_must (refine Kd.R_append Kptr (w0 := w) (w.heap.size) rfl (.tmp 104) (.tmp 106) 26 30 (.pointer none) 8 rfl ?u1 ?u2 ?u3 ?u4 ?u5 (.slice Aw ts.length cw) hs wm.heap.size [.pointer (some ⟨wm.heap.size, 0, none⟩)] (fun _ => True) (fun _ => False) ?h1 ?h2 ?h3 ?h4 ?h5 ?h6 ?h7 ?h8 ?h9 ?_; (case u1 => exact Try.underlying26); (case u2 => exact info30); (case u3 => rfl); (case u4 => decide); (case u5 => decide); (case h1 => rfl); (case h2 => rfl); (case h3 => rfl); (case h4 => exact fun _ hk => hk.elim); (case h5 => exact fun _ _ => trivial); (case h6 => exact HW6.out); (case h7 => exact HB6.out); (case h8 => exact HBSZ.out); (case h9 => have := HLM.out; have := HLT.out; omega); intro v7 w7 ho hb hg hat; have hp7 := pool_ptr HP6.out HW6.out hg; have hs7 := R_ptr HS6.out HW6.out hg; obtain ⟨Aw7, cw7, e7⟩ := Kd.R_slice ho; rw [List.length_append, HLM.out.1, List.length_singleton, HTL.out] at e7; subst e7; have HW7 := Aside0.mk ho; have HB7 := Aside0.mk hb; have HP7 := Aside0.mk hp7; have HS7 := Aside0.mk hs7; clear ho hb hg hat hp7 hs7)) | ((with_reducible refine gate_builtin (b := .append) (xs := #[.tmp 108, .tmp 109]) rfl ?_); at_builtin; go_must (refine Kd.R_append (Kd.int .i64) (w0 := w) (w.heap.size) rfl (.tmp 108) (.tmp 109) 27 3 (.int .i64 0) 8 rfl Try.underlying27 info3 rfl (by decide) (by omega) (.slice As ts.length cs) ss (0 : Int) [.int .i64 (0 : Int)] (fun _ => True) (fun _ => False) rfl rfl rfl (fun _ hk => hk.elim) (fun _ _ => trivial) HS7.out HB7.out HB7.out.size (by have := HLM.out; have := HLT.out; omega) ?_; intro v8 w8 ho hb hg hat; have HS8 := Aside0.mk ho; have HB8 := Aside0.mk hb; have HP8 := Aside0.mk (pool_int HP7.out HS7.out hg HFZ.out); have HW8 := Aside0.mk (Rp_int HW7.out HS7.out hg); have hf8 := far_append HP7.out HFZ.out hat; obtain ⟨As8, cs8, e8⟩ := Kd.R_slice HS8.out; rw [List.length_append, HLM.out.2, List.length_singleton, HTL.out] at e8; subst e8; have HF8 := Aside0.mk hf8; clear hf8; clear ho hb hg hat)))
                      have hsz : PSys w8 w.heap.size p tz (.slice Aw7 tl cw7) (.slice As8 tl cs8) (tz.map Tk.st) := ⟨HP8.out, by rw [HMP.out.1]; exact HW8.out, by rw [HMP.out.2.1]; exact HS8.out, HF8.out⟩
                      have HSZ := Aside0.mk hsz
                      have HBZ := HB8
                      clear hsz
                      refine (sys_tells HLZ.out.1 HSZ.out HGZ.out (by have := HLZ.out; omega)).mono ?_
                      rintro e_ wt ⟨rfl, hb⟩
                      have HSt := Aside0.mk (sys_below HSZ.out hb)
                      have HBt := Aside0.mk (below_to HBZ.out HBZ.out.size hb)
                      clear hb
                      go_wp2_with fail
                      go_roundg f
                      case measure => omega
                      case rel => exact ⟨i + 1, tz, by simp, by rw [HMP.out.2.2]; simp, ⟨by have := HI.out; omega, by have := HLZ.out; omega, HGZ.out⟩, ⟨HSt.out.1⟩, ⟨HSt.out.2.1⟩, ⟨HSt.out.2.2.1⟩, ⟨HSt.out.2.2.2⟩, HBt⟩
          ·
            as_aux_lemma =>
              have i1 := eq_false hi1
              clear hi1
              by_cases h6 : 6 < L.length
              · have hcut := cut6 Al cl L 6 (by omega) hcl
                rw [show ((6 : Nat) : Int) = 6 from rfl] at hcut
                have k6 : ((6 : Int) < (L.length : Int)) = True := eq_true (by omega)
                have HC6 := Aside0.mk (C_take_int 6 HCA.out)
                have HL6 : Aside0 ((L.take 6).length ≤ 6) := ⟨by rw [List.length_take]; omega⟩
                clear h6
                generalize L.take 6 = L6 at *
                go_wp2_with fail
                all_goals clear hcut
                go_loopg [12, 13] L6.length (fun q v12 v13 w' => ∃ k : Nat, v13 = .int .i64 (k : Int) ∧ Aside0 (k + q = L6.length) ∧ Aside0 (Kd.R (Kd.int .i64) 3 w' wA.heap.size (fun _ => True) v12 (mL (L6.take k))) ∧ Aside0 (Below wA.heap.size wA w'))
                case atStart => exact ⟨0, rfl, ⟨by omega⟩, ⟨Kd.R_nil _ _ _ _ _⟩, ⟨Below.refl _ _⟩⟩
                case round =>
                  obtain ⟨k, rfl, HK, HM, HBM⟩ := hrel
                  have hk := HK.out
                  have hl6 := HL6.out
                  by_cases hkl : k < L6.length
                  · obtain ⟨f2, rfl⟩ : ∃ f, gk = f + 1 := ⟨gk - 1, by omega⟩
                    have j0 : ((k : Int) < (L6.length : Int)) = True := eq_true (by omega)
                    have jw : IntKind.i64.wrap ((k : Int) + 1) = (k : Int) + 1 := by rw [IntKind.wrap_i64]; omega
                    obtain ⟨al, e_, _⟩ := Kd.at_int HC6.out (k : Int) (by omega) (by omega)
                    subst e_
                    have hcell := int_at HC6.out HBM.out k hkl
                    have hsn := mL_snoc hkl
                    have hmlen : (mL (L6.take k)).length ≤ 6 := by unfold mL; rw [List.length_map, List.length_take]; omega
                    generalize rd L6 (k : Int) = y at *
                    have hmd : md y = (y.tmod 3 + 3).tmod 3 := rfl
                    have hmg := md_good y
                    obtain ⟨q, hq⟩ : ∃ q, y.tmod 3 = q := ⟨_, rfl⟩
                    have hqb : -3 < q ∧ q < 3 := by
                      rw [← hq]
                      exact ⟨Int.lt_tmod_of_pos y (by decide), Int.tmod_lt_of_pos y (by decide)⟩
                    rw [hq] at hmd
                    have hq2 : IntKind.i64.wrap q = q := by rw [IntKind.wrap_i64]; omega
                    have hq3 : IntKind.i64.wrap (q + 3) = q + 3 := by rw [IntKind.wrap_i64]; omega
                    obtain ⟨z, hz⟩ : ∃ z, (q + 3).tmod 3 = z := ⟨_, rfl⟩
                    rw [hz] at hmd
                    rw [hmd] at hsn hmg
                    have hz2 : IntKind.i64.wrap z = z := by rw [IntKind.wrap_i64]; omega
                    have hz3 : (q + 3) % 3 = z := by rw [← hz, Int.tmod_eq_emod_of_nonneg (by omega)]
                    have HSN := Aside0.mk hsn
                    have HML := Aside0.mk hmlen
                    clear hsn hmlen hmd hmg hk hl6 hqb
                    generalize mL (L6.take k) = acc at *
                    go_wp2_with ((with_reducible refine gate_builtin (b := .append) (xs := #[.tmp 83, .tmp 91]) rfl ?_); at_builtin; go_must (refine Kd.R_append (Kd.int .i64) (w0 := wA) (wA.heap.size) rfl (.tmp 83) (.tmp 91) 27 3 (.int .i64 0) 8 rfl Try.underlying27 info3 rfl (by decide) (by omega) u12 acc z [.int .i64 z] (fun _ => True) (fun _ => False) rfl rfl rfl (fun _ hk => hk.elim) (fun _ _ => trivial) HM.out HBM.out HBM.out.size (by have := HML.out; omega) ?_; intro vm wn ho hb hg hat; have HM2 := Aside0.mk ho; have HBM2 := Aside0.mk hb; clear ho hb hg hat))
                    go_roundg f2
                    case measure => omega
                    case rel => exact ⟨k + 1, by simp, ⟨by have := HK.out; omega⟩, ⟨by rw [HSN.out]; exact HM2.out⟩, HBM2⟩
                  · have hke : k = L6.length := by omega
                    subst hke
                    have j0 : ((L6.length : Int) < (L6.length : Int)) = False := eq_false (by omega)
                    rw [List.take_of_length_le (Nat.le_refl _)] at HM
                    generalize wr = wm at *
                    obtain ⟨Am, cm, evm⟩ := Kd.R_slice HM.out
                    have hml : (mL L6).length = L6.length := List.length_map _
                    rw [hml] at evm
                    subst evm
                    have HSM := Aside0.mk (sys_below HSA.out HBM.out)
                    have HBm := Aside0.mk (below_to HBA.out HBA.out.size HBM.out)
                    have hfr : (Value.slice Am L6.length cm).ownBlock = none ∨ (Value.slice Am L6.length cm).ownBlock ≠ (Value.slice As ts.length cs).ownBlock := by
                      cases hb1 : (Value.slice Am L6.length cm).ownBlock with
                      | none => exact .inl rfl
                      | some b1 =>
                        right
                        intro e
                        have h1 := own_base (Kd.own_of_R HM.out) b1 hb1
                        have h2 := own_lt (Kd.own_of_R HSA.out.2.2.1) b1 e.symm
                        omega
                    obtain ⟨wB, hwB⟩ : ∃ x, wm.alloc (.cells #[.slice Am L6.length cm, .int .i64 0] 32 (0, 0)) = x := ⟨_, rfl⟩
                    have hbB : Below wm.heap.size wm wB := by rw [← hwB]; exact (Below.refl wm.heap.size wm).alloc (Nat.le_refl _) _
                    have hkB : Blk wB wm.heap.size #[.slice Am L6.length cm, .int .i64 0] 32 := by rw [← hwB]; exact blk_new wm _
                    have hownB : wB.ownsRow w.heap.size 3 1 (.slice Am L6.length cm) (mL L6).length (nums .i64 (mL L6)) := pw_own_below (own_weaken (own_R HM.out) HBA.out.size) hbB
                    have HSB := Aside0.mk (sys_below HSM.out hbB)
                    have HBB := Aside0.mk (below_to HBm.out HBm.out.size hbB)
                    have HNB := Aside0.mk (And.intro hkB (And.intro hownB (And.intro (pool_fresh HSM.out.1) (And.intro HBm.out.size hfr))))
                    clear hbB hkB hownB hfr hml hkl hk hl6
                    by_cases h40 : 40 ≤ cnt 1 ts
                    · have HAD := Aside0.mk (add_full (h := wm.heap.size) HSB.out.1 (by rw [thoseL_len]; exact h40))
                      have k40 : (40 ≤ (cnt 1 ts : Int)) = True := eq_true (by omega)
                      clear h40
                      go_wp2_with fail
                      refine HAD.out.mono ?_
                      rintro e_ w6 ⟨rfl, hb⟩
                      have HS6 := Aside0.mk (sys_below HSB.out hb)
                      have HB6 := Aside0.mk (below_to HBB.out HBB.out.size hb)
                      clear hb
                      go_wp2_with fail
                      go_roundg f
                      case measure => omega
                      case rel => exact ⟨i + 1, ts, by simp, rfl, ⟨by have := HI.out; omega, by have := HLT.out; omega, good_mono HGD.out⟩, ⟨HS6.out.1⟩, ⟨HS6.out.2.1⟩, ⟨HS6.out.2.2.1⟩, ⟨HS6.out.2.2.2⟩, HB6⟩
                    · have hadd := add_go (n := 0) HSB.out.1 (by rw [thoseL_len]; omega) (by have := HLT.out; omega) HNB.out.2.2.2.1 HNB.out.1 HNB.out.2.1 HNB.out.2.2.1
                      obtain ⟨tl, htl⟩ : ∃ tl, ts.length + 1 = tl := ⟨_, rfl⟩
                      rw [htl] at hadd
                      have HAD := Aside0.mk hadd
                      have k40 : (40 ≤ (cnt 1 ts : Int)) = False := eq_false (by omega)
                      have kop : IntKind.i64.wrap ((cnt 1 ts : Int) + 1) = ((cnt 1 ts + 1 : Nat) : Int) := by rw [IntKind.wrap_i64]; omega
                      have HTL := Aside0.mk htl
                      clear hadd h40 htl
                      go_wp2_with fail
                      refine HAD.out.mono ?_
                      rintro e_ w6 ⟨rfl, ⟨g, hp⟩, hb, hk⟩
                      obtain ⟨tz, htz⟩ : ∃ tz, ts ++ [⟨g, wm.heap.size, .slice Am L6.length cm, mL L6, 0, 0, 0⟩] = tz := ⟨_, rfl⟩
                      have hgz : PGood tz (i + 1) := by rw [← htz]; exact good_new HGD.out mL_good
                      have hcz : cnt 1 tz = cnt 1 ts + 1 := by rw [← htz, cnt_append]; rfl
                      have hlz : tz.length = tl := by rw [← htz, List.length_append, ← HTL.out]; rfl
                      have hmh : tz.map Tk.h = ts.map Tk.h ++ [wm.heap.size] := by rw [← htz, List.map_append]; rfl
                      have hms : tz.map Tk.st = ts.map Tk.st ++ [0] := by rw [← htz, List.map_append]; rfl
                      have hfz : Far (.slice As ts.length cs) tz := by
                        rw [← htz]
                        intro t ht
                        rcases List.mem_append.1 ht with ht | ht
                        · exact HSB.out.2.2.2 t ht
                        · rw [List.mem_singleton.1 ht]
                          exact HNB.out.2.2.2.2
                      rw [htz] at hp
                      have HP6 := Aside0.mk hp
                      have HW6 := Aside0.mk (Rp_kp HSB.out.2.1 hk)
                      have HS6 := Aside0.mk (R_kp HSB.out.2.2.1 hk)
                      have HB6 := Aside0.mk (HBB.out.trans hb)
                      have HFZ := Aside0.mk hfz
                      have HGZ := Aside0.mk hgz
                      have HLZ : Aside0 (tz.length = tl ∧ ts.length ≤ i ∧ i < 120 ∧ tl = ts.length + 1) := ⟨hlz, HLT.out.1, HLT.out.2, HTL.out.symm⟩
                      have HMP := Aside0.mk (And.intro hmh (And.intro hms hcz))
                      have HLM : Aside0 ((ts.map Tk.h).length = ts.length ∧ (ts.map Tk.st).length = ts.length) := ⟨List.length_map _, List.length_map _⟩
                      clear hp hb hk hgz hcz hlz hmh hms hfz htz HAD HNB HSB HBB HSM HBm HM HBM HSA HBA HOB
                      generalize ts.map Tk.h = hs at *
                      have HBSZ : Aside0 (w.heap.size ≤ w6.heap.size) := ⟨HB6.out.size⟩
                      have HBND : Aside0 ((hs.length + 1) * 8 ≤ 140737488355328) := ⟨by have := HLM.out; have := HLT.out; omega⟩
                      generalize ts.map Tk.st = ss at *
                      go_wp2_with (first | ((with_reducible refine gate_builtin (b := .append) (xs := #[.tmp 104, .tmp 106]) rfl ?_); at_builtin; go_must (refine Kd.R_append Kptr (w0 := w) (w.heap.size) rfl (.tmp 104) (.tmp 106) 26 30 (.pointer none) 8 rfl ?u1 ?u2 ?u3 ?u4 ?u5 (.slice Aw ts.length cw) hs wm.heap.size [.pointer (some ⟨wm.heap.size, 0, none⟩)] (fun _ => True) (fun _ => False) ?h1 ?h2 ?h3 ?h4 ?h5 ?h6 ?h7 ?h8 ?h9 ?_; (case u1 => exact Try.underlying26); (case u2 => exact info30); (case u3 => rfl); (case u4 => decide); (case u5 => decide); (case h1 => rfl); (case h2 => rfl); (case h3 => rfl); (case h4 => exact fun _ hk => hk.elim); (case h5 => exact fun _ _ => trivial); (case h6 => exact HW6.out); (case h7 => exact HB6.out); (case h8 => exact HBSZ.out); (case h9 => have := HLM.out; have := HLT.out; omega); intro v7 w7 ho hb hg hat; have hp7 := pool_ptr HP6.out HW6.out hg; have hs7 := R_ptr HS6.out HW6.out hg; obtain ⟨Aw7, cw7, e7⟩ := Kd.R_slice ho; rw [List.length_append, HLM.out.1, List.length_singleton, HTL.out] at e7; subst e7; have HW7 := Aside0.mk ho; have HB7 := Aside0.mk hb; have HP7 := Aside0.mk hp7; have HS7 := Aside0.mk hs7; clear ho hb hg hat hp7 hs7)) | ((with_reducible refine gate_builtin (b := .append) (xs := #[.tmp 108, .tmp 109]) rfl ?_); at_builtin; go_must (refine Kd.R_append (Kd.int .i64) (w0 := w) (w.heap.size) rfl (.tmp 108) (.tmp 109) 27 3 (.int .i64 0) 8 rfl Try.underlying27 info3 rfl (by decide) (by omega) (.slice As ts.length cs) ss (0 : Int) [.int .i64 (0 : Int)] (fun _ => True) (fun _ => False) rfl rfl rfl (fun _ hk => hk.elim) (fun _ _ => trivial) HS7.out HB7.out HB7.out.size (by have := HLM.out; have := HLT.out; omega) ?_; intro v8 w8 ho hb hg hat; have HS8 := Aside0.mk ho; have HB8 := Aside0.mk hb; have HP8 := Aside0.mk (pool_int HP7.out HS7.out hg HFZ.out); have HW8 := Aside0.mk (Rp_int HW7.out HS7.out hg); have hf8 := far_append HP7.out HFZ.out hat; obtain ⟨As8, cs8, e8⟩ := Kd.R_slice HS8.out; rw [List.length_append, HLM.out.2, List.length_singleton, HTL.out] at e8; subst e8; have HF8 := Aside0.mk hf8; clear hf8; clear ho hb hg hat)))
                      have hsz : PSys w8 w.heap.size p tz (.slice Aw7 tl cw7) (.slice As8 tl cs8) (tz.map Tk.st) := ⟨HP8.out, by rw [HMP.out.1]; exact HW8.out, by rw [HMP.out.2.1]; exact HS8.out, HF8.out⟩
                      have HSZ := Aside0.mk hsz
                      have HBZ := HB8
                      clear hsz
                      refine (sys_tells HLZ.out.1 HSZ.out HGZ.out (by have := HLZ.out; omega)).mono ?_
                      rintro e_ wt ⟨rfl, hb⟩
                      have HSt := Aside0.mk (sys_below HSZ.out hb)
                      have HBt := Aside0.mk (below_to HBZ.out HBZ.out.size hb)
                      clear hb
                      go_wp2_with fail
                      go_roundg f
                      case measure => omega
                      case rel => exact ⟨i + 1, tz, by simp, by rw [HMP.out.2.2]; simp, ⟨by have := HI.out; omega, by have := HLZ.out; omega, HGZ.out⟩, ⟨HSt.out.1⟩, ⟨HSt.out.2.1⟩, ⟨HSt.out.2.2.1⟩, ⟨HSt.out.2.2.2⟩, HBt⟩
              as_aux_lemma =>
                · have hL6 : L.take 6 = L := List.take_of_length_le (by omega)
                  have k6 : ((6 : Int) < (L.length : Int)) = False := eq_false (by omega)
                  have HC6 := HCA
                  have HL6 : Aside0 (L.length ≤ 6) := ⟨by omega⟩
                  clear h6 hL6
                  generalize L = L6 at *
                  go_wp2_with fail
                  go_loopg [12, 13] L6.length (fun q v12 v13 w' => ∃ k : Nat, v13 = .int .i64 (k : Int) ∧ Aside0 (k + q = L6.length) ∧ Aside0 (Kd.R (Kd.int .i64) 3 w' wA.heap.size (fun _ => True) v12 (mL (L6.take k))) ∧ Aside0 (Below wA.heap.size wA w'))
                  case atStart => exact ⟨0, rfl, ⟨by omega⟩, ⟨Kd.R_nil _ _ _ _ _⟩, ⟨Below.refl _ _⟩⟩
                  case round =>
                    obtain ⟨k, rfl, HK, HM, HBM⟩ := hrel
                    have hk := HK.out
                    have hl6 := HL6.out
                    by_cases hkl : k < L6.length
                    · obtain ⟨f2, rfl⟩ : ∃ f, gk = f + 1 := ⟨gk - 1, by omega⟩
                      have j0 : ((k : Int) < (L6.length : Int)) = True := eq_true (by omega)
                      have jw : IntKind.i64.wrap ((k : Int) + 1) = (k : Int) + 1 := by rw [IntKind.wrap_i64]; omega
                      obtain ⟨al, e_, _⟩ := Kd.at_int HC6.out (k : Int) (by omega) (by omega)
                      subst e_
                      have hcell := int_at HC6.out HBM.out k hkl
                      have hsn := mL_snoc hkl
                      have hmlen : (mL (L6.take k)).length ≤ 6 := by unfold mL; rw [List.length_map, List.length_take]; omega
                      generalize rd L6 (k : Int) = y at *
                      have hmd : md y = (y.tmod 3 + 3).tmod 3 := rfl
                      have hmg := md_good y
                      obtain ⟨q, hq⟩ : ∃ q, y.tmod 3 = q := ⟨_, rfl⟩
                      have hqb : -3 < q ∧ q < 3 := by
                        rw [← hq]
                        exact ⟨Int.lt_tmod_of_pos y (by decide), Int.tmod_lt_of_pos y (by decide)⟩
                      rw [hq] at hmd
                      have hq2 : IntKind.i64.wrap q = q := by rw [IntKind.wrap_i64]; omega
                      have hq3 : IntKind.i64.wrap (q + 3) = q + 3 := by rw [IntKind.wrap_i64]; omega
                      obtain ⟨z, hz⟩ : ∃ z, (q + 3).tmod 3 = z := ⟨_, rfl⟩
                      rw [hz] at hmd
                      rw [hmd] at hsn hmg
                      have hz2 : IntKind.i64.wrap z = z := by rw [IntKind.wrap_i64]; omega
                      have hz3 : (q + 3) % 3 = z := by rw [← hz, Int.tmod_eq_emod_of_nonneg (by omega)]
                      have HSN := Aside0.mk hsn
                      have HML := Aside0.mk hmlen
                      clear hsn hmlen hmd hmg hk hl6 hqb
                      generalize mL (L6.take k) = acc at *
                      go_wp2_with ((with_reducible refine gate_builtin (b := .append) (xs := #[.tmp 83, .tmp 91]) rfl ?_); at_builtin; go_must (refine Kd.R_append (Kd.int .i64) (w0 := wA) (wA.heap.size) rfl (.tmp 83) (.tmp 91) 27 3 (.int .i64 0) 8 rfl Try.underlying27 info3 rfl (by decide) (by omega) u12 acc z [.int .i64 z] (fun _ => True) (fun _ => False) rfl rfl rfl (fun _ hk => hk.elim) (fun _ _ => trivial) HM.out HBM.out HBM.out.size (by have := HML.out; omega) ?_; intro vm wn ho hb hg hat; have HM2 := Aside0.mk ho; have HBM2 := Aside0.mk hb; clear ho hb hg hat))
                      go_roundg f2
                      case measure => omega
                      case rel => exact ⟨k + 1, by simp, ⟨by have := HK.out; omega⟩, ⟨by rw [HSN.out]; exact HM2.out⟩, HBM2⟩
                    · have hke : k = L6.length := by omega
                      subst hke
                      have j0 : ((L6.length : Int) < (L6.length : Int)) = False := eq_false (by omega)
                      rw [List.take_of_length_le (Nat.le_refl _)] at HM
                      generalize wr = wm at *
                      obtain ⟨Am, cm, evm⟩ := Kd.R_slice HM.out
                      have hml : (mL L6).length = L6.length := List.length_map _
                      rw [hml] at evm
                      subst evm
                      have HSM := Aside0.mk (sys_below HSA.out HBM.out)
                      have HBm := Aside0.mk (below_to HBA.out HBA.out.size HBM.out)
                      have hfr : (Value.slice Am L6.length cm).ownBlock = none ∨ (Value.slice Am L6.length cm).ownBlock ≠ (Value.slice As ts.length cs).ownBlock := by
                        cases hb1 : (Value.slice Am L6.length cm).ownBlock with
                        | none => exact .inl rfl
                        | some b1 =>
                          right
                          intro e
                          have h1 := own_base (Kd.own_of_R HM.out) b1 hb1
                          have h2 := own_lt (Kd.own_of_R HSA.out.2.2.1) b1 e.symm
                          omega
                      obtain ⟨wB, hwB⟩ : ∃ x, wm.alloc (.cells #[.slice Am L6.length cm, .int .i64 0] 32 (0, 0)) = x := ⟨_, rfl⟩
                      have hbB : Below wm.heap.size wm wB := by rw [← hwB]; exact (Below.refl wm.heap.size wm).alloc (Nat.le_refl _) _
                      have hkB : Blk wB wm.heap.size #[.slice Am L6.length cm, .int .i64 0] 32 := by rw [← hwB]; exact blk_new wm _
                      have hownB : wB.ownsRow w.heap.size 3 1 (.slice Am L6.length cm) (mL L6).length (nums .i64 (mL L6)) := pw_own_below (own_weaken (own_R HM.out) HBA.out.size) hbB
                      have HSB := Aside0.mk (sys_below HSM.out hbB)
                      have HBB := Aside0.mk (below_to HBm.out HBm.out.size hbB)
                      have HNB := Aside0.mk (And.intro hkB (And.intro hownB (And.intro (pool_fresh HSM.out.1) (And.intro HBm.out.size hfr))))
                      clear hbB hkB hownB hfr hml hkl hk hl6
                      by_cases h40 : 40 ≤ cnt 1 ts
                      · have HAD := Aside0.mk (add_full (h := wm.heap.size) HSB.out.1 (by rw [thoseL_len]; exact h40))
                        have k40 : (40 ≤ (cnt 1 ts : Int)) = True := eq_true (by omega)
                        clear h40
                        go_wp2_with fail
                        refine HAD.out.mono ?_
                        rintro e_ w6 ⟨rfl, hb⟩
                        have HS6 := Aside0.mk (sys_below HSB.out hb)
                        have HB6 := Aside0.mk (below_to HBB.out HBB.out.size hb)
                        clear hb
                        go_wp2_with fail
                        go_roundg f
                        case measure => omega
                        case rel => exact ⟨i + 1, ts, by simp, rfl, ⟨by have := HI.out; omega, by have := HLT.out; omega, good_mono HGD.out⟩, ⟨HS6.out.1⟩, ⟨HS6.out.2.1⟩, ⟨HS6.out.2.2.1⟩, ⟨HS6.out.2.2.2⟩, HB6⟩
                      · have hadd := add_go (n := 0) HSB.out.1 (by rw [thoseL_len]; omega) (by have := HLT.out; omega) HNB.out.2.2.2.1 HNB.out.1 HNB.out.2.1 HNB.out.2.2.1
                        obtain ⟨tl, htl⟩ : ∃ tl, ts.length + 1 = tl := ⟨_, rfl⟩
                        rw [htl] at hadd
                        have HAD := Aside0.mk hadd
                        have k40 : (40 ≤ (cnt 1 ts : Int)) = False := eq_false (by omega)
                        have kop : IntKind.i64.wrap ((cnt 1 ts : Int) + 1) = ((cnt 1 ts + 1 : Nat) : Int) := by rw [IntKind.wrap_i64]; omega
                        have HTL := Aside0.mk htl
                        clear hadd h40 htl
                        go_wp2_with fail
                        refine HAD.out.mono ?_
                        rintro e_ w6 ⟨rfl, ⟨g, hp⟩, hb, hk⟩
                        obtain ⟨tz, htz⟩ : ∃ tz, ts ++ [⟨g, wm.heap.size, .slice Am L6.length cm, mL L6, 0, 0, 0⟩] = tz := ⟨_, rfl⟩
                        have hgz : PGood tz (i + 1) := by rw [← htz]; exact good_new HGD.out mL_good
                        have hcz : cnt 1 tz = cnt 1 ts + 1 := by rw [← htz, cnt_append]; rfl
                        have hlz : tz.length = tl := by rw [← htz, List.length_append, ← HTL.out]; rfl
                        have hmh : tz.map Tk.h = ts.map Tk.h ++ [wm.heap.size] := by rw [← htz, List.map_append]; rfl
                        have hms : tz.map Tk.st = ts.map Tk.st ++ [0] := by rw [← htz, List.map_append]; rfl
                        have hfz : Far (.slice As ts.length cs) tz := by
                          rw [← htz]
                          intro t ht
                          rcases List.mem_append.1 ht with ht | ht
                          · exact HSB.out.2.2.2 t ht
                          · rw [List.mem_singleton.1 ht]
                            exact HNB.out.2.2.2.2
                        rw [htz] at hp
                        have HP6 := Aside0.mk hp
                        have HW6 := Aside0.mk (Rp_kp HSB.out.2.1 hk)
                        have HS6 := Aside0.mk (R_kp HSB.out.2.2.1 hk)
                        have HB6 := Aside0.mk (HBB.out.trans hb)
                        have HFZ := Aside0.mk hfz
                        have HGZ := Aside0.mk hgz
                        have HLZ : Aside0 (tz.length = tl ∧ ts.length ≤ i ∧ i < 120 ∧ tl = ts.length + 1) := ⟨hlz, HLT.out.1, HLT.out.2, HTL.out.symm⟩
                        have HMP := Aside0.mk (And.intro hmh (And.intro hms hcz))
                        have HLM : Aside0 ((ts.map Tk.h).length = ts.length ∧ (ts.map Tk.st).length = ts.length) := ⟨List.length_map _, List.length_map _⟩
                        clear hp hb hk hgz hcz hlz hmh hms hfz htz HAD HNB HSB HBB HSM HBm HM HBM HSA HBA HOB
                        generalize ts.map Tk.h = hs at *
                        have HBSZ : Aside0 (w.heap.size ≤ w6.heap.size) := ⟨HB6.out.size⟩
                        have HBND : Aside0 ((hs.length + 1) * 8 ≤ 140737488355328) := ⟨by have := HLM.out; have := HLT.out; omega⟩
                        generalize ts.map Tk.st = ss at *
                        go_wp2_with (first | ((with_reducible refine gate_builtin (b := .append) (xs := #[.tmp 104, .tmp 106]) rfl ?_); at_builtin; go_must (refine Kd.R_append Kptr (w0 := w) (w.heap.size) rfl (.tmp 104) (.tmp 106) 26 30 (.pointer none) 8 rfl ?u1 ?u2 ?u3 ?u4 ?u5 (.slice Aw ts.length cw) hs wm.heap.size [.pointer (some ⟨wm.heap.size, 0, none⟩)] (fun _ => True) (fun _ => False) ?h1 ?h2 ?h3 ?h4 ?h5 ?h6 ?h7 ?h8 ?h9 ?_; (case u1 => exact Try.underlying26); (case u2 => exact info30); (case u3 => rfl); (case u4 => decide); (case u5 => decide); (case h1 => rfl); (case h2 => rfl); (case h3 => rfl); (case h4 => exact fun _ hk => hk.elim); (case h5 => exact fun _ _ => trivial); (case h6 => exact HW6.out); (case h7 => exact HB6.out); (case h8 => exact HBSZ.out); (case h9 => have := HLM.out; have := HLT.out; omega); intro v7 w7 ho hb hg hat; have hp7 := pool_ptr HP6.out HW6.out hg; have hs7 := R_ptr HS6.out HW6.out hg; obtain ⟨Aw7, cw7, e7⟩ := Kd.R_slice ho; rw [List.length_append, HLM.out.1, List.length_singleton, HTL.out] at e7; subst e7; have HW7 := Aside0.mk ho; have HB7 := Aside0.mk hb; have HP7 := Aside0.mk hp7; have HS7 := Aside0.mk hs7; clear ho hb hg hat hp7 hs7)) | ((with_reducible refine gate_builtin (b := .append) (xs := #[.tmp 108, .tmp 109]) rfl ?_); at_builtin; go_must (refine Kd.R_append (Kd.int .i64) (w0 := w) (w.heap.size) rfl (.tmp 108) (.tmp 109) 27 3 (.int .i64 0) 8 rfl Try.underlying27 info3 rfl (by decide) (by omega) (.slice As ts.length cs) ss (0 : Int) [.int .i64 (0 : Int)] (fun _ => True) (fun _ => False) rfl rfl rfl (fun _ hk => hk.elim) (fun _ _ => trivial) HS7.out HB7.out HB7.out.size (by have := HLM.out; have := HLT.out; omega) ?_; intro v8 w8 ho hb hg hat; have HS8 := Aside0.mk ho; have HB8 := Aside0.mk hb; have HP8 := Aside0.mk (pool_int HP7.out HS7.out hg HFZ.out); have HW8 := Aside0.mk (Rp_int HW7.out HS7.out hg); have hf8 := far_append HP7.out HFZ.out hat; obtain ⟨As8, cs8, e8⟩ := Kd.R_slice HS8.out; rw [List.length_append, HLM.out.2, List.length_singleton, HTL.out] at e8; subst e8; have HF8 := Aside0.mk hf8; clear hf8; clear ho hb hg hat)))
                        have hsz : PSys w8 w.heap.size p tz (.slice Aw7 tl cw7) (.slice As8 tl cs8) (tz.map Tk.st) := ⟨HP8.out, by rw [HMP.out.1]; exact HW8.out, by rw [HMP.out.2.1]; exact HS8.out, HF8.out⟩
                        have HSZ := Aside0.mk hsz
                        have HBZ := HB8
                        clear hsz
                        refine (sys_tells HLZ.out.1 HSZ.out HGZ.out (by have := HLZ.out; omega)).mono ?_
                        rintro e_ wt ⟨rfl, hb⟩
                        have HSt := Aside0.mk (sys_below HSZ.out hb)
                        have HBt := Aside0.mk (below_to HBZ.out HBZ.out.size hb)
                        clear hb
                        go_wp2_with fail
                        go_roundg f
                        case measure => omega
                        case rel => exact ⟨i + 1, tz, by simp, by rw [HMP.out.2.2]; simp, ⟨by have := HI.out; omega, by have := HLZ.out; omega, HGZ.out⟩, ⟨HSt.out.1⟩, ⟨HSt.out.2.1⟩, ⟨HSt.out.2.2.1⟩, ⟨HSt.out.2.2.2⟩, HBt⟩
      · by_cases hk1 : kd = 1
        · have bk0 : (kd == 0) = false := beq_eq_false_iff_ne.2 hk0
          have bk1 : (kd == 1) = true := by simp [hk1]
          clear hk0 hk1
          by_cases hin : 1 ≤ id ∧ id ≤ (ts.length : Int)
          · obtain ⟨x, hx⟩ : ∃ x : Nat, ((x + 1 : Nat) : Int) = id := ⟨(id - 1).toNat, by omega⟩
            have hxl : x < ts.length := by omega
            have hid : IntKind.i64.wrap (id - 1) = (x : Int) := by have := HLT.out; rw [IntKind.wrap_i64]; omega
            have i1 := eq_true hin.1
            have i2 := eq_true hin.2
            have HXL := Aside0.mk hxl
            have kx : ((x : Int) < (ts.length : Int)) = True := eq_true (by omega)
            obtain ⟨gs, cs', ev, _⟩ := Kd.R_form HSA.out.2.2.1 (by rw [List.length_map]; omega)
            rw [List.length_map] at ev
            injection ev with e1 e2 e3
            subst e1
            have hrd : rd (ts.map Tk.st) (x : Int) = (ts.getD x default).st := map_rd hxl
            obtain ⟨q1, q2⟩ := sys_cell HSA.out x hxl
            rw [hrd] at q1
            have hwc := (Kd.R_reads' HSA.out.2.1).2.2
            rw [List.length_map] at hwc
            obtain ⟨aw, e_, hpw⟩ := ptr_at hwc x hxl
            subst e_
            rw [map_h hxl] at hpw
            obtain ⟨_, _, _, _, htk⟩ := pool_get HSA.out.1 hxl
            have hn1 : wA.cell? ⟨(ts.getD x default).h, 1, none⟩ = some (.int .i64 ((ts.getD x default).n : Int)) := blk_cell htk.2.2.2.1 1
            by_cases hst : (ts.getD x default).st = 0
            · have hbn := HGD.out _ (getD_mem_tk hxl)
              have hli := HLT.out
              have hsg := step_go HSA.out.1 x hxl hst (by omega) (by have := hbn.1; omega)
              rw [hx] at hsg
              have HWK := Aside0.mk hsg
              rw [hst] at q1
              have b1 : ((0 : Int) == 0) = true := rfl
              have hgz := good_step HGD.out hxl
              have hcs := cnt_split (m := 1) hxl {ts.getD x default with n := (ts.getD x default).n + 1, st := stepV (ts.getD x default).L (ts.getD x default).n, sp := (ts.getD x default).sp + 1}
              rw [hst] at hcs
              have hmh := map_h_set (ts := ts) (x := x) (t := {ts.getD x default with n := (ts.getD x default).n + 1, st := stepV (ts.getD x default).L (ts.getD x default).n, sp := (ts.getD x default).sp + 1}) hxl rfl
              have hfar := far_set HSA.out.2.2.2 hxl (t := {ts.getD x default with n := (ts.getD x default).n + 1, st := stepV (ts.getD x default).L (ts.getD x default).n, sp := (ts.getD x default).sp + 1}) rfl
              have hmap := map_st_set (ts := ts) (x := x) (t := {ts.getD x default with n := (ts.getD x default).n + 1, st := stepV (ts.getD x default).L (ts.getD x default).n, sp := (ts.getD x default).sp + 1})
              have hget := getD_set (ts := ts) (j := x) (x := x) (t := {ts.getD x default with n := (ts.getD x default).n + 1, st := stepV (ts.getD x default).L (ts.getD x default).n, sp := (ts.getD x default).sp + 1}) hxl
              rw [if_pos rfl] at hget
              have hzl : (ts.set x {ts.getD x default with n := (ts.getD x default).n + 1, st := stepV (ts.getD x default).L (ts.getD x default).n, sp := (ts.getD x default).sp + 1}).length = ts.length := List.length_set
              have hst2 := stepV_good (n := (ts.getD x default).n) hbn.2.2.2
              have hsv : stepV (ts.getD x default).L (ts.getD x default).n = if (ts.getD x default).n < (ts.getD x default).L.length then rd (ts.getD x default).L ((ts.getD x default).n : Int) else 2 := rfl
              obtain ⟨tz, htz⟩ : ∃ tz, ts.set x {ts.getD x default with n := (ts.getD x default).n + 1, st := stepV (ts.getD x default).L (ts.getD x default).n, sp := (ts.getD x default).sp + 1} = tz := ⟨_, rfl⟩
              rw [htz] at HWK hgz hcs hmh hfar hmap hget hzl
              obtain ⟨tt, htt⟩ : ∃ tt, ts.getD x default = tt := ⟨_, rfl⟩
              rw [htt] at hcs hmap hget hst2 hsv hbn hpw hn1
              have hmap' : tz.map Tk.st = (ts.map Tk.st).set x (stepV tt.L tt.n) := hmap
              have hcs' : cnt 1 tz + (if (0 : Int) ≤ 1 then 1 else 0) = cnt 1 ts + (if stepV tt.L tt.n ≤ 1 then 1 else 0) := hcs
              rw [if_pos (by decide)] at hcs'
              obtain ⟨y, hy⟩ : ∃ y, stepV tt.L tt.n = y := ⟨_, rfl⟩
              rw [hy] at hmap' hcs' hst2 hsv
              have HT := Aside0.mk (And.intro hgz (And.intro hmh (And.intro hfar (And.intro hget (And.intro hzl (And.intro hmap' (And.intro hcs' hbn)))))))
              have HY := Aside0.mk (And.intro hst2 hsv)
              have HTN : Aside0 (tt.n ≤ i ∧ i < 120) := ⟨by omega⟩
              have kn : IntKind.i64.wrap ((tt.n : Int) + 1) = ((tt.n + 1 : Nat) : Int) := by rw [IntKind.wrap_i64]; omega
              have kn2 : IntKind.i64.wrap (((tt.n + 1 : Nat) : Int) - 1) = (tt.n : Int) := by rw [IntKind.wrap_i64]; omega
              obtain ⟨n1, hn1e⟩ : ∃ n1, tt.n + 1 = n1 := ⟨_, rfl⟩
              rw [hn1e] at kn kn2
              obtain ⟨tn, htn⟩ : ∃ tn, tt.n = tn := ⟨_, rfl⟩
              obtain ⟨th, hth⟩ : ∃ th, tt.h = th := ⟨_, rfl⟩
              rw [htn] at hn1 kn kn2
              rw [hth] at hpw hn1
              have HQ := Aside0.mk (And.intro hn1e (And.intro htn (And.intro hth (show tt.L = tt.L from rfl))))
              clear hsg hst hin hxl hx htk hwc hrd e2 e3 hgz hcs hcs' hmh hfar hmap hmap' hget hzl hst2 hsv htz htt hbn hli hy hn1e htn hth
              go_wp2_with fail
              refine HWK.out.mono ?_
              rintro e_ w4 ⟨rfl, hp, hb, hk⟩
              obtain ⟨hgz, hmh, hfar, hget, hzl, hmap, hcs, hbn⟩ := HT.out
              obtain ⟨hn1e, htn, hth, _⟩ := HQ.out
              have hs4 := sys_step HSA.out hp hk hmh hfar
              have hb4 := HBA.out.trans hb
              have ho4 := hk _ _ _ HOB.out (by decide) (by decide) (by decide) (by decide)
              have o41 : w4.cell? ⟨wr.heap.size, 1, none⟩ = some (.int .i64 id) := blk_cell ho4 1
              have hwc4 := (Kd.R_reads' hs4.2.1).2.2
              rw [List.length_map] at hwc4
              obtain ⟨aw', e_, hpw4⟩ := ptr_at hwc4 x (by rw [hzl]; exact HXL.out)
              injection e_ with e_
              subst e_
              rw [map_h (by rw [hzl]; exact HXL.out), hget] at hpw4
              have hpw4' : w4.cell? (aw.add x) = some (.pointer (some ⟨tt.h, 0, none⟩)) := hpw4
              rw [hth] at hpw4'
              obtain ⟨_, _, _, _, htk4⟩ := pool_get hs4.1 (k := x) (by rw [hzl]; exact HXL.out)
              rw [hget] at htk4
              have c41 : w4.cell? ⟨tt.h, 1, none⟩ = some (.int .i64 ((tt.n + 1 : Nat) : Int)) := blk_cell htk4.2.2.2.1 1
              rw [hth, hn1e] at c41
              obtain ⟨q41, q42⟩ := sys_cell hs4 x HXL.out
              obtain ⟨w5, hw5⟩ : ∃ w5, w4.setCell ⟨gs, x, none⟩ (.int .i64 2) = w5 := ⟨_, rfl⟩
              have hs5 := sys_set hs4 x 2
              rw [hw5] at hs5
              have hne1 : wr.heap.size ≠ gs := by
                obtain ⟨cells, hcg⟩ := own_typed (Kd.own_of_R hs4.2.2.1) gs rfl
                exact blk_ne ho4 hcg (by decide)
              have ho5 : Blk w5 wr.heap.size #[.int .i64 kd, .int .i64 id, .slice Al L.length cl] 29 := by rw [← hw5]; exact blk_far ho4 hne1 _
              obtain ⟨_, _, _, _, htk5⟩ := pool_get hs5.1 (k := x) (by rw [hzl]; exact HXL.out)
              rw [hget] at htk5
              have hne2 : tt.h ≠ gs := by
                obtain ⟨cells, hcg⟩ := own_typed (Kd.own_of_R hs5.2.2.1) gs rfl
                exact blk_ne htk5.2.2.2.1 hcg (by decide)
              obtain ⟨vL, hvL⟩ : ∃ vL, tt.v = vL := ⟨_, rfl⟩
              obtain ⟨LL, hLL⟩ : ∃ LL, tt.L = LL := ⟨_, rfl⟩
              have hown5 : w5.ownsRow w.heap.size 3 1 tt.v tt.L.length (nums .i64 tt.L) := htk5.2.2.2.2
              have c50' : w5.cell? ⟨tt.h, 0, none⟩ = some tt.v := blk_cell htk5.2.2.2.1 0
              have c51' : w5.cell? ⟨tt.h, 1, none⟩ = some (.int .i64 ((tt.n + 1 : Nat) : Int)) := blk_cell htk5.2.2.2.1 1
              have hfv : tt.v.ownBlock = none ∨ tt.v.ownBlock ≠ (Value.slice (some ⟨gs, 0, none⟩) ts.length cs).ownBlock := by
                have := hs5.2.2.2 _ (getD_mem_tk (ts := tz) (x := x) (by rw [hzl]; exact HXL.out))
                rw [hget] at this
                exact this
              rw [hvL, hLL] at hown5
              rw [hvL] at c50' hfv
              rw [hth] at c50' c51' hne2
              rw [hn1e] at c51'
              have hyv := HY.out.2
              rw [hLL, htn] at hyv
              have HS5 := Aside0.mk hs5
              have HO5 := Aside0.mk ho5
              have HB5 : Aside0 (Below w.heap.size w w5) := ⟨by rw [← hw5]; exact hb4.trans (below_set (sys_base hs4).1 _)⟩
              obtain ⟨AL, cL, rfl⟩ := own_slice hown5
              have HOW := Aside0.mk (And.intro hown5 hfv)
              have c50 := c50'
              have c51 := c51'
              clear hs4 hs5 ho4 ho5 hb4 hp hb hk hwc4 hpw4 htk4 htk5 c50' c51' hown5 hfv hvL hLL hgz hmh hfar hget hmap hcs hbn hn1e htn hth
              have hL9 : LL.length ≤ 9223372036854775807 := by
                rcases HOW.out.1.2 with ⟨_, h1⟩ | ⟨g', cap', cur, he, _, _, h1, h2, _⟩
                · omega
                · simp only [maxLen] at h2
                  omega
              by_cases hlt2 : tn < LL.length
              ·
                rw [if_pos hlt2] at hyv
                have k5 : ((n1 : Int) ≤ (LL.length : Int)) = True := eq_true (by have := HQ.out; omega)
                have k6 : ((tn : Int) < (LL.length : Int)) = True := eq_true (by omega)
                obtain ⟨qL, cL2, e1, hLc⟩ := TkB.own_at HOW.out.1 hlt2
                injection e1 with e1 e2 e3
                subst e1
                rw [← hyv] at hLc
                have HNE : Aside0 (wr.heap.size ≠ gs ∧ th ≠ gs ∧ qL ≠ gs) := ⟨hne1, hne2, by
                  rcases HOW.out.2 with h | h
                  · simp [Value.ownBlock] at h
                  · intro e
                    subst e
                    exact h rfl⟩
                clear hlt2 hyv hne1 hne2 e2 e3
                go_wp2_with fail
                refine wp_region_mix (fun w_ w1_ => w_ = w1_) [(false, 0), (false, 1), (false, 2), (false, 3), (false, 4), (false, 5), (false, 6), (false, 7), (false, 8), (false, 9)] (by kernel_rfl) (by kernel_rfl) (fun _ => rfl) (fun h h' => h.trans h') (fun wd hhp_ hbw_ => ?_)
                have HSd := Aside0.mk (sys_below HS5.out hbw_)
                have HBd := Aside0.mk (below_to HB5.out HB5.out.size hbw_)
                have HOd := Aside0.mk (blk_keep HO5.out hbw_)
                have d0 : wd.cell? ⟨th, 0, none⟩ = _ := (hbw_.cell (World.block_lt_of_cell? w5 _ c50)).trans c50
                have d1 : wd.cell? ⟨th, 1, none⟩ = _ := (hbw_.cell (World.block_lt_of_cell? w5 _ c51)).trans c51
                have HLd : Aside0 (∀ i v, w5.cell? i = some v → wd.cell? i = some v) := ⟨fun i v h => pw_cell_below hbw_ h⟩
                clear hhp_ hbw_
                (refine mix_read (o := { dst := some 164, op := Op.move (Operand.tmp 18), type := 30, pos := "law.go:95", after := #[], guard := none }) rfl (by first | rfl | (simp [Region.wanted, yielded]; done)) (by intro w_ hE_; (try dsimp only at hE_); subst hE_; first | (go_simp; done) | (go_simp; rfl)) ?_)
                (try simp only [Act.put, List.setIfInBounds_toArray, List.set_cons_zero, List.set_cons_succ])
                (refine mix_read (o := { dst := some 165, op := Op.nilCheck (Operand.tmp 164), type := 0, pos := "law.go:95", after := #[{ on := 0, ground := Ground.data }], guard := none }) rfl (by first | rfl | (simp [Region.wanted, yielded]; done)) (by intro w_ hE_; (try dsimp only at hE_); subst hE_; first | (go_simp; done) | (go_simp; rfl)) ?_)
                (try simp only [Act.put, List.setIfInBounds_toArray, List.set_cons_zero, List.set_cons_succ])
                (refine mix_read (o := { dst := some 166, op := Op.fieldAddr 32 (Operand.tmp 165) 1, type := 0, pos := "law.go:95", after := #[{ on := 1, ground := Ground.data }], guard := none }) rfl (by first | rfl | (simp [Region.wanted, yielded]; done)) (by intro w_ hE_; (try dsimp only at hE_); subst hE_; first | (go_simp; done) | (go_simp; rfl)) ?_)
                (try simp only [Act.put, List.setIfInBounds_toArray, List.set_cons_zero, List.set_cons_succ])
                (refine mix_read (o := { dst := some 167, op := Op.load 3 (Operand.tmp 166), type := 3, pos := "law.go:95", after := #[{ on := 2, ground := Ground.data }], guard := none }) rfl (by first | rfl | (simp [Region.wanted, yielded]; done)) (by intro w_ hE_; (try dsimp only at hE_); subst hE_; first | (go_simp; done) | (go_simp; rfl)) ?_)
                (try simp only [Act.put, List.setIfInBounds_toArray, List.set_cons_zero, List.set_cons_succ])
                (refine mix_read (o := { dst := some 168, op := Op.move (Operand.tmp 18), type := 30, pos := "law.go:95", after := #[], guard := none }) rfl (by first | rfl | (simp [Region.wanted, yielded]; done)) (by intro w_ hE_; (try dsimp only at hE_); subst hE_; first | (go_simp; done) | (go_simp; rfl)) ?_)
                (try simp only [Act.put, List.setIfInBounds_toArray, List.set_cons_zero, List.set_cons_succ])
                (refine mix_read (o := { dst := some 169, op := Op.nilCheck (Operand.tmp 168), type := 0, pos := "law.go:95", after := #[{ on := 4, ground := Ground.data }], guard := none }) rfl (by first | rfl | (simp [Region.wanted, yielded]; done)) (by intro w_ hE_; (try dsimp only at hE_); subst hE_; first | (go_simp; done) | (go_simp; rfl)) ?_)
                (try simp only [Act.put, List.setIfInBounds_toArray, List.set_cons_zero, List.set_cons_succ])
                (refine mix_read (o := { dst := some 170, op := Op.fieldAddr 32 (Operand.tmp 169) 0, type := 0, pos := "law.go:95", after := #[{ on := 5, ground := Ground.data }], guard := none }) rfl (by first | rfl | (simp [Region.wanted, yielded]; done)) (by intro w_ hE_; (try dsimp only at hE_); subst hE_; first | (go_simp; done) | (go_simp; rfl)) ?_)
                (try simp only [Act.put, List.setIfInBounds_toArray, List.set_cons_zero, List.set_cons_succ])
                (refine mix_read (o := { dst := some 171, op := Op.load 27 (Operand.tmp 170), type := 27, pos := "law.go:95", after := #[{ on := 6, ground := Ground.data }], guard := none }) rfl (by first | rfl | (simp [Region.wanted, yielded]; done)) (by intro w_ hE_; (try dsimp only at hE_); subst hE_; first | (go_simp; done) | (go_simp; rfl)) ?_)
                (try simp only [Act.put, List.setIfInBounds_toArray, List.set_cons_zero, List.set_cons_succ])
                (refine mix_read (o := { dst := some 172, op := Op.call { callee := Callee.builtin Builtin.len, args := #[Operand.tmp 171], argTypes := #[27] }, type := 3, pos := "law.go:95", after := #[{ on := 7, ground := Ground.data }], guard := none }) rfl (by first | rfl | (simp [Region.wanted, yielded]; done)) (by intro w_ hE_; (try dsimp only at hE_); subst hE_; first | (go_simp; done) | (go_simp; rfl)) ?_)
                (try simp only [Act.put, List.setIfInBounds_toArray, List.set_cons_zero, List.set_cons_succ])
                (refine mix_read (o := { dst := some 173, op := Op.binOp BinOp.leq 3 (Operand.tmp 167) (Operand.tmp 172) 3, type := 4, pos := "law.go:95", after := #[{ on := 3, ground := Ground.data }, { on := 8, ground := Ground.data }], guard := none }) rfl (by first | rfl | (simp [Region.wanted, yielded]; done)) (by intro w_ hE_; (try dsimp only at hE_); subst hE_; first | (go_simp; done) | (go_simp; rfl)) ?_)
                (try simp only [Act.put, List.setIfInBounds_toArray, List.set_cons_zero, List.set_cons_succ])
                refine mix_nil ?_
                go_wp2_with fail
                refine wp_region_mix (fun w_ w1_ => SameBut gs w_ w1_) [(false, 0), (false, 1), (false, 2), (false, 3), (false, 4), (false, 5), (false, 6), (false, 7), (false, 8), (false, 9), (false, 10), (false, 11), (false, 12), (false, 13), (false, 14), (false, 15), (true, 16)] (by kernel_rfl) (by kernel_rfl) (fun w_ => ⟨fun g _ => rfl⟩) (fun h h' => ⟨fun g hg => (h'.out g hg).trans (h.out g hg)⟩) (fun we hhp_ hbw_ => ?_)
                have HSe := Aside0.mk (sys_below HSd.out hbw_)
                have HBe := Aside0.mk (below_to HBd.out HBd.out.size hbw_)
                have hoe := blk_keep HOd.out hbw_
                have r1 : ∀ wx, SameBut gs we wx → wx.cell? ⟨wr.heap.size, 1, none⟩ = some (.int .i64 id) := fun wx h => same_cell h HNE.out.1 (blk_cell hoe 1)
                have r2 : ∀ wx, SameBut gs we wx → wx.cell? ⟨th, 0, none⟩ = some (.slice (some ⟨qL, 0, none⟩) LL.length cL) := fun wx h => same_cell h HNE.out.2.1 ((hbw_.cell (World.block_lt_of_cell? wd _ d0)).trans d0)
                have r3 : ∀ wx, SameBut gs we wx → wx.cell? ⟨th, 1, none⟩ = some (.int .i64 (n1 : Int)) := fun wx h => same_cell h HNE.out.2.1 ((hbw_.cell (World.block_lt_of_cell? wd _ d1)).trans d1)
                have r4 : ∀ wx, SameBut gs we wx → wx.cell? ⟨qL, tn, none⟩ = some (.int .i64 y) := fun wx h => same_cell h HNE.out.2.2 ((hbw_.cell (World.block_lt_of_cell? wd _ (HLd.out _ _ hLc))).trans (HLd.out _ _ hLc))
                obtain ⟨z1, z2⟩ := sys_cell HSe.out x HXL.out
                have hsf := sys_set HSe.out x y
                have hce := (sys_cell hsf x HXL.out).1
                rw [rd_set (by rw [List.length_set, List.length_map]; exact HXL.out)] at hce
                rw [List.set_set] at hsf
                have HSF := Aside0.mk hsf
                clear hhp_ hbw_ hoe hsf
                (refine mix_read (o := { dst := some 174, op := Op.move (Operand.tmp 6), type := 27, pos := "law.go:96", after := #[], guard := none }) rfl (by first | rfl | (simp [Region.wanted, yielded]; done)) (by intro w_ hE_; (try dsimp only at hE_); first | (go_simp; done) | (go_simp; rfl)) ?_)
                (try simp only [Act.put, List.setIfInBounds_toArray, List.set_cons_zero, List.set_cons_succ])
                (refine mix_read (o := { dst := some 175, op := Op.fieldAddr 29 (Operand.tmp 9) 1, type := 0, pos := "law.go:96", after := #[], guard := none }) rfl (by first | rfl | (simp [Region.wanted, yielded]; done)) (by intro w_ hE_; (try dsimp only at hE_); first | (go_simp; done) | (go_simp; rfl)) ?_)
                (try simp only [Act.put, List.setIfInBounds_toArray, List.set_cons_zero, List.set_cons_succ])
                (refine mix_read (o := { dst := some 176, op := Op.load 3 (Operand.tmp 175), type := 3, pos := "law.go:96", after := #[{ on := 1, ground := Ground.data }], guard := none }) rfl (by first | rfl | (simp [Region.wanted, yielded]; done)) (by intro w_ hE_; (try dsimp only at hE_); first | (go_simp; done) | (go_simp; rfl)) ?_)
                (try simp only [Act.put, List.setIfInBounds_toArray, List.set_cons_zero, List.set_cons_succ])
                (refine mix_read (o := { dst := some 177, op := Op.binOp BinOp.sub 3 (Operand.tmp 176) (Operand.const (Value.int IntKind.i64 1)) 3, type := 3, pos := "law.go:96", after := #[{ on := 2, ground := Ground.data }], guard := none }) rfl (by first | rfl | (simp [Region.wanted, yielded]; done)) (by intro w_ hE_; (try dsimp only at hE_); first | (go_simp; done) | (go_simp; rfl)) ?_)
                (try simp only [Act.put, List.setIfInBounds_toArray, List.set_cons_zero, List.set_cons_succ])
                (refine mix_read (o := { dst := some 178, op := Op.move (Operand.tmp 18), type := 30, pos := "law.go:96", after := #[], guard := none }) rfl (by first | rfl | (simp [Region.wanted, yielded]; done)) (by intro w_ hE_; (try dsimp only at hE_); first | (go_simp; done) | (go_simp; rfl)) ?_)
                (try simp only [Act.put, List.setIfInBounds_toArray, List.set_cons_zero, List.set_cons_succ])
                (refine mix_read (o := { dst := some 179, op := Op.nilCheck (Operand.tmp 178), type := 0, pos := "law.go:96", after := #[{ on := 4, ground := Ground.data }], guard := none }) rfl (by first | rfl | (simp [Region.wanted, yielded]; done)) (by intro w_ hE_; (try dsimp only at hE_); first | (go_simp; done) | (go_simp; rfl)) ?_)
                (try simp only [Act.put, List.setIfInBounds_toArray, List.set_cons_zero, List.set_cons_succ])
                (refine mix_read (o := { dst := some 180, op := Op.fieldAddr 32 (Operand.tmp 179) 0, type := 0, pos := "law.go:96", after := #[{ on := 5, ground := Ground.data }], guard := none }) rfl (by first | rfl | (simp [Region.wanted, yielded]; done)) (by intro w_ hE_; (try dsimp only at hE_); first | (go_simp; done) | (go_simp; rfl)) ?_)
                (try simp only [Act.put, List.setIfInBounds_toArray, List.set_cons_zero, List.set_cons_succ])
                (refine mix_read (o := { dst := some 181, op := Op.load 27 (Operand.tmp 180), type := 27, pos := "law.go:96", after := #[{ on := 6, ground := Ground.data }], guard := none }) rfl (by first | rfl | (simp [Region.wanted, yielded]; done)) (by intro w_ hE_; (try dsimp only at hE_); first | (go_simp; done) | (go_simp; rfl)) ?_)
                (try simp only [Act.put, List.setIfInBounds_toArray, List.set_cons_zero, List.set_cons_succ])
                (refine mix_read (o := { dst := some 182, op := Op.move (Operand.tmp 18), type := 30, pos := "law.go:96", after := #[], guard := none }) rfl (by first | rfl | (simp [Region.wanted, yielded]; done)) (by intro w_ hE_; (try dsimp only at hE_); first | (go_simp; done) | (go_simp; rfl)) ?_)
                (try simp only [Act.put, List.setIfInBounds_toArray, List.set_cons_zero, List.set_cons_succ])
                (refine mix_read (o := { dst := some 183, op := Op.nilCheck (Operand.tmp 182), type := 0, pos := "law.go:96", after := #[{ on := 8, ground := Ground.data }], guard := none }) rfl (by first | rfl | (simp [Region.wanted, yielded]; done)) (by intro w_ hE_; (try dsimp only at hE_); first | (go_simp; done) | (go_simp; rfl)) ?_)
                (try simp only [Act.put, List.setIfInBounds_toArray, List.set_cons_zero, List.set_cons_succ])
                (refine mix_read (o := { dst := some 184, op := Op.fieldAddr 32 (Operand.tmp 183) 1, type := 0, pos := "law.go:96", after := #[{ on := 9, ground := Ground.data }], guard := none }) rfl (by first | rfl | (simp [Region.wanted, yielded]; done)) (by intro w_ hE_; (try dsimp only at hE_); first | (go_simp; done) | (go_simp; rfl)) ?_)
                (try simp only [Act.put, List.setIfInBounds_toArray, List.set_cons_zero, List.set_cons_succ])
                (refine mix_read (o := { dst := some 185, op := Op.load 3 (Operand.tmp 184), type := 3, pos := "law.go:96", after := #[{ on := 10, ground := Ground.data }], guard := none }) rfl (by first | rfl | (simp [Region.wanted, yielded]; done)) (by intro w_ hE_; (try dsimp only at hE_); first | (go_simp; done) | (go_simp; rfl)) ?_)
                (try simp only [Act.put, List.setIfInBounds_toArray, List.set_cons_zero, List.set_cons_succ])
                (refine mix_read (o := { dst := some 186, op := Op.binOp BinOp.sub 3 (Operand.tmp 185) (Operand.const (Value.int IntKind.i64 1)) 3, type := 3, pos := "law.go:96", after := #[{ on := 11, ground := Ground.data }], guard := none }) rfl (by first | rfl | (simp [Region.wanted, yielded]; done)) (by intro w_ hE_; (try dsimp only at hE_); first | (go_simp; done) | (go_simp; rfl)) ?_)
                (try simp only [Act.put, List.setIfInBounds_toArray, List.set_cons_zero, List.set_cons_succ])
                (refine mix_read (o := { dst := some 187, op := Op.indexAddr 27 (Operand.tmp 181) (Operand.tmp 186), type := 0, pos := "law.go:96", after := #[{ on := 7, ground := Ground.data }, { on := 12, ground := Ground.data }], guard := none }) rfl (by first | rfl | (simp [Region.wanted, yielded]; done)) (by intro w_ hE_; (try dsimp only at hE_); first | (go_simp; done) | (go_simp; rfl)) ?_)
                (try simp only [Act.put, List.setIfInBounds_toArray, List.set_cons_zero, List.set_cons_succ])
                (refine mix_read (o := { dst := some 188, op := Op.load 3 (Operand.tmp 187), type := 3, pos := "law.go:96", after := #[{ on := 13, ground := Ground.data }], guard := none }) rfl (by first | rfl | (simp [Region.wanted, yielded]; done)) (by intro w_ hE_; (try dsimp only at hE_); first | (go_simp; done) | (go_simp; rfl)) ?_)
                (try simp only [Act.put, List.setIfInBounds_toArray, List.set_cons_zero, List.set_cons_succ])
                (refine mix_read (o := { dst := some 189, op := Op.indexAddr 27 (Operand.tmp 174) (Operand.tmp 177), type := 0, pos := "law.go:96", after := #[{ on := 0, ground := Ground.data }, { on := 3, ground := Ground.data }, { on := 0, ground := Ground.phase }, { on := 1, ground := Ground.phase }, { on := 2, ground := Ground.phase }, { on := 3, ground := Ground.phase }, { on := 4, ground := Ground.phase }, { on := 5, ground := Ground.phase }, { on := 6, ground := Ground.phase }, { on := 7, ground := Ground.phase }, { on := 8, ground := Ground.phase }, { on := 9, ground := Ground.phase }, { on := 10, ground := Ground.phase }, { on := 11, ground := Ground.phase }, { on := 12, ground := Ground.phase }, { on := 13, ground := Ground.phase }, { on := 14, ground := Ground.phase }], guard := none }) rfl (by first | rfl | (simp [Region.wanted, yielded]; done)) (by intro w_ hE_; (try dsimp only at hE_); first | (go_simp; done) | (go_simp; rfl)) ?_)
                (try simp only [Act.put, List.setIfInBounds_toArray, List.set_cons_zero, List.set_cons_succ])
                refine mix_store (o := { dst := none, op := Op.store 3 (Operand.tmp 189) (Operand.tmp 188), type := 0, pos := "law.go:96", after := #[{ on := 15, ground := Ground.data }, { on := 14, ground := Ground.data }, { on := 0, ground := Ground.phase }, { on := 1, ground := Ground.phase }, { on := 2, ground := Ground.phase }, { on := 3, ground := Ground.phase }, { on := 4, ground := Ground.phase }, { on := 5, ground := Ground.phase }, { on := 6, ground := Ground.phase }, { on := 7, ground := Ground.phase }, { on := 8, ground := Ground.phase }, { on := 9, ground := Ground.phase }, { on := 10, ground := Ground.phase }, { on := 11, ground := Ground.phase }, { on := 12, ground := Ground.phase }, { on := 13, ground := Ground.phase }, { on := 14, ground := Ground.phase }], guard := none }) (w1 := (we.setCell ⟨gs, x, none⟩ (.int .i64 y))) rfl (by first | rfl | (simp [Region.wanted, yielded]; done)) (by first | (go_simp; done) | (go_simp; rfl)) (⟨fun g hg => Below.heap_setCell we ⟨gs, x, none⟩ _ g hg⟩) ?_
                (try simp only [Act.put, List.setIfInBounds_toArray, List.set_cons_zero, List.set_cons_succ])
                refine mix_nil ?_
                have oz := r1 (we.setCell ⟨gs, x, none⟩ (.int .i64 y)) ⟨fun g hg => Below.heap_setCell we ⟨gs, x, none⟩ _ g hg⟩
                have HBZ : Aside0 (Below w.heap.size w (we.setCell ⟨gs, x, none⟩ (.int .i64 y))) := ⟨HBe.out.trans (below_set (sys_base HSe.out).1 _)⟩
                clear r1 r2 r3 r4 z1 z2 hLc d0 d1
                have hsf := HSF.out
                rw [← HT.out.2.2.2.2.2.1] at hsf
                have HSZ := Aside0.mk hsf
                have HGZ := Aside0.mk HT.out.1
                have HLZ : Aside0 (tz.length = ts.length ∧ ts.length ≤ i ∧ i < 120) := ⟨HT.out.2.2.2.2.1, HLT.out⟩
                have HCS : Aside0 (cnt 1 tz + 1 = cnt 1 ts + (if y ≤ 1 then 1 else 0)) := ⟨HT.out.2.2.2.2.2.2.1⟩
                have HCL : Aside0 (cnt 1 ts ≤ 120) := ⟨by have : cnt 1 ts ≤ ts.length := List.countP_le_length; have := HLT.out; omega⟩
                have hy := HY.out.1
                clear hsf HSF HSe HBe HOd HSd HBd HLd HS5 HB5 HO5 HOW HT HY
                generalize we.setCell ⟨gs, x, none⟩ (.int .i64 y) = wz at *
                rcases hy with rfl | rfl | rfl
                · have HCZ : Aside0 ((cnt 1 tz : Int) = (cnt 1 ts : Int)) := ⟨by have h := HCS.out; simp at h; omega⟩
                  go_wp2_with fail
                  refine (sys_tells HLZ.out.1 HSZ.out HGZ.out (by have := HLZ.out; have := HLT.out; omega)).mono ?_
                  rintro e_ wt ⟨rfl, hb⟩
                  have HSt := Aside0.mk (sys_below HSZ.out hb)
                  have HBt := Aside0.mk (below_to HBZ.out HBZ.out.size hb)
                  clear hb
                  go_wp2_with fail
                  go_roundg f
                  case measure => omega
                  case rel => exact ⟨i + 1, tz, by simp, by rw [HCZ.out], ⟨by have := HI.out; omega, by have := HLZ.out; omega, HGZ.out⟩, ⟨HSt.out.1⟩, ⟨HSt.out.2.1⟩, ⟨HSt.out.2.2.1⟩, ⟨HSt.out.2.2.2⟩, HBt⟩
                · have HCZ : Aside0 ((cnt 1 tz : Int) = (cnt 1 ts : Int)) := ⟨by have h := HCS.out; simp at h; omega⟩
                  go_wp2_with fail
                  refine (sys_tells HLZ.out.1 HSZ.out HGZ.out (by have := HLZ.out; have := HLT.out; omega)).mono ?_
                  rintro e_ wt ⟨rfl, hb⟩
                  have HSt := Aside0.mk (sys_below HSZ.out hb)
                  have HBt := Aside0.mk (below_to HBZ.out HBZ.out.size hb)
                  clear hb
                  go_wp2_with fail
                  go_roundg f
                  case measure => omega
                  case rel => exact ⟨i + 1, tz, by simp, by rw [HCZ.out], ⟨by have := HI.out; omega, by have := HLZ.out; omega, HGZ.out⟩, ⟨HSt.out.1⟩, ⟨HSt.out.2.1⟩, ⟨HSt.out.2.2.1⟩, ⟨HSt.out.2.2.2⟩, HBt⟩
                · have kop : IntKind.i64.wrap ((cnt 1 ts : Int) - 1) = (cnt 1 tz : Int) := by have h := HCS.out; have := HCL.out; simp at h; rw [IntKind.wrap_i64]; omega
                  go_wp2_with fail
                  refine (sys_tells HLZ.out.1 HSZ.out HGZ.out (by have := HLZ.out; have := HLT.out; omega)).mono ?_
                  rintro e_ wt ⟨rfl, hb⟩
                  have HSt := Aside0.mk (sys_below HSZ.out hb)
                  have HBt := Aside0.mk (below_to HBZ.out HBZ.out.size hb)
                  clear hb
                  go_wp2_with fail
                  go_roundg f
                  case measure => omega
                  case rel => exact ⟨i + 1, tz, by simp, rfl, ⟨by have := HI.out; omega, by have := HLZ.out; omega, HGZ.out⟩, ⟨HSt.out.1⟩, ⟨HSt.out.2.1⟩, ⟨HSt.out.2.2.1⟩, ⟨HSt.out.2.2.2⟩, HBt⟩
              ·
                rw [if_neg hlt2] at hyv
                have k5 : ((n1 : Int) ≤ (LL.length : Int)) = False := eq_false (by have := HQ.out; omega)
                clear hlt2 hne1 hne2
                go_wp2_with fail
                refine wp_region_mix (fun w_ w1_ => w_ = w1_) [(false, 0), (false, 1), (false, 2), (false, 3), (false, 4), (false, 5), (false, 6), (false, 7), (false, 8), (false, 9)] (by kernel_rfl) (by kernel_rfl) (fun _ => rfl) (fun h h' => h.trans h') (fun wd hhp_ hbw_ => ?_)
                have HSd := Aside0.mk (sys_below HS5.out hbw_)
                have HBd := Aside0.mk (below_to HB5.out HB5.out.size hbw_)
                have HOd := Aside0.mk (blk_keep HO5.out hbw_)
                have d0 : wd.cell? ⟨th, 0, none⟩ = _ := (hbw_.cell (World.block_lt_of_cell? w5 _ c50)).trans c50
                have d1 : wd.cell? ⟨th, 1, none⟩ = _ := (hbw_.cell (World.block_lt_of_cell? w5 _ c51)).trans c51
                have HLd : Aside0 (∀ i v, w5.cell? i = some v → wd.cell? i = some v) := ⟨fun i v h => pw_cell_below hbw_ h⟩
                clear hhp_ hbw_
                (refine mix_read (o := { dst := some 164, op := Op.move (Operand.tmp 18), type := 30, pos := "law.go:95", after := #[], guard := none }) rfl (by first | rfl | (simp [Region.wanted, yielded]; done)) (by intro w_ hE_; (try dsimp only at hE_); subst hE_; first | (go_simp; done) | (go_simp; rfl)) ?_)
                (try simp only [Act.put, List.setIfInBounds_toArray, List.set_cons_zero, List.set_cons_succ])
                (refine mix_read (o := { dst := some 165, op := Op.nilCheck (Operand.tmp 164), type := 0, pos := "law.go:95", after := #[{ on := 0, ground := Ground.data }], guard := none }) rfl (by first | rfl | (simp [Region.wanted, yielded]; done)) (by intro w_ hE_; (try dsimp only at hE_); subst hE_; first | (go_simp; done) | (go_simp; rfl)) ?_)
                (try simp only [Act.put, List.setIfInBounds_toArray, List.set_cons_zero, List.set_cons_succ])
                (refine mix_read (o := { dst := some 166, op := Op.fieldAddr 32 (Operand.tmp 165) 1, type := 0, pos := "law.go:95", after := #[{ on := 1, ground := Ground.data }], guard := none }) rfl (by first | rfl | (simp [Region.wanted, yielded]; done)) (by intro w_ hE_; (try dsimp only at hE_); subst hE_; first | (go_simp; done) | (go_simp; rfl)) ?_)
                (try simp only [Act.put, List.setIfInBounds_toArray, List.set_cons_zero, List.set_cons_succ])
                (refine mix_read (o := { dst := some 167, op := Op.load 3 (Operand.tmp 166), type := 3, pos := "law.go:95", after := #[{ on := 2, ground := Ground.data }], guard := none }) rfl (by first | rfl | (simp [Region.wanted, yielded]; done)) (by intro w_ hE_; (try dsimp only at hE_); subst hE_; first | (go_simp; done) | (go_simp; rfl)) ?_)
                (try simp only [Act.put, List.setIfInBounds_toArray, List.set_cons_zero, List.set_cons_succ])
                (refine mix_read (o := { dst := some 168, op := Op.move (Operand.tmp 18), type := 30, pos := "law.go:95", after := #[], guard := none }) rfl (by first | rfl | (simp [Region.wanted, yielded]; done)) (by intro w_ hE_; (try dsimp only at hE_); subst hE_; first | (go_simp; done) | (go_simp; rfl)) ?_)
                (try simp only [Act.put, List.setIfInBounds_toArray, List.set_cons_zero, List.set_cons_succ])
                (refine mix_read (o := { dst := some 169, op := Op.nilCheck (Operand.tmp 168), type := 0, pos := "law.go:95", after := #[{ on := 4, ground := Ground.data }], guard := none }) rfl (by first | rfl | (simp [Region.wanted, yielded]; done)) (by intro w_ hE_; (try dsimp only at hE_); subst hE_; first | (go_simp; done) | (go_simp; rfl)) ?_)
                (try simp only [Act.put, List.setIfInBounds_toArray, List.set_cons_zero, List.set_cons_succ])
                (refine mix_read (o := { dst := some 170, op := Op.fieldAddr 32 (Operand.tmp 169) 0, type := 0, pos := "law.go:95", after := #[{ on := 5, ground := Ground.data }], guard := none }) rfl (by first | rfl | (simp [Region.wanted, yielded]; done)) (by intro w_ hE_; (try dsimp only at hE_); subst hE_; first | (go_simp; done) | (go_simp; rfl)) ?_)
                (try simp only [Act.put, List.setIfInBounds_toArray, List.set_cons_zero, List.set_cons_succ])
                (refine mix_read (o := { dst := some 171, op := Op.load 27 (Operand.tmp 170), type := 27, pos := "law.go:95", after := #[{ on := 6, ground := Ground.data }], guard := none }) rfl (by first | rfl | (simp [Region.wanted, yielded]; done)) (by intro w_ hE_; (try dsimp only at hE_); subst hE_; first | (go_simp; done) | (go_simp; rfl)) ?_)
                (try simp only [Act.put, List.setIfInBounds_toArray, List.set_cons_zero, List.set_cons_succ])
                (refine mix_read (o := { dst := some 172, op := Op.call { callee := Callee.builtin Builtin.len, args := #[Operand.tmp 171], argTypes := #[27] }, type := 3, pos := "law.go:95", after := #[{ on := 7, ground := Ground.data }], guard := none }) rfl (by first | rfl | (simp [Region.wanted, yielded]; done)) (by intro w_ hE_; (try dsimp only at hE_); subst hE_; first | (go_simp; done) | (go_simp; rfl)) ?_)
                (try simp only [Act.put, List.setIfInBounds_toArray, List.set_cons_zero, List.set_cons_succ])
                (refine mix_read (o := { dst := some 173, op := Op.binOp BinOp.leq 3 (Operand.tmp 167) (Operand.tmp 172) 3, type := 4, pos := "law.go:95", after := #[{ on := 3, ground := Ground.data }, { on := 8, ground := Ground.data }], guard := none }) rfl (by first | rfl | (simp [Region.wanted, yielded]; done)) (by intro w_ hE_; (try dsimp only at hE_); subst hE_; first | (go_simp; done) | (go_simp; rfl)) ?_)
                (try simp only [Act.put, List.setIfInBounds_toArray, List.set_cons_zero, List.set_cons_succ])
                refine mix_nil ?_
                subst hyv
                obtain ⟨hce, _⟩ := sys_cell HSd.out x HXL.out
                rw [rd_set (by rw [List.length_map]; exact HXL.out)] at hce
                have oz : wd.cell? ⟨wr.heap.size, 1, none⟩ = some (.int .i64 id) := blk_cell HOd.out 1
                have HBZ := HBd
                have hsf := HSd.out
                rw [← HT.out.2.2.2.2.2.1] at hsf
                have HSZ := Aside0.mk hsf
                have HGZ := Aside0.mk HT.out.1
                have HLZ : Aside0 (tz.length = ts.length ∧ ts.length ≤ i ∧ i < 120) := ⟨HT.out.2.2.2.2.1, HLT.out⟩
                have HCL : Aside0 (cnt 1 ts ≤ 120) := ⟨by have : cnt 1 ts ≤ ts.length := List.countP_le_length; have := HLT.out; omega⟩
                have kop : IntKind.i64.wrap ((cnt 1 ts : Int) - 1) = (cnt 1 tz : Int) := by have h := HT.out.2.2.2.2.2.2.1; have := HCL.out; simp at h; rw [IntKind.wrap_i64]; omega
                clear hsf d0 d1 HSd HOd HLd HS5 HB5 HO5 HOW HT HY
                go_wp2_with fail
                refine (sys_tells HLZ.out.1 HSZ.out HGZ.out (by have := HLZ.out; have := HLT.out; omega)).mono ?_
                rintro e_ wt ⟨rfl, hb⟩
                have HSt := Aside0.mk (sys_below HSZ.out hb)
                have HBt := Aside0.mk (below_to HBZ.out HBZ.out.size hb)
                clear hb
                go_wp2_with fail
                go_roundg f
                case measure => omega
                case rel => exact ⟨i + 1, tz, by simp, rfl, ⟨by have := HI.out; omega, by have := HLZ.out; omega, HGZ.out⟩, ⟨HSt.out.1⟩, ⟨HSt.out.2.1⟩, ⟨HSt.out.2.2.1⟩, ⟨HSt.out.2.2.2⟩, HBt⟩
            ·
              as_aux_lemma =>
                have hsi := step_idle HSA.out.1 x hxl hst
                rw [hx] at hsi
                have HWK := Aside0.mk hsi
                have b1 : ((ts.getD x default).st == 0) = false := beq_eq_false_iff_ne.2 hst
                generalize (ts.getD x default).st = st at *
                generalize (ts.getD x default).h = th at *
                generalize (ts.getD x default).n = tn at *
                clear hsi hst hin hxl hx htk hwc hrd e2 e3
                go_wp2_with fail
                refine HWK.out.mono ?_
                rintro e_ w4 ⟨rfl, rfl⟩
                obtain ⟨tz, htz⟩ : ∃ tz, ts = tz := ⟨_, rfl⟩
                have HGZ : Aside0 (PGood tz (i + 1)) := ⟨by rw [← htz]; exact good_mono HGD.out⟩
                have HLZ : Aside0 (tz.length = ts.length ∧ ts.length ≤ i ∧ i < 120) := ⟨by rw [← htz]; exact ⟨rfl, HLT.out⟩⟩
                have HCZ : Aside0 ((cnt 1 tz : Int) = (cnt 1 ts : Int)) := ⟨by rw [htz]⟩
                have hsz := HSA.out
                have hsz2 : PSys wA w.heap.size p tz (.slice (some aw) ts.length cw) (.slice (some ⟨gs, 0, none⟩) ts.length cs) (tz.map Tk.st) := by rw [← htz]; exact hsz
                have HSZ := Aside0.mk hsz2
                have HBZ := HBA
                clear hsz hsz2 htz
                go_wp2_with fail
                refine (sys_tells HLZ.out.1 HSZ.out HGZ.out (by have := HLZ.out; have := HLT.out; omega)).mono ?_
                rintro e_ wt ⟨rfl, hb⟩
                have HSt := Aside0.mk (sys_below HSZ.out hb)
                have HBt := Aside0.mk (below_to HBZ.out HBZ.out.size hb)
                clear hb
                go_wp2_with fail
                go_roundg f
                case measure => omega
                case rel => exact ⟨i + 1, tz, by simp, by rw [HCZ.out], ⟨by have := HI.out; omega, by have := HLZ.out; omega, HGZ.out⟩, ⟨HSt.out.1⟩, ⟨HSt.out.2.1⟩, ⟨HSt.out.2.2.1⟩, ⟨HSt.out.2.2.2⟩, HBt⟩
          ·
            as_aux_lemma =>
              have HWK := Aside0.mk (step_none HSA.out.1 id (by omega))
              by_cases h1 : 1 ≤ id
              · have i1 := eq_true h1
                have i2 := eq_false (fun h => hin ⟨h1, h⟩)
                clear h1 hin
                go_wp2_with fail
                refine HWK.out.mono ?_
                rintro e_ w4 ⟨rfl, rfl⟩
                obtain ⟨tz, htz⟩ : ∃ tz, ts = tz := ⟨_, rfl⟩
                have HGZ : Aside0 (PGood tz (i + 1)) := ⟨by rw [← htz]; exact good_mono HGD.out⟩
                have HLZ : Aside0 (tz.length = ts.length ∧ ts.length ≤ i ∧ i < 120) := ⟨by rw [← htz]; exact ⟨rfl, HLT.out⟩⟩
                have HCZ : Aside0 ((cnt 1 tz : Int) = (cnt 1 ts : Int)) := ⟨by rw [htz]⟩
                have hsz := HSA.out
                have hsz2 : PSys wA w.heap.size p tz (.slice Aw ts.length cw) (.slice As ts.length cs) (tz.map Tk.st) := by rw [← htz]; exact hsz
                have HSZ := Aside0.mk hsz2
                have HBZ := HBA
                clear hsz hsz2 htz
                go_wp2_with fail
                refine (sys_tells HLZ.out.1 HSZ.out HGZ.out (by have := HLZ.out; have := HLT.out; omega)).mono ?_
                rintro e_ wt ⟨rfl, hb⟩
                have HSt := Aside0.mk (sys_below HSZ.out hb)
                have HBt := Aside0.mk (below_to HBZ.out HBZ.out.size hb)
                clear hb
                go_wp2_with fail
                go_roundg f
                case measure => omega
                case rel => exact ⟨i + 1, tz, by simp, by rw [HCZ.out], ⟨by have := HI.out; omega, by have := HLZ.out; omega, HGZ.out⟩, ⟨HSt.out.1⟩, ⟨HSt.out.2.1⟩, ⟨HSt.out.2.2.1⟩, ⟨HSt.out.2.2.2⟩, HBt⟩
              · have i1 := eq_false h1
                clear h1 hin
                go_wp2_with fail
                refine HWK.out.mono ?_
                rintro e_ w4 ⟨rfl, rfl⟩
                obtain ⟨tz, htz⟩ : ∃ tz, ts = tz := ⟨_, rfl⟩
                have HGZ : Aside0 (PGood tz (i + 1)) := ⟨by rw [← htz]; exact good_mono HGD.out⟩
                have HLZ : Aside0 (tz.length = ts.length ∧ ts.length ≤ i ∧ i < 120) := ⟨by rw [← htz]; exact ⟨rfl, HLT.out⟩⟩
                have HCZ : Aside0 ((cnt 1 tz : Int) = (cnt 1 ts : Int)) := ⟨by rw [htz]⟩
                have hsz := HSA.out
                have hsz2 : PSys wA w.heap.size p tz (.slice Aw ts.length cw) (.slice As ts.length cs) (tz.map Tk.st) := by rw [← htz]; exact hsz
                have HSZ := Aside0.mk hsz2
                have HBZ := HBA
                clear hsz hsz2 htz
                go_wp2_with fail
                refine (sys_tells HLZ.out.1 HSZ.out HGZ.out (by have := HLZ.out; have := HLT.out; omega)).mono ?_
                rintro e_ wt ⟨rfl, hb⟩
                have HSt := Aside0.mk (sys_below HSZ.out hb)
                have HBt := Aside0.mk (below_to HBZ.out HBZ.out.size hb)
                clear hb
                go_wp2_with fail
                go_roundg f
                case measure => omega
                case rel => exact ⟨i + 1, tz, by simp, by rw [HCZ.out], ⟨by have := HI.out; omega, by have := HLZ.out; omega, HGZ.out⟩, ⟨HSt.out.1⟩, ⟨HSt.out.2.1⟩, ⟨HSt.out.2.2.1⟩, ⟨HSt.out.2.2.2⟩, HBt⟩
        ·
          as_aux_lemma =>
            have bk0 : (kd == 0) = false := beq_eq_false_iff_ne.2 hk0
            have bk1 : (kd == 1) = false := beq_eq_false_iff_ne.2 hk1
            clear hk0 hk1
            by_cases hin : 1 ≤ id ∧ id ≤ (ts.length : Int)
            · obtain ⟨x, hx⟩ : ∃ x : Nat, ((x + 1 : Nat) : Int) = id := ⟨(id - 1).toNat, by omega⟩
              have hxl : x < ts.length := by omega
              have hid : IntKind.i64.wrap (id - 1) = (x : Int) := by have := HLT.out; rw [IntKind.wrap_i64]; omega
              have hwk := wake_set HSA.out.1 x hxl
              rw [hx] at hwk
              have HWK := Aside0.mk hwk
              have i1 := eq_true hin.1
              have i2 := eq_true hin.2
              have HXL := Aside0.mk hxl
              have kx : ((x : Int) < (ts.length : Int)) = True := eq_true (by omega)
              clear hwk hin hxl hx
              go_wp2_with fail
              refine HWK.out.mono ?_
              rintro e_ w4 ⟨rfl, hp, hb, hk⟩
              have hxl := HXL.out
              obtain ⟨gs, cs', ev, _⟩ := Kd.R_form HSA.out.2.2.1 (by rw [List.length_map]; omega)
              rw [List.length_map] at ev
              injection ev with e1 e2 e3
              subst e1
              have hb4 := HBA.out.trans hb
              obtain ⟨tz, htz⟩ : ∃ tz, ts.set x {ts.getD x default with st := if (ts.getD x default).st = 1 then 0 else (ts.getD x default).st} = tz := ⟨_, rfl⟩
              have hgz := good_wake HGD.out hxl
              have hcs := cnt_split (m := 1) hxl {ts.getD x default with st := if (ts.getD x default).st = 1 then 0 else (ts.getD x default).st}
              have hs4 := sys_step HSA.out hp hk (map_h_set hxl rfl) (far_set HSA.out.2.2.2 hxl rfl)
              have hzl : (ts.set x {ts.getD x default with st := if (ts.getD x default).st = 1 then 0 else (ts.getD x default).st}).length = ts.length := List.length_set
              have hmap := map_st_set (ts := ts) (x := x) (t := {ts.getD x default with st := if (ts.getD x default).st = 1 then 0 else (ts.getD x default).st})
              have hmx : (ts.map Tk.st).length = ts.length := List.length_map _
              have hrd : rd (ts.map Tk.st) (x : Int) = (ts.getD x default).st := map_rd hxl
              have hst := (HGD.out _ (getD_mem_tk hxl)).2.1
              have hself : ∀ y, y = (ts.getD x default).st → (ts.map Tk.st).set x y = ts.map Tk.st := fun y hy => by
                have := map_st_set (ts := ts) (x := x) (t := ts.getD x default)
                rw [self_set hxl] at this
                rw [hy]; exact this.symm
              rw [htz] at hgz hcs hs4 hzl hmap
              have q4 := sys_cell hs4 x hxl
              rw [hrd] at q4
              have hob := blk_cell (hk _ _ _ HOB.out (by decide) (by decide) (by decide) (by decide)) 1
              have hob4 : w4.cell? ⟨wr.heap.size, 1, none⟩ = some (.int .i64 id) := hob
              have hset := sys_set hs4 x 0
              obtain ⟨q1, q2⟩ := q4
              have hgb := (sys_base hs4).1
              generalize (ts.getD x default).st = st at *
              have HGZ := Aside0.mk hgz
              have HLZ := Aside0.mk (And.intro hzl (show ts.length ≤ i ∧ i < 120 from HLT.out))
              have H4 := Aside0.mk (And.intro hs4 (And.intro hb4 (And.intro hset (And.intro hgb (And.intro hmap (And.intro hself hcs))))))
              clear hp hb hk hb4 hgz hs4 hset hmap hself hcs hob hzl hmx htz hgb e2 e3
              by_cases h1 : st = 1
              · subst h1
                obtain ⟨wz, hwz⟩ : ∃ wz, w4.setCell ⟨gs, x, none⟩ (.int .i64 0) = wz := ⟨_, rfl⟩
                have HBZ : Aside0 (Below w.heap.size w wz) := ⟨by rw [← hwz]; exact H4.out.2.1.trans (below_set H4.out.2.2.2.1 _)⟩
                have hsz := H4.out.2.2.1
                rw [hwz] at hsz
                have hm2 : tz.map Tk.st = (ts.map Tk.st).set x 0 := H4.out.2.2.2.2.1
                rw [← hm2] at hsz
                have HSZ := Aside0.mk hsz
                have HCZ : Aside0 ((cnt 1 tz : Int) = (cnt 1 ts : Int)) := ⟨by have h := H4.out.2.2.2.2.2.2; simp at h; omega⟩
                clear hsz hm2 hst
                go_wp2_with fail
                refine (sys_tells HLZ.out.1 HSZ.out HGZ.out (by have := HLZ.out; have := HLT.out; omega)).mono ?_
                rintro e_ wt ⟨rfl, hb⟩
                have HSt := Aside0.mk (sys_below HSZ.out hb)
                have HBt := Aside0.mk (below_to HBZ.out HBZ.out.size hb)
                clear hb
                go_wp2_with fail
                go_roundg f
                case measure => omega
                case rel => exact ⟨i + 1, tz, by simp, by rw [HCZ.out], ⟨by have := HI.out; omega, by have := HLZ.out; omega, HGZ.out⟩, ⟨HSt.out.1⟩, ⟨HSt.out.2.1⟩, ⟨HSt.out.2.2.1⟩, ⟨HSt.out.2.2.2⟩, HBt⟩
              · have HBZ := Aside0.mk H4.out.2.1
                have hm2 : tz.map Tk.st = ts.map Tk.st := by
                  rw [H4.out.2.2.2.2.1]
                  exact H4.out.2.2.2.2.2.1 _ (by show (if st = 1 then (0 : Int) else st) = st; rw [if_neg h1])
                have hsz := H4.out.1
                rw [← hm2] at hsz
                have HSZ := Aside0.mk hsz
                have HCZ : Aside0 ((cnt 1 tz : Int) = (cnt 1 ts : Int)) := ⟨by have h := H4.out.2.2.2.2.2.2; simp only [if_neg h1] at h; omega⟩
                have b1 : (st == 1) = false := beq_eq_false_iff_ne.2 h1
                clear hsz hm2 h1 hst
                go_wp2_with fail
                refine (sys_tells HLZ.out.1 HSZ.out HGZ.out (by have := HLZ.out; have := HLT.out; omega)).mono ?_
                rintro e_ wt ⟨rfl, hb⟩
                have HSt := Aside0.mk (sys_below HSZ.out hb)
                have HBt := Aside0.mk (below_to HBZ.out HBZ.out.size hb)
                clear hb
                go_wp2_with fail
                go_roundg f
                case measure => omega
                case rel => exact ⟨i + 1, tz, by simp, by rw [HCZ.out], ⟨by have := HI.out; omega, by have := HLZ.out; omega, HGZ.out⟩, ⟨HSt.out.1⟩, ⟨HSt.out.2.1⟩, ⟨HSt.out.2.2.1⟩, ⟨HSt.out.2.2.2⟩, HBt⟩
            · have HWK := Aside0.mk (wake_none HSA.out.1 id (by omega))
              by_cases h1 : 1 ≤ id
              · have i1 := eq_true h1
                have i2 := eq_false (fun h => hin ⟨h1, h⟩)
                clear h1 hin
                go_wp2_with fail
                refine HWK.out.mono ?_
                rintro e_ w4 ⟨rfl, rfl⟩
                obtain ⟨tz, htz⟩ : ∃ tz, ts = tz := ⟨_, rfl⟩
                have HGZ : Aside0 (PGood tz (i + 1)) := ⟨by rw [← htz]; exact good_mono HGD.out⟩
                have HLZ : Aside0 (tz.length = ts.length ∧ ts.length ≤ i ∧ i < 120) := ⟨by rw [← htz]; exact ⟨rfl, HLT.out⟩⟩
                have HCZ : Aside0 ((cnt 1 tz : Int) = (cnt 1 ts : Int)) := ⟨by rw [htz]⟩
                have hsz := HSA.out
                have hsz2 : PSys wA w.heap.size p tz (.slice Aw ts.length cw) (.slice As ts.length cs) (tz.map Tk.st) := by rw [← htz]; exact hsz
                have HSZ := Aside0.mk hsz2
                have HBZ := HBA
                clear hsz hsz2 htz
                go_wp2_with fail
                refine (sys_tells HLZ.out.1 HSZ.out HGZ.out (by have := HLZ.out; have := HLT.out; omega)).mono ?_
                rintro e_ wt ⟨rfl, hb⟩
                have HSt := Aside0.mk (sys_below HSZ.out hb)
                have HBt := Aside0.mk (below_to HBZ.out HBZ.out.size hb)
                clear hb
                go_wp2_with fail
                go_roundg f
                case measure => omega
                case rel => exact ⟨i + 1, tz, by simp, by rw [HCZ.out], ⟨by have := HI.out; omega, by have := HLZ.out; omega, HGZ.out⟩, ⟨HSt.out.1⟩, ⟨HSt.out.2.1⟩, ⟨HSt.out.2.2.1⟩, ⟨HSt.out.2.2.2⟩, HBt⟩
              · have i1 := eq_false h1
                clear h1 hin
                go_wp2_with fail
                refine HWK.out.mono ?_
                rintro e_ w4 ⟨rfl, rfl⟩
                obtain ⟨tz, htz⟩ : ∃ tz, ts = tz := ⟨_, rfl⟩
                have HGZ : Aside0 (PGood tz (i + 1)) := ⟨by rw [← htz]; exact good_mono HGD.out⟩
                have HLZ : Aside0 (tz.length = ts.length ∧ ts.length ≤ i ∧ i < 120) := ⟨by rw [← htz]; exact ⟨rfl, HLT.out⟩⟩
                have HCZ : Aside0 ((cnt 1 tz : Int) = (cnt 1 ts : Int)) := ⟨by rw [htz]⟩
                have hsz := HSA.out
                have hsz2 : PSys wA w.heap.size p tz (.slice Aw ts.length cw) (.slice As ts.length cs) (tz.map Tk.st) := by rw [← htz]; exact hsz
                have HSZ := Aside0.mk hsz2
                have HBZ := HBA
                clear hsz hsz2 htz
                go_wp2_with fail
                refine (sys_tells HLZ.out.1 HSZ.out HGZ.out (by have := HLZ.out; have := HLT.out; omega)).mono ?_
                rintro e_ wt ⟨rfl, hb⟩
                have HSt := Aside0.mk (sys_below HSZ.out hb)
                have HBt := Aside0.mk (below_to HBZ.out HBZ.out.size hb)
                clear hb
                go_wp2_with fail
                go_roundg f
                case measure => omega
                case rel => exact ⟨i + 1, tz, by simp, by rw [HCZ.out], ⟨by have := HI.out; omega, by have := HLZ.out; omega, HGZ.out⟩, ⟨HSt.out.1⟩, ⟨HSt.out.2.1⟩, ⟨HSt.out.2.2.1⟩, ⟨HSt.out.2.2.2⟩, HBt⟩
    ·
      as_aux_lemma =>
        have hfin : ¬ (i < l.length ∧ i < 120) := hlt
        by_cases hll : i < l.length
        · have k0 : ((i : Int) < (l.length : Int)) = True := eq_true (by omega)
          have k1 : ((i : Int) < 120) = False := eq_false (by omega)
          clear hfin hlt hi hll
          go_wp2
          go_ret
          exact ⟨rfl, HB.out⟩
        · have k0 : ((i : Int) < (l.length : Int)) = False := eq_false (by omega)
          clear hfin hlt hi hll
          go_wp2
          go_ret
          exact ⟨rfl, HB.out⟩
end Go.Proofs.Ytopclgpimabpcaa.TaWalkT
