/- Contracts of record.Encode and of the reference. -/
import Derived.Test.YtfojeegepfjbiaaProg
import Derived.Below
import Derived.Deep.Draws
import Derived.Deep.AppendLies
import Derived.Maps.AppendAt
import Derived.OwnWalk
import Derived.Laws.BytesArg
import Derived.Laws.MakeOwn
import Derived.Laws.OwnMore
import Derived.Deep.OwnRows
import Derived.Tactics
import Derived.Lib.ConvBytes
import Derived.Laws.Slices
import Derived.WalkKit
import Derived.KernelRfl
import Derived.RowKit3
import Derived.Deep.LoopGhost
import Derived.Deep.QuietTactic
import Derived.BigQuiet
import Derived.WideLaws
import Derived.Deep.DeepCutAuto
import Derived.Deep.CutBlock
import Derived.Deep.RegionHeld3
import Derived.Laws.Rows
import Derived.Lib.AppendStr
import Derived.ArgAppend
import Derived.Laws.IdiomCopy
import Derived.OrdersHeld
import Derived.Laws.BitsLemmas
import Derived.RowKit
import Derived.Deep.RegionWith
import Derived.WalkSpells
import Derived.Outline
import Derived.Test.YtfojeegepfjbiaaWWords
import Derived.Test.YtfojeegepfjbiaaWLast
import Derived.Test.YtfojeegepfjbiaaWMore
import Derived.Test.YtfojeegepfjbiaaWArr
import Derived.Test.YtfojeegepfjbiaaWTab
import Derived.Test.YtfojeegepfjbiaaWZeros
import Derived.Test.YtfojeegepfjbiaaWRepsOne
import Derived.Test.YtfojeegepfjbiaaRdA
import Derived.Test.YtfojeegepfjbiaaMixT
import Derived.Test.YtfojeegepfjbiaaCrI
namespace Go.Proofs.Ytfojeegepfjbiaa.RdB
open Go.RowKit Go.Proofs.YtfojeegepfjbiaaW.PrintWords Go.Proofs.YtfojeegepfjbiaaW.PrintLast Go.Proofs.YtfojeegepfjbiaaW.PrintMore Go.Proofs.Ytfojeegepfjbiaa.Nm Go.Proofs.Ytfojeegepfjbiaa.NmA Go.Proofs.Ytfojeegepfjbiaa.NmB Go.Proofs.Ytfojeegepfjbiaa.NmC Go.Proofs.Ytfojeegepfjbiaa.NmD Go.Proofs.Ytfojeegepfjbiaa.NmE Go.Proofs.Ytfojeegepfjbiaa.NmI Go.Proofs.Ytfojeegepfjbiaa.CrP Go.Proofs.Ytfojeegepfjbiaa.CrA Go.Proofs.Ytfojeegepfjbiaa.CrB Go.Proofs.Ytfojeegepfjbiaa.Mix Go.Proofs.Ytfojeegepfjbiaa.MixT Go.Proofs.Ytfojeegepfjbiaa.RdA
set_option linter.unusedSimpArgs false
set_option linter.unusedVariables false
attribute [local go_sem] max2_int min2_int max_two min_two

/-- A record's bytes. -/
def recB (k s : Int) (key v : ByteArray) : List Int := if k = 1 then (([k] ++ enc s.toNat) ++ (enc key.size ++ bytesOf key)) ++ (enc v.size ++ bytesOf v) else ([k] ++ enc s.toNat) ++ (enc key.size ++ bytesOf key)
theorem check_ok {k s : Int} {key v : ByteArray} (h : checkL k s key v = 0) : 0 < key.size ∧ key.size ≤ 100 ∧ v.size ≤ 4000 ∧ (k = 1 ∨ k = 0 ∧ v.size = 0) ∧ 1 ≤ s ∧ s ≤ 1125899906842624 := by
  unfold checkL at h
  split at h
  · simp at h
  · split at h
    · simp at h
    · split at h
      · simp at h
      · omega
theorem nle {N : Nat} {w w1 : World} (h : w.heap.size = N) (hb : Below N w w1) : N ≤ w1.heap.size := by have := hb.size; omega
theorem below_low {N : Nat} {w1 w2 : World} (hs : N ≤ w1.heap.size) (h : Below w1.heap.size w1 w2) : Below N w1 w2 := ⟨h.os, h.tape, h.output, h.size, fun j hj => h.block j (by omega)⟩
set_option maxRecDepth 100000 in
theorem encode_bad (k s : Int) (key v : ByteArray) (h : checkL k s key v ≠ 0) (w : World) :
    Calls Try.prog 33 #[recV k s key v] w fun e w' => e = .returned (.tuple #[.slice none 0 0, .int .i64 (checkL k s key v)]) ∧ Below w.heap.size w w' := by
  have hb := (Below.refl w.heap.size w).alloc (Nat.le_refl _) (.cells #[.int .i64 k, .int .i64 s, .string key, .string v] 45 (0, 0))
  have HCK := Aside0.mk (check_calls k s key v (w.alloc (.cells #[.int .i64 k, .int .i64 s, .string key, .string v] 45 (0, 0))))
  have HB := Aside0.mk hb
  unfold recV at HCK ⊢
  generalize checkL k s key v = e0 at *
  have b0 : (e0 != 0) = true := bne_iff_ne.2 h
  clear hb h
  go_enter Try.func33, Try.ntmps33
  go_wp2_with fail
  refine HCK.out.mono ?_
  rintro e_ w1 ⟨rfl, hb⟩
  have HB1 := Aside0.mk (below_step HB.out hb)
  clear hb
  go_wp2
  go_ret2
  exact ⟨rfl, HB1.out⟩
set_option maxRecDepth 100000 in
theorem encode_ok (k s : Int) (key v : ByteArray) (h : checkL k s key v = 0) (w : World) :
    Calls Try.prog 33 #[recV k s key v] w fun e w' => ∃ x : Value, e = .returned (.tuple #[x, .int .i64 0]) ∧ Kd.R (Kd.int .u8) 5 w' w.heap.size (fun _ => True) x (sealL (recB k s key v)) ∧ Below w.heap.size w w' := by
  have hok := check_ok h
  obtain ⟨wA, hwA⟩ : ∃ x, w.alloc (.cells #[.int .i64 k, .int .i64 s, .string key, .string v] 45 (0, 0)) = x := ⟨_, rfl⟩
  have hb : Below w.heap.size w wA := by rw [← hwA]; exact (Below.refl w.heap.size w).alloc (Nat.le_refl _) _
  have hblk : wA.heap[w.heap.size]? = some (.cells #[.int .i64 k, .int .i64 s, .string key, .string v] 45 (0, 0)) := by rw [← hwA]; exact blk_new w _
  have HBK := Aside0.mk hblk
  have HCK := Aside0.mk (check_calls k s key v wA)
  rw [h] at HCK
  have HB := Aside0.mk hb
  have HOK := Aside0.mk hok
  have HX : Aside0 (∀ wx, Below wA.heap.size wA wx → wx.cell? ⟨w.heap.size, 0, none⟩ = some (.int .i64 k) ∧ wx.cell? ⟨w.heap.size, 1, none⟩ = some (.int .i64 s) ∧ wx.cell? ⟨w.heap.size, 2, none⟩ = some (.string key) ∧ wx.cell? ⟨w.heap.size, 3, none⟩ = some (.string v)) := ⟨fun wx hx => ⟨blk_cell (blk_below hblk hx) 0, blk_cell (blk_below hblk hx) 1, blk_cell (blk_below hblk hx) 2, blk_cell (blk_below hblk hx) 3⟩⟩
  obtain ⟨c0, c1, c2, c3⟩ := HX.out wA (Below.refl _ _)
  unfold recV at HCK ⊢
  clear hb hblk h
  go_enter Try.func33, Try.ntmps33
  go_wp2_with fail
  refine HCK.out.mono ?_
  rintro e_ w1 ⟨rfl, hb⟩
  have HA1 := Aside0.mk hb
  have HB1 := Aside0.mk (below_step HB.out hb)
  clear hb c0 c1 c2 c3
  obtain ⟨sn, hsn⟩ := Int.eq_ofNat_of_zero_le (show 0 ≤ s by omega)
  subst hsn
  have HP := Aside0.mk (fun w => put_calls sn (by have := HOK.out; omega) w)
  have ku : IntKind.u64.wrap (sn : Int) = (sn : Int) := u64_id (by omega) (by omega)
  have k8 : IntKind.u8.wrap k = k := by rw [IntKind.wrap_u8]; omega
  obtain ⟨N, hN⟩ : ∃ N, w1.heap.size = N := ⟨_, rfl⟩
  have HNE := Aside0.mk hN
  have hxx := HX.out
  have HXA := HX
  clear HX
  have HX : Aside0 (∀ wx, Below N w1 wx → wx.cell? ⟨w.heap.size, 0, none⟩ = some (.int .i64 k) ∧ wx.cell? ⟨w.heap.size, 1, none⟩ = some (.int .i64 (sn : Int)) ∧ wx.cell? ⟨w.heap.size, 2, none⟩ = some (.string key) ∧ wx.cell? ⟨w.heap.size, 3, none⟩ = some (.string v)) := ⟨fun wx hx => hxx wx (below_step HA1.out (by rw [hN]; exact hx))⟩
  have HLE : Aside0 ((enc sn).length ≤ 20) := ⟨by have := enc_len 9 sn (by have := HOK.out; omega); omega⟩
  clear hxx HXA hN
  go_wp2_with fail
  refine wp_region_tree (fun w_ w1_ => Below N w_ w1_) (.rd 0 (.rd 1 (.rd 2 (.rd 4 (.rd 5 (.rd 6 (.two 3 7 (.ef 7 (.ef 8 (.rd 9 .nil))) (.ef 3 (.ef 8 (.rd 9 .nil)))))))))) (by kernel_rfl) (by kernel_rfl) (fun _ => Below.refl _ _) (fun h h' => h.trans h') (fun wd hhp_ hbw_ => ?_)
  have HBd := Aside0.mk (below_step HB1.out hbw_)
  have HNd : Aside0 (Below N w1 wd) := ⟨by rw [← HNE.out]; exact hbw_⟩
  have hx0 : ∀ wx : World, Below N wd wx → wx.cell? ⟨w.heap.size, 0, none⟩ = some (.int .i64 k) := fun wx h => (HX.out wx (HNd.out.trans h)).1
  have hx1 : ∀ wx : World, Below N wd wx → wx.cell? ⟨w.heap.size, 1, none⟩ = some (.int .i64 (sn : Int)) := fun wx h => (HX.out wx (HNd.out.trans h)).2.1
  clear hhp_ hbw_
  (refine t_read (o := { dst := some 11, op := Op.fieldAddr 45 (Operand.tmp 1) 0, type := 0, pos := "record.go:30", after := #[], guard := none }) rfl (by first | rfl | (simp [Region.wanted, yielded]; done)) (by intro w_ hE_; (try dsimp only at hE_); first | (go_simp; done) | (go_simp; rfl)) ?_)
  (try simp only [Act.put, List.setIfInBounds_toArray, List.set_cons_zero, List.set_cons_succ])
  (refine t_read (o := { dst := some 12, op := Op.load 3 (Operand.tmp 11), type := 3, pos := "record.go:30", after := #[{ on := 0, ground := Ground.data }], guard := none }) rfl (by first | rfl | (simp [Region.wanted, yielded]; done)) (by intro w_ hE_; (try dsimp only at hE_); first | (go_simp; done) | (go_simp; rfl)) ?_)
  (try simp only [Act.put, List.setIfInBounds_toArray, List.set_cons_zero, List.set_cons_succ])
  (refine t_read (o := { dst := some 13, op := Op.convert 3 5 (Operand.tmp 12), type := 5, pos := "record.go:30", after := #[{ on := 1, ground := Ground.data }], guard := none }) rfl (by first | rfl | (simp [Region.wanted, yielded]; done)) (by intro w_ hE_; (try dsimp only at hE_); first | (go_simp; done) | (go_simp; rfl)) ?_)
  (try simp only [Act.put, List.setIfInBounds_toArray, List.set_cons_zero, List.set_cons_succ])
  (refine t_read (o := { dst := some 15, op := Op.fieldAddr 45 (Operand.tmp 1) 1, type := 0, pos := "record.go:30", after := #[], guard := none }) rfl (by first | rfl | (simp [Region.wanted, yielded]; done)) (by intro w_ hE_; (try dsimp only at hE_); first | (go_simp; done) | (go_simp; rfl)) ?_)
  (try simp only [Act.put, List.setIfInBounds_toArray, List.set_cons_zero, List.set_cons_succ])
  (refine t_read (o := { dst := some 16, op := Op.load 2 (Operand.tmp 15), type := 2, pos := "record.go:30", after := #[{ on := 4, ground := Ground.data }], guard := none }) rfl (by first | rfl | (simp [Region.wanted, yielded]; done)) (by intro w_ hE_; (try dsimp only at hE_); first | (go_simp; done) | (go_simp; rfl)) ?_)
  (try simp only [Act.put, List.setIfInBounds_toArray, List.set_cons_zero, List.set_cons_succ])
  (refine t_read (o := { dst := some 17, op := Op.convert 2 83 (Operand.tmp 16), type := 83, pos := "record.go:30", after := #[{ on := 5, ground := Ground.data }], guard := none }) rfl (by first | rfl | (simp [Region.wanted, yielded]; done)) (by intro w_ hE_; (try dsimp only at hE_); first | (go_simp; done) | (go_simp; rfl)) ?_)
  (try simp only [Act.put, List.setIfInBounds_toArray, List.set_cons_zero, List.set_cons_succ])
  refine t_two ?_ ?_
  · refine s_val (o := { dst := some 14, op := Op.buildSlice 22 1 #[(0, Operand.tmp 13)], type := 22, pos := "record.go:30", after := #[{ on := 2, ground := Ground.data }], guard := none }) (w1 := (wd.alloc (.cells #[.int .u8 k] 5 (0, 0)))) rfl (by first | rfl | (simp [Region.wanted, yielded]; done)) (by first | (go_simp; done) | (go_simp; rfl)) (below_low (nle HNE.out HNd.out) ((Below.refl wd.heap.size wd).alloc (Nat.le_refl _) (.cells #[.int .u8 k] 5 (0, 0)))) ?_
    (try simp only [Act.put, List.setIfInBounds_toArray, List.set_cons_zero, List.set_cons_succ])
    have HL3 : Aside0 (Kd.R (Kd.int .u8) 5 (wd.alloc (.cells #[.int .u8 k] 5 (0, 0))) w.heap.size (fun _ => True) (.slice (some ⟨wd.heap.size, 0, none⟩) 1 1) [k]) := ⟨Kd.R_of_own (own_lit wd w.heap.size 5 .u8 [k] HBd.out.size (by simp)) (fun _ _ => trivial)⟩
    have HB3 := Aside0.mk (below_step HBd.out ((Below.refl wd.heap.size wd).alloc (Nat.le_refl _) (.cells #[.int .u8 k] 5 (0, 0))))
    have HN3 := Aside0.mk (HNd.out.trans (below_low (nle HNE.out HNd.out) ((Below.refl wd.heap.size wd).alloc (Nat.le_refl _) (.cells #[.int .u8 k] 5 (0, 0)))))
    have HR3 : Aside0 (N ≤ wd.heap.size) := ⟨nle HNE.out HNd.out⟩
    generalize wd.alloc (.cells #[.int .u8 k] 5 (0, 0)) = w3 at *
    generalize wd.heap.size = b3 at *
    refine t_ef ?_
    refine s_call (o := { dst := some 18, op := Op.call { callee := Callee.value (Operand.func 54), args := #[Operand.tmp 17], argTypes := #[83] }, type := 22, pos := "record.go:30", after := #[{ on := 6, ground := Ground.data }], guard := none }) rfl (by first | rfl | (simp [Region.wanted, yielded]; done)) (by first | (go_simp; done) | (go_simp; exact ⟨rfl, rfl⟩) | (go_simp; rfl)) ?_
    refine (HP.out _).mono ?_
    rintro e_ x1 ⟨v1, rfl, ho, hb⟩
    obtain ⟨A1, c1, rfl⟩ := Kd.R_slice ho
    have HV7 := Aside0.mk (Kd.R_reads' ho).2.2
    have HB7 := Aside0.mk (below_step HB3.out hb)
    have HN7 := Aside0.mk (HN3.out.trans (below_low (nle HNE.out HN3.out) hb))
    have HL7 := Aside0.mk (Kd.R_below HL3.out hb)
    refine ⟨_, rfl, below_low (nle HNE.out HN3.out) hb, ?_⟩
    clear ho hb
    (try simp only [Act.put, List.setIfInBounds_toArray, List.set_cons_zero, List.set_cons_succ])
    refine t_ef ?_
    refine s_list (o := { dst := some 19, op := Op.call { callee := Callee.builtin Builtin.append, args := #[Operand.tmp 14, Operand.tmp 18], argTypes := #[22, 22] }, type := 22, pos := "record.go:30", after := #[{ on := 3, ground := Ground.data }, { on := 7, ground := Ground.data }, { on := 7, ground := Ground.chain }], guard := none }) rfl (by first | rfl | (simp [Region.wanted, yielded]; done)) ?_
    refine Kd.R_append_row (Value.int .u8) (0) (h1 := fun _ => rfl) (w0 := w) (w.heap.size) rfl (.tmp 14) (.tmp 18) 22 5 (.int .u8 0) 1 rfl Try.underlying22 info5 rfl (by decide) (.slice (some ⟨b3, 0, none⟩) 1 1) [k] (enc sn) A1 (enc sn).length c1 (fun _ => True) rfl rfl (fun _ _ => trivial) HL7.out HV7.out HB7.out HB7.out.size ?aL_ ?_
    case aL_ => have := HLE.out; simp only [List.length_singleton]; omega
    intro v5 w5 ho hb hg hat
    refine ⟨pw_below_grown (Below.refl N x1) (some b3) (nle HNE.out HN7.out) hg (fun q hq => by injection hq with hq; have := HR3.out; omega), ?_⟩
    have HO5 := Aside0.mk ho
    have HB5 := Aside0.mk hb
    have HN5 := Aside0.mk (HN7.out.trans (pw_below_grown (Below.refl N x1) (some b3) (nle HNE.out HN7.out) hg (fun q hq => by injection hq with hq; have := HR3.out; omega)))
    clear ho hb hg hat
    (try simp only [Act.put, List.setIfInBounds_toArray, List.set_cons_zero, List.set_cons_succ])
    (refine t_read (o := { dst := some 5, op := Op.assign (Operand.tmp 19), type := 22, pos := "record.go:30", after := #[{ on := 8, ground := Ground.data }, { on := 8, ground := Ground.chain }, { on := 0, ground := Ground.phase }, { on := 1, ground := Ground.phase }, { on := 2, ground := Ground.phase }, { on := 3, ground := Ground.phase }, { on := 4, ground := Ground.phase }, { on := 5, ground := Ground.phase }, { on := 6, ground := Ground.phase }, { on := 7, ground := Ground.phase }, { on := 8, ground := Ground.phase }], guard := none }) rfl (by first | rfl | (simp [Region.wanted, yielded]; done)) (by intro w_ hE_; (try dsimp only at hE_); first | (go_simp; done) | (go_simp; rfl)) ?_)
    (try simp only [Act.put, List.setIfInBounds_toArray, List.set_cons_zero, List.set_cons_succ])
    refine t_nil ?_
    have hbk5 := (HN5.out.block w.heap.size (by have := blk_lt HBK.out; have := HA1.out.size; have := HNE.out; omega)).trans (blk_below HBK.out HA1.out)
    have HTK := Aside0.mk (fun w => text_calls key (by have := HOK.out; omega) w)
    have HTV := Aside0.mk (fun w => text_calls v (by have := HOK.out; omega) w)
    have hl1 : ([k] ++ enc sn).length ≤ 21 := by have := HLE.out; simp; omega
    have hbs1 : Bys ([k] ++ enc sn) := bys_append (fun z hz => by have := HOK.out; rw [List.mem_singleton.1 hz]; omega) (bys_enc (n := sn) (by have := HOK.out; omega))
    have hlk : (enc key.size ++ bytesOf key).length ≤ 120 := by have := enc_len 9 key.size (by have := HOK.out; omega); have := HOK.out; rw [List.length_append, bytesOf_length]; omega
    have hlv : (enc v.size ++ bytesOf v).length ≤ 4020 := by have := enc_len 9 v.size (by have := HOK.out; omega); have := HOK.out; rw [List.length_append, bytesOf_length]; omega
    have hbk : Bys (enc key.size ++ bytesOf key) := bys_append (bys_enc (by have := HOK.out; omega)) (bys_bytesOf key)
    have hbv : Bys (enc v.size ++ bytesOf v) := bys_append (bys_enc (by have := HOK.out; omega)) (bys_bytesOf v)
    have hrec : recB k (sn : Int) key v = if k = 1 then (([k] ++ enc sn) ++ (enc key.size ++ bytesOf key)) ++ (enc v.size ++ bytesOf v) else ([k] ++ enc sn) ++ (enc key.size ++ bytesOf key) := by unfold recB; rw [Int.toNat_natCast]
    have HRC := Aside0.mk hrec
    have HBS := Aside0.mk (And.intro hbs1 (And.intro hbk hbv))
    have HLN : Aside0 (([k] ++ enc sn).length ≤ 21 ∧ (enc key.size ++ bytesOf key).length ≤ 120 ∧ (enc v.size ++ bytesOf v).length ≤ 4020) := ⟨hl1, hlk, hlv⟩
    have c2 : w5.cell? ⟨w.heap.size, 2, none⟩ = some (.string key) := blk_cell hbk5 2
    have HK5 := Aside0.mk hbk5
    clear hbk5 hl1 hbs1 hlk hlv hbk hbv hrec
    obtain ⟨b1, hb1⟩ : ∃ b, [k] ++ enc sn = b := ⟨_, rfl⟩
    obtain ⟨tk, htk⟩ : ∃ b, enc key.size ++ bytesOf key = b := ⟨_, rfl⟩
    obtain ⟨tv, htv⟩ : ∃ b, enc v.size ++ bytesOf v = b := ⟨_, rfl⟩
    rw [hb1] at HO5 HRC HBS HLN
    rw [htk] at HTK HRC HBS HLN
    rw [htv] at HTV HRC HBS HLN
    clear hb1 htk htv
    go_wp2_with fail
    refine (HTK.out w5).mono ?_
    rintro e_ w6 ⟨v6, rfl, ho, hb⟩
    obtain ⟨A6, c6, rfl⟩ := Kd.R_slice ho
    have HV6 := Aside0.mk (Kd.R_reads' ho).2.2
    have HO6 := Aside0.mk (Kd.R_below HO5.out hb)
    have HB6 := Aside0.mk (below_step HB5.out hb)
    have HK6 := Aside0.mk (blk_below HK5.out hb)
    clear ho hb HO5 HB5 HK5 c2
    rcases HOK.out.2.2.2.1 with rfl | ⟨rfl, _⟩
    · have HRE := Aside0.mk (HRC.out.trans (if_pos rfl))
      go_wp2_with ((with_reducible refine gate_builtin (b := .append) (xs := #[.tmp 20, .tmp 23]) rfl ?_); at_builtin; go_must (refine Kd.R_append_row (Value.int .u8) (0) (h1 := fun _ => rfl) (w0 := w) (w.heap.size) rfl (.tmp 20) (.tmp 23) 22 5 (.int .u8 0) 1 rfl Try.underlying22 info5 rfl (by decide) v5 b1 tk A6 (tk.length) c6 (fun _ => True) rfl rfl (fun _ _ => trivial) (HO6.out) (HV6.out) (HB6.out) (Below.size (HB6.out)) ?aL_ ?_; (case aL_ => have := HLN.out; omega); intro v7 w7 ho hb hg hat; have HO7 := Aside0.mk ho; have HB7 := Aside0.mk hb; have hk7 := blk_grown HK6.out hg (own_ne (Kd.own_of_R HO6.out) HK6.out (by decide)); have d0 : w7.cell? ⟨w.heap.size, 0, none⟩ = some (.int .i64 1) := blk_cell hk7 0; have d3 : w7.cell? ⟨w.heap.size, 3, none⟩ = some (.string v) := blk_cell hk7 3; clear ho hb hg hat))
      refine (HTV.out w7).mono ?_
      rintro e_ w8 ⟨v8, rfl, ho, hb⟩
      obtain ⟨A8, c8, rfl⟩ := Kd.R_slice ho
      have HV8 := Aside0.mk (Kd.R_reads' ho).2.2
      have HO8 := Aside0.mk (Kd.R_below HO7.out hb)
      have HB8 := Aside0.mk (below_step HB7.out hb)
      have HL8 : Aside0 ((b1 ++ tk).length ≤ 141) := ⟨by rw [List.length_append]; have := HLN.out; omega⟩
      have HBY1 : Aside0 (Bys ((b1 ++ tk) ++ tv)) := ⟨bys_append (bys_append HBS.out.1 HBS.out.2.1) HBS.out.2.2⟩
      have HLL : Aside0 (((b1 ++ tk) ++ tv).length ≤ 4161) := ⟨by rw [List.length_append, List.length_append]; have := HLN.out; omega⟩
      clear ho hb HO7 HB7 d0 d3 hk7
      obtain ⟨bt, hbt⟩ : ∃ b, b1 ++ tk = b := ⟨_, rfl⟩
      rw [hbt] at HO8 HL8 HBY1 HLL HRE
      clear hbt
      obtain ⟨LL, hLL⟩ : ∃ b, bt ++ tv = b := ⟨_, rfl⟩
      have HLLE := Aside0.mk hLL
      rw [hLL] at HBY1 HLL HRE
      clear hLL
      go_wp2_with ((with_reducible refine gate_builtin (b := .append) (xs := #[.tmp 28, .tmp 31]) rfl ?_); at_builtin; go_must (refine Kd.R_append_row (Value.int .u8) (0) (h1 := fun _ => rfl) (w0 := w) (w.heap.size) rfl (.tmp 28) (.tmp 31) 22 5 (.int .u8 0) 1 rfl Try.underlying22 info5 rfl (by decide) v7 bt tv A8 (tv.length) c8 (fun _ => True) rfl rfl (fun _ _ => trivial) (HO8.out) (HV8.out) (HB8.out) (Below.size (HB8.out)) ?aL_ ?_; (case aL_ => have := HLN.out; have := HL8.out; omega); intro v9 w9 ho hb hg hat; have HO9 := Aside0.mk ho; have HB9 := Aside0.mk hb; rw [HLLE.out] at ho; obtain ⟨A9, c9, e9⟩ := Kd.R_slice ho; subst e9; have HV9 := Aside0.mk (Kd.R_reads' ho).2.2; clear ho hb hg hat))
      have HBY := HBY1
      have HLN9 := HLL
      have hs := seal_calls A9 c9 LL HBY.out w9 HV9.out (by have := HLN9.out; omega)
      refine hs.mono ?_
      rintro e_ wz ⟨vz, rfl, ho, hb⟩
      have HOz := Aside0.mk (Kd.R_lower ho HB9.out.size)
      have HBz := Aside0.mk (below_step HB9.out hb)
      clear ho hb hs
      go_wp2
      go_ret2
      exact ⟨_, rfl, by rw [HRE.out]; exact HOz.out, HBz.out⟩
    · have HRE := Aside0.mk (HRC.out.trans (if_neg (by decide)))
      have HBY1 : Aside0 (Bys (b1 ++ tk)) := ⟨bys_append HBS.out.1 HBS.out.2.1⟩
      have HLL : Aside0 ((b1 ++ tk).length ≤ 4161) := ⟨by rw [List.length_append]; have := HLN.out; omega⟩
      obtain ⟨LL, hLL⟩ : ∃ b, b1 ++ tk = b := ⟨_, rfl⟩
      have HLLE := Aside0.mk hLL
      rw [hLL] at HBY1 HLL HRE
      clear hLL
      go_wp2_with ((with_reducible refine gate_builtin (b := .append) (xs := #[.tmp 20, .tmp 23]) rfl ?_); at_builtin; go_must (refine Kd.R_append_row (Value.int .u8) (0) (h1 := fun _ => rfl) (w0 := w) (w.heap.size) rfl (.tmp 20) (.tmp 23) 22 5 (.int .u8 0) 1 rfl Try.underlying22 info5 rfl (by decide) v5 b1 tk A6 (tk.length) c6 (fun _ => True) rfl rfl (fun _ _ => trivial) (HO6.out) (HV6.out) (HB6.out) (Below.size (HB6.out)) ?aL_ ?_; (case aL_ => have := HLN.out; omega); intro v7 w9 ho hb hg hat; have HO7 := Aside0.mk ho; have HB9 := Aside0.mk hb; have hk7 := blk_grown HK6.out hg (own_ne (Kd.own_of_R HO6.out) HK6.out (by decide)); have d0 : w9.cell? ⟨w.heap.size, 0, none⟩ = some (.int .i64 0) := blk_cell hk7 0; rw [HLLE.out] at ho; obtain ⟨A9, c9, e9⟩ := Kd.R_slice ho; subst e9; have HV9 := Aside0.mk (Kd.R_reads' ho).2.2; clear ho hb hg hat))
      clear hk7 d0
      have HBY := HBY1
      have HLN9 := HLL
      have hs := seal_calls A9 c9 LL HBY.out w9 HV9.out (by have := HLN9.out; omega)
      refine hs.mono ?_
      rintro e_ wz ⟨vz, rfl, ho, hb⟩
      have HOz := Aside0.mk (Kd.R_lower ho HB9.out.size)
      have HBz := Aside0.mk (below_step HB9.out hb)
      clear ho hb hs
      go_wp2
      go_ret2
      exact ⟨_, rfl, by rw [HRE.out]; exact HOz.out, HBz.out⟩
  · refine s_call (o := { dst := some 18, op := Op.call { callee := Callee.value (Operand.func 54), args := #[Operand.tmp 17], argTypes := #[83] }, type := 22, pos := "record.go:30", after := #[{ on := 6, ground := Ground.data }], guard := none }) rfl (by first | rfl | (simp [Region.wanted, yielded]; done)) (by first | (go_simp; done) | (go_simp; exact ⟨rfl, rfl⟩) | (go_simp; rfl)) ?_
    refine (HP.out _).mono ?_
    rintro e_ x1 ⟨v1, rfl, ho, hb⟩
    obtain ⟨A1, c1, rfl⟩ := Kd.R_slice ho
    have HV7 := Aside0.mk (Kd.R_reads' ho).2.2
    have HB7 := Aside0.mk (below_step HBd.out hb)
    have HN7 := Aside0.mk (HNd.out.trans (below_low (nle HNE.out HNd.out) hb))
    refine ⟨_, rfl, below_low (nle HNE.out HNd.out) hb, ?_⟩
    clear ho hb
    (try simp only [Act.put, List.setIfInBounds_toArray, List.set_cons_zero, List.set_cons_succ])
    refine t_ef ?_
    refine s_val (o := { dst := some 14, op := Op.buildSlice 22 1 #[(0, Operand.tmp 13)], type := 22, pos := "record.go:30", after := #[{ on := 2, ground := Ground.data }], guard := none }) (w1 := (x1.alloc (.cells #[.int .u8 k] 5 (0, 0)))) rfl (by first | rfl | (simp [Region.wanted, yielded]; done)) (by first | (go_simp; done) | (go_simp; rfl)) (below_low (nle HNE.out HN7.out) ((Below.refl x1.heap.size x1).alloc (Nat.le_refl _) (.cells #[.int .u8 k] 5 (0, 0)))) ?_
    (try simp only [Act.put, List.setIfInBounds_toArray, List.set_cons_zero, List.set_cons_succ])
    have HL3 : Aside0 (Kd.R (Kd.int .u8) 5 (x1.alloc (.cells #[.int .u8 k] 5 (0, 0))) w.heap.size (fun _ => True) (.slice (some ⟨x1.heap.size, 0, none⟩) 1 1) [k]) := ⟨Kd.R_of_own (own_lit x1 w.heap.size 5 .u8 [k] HB7.out.size (by simp)) (fun _ _ => trivial)⟩
    have HB3 := Aside0.mk (below_step HB7.out ((Below.refl x1.heap.size x1).alloc (Nat.le_refl _) (.cells #[.int .u8 k] 5 (0, 0))))
    have HN3 := Aside0.mk (HN7.out.trans (below_low (nle HNE.out HN7.out) ((Below.refl x1.heap.size x1).alloc (Nat.le_refl _) (.cells #[.int .u8 k] 5 (0, 0)))))
    have HR3 : Aside0 (N ≤ x1.heap.size) := ⟨nle HNE.out HN7.out⟩
    have HV3 := Aside0.mk (Kd.C_below HV7.out ((Below.refl x1.heap.size x1).alloc (Nat.le_refl _) (.cells #[.int .u8 k] 5 (0, 0))))
    generalize x1.alloc (.cells #[.int .u8 k] 5 (0, 0)) = w3 at *
    generalize x1.heap.size = b3 at *
    refine t_ef ?_
    refine s_list (o := { dst := some 19, op := Op.call { callee := Callee.builtin Builtin.append, args := #[Operand.tmp 14, Operand.tmp 18], argTypes := #[22, 22] }, type := 22, pos := "record.go:30", after := #[{ on := 3, ground := Ground.data }, { on := 7, ground := Ground.data }, { on := 7, ground := Ground.chain }], guard := none }) rfl (by first | rfl | (simp [Region.wanted, yielded]; done)) ?_
    refine Kd.R_append_row (Value.int .u8) (0) (h1 := fun _ => rfl) (w0 := w) (w.heap.size) rfl (.tmp 14) (.tmp 18) 22 5 (.int .u8 0) 1 rfl Try.underlying22 info5 rfl (by decide) (.slice (some ⟨b3, 0, none⟩) 1 1) [k] (enc sn) A1 (enc sn).length c1 (fun _ => True) rfl rfl (fun _ _ => trivial) HL3.out HV3.out HB3.out HB3.out.size ?aL_ ?_
    case aL_ => have := HLE.out; simp only [List.length_singleton]; omega
    intro v5 w5 ho hb hg hat
    refine ⟨pw_below_grown (Below.refl N w3) (some b3) (nle HNE.out HN3.out) hg (fun q hq => by injection hq with hq; have := HR3.out; omega), ?_⟩
    have HO5 := Aside0.mk ho
    have HB5 := Aside0.mk hb
    have HN5 := Aside0.mk (HN3.out.trans (pw_below_grown (Below.refl N w3) (some b3) (nle HNE.out HN3.out) hg (fun q hq => by injection hq with hq; have := HR3.out; omega)))
    clear ho hb hg hat
    (try simp only [Act.put, List.setIfInBounds_toArray, List.set_cons_zero, List.set_cons_succ])
    (refine t_read (o := { dst := some 5, op := Op.assign (Operand.tmp 19), type := 22, pos := "record.go:30", after := #[{ on := 8, ground := Ground.data }, { on := 8, ground := Ground.chain }, { on := 0, ground := Ground.phase }, { on := 1, ground := Ground.phase }, { on := 2, ground := Ground.phase }, { on := 3, ground := Ground.phase }, { on := 4, ground := Ground.phase }, { on := 5, ground := Ground.phase }, { on := 6, ground := Ground.phase }, { on := 7, ground := Ground.phase }, { on := 8, ground := Ground.phase }], guard := none }) rfl (by first | rfl | (simp [Region.wanted, yielded]; done)) (by intro w_ hE_; (try dsimp only at hE_); first | (go_simp; done) | (go_simp; rfl)) ?_)
    (try simp only [Act.put, List.setIfInBounds_toArray, List.set_cons_zero, List.set_cons_succ])
    refine t_nil ?_
    have hbk5 := (HN5.out.block w.heap.size (by have := blk_lt HBK.out; have := HA1.out.size; have := HNE.out; omega)).trans (blk_below HBK.out HA1.out)
    have HTK := Aside0.mk (fun w => text_calls key (by have := HOK.out; omega) w)
    have HTV := Aside0.mk (fun w => text_calls v (by have := HOK.out; omega) w)
    have hl1 : ([k] ++ enc sn).length ≤ 21 := by have := HLE.out; simp; omega
    have hbs1 : Bys ([k] ++ enc sn) := bys_append (fun z hz => by have := HOK.out; rw [List.mem_singleton.1 hz]; omega) (bys_enc (n := sn) (by have := HOK.out; omega))
    have hlk : (enc key.size ++ bytesOf key).length ≤ 120 := by have := enc_len 9 key.size (by have := HOK.out; omega); have := HOK.out; rw [List.length_append, bytesOf_length]; omega
    have hlv : (enc v.size ++ bytesOf v).length ≤ 4020 := by have := enc_len 9 v.size (by have := HOK.out; omega); have := HOK.out; rw [List.length_append, bytesOf_length]; omega
    have hbk : Bys (enc key.size ++ bytesOf key) := bys_append (bys_enc (by have := HOK.out; omega)) (bys_bytesOf key)
    have hbv : Bys (enc v.size ++ bytesOf v) := bys_append (bys_enc (by have := HOK.out; omega)) (bys_bytesOf v)
    have hrec : recB k (sn : Int) key v = if k = 1 then (([k] ++ enc sn) ++ (enc key.size ++ bytesOf key)) ++ (enc v.size ++ bytesOf v) else ([k] ++ enc sn) ++ (enc key.size ++ bytesOf key) := by unfold recB; rw [Int.toNat_natCast]
    have HRC := Aside0.mk hrec
    have HBS := Aside0.mk (And.intro hbs1 (And.intro hbk hbv))
    have HLN : Aside0 (([k] ++ enc sn).length ≤ 21 ∧ (enc key.size ++ bytesOf key).length ≤ 120 ∧ (enc v.size ++ bytesOf v).length ≤ 4020) := ⟨hl1, hlk, hlv⟩
    have c2 : w5.cell? ⟨w.heap.size, 2, none⟩ = some (.string key) := blk_cell hbk5 2
    have HK5 := Aside0.mk hbk5
    clear hbk5 hl1 hbs1 hlk hlv hbk hbv hrec
    obtain ⟨b1, hb1⟩ : ∃ b, [k] ++ enc sn = b := ⟨_, rfl⟩
    obtain ⟨tk, htk⟩ : ∃ b, enc key.size ++ bytesOf key = b := ⟨_, rfl⟩
    obtain ⟨tv, htv⟩ : ∃ b, enc v.size ++ bytesOf v = b := ⟨_, rfl⟩
    rw [hb1] at HO5 HRC HBS HLN
    rw [htk] at HTK HRC HBS HLN
    rw [htv] at HTV HRC HBS HLN
    clear hb1 htk htv
    go_wp2_with fail
    refine (HTK.out w5).mono ?_
    rintro e_ w6 ⟨v6, rfl, ho, hb⟩
    obtain ⟨A6, c6, rfl⟩ := Kd.R_slice ho
    have HV6 := Aside0.mk (Kd.R_reads' ho).2.2
    have HO6 := Aside0.mk (Kd.R_below HO5.out hb)
    have HB6 := Aside0.mk (below_step HB5.out hb)
    have HK6 := Aside0.mk (blk_below HK5.out hb)
    clear ho hb HO5 HB5 HK5 c2
    rcases HOK.out.2.2.2.1 with rfl | ⟨rfl, _⟩
    · have HRE := Aside0.mk (HRC.out.trans (if_pos rfl))
      go_wp2_with ((with_reducible refine gate_builtin (b := .append) (xs := #[.tmp 20, .tmp 23]) rfl ?_); at_builtin; go_must (refine Kd.R_append_row (Value.int .u8) (0) (h1 := fun _ => rfl) (w0 := w) (w.heap.size) rfl (.tmp 20) (.tmp 23) 22 5 (.int .u8 0) 1 rfl Try.underlying22 info5 rfl (by decide) v5 b1 tk A6 (tk.length) c6 (fun _ => True) rfl rfl (fun _ _ => trivial) (HO6.out) (HV6.out) (HB6.out) (Below.size (HB6.out)) ?aL_ ?_; (case aL_ => have := HLN.out; omega); intro v7 w7 ho hb hg hat; have HO7 := Aside0.mk ho; have HB7 := Aside0.mk hb; have hk7 := blk_grown HK6.out hg (own_ne (Kd.own_of_R HO6.out) HK6.out (by decide)); have d0 : w7.cell? ⟨w.heap.size, 0, none⟩ = some (.int .i64 1) := blk_cell hk7 0; have d3 : w7.cell? ⟨w.heap.size, 3, none⟩ = some (.string v) := blk_cell hk7 3; clear ho hb hg hat))
      refine (HTV.out w7).mono ?_
      rintro e_ w8 ⟨v8, rfl, ho, hb⟩
      obtain ⟨A8, c8, rfl⟩ := Kd.R_slice ho
      have HV8 := Aside0.mk (Kd.R_reads' ho).2.2
      have HO8 := Aside0.mk (Kd.R_below HO7.out hb)
      have HB8 := Aside0.mk (below_step HB7.out hb)
      have HL8 : Aside0 ((b1 ++ tk).length ≤ 141) := ⟨by rw [List.length_append]; have := HLN.out; omega⟩
      have HBY1 : Aside0 (Bys ((b1 ++ tk) ++ tv)) := ⟨bys_append (bys_append HBS.out.1 HBS.out.2.1) HBS.out.2.2⟩
      have HLL : Aside0 (((b1 ++ tk) ++ tv).length ≤ 4161) := ⟨by rw [List.length_append, List.length_append]; have := HLN.out; omega⟩
      clear ho hb HO7 HB7 d0 d3 hk7
      obtain ⟨bt, hbt⟩ : ∃ b, b1 ++ tk = b := ⟨_, rfl⟩
      rw [hbt] at HO8 HL8 HBY1 HLL HRE
      clear hbt
      obtain ⟨LL, hLL⟩ : ∃ b, bt ++ tv = b := ⟨_, rfl⟩
      have HLLE := Aside0.mk hLL
      rw [hLL] at HBY1 HLL HRE
      clear hLL
      go_wp2_with ((with_reducible refine gate_builtin (b := .append) (xs := #[.tmp 28, .tmp 31]) rfl ?_); at_builtin; go_must (refine Kd.R_append_row (Value.int .u8) (0) (h1 := fun _ => rfl) (w0 := w) (w.heap.size) rfl (.tmp 28) (.tmp 31) 22 5 (.int .u8 0) 1 rfl Try.underlying22 info5 rfl (by decide) v7 bt tv A8 (tv.length) c8 (fun _ => True) rfl rfl (fun _ _ => trivial) (HO8.out) (HV8.out) (HB8.out) (Below.size (HB8.out)) ?aL_ ?_; (case aL_ => have := HLN.out; have := HL8.out; omega); intro v9 w9 ho hb hg hat; have HO9 := Aside0.mk ho; have HB9 := Aside0.mk hb; rw [HLLE.out] at ho; obtain ⟨A9, c9, e9⟩ := Kd.R_slice ho; subst e9; have HV9 := Aside0.mk (Kd.R_reads' ho).2.2; clear ho hb hg hat))
      have HBY := HBY1
      have HLN9 := HLL
      have hs := seal_calls A9 c9 LL HBY.out w9 HV9.out (by have := HLN9.out; omega)
      refine hs.mono ?_
      rintro e_ wz ⟨vz, rfl, ho, hb⟩
      have HOz := Aside0.mk (Kd.R_lower ho HB9.out.size)
      have HBz := Aside0.mk (below_step HB9.out hb)
      clear ho hb hs
      go_wp2
      go_ret2
      exact ⟨_, rfl, by rw [HRE.out]; exact HOz.out, HBz.out⟩
    · have HRE := Aside0.mk (HRC.out.trans (if_neg (by decide)))
      have HBY1 : Aside0 (Bys (b1 ++ tk)) := ⟨bys_append HBS.out.1 HBS.out.2.1⟩
      have HLL : Aside0 ((b1 ++ tk).length ≤ 4161) := ⟨by rw [List.length_append]; have := HLN.out; omega⟩
      obtain ⟨LL, hLL⟩ : ∃ b, b1 ++ tk = b := ⟨_, rfl⟩
      have HLLE := Aside0.mk hLL
      rw [hLL] at HBY1 HLL HRE
      clear hLL
      go_wp2_with ((with_reducible refine gate_builtin (b := .append) (xs := #[.tmp 20, .tmp 23]) rfl ?_); at_builtin; go_must (refine Kd.R_append_row (Value.int .u8) (0) (h1 := fun _ => rfl) (w0 := w) (w.heap.size) rfl (.tmp 20) (.tmp 23) 22 5 (.int .u8 0) 1 rfl Try.underlying22 info5 rfl (by decide) v5 b1 tk A6 (tk.length) c6 (fun _ => True) rfl rfl (fun _ _ => trivial) (HO6.out) (HV6.out) (HB6.out) (Below.size (HB6.out)) ?aL_ ?_; (case aL_ => have := HLN.out; omega); intro v7 w9 ho hb hg hat; have HO7 := Aside0.mk ho; have HB9 := Aside0.mk hb; have hk7 := blk_grown HK6.out hg (own_ne (Kd.own_of_R HO6.out) HK6.out (by decide)); have d0 : w9.cell? ⟨w.heap.size, 0, none⟩ = some (.int .i64 0) := blk_cell hk7 0; rw [HLLE.out] at ho; obtain ⟨A9, c9, e9⟩ := Kd.R_slice ho; subst e9; have HV9 := Aside0.mk (Kd.R_reads' ho).2.2; clear ho hb hg hat))
      clear hk7 d0
      have HBY := HBY1
      have HLN9 := HLL
      have hs := seal_calls A9 c9 LL HBY.out w9 HV9.out (by have := HLN9.out; omega)
      refine hs.mono ?_
      rintro e_ wz ⟨vz, rfl, ho, hb⟩
      have HOz := Aside0.mk (Kd.R_lower ho HB9.out.size)
      have HBz := Aside0.mk (below_step HB9.out hb)
      clear ho hb hs
      go_wp2
      go_ret2
      exact ⟨_, rfl, by rw [HRE.out]; exact HOz.out, HBz.out⟩
set_option maxRecDepth 100000 in
theorem rencode_bad (k s : Int) (key v : ByteArray) (h : checkL k s key v ≠ 0) (w : World) :
    Calls Try.prog 36 #[recV k s key v] w fun e w' => e = .returned (.slice none 0 0) ∧ Below w.heap.size w w' := by
  have hb := (Below.refl w.heap.size w).alloc (Nat.le_refl _) (.cells #[.int .i64 k, .int .i64 s, .string key, .string v] 45 (0, 0))
  have HCK := Aside0.mk (rcheck_calls k s key v (w.alloc (.cells #[.int .i64 k, .int .i64 s, .string key, .string v] 45 (0, 0))))
  have HB := Aside0.mk hb
  unfold recV at HCK ⊢
  generalize checkL k s key v = e0 at *
  have b0 : (e0 != 0) = true := bne_iff_ne.2 h
  clear hb h
  go_enter Try.func36, Try.ntmps36
  go_wp2_with fail
  refine HCK.out.mono ?_
  rintro e_ w1 ⟨rfl, hb⟩
  have HB1 := Aside0.mk (below_step HB.out hb)
  clear hb
  go_wp2
  go_ret
  exact ⟨rfl, HB1.out⟩
set_option maxRecDepth 100000 in
theorem rencode_ok (k s : Int) (key v : ByteArray) (h : checkL k s key v = 0) (w : World) :
    Calls Try.prog 36 #[recV k s key v] w fun e w' => ∃ x : Value, e = .returned x ∧ Kd.R (Kd.int .u8) 5 w' w.heap.size (fun _ => True) x (sealL (recB k s key v)) ∧ Below w.heap.size w w' := by
  have hok := check_ok h
  obtain ⟨wA, hwA⟩ : ∃ x, w.alloc (.cells #[.int .i64 k, .int .i64 s, .string key, .string v] 45 (0, 0)) = x := ⟨_, rfl⟩
  have hb : Below w.heap.size w wA := by rw [← hwA]; exact (Below.refl w.heap.size w).alloc (Nat.le_refl _) _
  have hblk : wA.heap[w.heap.size]? = some (.cells #[.int .i64 k, .int .i64 s, .string key, .string v] 45 (0, 0)) := by rw [← hwA]; exact blk_new w _
  have HBK := Aside0.mk hblk
  have HCK := Aside0.mk (rcheck_calls k s key v wA)
  rw [h] at HCK
  have HB := Aside0.mk hb
  have HOK := Aside0.mk hok
  have HX : Aside0 (∀ wx, Below wA.heap.size wA wx → wx.cell? ⟨w.heap.size, 0, none⟩ = some (.int .i64 k) ∧ wx.cell? ⟨w.heap.size, 1, none⟩ = some (.int .i64 s) ∧ wx.cell? ⟨w.heap.size, 2, none⟩ = some (.string key) ∧ wx.cell? ⟨w.heap.size, 3, none⟩ = some (.string v)) := ⟨fun wx hx => ⟨blk_cell (blk_below hblk hx) 0, blk_cell (blk_below hblk hx) 1, blk_cell (blk_below hblk hx) 2, blk_cell (blk_below hblk hx) 3⟩⟩
  obtain ⟨c0, c1, c2, c3⟩ := HX.out wA (Below.refl _ _)
  unfold recV at HCK ⊢
  clear hb hblk h
  go_enter Try.func36, Try.ntmps36
  go_wp2_with fail
  refine HCK.out.mono ?_
  rintro e_ w1 ⟨rfl, hb⟩
  have HA1 := Aside0.mk hb
  have HB1 := Aside0.mk (below_step HB.out hb)
  clear hb c0 c1 c2 c3
  obtain ⟨sn, hsn⟩ := Int.eq_ofNat_of_zero_le (show 0 ≤ s by omega)
  subst hsn
  have HP := Aside0.mk (fun w => rput_calls sn (by have := HOK.out; omega) w)
  have ku : IntKind.u64.wrap (sn : Int) = (sn : Int) := u64_id (by omega) (by omega)
  have k8 : IntKind.u8.wrap k = k := by rw [IntKind.wrap_u8]; omega
  obtain ⟨N, hN⟩ : ∃ N, w1.heap.size = N := ⟨_, rfl⟩
  have HNE := Aside0.mk hN
  have hxx := HX.out
  have HXA := HX
  clear HX
  have HX : Aside0 (∀ wx, Below N w1 wx → wx.cell? ⟨w.heap.size, 0, none⟩ = some (.int .i64 k) ∧ wx.cell? ⟨w.heap.size, 1, none⟩ = some (.int .i64 (sn : Int)) ∧ wx.cell? ⟨w.heap.size, 2, none⟩ = some (.string key) ∧ wx.cell? ⟨w.heap.size, 3, none⟩ = some (.string v)) := ⟨fun wx hx => hxx wx (below_step HA1.out (by rw [hN]; exact hx))⟩
  have HLE : Aside0 ((enc sn).length ≤ 20) := ⟨by have := enc_len 9 sn (by have := HOK.out; omega); omega⟩
  clear hxx HXA hN
  go_wp2_with fail
  refine wp_region_tree (fun w_ w1_ => Below N w_ w1_) (.rd 0 (.rd 1 (.rd 2 (.rd 4 (.rd 5 (.rd 6 (.two 3 7 (.ef 7 (.ef 8 (.rd 9 .nil))) (.ef 3 (.ef 8 (.rd 9 .nil)))))))))) (by kernel_rfl) (by kernel_rfl) (fun _ => Below.refl _ _) (fun h h' => h.trans h') (fun wd hhp_ hbw_ => ?_)
  have HBd := Aside0.mk (below_step HB1.out hbw_)
  have HNd : Aside0 (Below N w1 wd) := ⟨by rw [← HNE.out]; exact hbw_⟩
  have hx0 : ∀ wx : World, Below N wd wx → wx.cell? ⟨w.heap.size, 0, none⟩ = some (.int .i64 k) := fun wx h => (HX.out wx (HNd.out.trans h)).1
  have hx1 : ∀ wx : World, Below N wd wx → wx.cell? ⟨w.heap.size, 1, none⟩ = some (.int .i64 (sn : Int)) := fun wx h => (HX.out wx (HNd.out.trans h)).2.1
  clear hhp_ hbw_
  (refine t_read (o := { dst := some 7, op := Op.fieldAddr 45 (Operand.tmp 1) 0, type := 0, pos := "ref.go:27", after := #[], guard := none }) rfl (by first | rfl | (simp [Region.wanted, yielded]; done)) (by intro w_ hE_; (try dsimp only at hE_); first | (go_simp; done) | (go_simp; rfl)) ?_)
  (try simp only [Act.put, List.setIfInBounds_toArray, List.set_cons_zero, List.set_cons_succ])
  (refine t_read (o := { dst := some 8, op := Op.load 3 (Operand.tmp 7), type := 3, pos := "ref.go:27", after := #[{ on := 0, ground := Ground.data }], guard := none }) rfl (by first | rfl | (simp [Region.wanted, yielded]; done)) (by intro w_ hE_; (try dsimp only at hE_); first | (go_simp; done) | (go_simp; rfl)) ?_)
  (try simp only [Act.put, List.setIfInBounds_toArray, List.set_cons_zero, List.set_cons_succ])
  (refine t_read (o := { dst := some 9, op := Op.convert 3 5 (Operand.tmp 8), type := 5, pos := "ref.go:27", after := #[{ on := 1, ground := Ground.data }], guard := none }) rfl (by first | rfl | (simp [Region.wanted, yielded]; done)) (by intro w_ hE_; (try dsimp only at hE_); first | (go_simp; done) | (go_simp; rfl)) ?_)
  (try simp only [Act.put, List.setIfInBounds_toArray, List.set_cons_zero, List.set_cons_succ])
  (refine t_read (o := { dst := some 11, op := Op.fieldAddr 45 (Operand.tmp 1) 1, type := 0, pos := "ref.go:27", after := #[], guard := none }) rfl (by first | rfl | (simp [Region.wanted, yielded]; done)) (by intro w_ hE_; (try dsimp only at hE_); first | (go_simp; done) | (go_simp; rfl)) ?_)
  (try simp only [Act.put, List.setIfInBounds_toArray, List.set_cons_zero, List.set_cons_succ])
  (refine t_read (o := { dst := some 12, op := Op.load 2 (Operand.tmp 11), type := 2, pos := "ref.go:27", after := #[{ on := 4, ground := Ground.data }], guard := none }) rfl (by first | rfl | (simp [Region.wanted, yielded]; done)) (by intro w_ hE_; (try dsimp only at hE_); first | (go_simp; done) | (go_simp; rfl)) ?_)
  (try simp only [Act.put, List.setIfInBounds_toArray, List.set_cons_zero, List.set_cons_succ])
  (refine t_read (o := { dst := some 13, op := Op.convert 2 83 (Operand.tmp 12), type := 83, pos := "ref.go:27", after := #[{ on := 5, ground := Ground.data }], guard := none }) rfl (by first | rfl | (simp [Region.wanted, yielded]; done)) (by intro w_ hE_; (try dsimp only at hE_); first | (go_simp; done) | (go_simp; rfl)) ?_)
  (try simp only [Act.put, List.setIfInBounds_toArray, List.set_cons_zero, List.set_cons_succ])
  refine t_two ?_ ?_
  · refine s_val (o := { dst := some 10, op := Op.buildSlice 22 1 #[(0, Operand.tmp 9)], type := 22, pos := "ref.go:27", after := #[{ on := 2, ground := Ground.data }], guard := none }) (w1 := (wd.alloc (.cells #[.int .u8 k] 5 (0, 0)))) rfl (by first | rfl | (simp [Region.wanted, yielded]; done)) (by first | (go_simp; done) | (go_simp; rfl)) (below_low (nle HNE.out HNd.out) ((Below.refl wd.heap.size wd).alloc (Nat.le_refl _) (.cells #[.int .u8 k] 5 (0, 0)))) ?_
    (try simp only [Act.put, List.setIfInBounds_toArray, List.set_cons_zero, List.set_cons_succ])
    have HL3 : Aside0 (Kd.R (Kd.int .u8) 5 (wd.alloc (.cells #[.int .u8 k] 5 (0, 0))) w.heap.size (fun _ => True) (.slice (some ⟨wd.heap.size, 0, none⟩) 1 1) [k]) := ⟨Kd.R_of_own (own_lit wd w.heap.size 5 .u8 [k] HBd.out.size (by simp)) (fun _ _ => trivial)⟩
    have HB3 := Aside0.mk (below_step HBd.out ((Below.refl wd.heap.size wd).alloc (Nat.le_refl _) (.cells #[.int .u8 k] 5 (0, 0))))
    have HN3 := Aside0.mk (HNd.out.trans (below_low (nle HNE.out HNd.out) ((Below.refl wd.heap.size wd).alloc (Nat.le_refl _) (.cells #[.int .u8 k] 5 (0, 0)))))
    have HR3 : Aside0 (N ≤ wd.heap.size) := ⟨nle HNE.out HNd.out⟩
    generalize wd.alloc (.cells #[.int .u8 k] 5 (0, 0)) = w3 at *
    generalize wd.heap.size = b3 at *
    refine t_ef ?_
    refine s_call (o := { dst := some 14, op := Op.call { callee := Callee.value (Operand.func 56), args := #[Operand.tmp 13], argTypes := #[83] }, type := 22, pos := "ref.go:27", after := #[{ on := 6, ground := Ground.data }], guard := none }) rfl (by first | rfl | (simp [Region.wanted, yielded]; done)) (by first | (go_simp; done) | (go_simp; exact ⟨rfl, rfl⟩) | (go_simp; rfl)) ?_
    refine (HP.out _).mono ?_
    rintro e_ x1 ⟨v1, rfl, ho, hb⟩
    obtain ⟨A1, c1, rfl⟩ := Kd.R_slice ho
    have HV7 := Aside0.mk (Kd.R_reads' ho).2.2
    have HB7 := Aside0.mk (below_step HB3.out hb)
    have HN7 := Aside0.mk (HN3.out.trans (below_low (nle HNE.out HN3.out) hb))
    have HL7 := Aside0.mk (Kd.R_below HL3.out hb)
    refine ⟨_, rfl, below_low (nle HNE.out HN3.out) hb, ?_⟩
    clear ho hb
    (try simp only [Act.put, List.setIfInBounds_toArray, List.set_cons_zero, List.set_cons_succ])
    refine t_ef ?_
    refine s_list (o := { dst := some 15, op := Op.call { callee := Callee.builtin Builtin.append, args := #[Operand.tmp 10, Operand.tmp 14], argTypes := #[22, 22] }, type := 22, pos := "ref.go:27", after := #[{ on := 3, ground := Ground.data }, { on := 7, ground := Ground.data }, { on := 7, ground := Ground.chain }], guard := none }) rfl (by first | rfl | (simp [Region.wanted, yielded]; done)) ?_
    refine Kd.R_append_row (Value.int .u8) (0) (h1 := fun _ => rfl) (w0 := w) (w.heap.size) rfl (.tmp 10) (.tmp 14) 22 5 (.int .u8 0) 1 rfl Try.underlying22 info5 rfl (by decide) (.slice (some ⟨b3, 0, none⟩) 1 1) [k] (enc sn) A1 (enc sn).length c1 (fun _ => True) rfl rfl (fun _ _ => trivial) HL7.out HV7.out HB7.out HB7.out.size ?aL_ ?_
    case aL_ => have := HLE.out; simp only [List.length_singleton]; omega
    intro v5 w5 ho hb hg hat
    refine ⟨pw_below_grown (Below.refl N x1) (some b3) (nle HNE.out HN7.out) hg (fun q hq => by injection hq with hq; have := HR3.out; omega), ?_⟩
    have HO5 := Aside0.mk ho
    have HB5 := Aside0.mk hb
    have HN5 := Aside0.mk (HN7.out.trans (pw_below_grown (Below.refl N x1) (some b3) (nle HNE.out HN7.out) hg (fun q hq => by injection hq with hq; have := HR3.out; omega)))
    clear ho hb hg hat
    (try simp only [Act.put, List.setIfInBounds_toArray, List.set_cons_zero, List.set_cons_succ])
    (refine t_read (o := { dst := some 3, op := Op.assign (Operand.tmp 15), type := 22, pos := "ref.go:27", after := #[{ on := 8, ground := Ground.data }, { on := 8, ground := Ground.chain }, { on := 0, ground := Ground.phase }, { on := 1, ground := Ground.phase }, { on := 2, ground := Ground.phase }, { on := 3, ground := Ground.phase }, { on := 4, ground := Ground.phase }, { on := 5, ground := Ground.phase }, { on := 6, ground := Ground.phase }, { on := 7, ground := Ground.phase }, { on := 8, ground := Ground.phase }], guard := none }) rfl (by first | rfl | (simp [Region.wanted, yielded]; done)) (by intro w_ hE_; (try dsimp only at hE_); first | (go_simp; done) | (go_simp; rfl)) ?_)
    (try simp only [Act.put, List.setIfInBounds_toArray, List.set_cons_zero, List.set_cons_succ])
    refine t_nil ?_
    have hbk5 := (HN5.out.block w.heap.size (by have := blk_lt HBK.out; have := HA1.out.size; have := HNE.out; omega)).trans (blk_below HBK.out HA1.out)
    have HTK := Aside0.mk (fun w => rtext_calls key (by have := HOK.out; omega) w)
    have HTV := Aside0.mk (fun w => rtext_calls v (by have := HOK.out; omega) w)
    have hl1 : ([k] ++ enc sn).length ≤ 21 := by have := HLE.out; simp; omega
    have hbs1 : Bys ([k] ++ enc sn) := bys_append (fun z hz => by have := HOK.out; rw [List.mem_singleton.1 hz]; omega) (bys_enc (n := sn) (by have := HOK.out; omega))
    have hlk : (enc key.size ++ bytesOf key).length ≤ 120 := by have := enc_len 9 key.size (by have := HOK.out; omega); have := HOK.out; rw [List.length_append, bytesOf_length]; omega
    have hlv : (enc v.size ++ bytesOf v).length ≤ 4020 := by have := enc_len 9 v.size (by have := HOK.out; omega); have := HOK.out; rw [List.length_append, bytesOf_length]; omega
    have hbk : Bys (enc key.size ++ bytesOf key) := bys_append (bys_enc (by have := HOK.out; omega)) (bys_bytesOf key)
    have hbv : Bys (enc v.size ++ bytesOf v) := bys_append (bys_enc (by have := HOK.out; omega)) (bys_bytesOf v)
    have hrec : recB k (sn : Int) key v = if k = 1 then (([k] ++ enc sn) ++ (enc key.size ++ bytesOf key)) ++ (enc v.size ++ bytesOf v) else ([k] ++ enc sn) ++ (enc key.size ++ bytesOf key) := by unfold recB; rw [Int.toNat_natCast]
    have HRC := Aside0.mk hrec
    have HBS := Aside0.mk (And.intro hbs1 (And.intro hbk hbv))
    have HLN : Aside0 (([k] ++ enc sn).length ≤ 21 ∧ (enc key.size ++ bytesOf key).length ≤ 120 ∧ (enc v.size ++ bytesOf v).length ≤ 4020) := ⟨hl1, hlk, hlv⟩
    have c2 : w5.cell? ⟨w.heap.size, 2, none⟩ = some (.string key) := blk_cell hbk5 2
    have HK5 := Aside0.mk hbk5
    clear hbk5 hl1 hbs1 hlk hlv hbk hbv hrec
    obtain ⟨b1, hb1⟩ : ∃ b, [k] ++ enc sn = b := ⟨_, rfl⟩
    obtain ⟨tk, htk⟩ : ∃ b, enc key.size ++ bytesOf key = b := ⟨_, rfl⟩
    obtain ⟨tv, htv⟩ : ∃ b, enc v.size ++ bytesOf v = b := ⟨_, rfl⟩
    rw [hb1] at HO5 HRC HBS HLN
    rw [htk] at HTK HRC HBS HLN
    rw [htv] at HTV HRC HBS HLN
    clear hb1 htk htv
    go_wp2_with fail
    refine (HTK.out w5).mono ?_
    rintro e_ w6 ⟨v6, rfl, ho, hb⟩
    obtain ⟨A6, c6, rfl⟩ := Kd.R_slice ho
    have HV6 := Aside0.mk (Kd.R_reads' ho).2.2
    have HO6 := Aside0.mk (Kd.R_below HO5.out hb)
    have HB6 := Aside0.mk (below_step HB5.out hb)
    have HK6 := Aside0.mk (blk_below HK5.out hb)
    clear ho hb HO5 HB5 HK5 c2
    rcases HOK.out.2.2.2.1 with rfl | ⟨rfl, _⟩
    · have HRE := Aside0.mk (HRC.out.trans (if_pos rfl))
      go_wp2_with ((with_reducible refine gate_builtin (b := .append) (xs := #[.tmp 16, .tmp 19]) rfl ?_); at_builtin; go_must (refine Kd.R_append_row (Value.int .u8) (0) (h1 := fun _ => rfl) (w0 := w) (w.heap.size) rfl (.tmp 16) (.tmp 19) 22 5 (.int .u8 0) 1 rfl Try.underlying22 info5 rfl (by decide) v5 b1 tk A6 (tk.length) c6 (fun _ => True) rfl rfl (fun _ _ => trivial) (HO6.out) (HV6.out) (HB6.out) (Below.size (HB6.out)) ?aL_ ?_; (case aL_ => have := HLN.out; omega); intro v7 w7 ho hb hg hat; have HO7 := Aside0.mk ho; have HB7 := Aside0.mk hb; have hk7 := blk_grown HK6.out hg (own_ne (Kd.own_of_R HO6.out) HK6.out (by decide)); have d0 : w7.cell? ⟨w.heap.size, 0, none⟩ = some (.int .i64 1) := blk_cell hk7 0; have d3 : w7.cell? ⟨w.heap.size, 3, none⟩ = some (.string v) := blk_cell hk7 3; clear ho hb hg hat))
      refine (HTV.out w7).mono ?_
      rintro e_ w8 ⟨v8, rfl, ho, hb⟩
      obtain ⟨A8, c8, rfl⟩ := Kd.R_slice ho
      have HV8 := Aside0.mk (Kd.R_reads' ho).2.2
      have HO8 := Aside0.mk (Kd.R_below HO7.out hb)
      have HB8 := Aside0.mk (below_step HB7.out hb)
      have HL8 : Aside0 ((b1 ++ tk).length ≤ 141) := ⟨by rw [List.length_append]; have := HLN.out; omega⟩
      have HBY1 : Aside0 (Bys ((b1 ++ tk) ++ tv)) := ⟨bys_append (bys_append HBS.out.1 HBS.out.2.1) HBS.out.2.2⟩
      have HLL : Aside0 (((b1 ++ tk) ++ tv).length ≤ 4161) := ⟨by rw [List.length_append, List.length_append]; have := HLN.out; omega⟩
      clear ho hb HO7 HB7 d0 d3 hk7
      obtain ⟨bt, hbt⟩ : ∃ b, b1 ++ tk = b := ⟨_, rfl⟩
      rw [hbt] at HO8 HL8 HBY1 HLL HRE
      clear hbt
      obtain ⟨LL, hLL⟩ : ∃ b, bt ++ tv = b := ⟨_, rfl⟩
      have HLLE := Aside0.mk hLL
      rw [hLL] at HBY1 HLL HRE
      clear hLL
      go_wp2_with ((with_reducible refine gate_builtin (b := .append) (xs := #[.tmp 24, .tmp 27]) rfl ?_); at_builtin; go_must (refine Kd.R_append_row (Value.int .u8) (0) (h1 := fun _ => rfl) (w0 := w) (w.heap.size) rfl (.tmp 24) (.tmp 27) 22 5 (.int .u8 0) 1 rfl Try.underlying22 info5 rfl (by decide) v7 bt tv A8 (tv.length) c8 (fun _ => True) rfl rfl (fun _ _ => trivial) (HO8.out) (HV8.out) (HB8.out) (Below.size (HB8.out)) ?aL_ ?_; (case aL_ => have := HLN.out; have := HL8.out; omega); intro v9 w9 ho hb hg hat; have HO9 := Aside0.mk ho; have HB9 := Aside0.mk hb; rw [HLLE.out] at ho; obtain ⟨A9, c9, e9⟩ := Kd.R_slice ho; subst e9; have HV9 := Aside0.mk (Kd.R_reads' ho).2.2; clear ho hb hg hat))
      have HBY := HBY1
      have HLN9 := HLL
      have hs := rseal_calls A9 c9 LL HBY.out w9 HV9.out (by have := HLN9.out; omega)
      refine hs.mono ?_
      rintro e_ wz ⟨vz, rfl, ho, hb⟩
      have HOz := Aside0.mk (Kd.R_lower ho HB9.out.size)
      have HBz := Aside0.mk (below_step HB9.out hb)
      clear ho hb hs
      go_wp2
      go_ret
      exact ⟨_, rfl, by rw [HRE.out]; exact HOz.out, HBz.out⟩
    · have HRE := Aside0.mk (HRC.out.trans (if_neg (by decide)))
      have HBY1 : Aside0 (Bys (b1 ++ tk)) := ⟨bys_append HBS.out.1 HBS.out.2.1⟩
      have HLL : Aside0 ((b1 ++ tk).length ≤ 4161) := ⟨by rw [List.length_append]; have := HLN.out; omega⟩
      obtain ⟨LL, hLL⟩ : ∃ b, b1 ++ tk = b := ⟨_, rfl⟩
      have HLLE := Aside0.mk hLL
      rw [hLL] at HBY1 HLL HRE
      clear hLL
      go_wp2_with ((with_reducible refine gate_builtin (b := .append) (xs := #[.tmp 16, .tmp 19]) rfl ?_); at_builtin; go_must (refine Kd.R_append_row (Value.int .u8) (0) (h1 := fun _ => rfl) (w0 := w) (w.heap.size) rfl (.tmp 16) (.tmp 19) 22 5 (.int .u8 0) 1 rfl Try.underlying22 info5 rfl (by decide) v5 b1 tk A6 (tk.length) c6 (fun _ => True) rfl rfl (fun _ _ => trivial) (HO6.out) (HV6.out) (HB6.out) (Below.size (HB6.out)) ?aL_ ?_; (case aL_ => have := HLN.out; omega); intro v7 w9 ho hb hg hat; have HO7 := Aside0.mk ho; have HB9 := Aside0.mk hb; have hk7 := blk_grown HK6.out hg (own_ne (Kd.own_of_R HO6.out) HK6.out (by decide)); have d0 : w9.cell? ⟨w.heap.size, 0, none⟩ = some (.int .i64 0) := blk_cell hk7 0; rw [HLLE.out] at ho; obtain ⟨A9, c9, e9⟩ := Kd.R_slice ho; subst e9; have HV9 := Aside0.mk (Kd.R_reads' ho).2.2; clear ho hb hg hat))
      clear hk7 d0
      have HBY := HBY1
      have HLN9 := HLL
      have hs := rseal_calls A9 c9 LL HBY.out w9 HV9.out (by have := HLN9.out; omega)
      refine hs.mono ?_
      rintro e_ wz ⟨vz, rfl, ho, hb⟩
      have HOz := Aside0.mk (Kd.R_lower ho HB9.out.size)
      have HBz := Aside0.mk (below_step HB9.out hb)
      clear ho hb hs
      go_wp2
      go_ret
      exact ⟨_, rfl, by rw [HRE.out]; exact HOz.out, HBz.out⟩
  · refine s_call (o := { dst := some 14, op := Op.call { callee := Callee.value (Operand.func 56), args := #[Operand.tmp 13], argTypes := #[83] }, type := 22, pos := "ref.go:27", after := #[{ on := 6, ground := Ground.data }], guard := none }) rfl (by first | rfl | (simp [Region.wanted, yielded]; done)) (by first | (go_simp; done) | (go_simp; exact ⟨rfl, rfl⟩) | (go_simp; rfl)) ?_
    refine (HP.out _).mono ?_
    rintro e_ x1 ⟨v1, rfl, ho, hb⟩
    obtain ⟨A1, c1, rfl⟩ := Kd.R_slice ho
    have HV7 := Aside0.mk (Kd.R_reads' ho).2.2
    have HB7 := Aside0.mk (below_step HBd.out hb)
    have HN7 := Aside0.mk (HNd.out.trans (below_low (nle HNE.out HNd.out) hb))
    refine ⟨_, rfl, below_low (nle HNE.out HNd.out) hb, ?_⟩
    clear ho hb
    (try simp only [Act.put, List.setIfInBounds_toArray, List.set_cons_zero, List.set_cons_succ])
    refine t_ef ?_
    refine s_val (o := { dst := some 10, op := Op.buildSlice 22 1 #[(0, Operand.tmp 9)], type := 22, pos := "ref.go:27", after := #[{ on := 2, ground := Ground.data }], guard := none }) (w1 := (x1.alloc (.cells #[.int .u8 k] 5 (0, 0)))) rfl (by first | rfl | (simp [Region.wanted, yielded]; done)) (by first | (go_simp; done) | (go_simp; rfl)) (below_low (nle HNE.out HN7.out) ((Below.refl x1.heap.size x1).alloc (Nat.le_refl _) (.cells #[.int .u8 k] 5 (0, 0)))) ?_
    (try simp only [Act.put, List.setIfInBounds_toArray, List.set_cons_zero, List.set_cons_succ])
    have HL3 : Aside0 (Kd.R (Kd.int .u8) 5 (x1.alloc (.cells #[.int .u8 k] 5 (0, 0))) w.heap.size (fun _ => True) (.slice (some ⟨x1.heap.size, 0, none⟩) 1 1) [k]) := ⟨Kd.R_of_own (own_lit x1 w.heap.size 5 .u8 [k] HB7.out.size (by simp)) (fun _ _ => trivial)⟩
    have HB3 := Aside0.mk (below_step HB7.out ((Below.refl x1.heap.size x1).alloc (Nat.le_refl _) (.cells #[.int .u8 k] 5 (0, 0))))
    have HN3 := Aside0.mk (HN7.out.trans (below_low (nle HNE.out HN7.out) ((Below.refl x1.heap.size x1).alloc (Nat.le_refl _) (.cells #[.int .u8 k] 5 (0, 0)))))
    have HR3 : Aside0 (N ≤ x1.heap.size) := ⟨nle HNE.out HN7.out⟩
    have HV3 := Aside0.mk (Kd.C_below HV7.out ((Below.refl x1.heap.size x1).alloc (Nat.le_refl _) (.cells #[.int .u8 k] 5 (0, 0))))
    generalize x1.alloc (.cells #[.int .u8 k] 5 (0, 0)) = w3 at *
    generalize x1.heap.size = b3 at *
    refine t_ef ?_
    refine s_list (o := { dst := some 15, op := Op.call { callee := Callee.builtin Builtin.append, args := #[Operand.tmp 10, Operand.tmp 14], argTypes := #[22, 22] }, type := 22, pos := "ref.go:27", after := #[{ on := 3, ground := Ground.data }, { on := 7, ground := Ground.data }, { on := 7, ground := Ground.chain }], guard := none }) rfl (by first | rfl | (simp [Region.wanted, yielded]; done)) ?_
    refine Kd.R_append_row (Value.int .u8) (0) (h1 := fun _ => rfl) (w0 := w) (w.heap.size) rfl (.tmp 10) (.tmp 14) 22 5 (.int .u8 0) 1 rfl Try.underlying22 info5 rfl (by decide) (.slice (some ⟨b3, 0, none⟩) 1 1) [k] (enc sn) A1 (enc sn).length c1 (fun _ => True) rfl rfl (fun _ _ => trivial) HL3.out HV3.out HB3.out HB3.out.size ?aL_ ?_
    case aL_ => have := HLE.out; simp only [List.length_singleton]; omega
    intro v5 w5 ho hb hg hat
    refine ⟨pw_below_grown (Below.refl N w3) (some b3) (nle HNE.out HN3.out) hg (fun q hq => by injection hq with hq; have := HR3.out; omega), ?_⟩
    have HO5 := Aside0.mk ho
    have HB5 := Aside0.mk hb
    have HN5 := Aside0.mk (HN3.out.trans (pw_below_grown (Below.refl N w3) (some b3) (nle HNE.out HN3.out) hg (fun q hq => by injection hq with hq; have := HR3.out; omega)))
    clear ho hb hg hat
    (try simp only [Act.put, List.setIfInBounds_toArray, List.set_cons_zero, List.set_cons_succ])
    (refine t_read (o := { dst := some 3, op := Op.assign (Operand.tmp 15), type := 22, pos := "ref.go:27", after := #[{ on := 8, ground := Ground.data }, { on := 8, ground := Ground.chain }, { on := 0, ground := Ground.phase }, { on := 1, ground := Ground.phase }, { on := 2, ground := Ground.phase }, { on := 3, ground := Ground.phase }, { on := 4, ground := Ground.phase }, { on := 5, ground := Ground.phase }, { on := 6, ground := Ground.phase }, { on := 7, ground := Ground.phase }, { on := 8, ground := Ground.phase }], guard := none }) rfl (by first | rfl | (simp [Region.wanted, yielded]; done)) (by intro w_ hE_; (try dsimp only at hE_); first | (go_simp; done) | (go_simp; rfl)) ?_)
    (try simp only [Act.put, List.setIfInBounds_toArray, List.set_cons_zero, List.set_cons_succ])
    refine t_nil ?_
    have hbk5 := (HN5.out.block w.heap.size (by have := blk_lt HBK.out; have := HA1.out.size; have := HNE.out; omega)).trans (blk_below HBK.out HA1.out)
    have HTK := Aside0.mk (fun w => rtext_calls key (by have := HOK.out; omega) w)
    have HTV := Aside0.mk (fun w => rtext_calls v (by have := HOK.out; omega) w)
    have hl1 : ([k] ++ enc sn).length ≤ 21 := by have := HLE.out; simp; omega
    have hbs1 : Bys ([k] ++ enc sn) := bys_append (fun z hz => by have := HOK.out; rw [List.mem_singleton.1 hz]; omega) (bys_enc (n := sn) (by have := HOK.out; omega))
    have hlk : (enc key.size ++ bytesOf key).length ≤ 120 := by have := enc_len 9 key.size (by have := HOK.out; omega); have := HOK.out; rw [List.length_append, bytesOf_length]; omega
    have hlv : (enc v.size ++ bytesOf v).length ≤ 4020 := by have := enc_len 9 v.size (by have := HOK.out; omega); have := HOK.out; rw [List.length_append, bytesOf_length]; omega
    have hbk : Bys (enc key.size ++ bytesOf key) := bys_append (bys_enc (by have := HOK.out; omega)) (bys_bytesOf key)
    have hbv : Bys (enc v.size ++ bytesOf v) := bys_append (bys_enc (by have := HOK.out; omega)) (bys_bytesOf v)
    have hrec : recB k (sn : Int) key v = if k = 1 then (([k] ++ enc sn) ++ (enc key.size ++ bytesOf key)) ++ (enc v.size ++ bytesOf v) else ([k] ++ enc sn) ++ (enc key.size ++ bytesOf key) := by unfold recB; rw [Int.toNat_natCast]
    have HRC := Aside0.mk hrec
    have HBS := Aside0.mk (And.intro hbs1 (And.intro hbk hbv))
    have HLN : Aside0 (([k] ++ enc sn).length ≤ 21 ∧ (enc key.size ++ bytesOf key).length ≤ 120 ∧ (enc v.size ++ bytesOf v).length ≤ 4020) := ⟨hl1, hlk, hlv⟩
    have c2 : w5.cell? ⟨w.heap.size, 2, none⟩ = some (.string key) := blk_cell hbk5 2
    have HK5 := Aside0.mk hbk5
    clear hbk5 hl1 hbs1 hlk hlv hbk hbv hrec
    obtain ⟨b1, hb1⟩ : ∃ b, [k] ++ enc sn = b := ⟨_, rfl⟩
    obtain ⟨tk, htk⟩ : ∃ b, enc key.size ++ bytesOf key = b := ⟨_, rfl⟩
    obtain ⟨tv, htv⟩ : ∃ b, enc v.size ++ bytesOf v = b := ⟨_, rfl⟩
    rw [hb1] at HO5 HRC HBS HLN
    rw [htk] at HTK HRC HBS HLN
    rw [htv] at HTV HRC HBS HLN
    clear hb1 htk htv
    go_wp2_with fail
    refine (HTK.out w5).mono ?_
    rintro e_ w6 ⟨v6, rfl, ho, hb⟩
    obtain ⟨A6, c6, rfl⟩ := Kd.R_slice ho
    have HV6 := Aside0.mk (Kd.R_reads' ho).2.2
    have HO6 := Aside0.mk (Kd.R_below HO5.out hb)
    have HB6 := Aside0.mk (below_step HB5.out hb)
    have HK6 := Aside0.mk (blk_below HK5.out hb)
    clear ho hb HO5 HB5 HK5 c2
    rcases HOK.out.2.2.2.1 with rfl | ⟨rfl, _⟩
    · have HRE := Aside0.mk (HRC.out.trans (if_pos rfl))
      go_wp2_with ((with_reducible refine gate_builtin (b := .append) (xs := #[.tmp 16, .tmp 19]) rfl ?_); at_builtin; go_must (refine Kd.R_append_row (Value.int .u8) (0) (h1 := fun _ => rfl) (w0 := w) (w.heap.size) rfl (.tmp 16) (.tmp 19) 22 5 (.int .u8 0) 1 rfl Try.underlying22 info5 rfl (by decide) v5 b1 tk A6 (tk.length) c6 (fun _ => True) rfl rfl (fun _ _ => trivial) (HO6.out) (HV6.out) (HB6.out) (Below.size (HB6.out)) ?aL_ ?_; (case aL_ => have := HLN.out; omega); intro v7 w7 ho hb hg hat; have HO7 := Aside0.mk ho; have HB7 := Aside0.mk hb; have hk7 := blk_grown HK6.out hg (own_ne (Kd.own_of_R HO6.out) HK6.out (by decide)); have d0 : w7.cell? ⟨w.heap.size, 0, none⟩ = some (.int .i64 1) := blk_cell hk7 0; have d3 : w7.cell? ⟨w.heap.size, 3, none⟩ = some (.string v) := blk_cell hk7 3; clear ho hb hg hat))
      refine (HTV.out w7).mono ?_
      rintro e_ w8 ⟨v8, rfl, ho, hb⟩
      obtain ⟨A8, c8, rfl⟩ := Kd.R_slice ho
      have HV8 := Aside0.mk (Kd.R_reads' ho).2.2
      have HO8 := Aside0.mk (Kd.R_below HO7.out hb)
      have HB8 := Aside0.mk (below_step HB7.out hb)
      have HL8 : Aside0 ((b1 ++ tk).length ≤ 141) := ⟨by rw [List.length_append]; have := HLN.out; omega⟩
      have HBY1 : Aside0 (Bys ((b1 ++ tk) ++ tv)) := ⟨bys_append (bys_append HBS.out.1 HBS.out.2.1) HBS.out.2.2⟩
      have HLL : Aside0 (((b1 ++ tk) ++ tv).length ≤ 4161) := ⟨by rw [List.length_append, List.length_append]; have := HLN.out; omega⟩
      clear ho hb HO7 HB7 d0 d3 hk7
      obtain ⟨bt, hbt⟩ : ∃ b, b1 ++ tk = b := ⟨_, rfl⟩
      rw [hbt] at HO8 HL8 HBY1 HLL HRE
      clear hbt
      obtain ⟨LL, hLL⟩ : ∃ b, bt ++ tv = b := ⟨_, rfl⟩
      have HLLE := Aside0.mk hLL
      rw [hLL] at HBY1 HLL HRE
      clear hLL
      go_wp2_with ((with_reducible refine gate_builtin (b := .append) (xs := #[.tmp 24, .tmp 27]) rfl ?_); at_builtin; go_must (refine Kd.R_append_row (Value.int .u8) (0) (h1 := fun _ => rfl) (w0 := w) (w.heap.size) rfl (.tmp 24) (.tmp 27) 22 5 (.int .u8 0) 1 rfl Try.underlying22 info5 rfl (by decide) v7 bt tv A8 (tv.length) c8 (fun _ => True) rfl rfl (fun _ _ => trivial) (HO8.out) (HV8.out) (HB8.out) (Below.size (HB8.out)) ?aL_ ?_; (case aL_ => have := HLN.out; have := HL8.out; omega); intro v9 w9 ho hb hg hat; have HO9 := Aside0.mk ho; have HB9 := Aside0.mk hb; rw [HLLE.out] at ho; obtain ⟨A9, c9, e9⟩ := Kd.R_slice ho; subst e9; have HV9 := Aside0.mk (Kd.R_reads' ho).2.2; clear ho hb hg hat))
      have HBY := HBY1
      have HLN9 := HLL
      have hs := rseal_calls A9 c9 LL HBY.out w9 HV9.out (by have := HLN9.out; omega)
      refine hs.mono ?_
      rintro e_ wz ⟨vz, rfl, ho, hb⟩
      have HOz := Aside0.mk (Kd.R_lower ho HB9.out.size)
      have HBz := Aside0.mk (below_step HB9.out hb)
      clear ho hb hs
      go_wp2
      go_ret
      exact ⟨_, rfl, by rw [HRE.out]; exact HOz.out, HBz.out⟩
    · have HRE := Aside0.mk (HRC.out.trans (if_neg (by decide)))
      have HBY1 : Aside0 (Bys (b1 ++ tk)) := ⟨bys_append HBS.out.1 HBS.out.2.1⟩
      have HLL : Aside0 ((b1 ++ tk).length ≤ 4161) := ⟨by rw [List.length_append]; have := HLN.out; omega⟩
      obtain ⟨LL, hLL⟩ : ∃ b, b1 ++ tk = b := ⟨_, rfl⟩
      have HLLE := Aside0.mk hLL
      rw [hLL] at HBY1 HLL HRE
      clear hLL
      go_wp2_with ((with_reducible refine gate_builtin (b := .append) (xs := #[.tmp 16, .tmp 19]) rfl ?_); at_builtin; go_must (refine Kd.R_append_row (Value.int .u8) (0) (h1 := fun _ => rfl) (w0 := w) (w.heap.size) rfl (.tmp 16) (.tmp 19) 22 5 (.int .u8 0) 1 rfl Try.underlying22 info5 rfl (by decide) v5 b1 tk A6 (tk.length) c6 (fun _ => True) rfl rfl (fun _ _ => trivial) (HO6.out) (HV6.out) (HB6.out) (Below.size (HB6.out)) ?aL_ ?_; (case aL_ => have := HLN.out; omega); intro v7 w9 ho hb hg hat; have HO7 := Aside0.mk ho; have HB9 := Aside0.mk hb; have hk7 := blk_grown HK6.out hg (own_ne (Kd.own_of_R HO6.out) HK6.out (by decide)); have d0 : w9.cell? ⟨w.heap.size, 0, none⟩ = some (.int .i64 0) := blk_cell hk7 0; rw [HLLE.out] at ho; obtain ⟨A9, c9, e9⟩ := Kd.R_slice ho; subst e9; have HV9 := Aside0.mk (Kd.R_reads' ho).2.2; clear ho hb hg hat))
      clear hk7 d0
      have HBY := HBY1
      have HLN9 := HLL
      have hs := rseal_calls A9 c9 LL HBY.out w9 HV9.out (by have := HLN9.out; omega)
      refine hs.mono ?_
      rintro e_ wz ⟨vz, rfl, ho, hb⟩
      have HOz := Aside0.mk (Kd.R_lower ho HB9.out.size)
      have HBz := Aside0.mk (below_step HB9.out hb)
      clear ho hb hs
      go_wp2
      go_ret
      exact ⟨_, rfl, by rw [HRE.out]; exact HOz.out, HBz.out⟩
end Go.Proofs.Ytfojeegepfjbiaa.RdB
