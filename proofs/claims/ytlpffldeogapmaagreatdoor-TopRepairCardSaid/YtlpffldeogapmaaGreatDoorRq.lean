/- TopRepair: what the evaluator asks of the law, and the law out of it. No condition. -/
import Derived.Test.YtlpffldeogapmaaGreatDoorProg
import Derived.Below
import Derived.Deep.Draws
import Derived.Deep.AppendLies
import Derived.Maps.AppendAt
import Derived.OwnWalk
import Derived.Laws.BytesArg
import Derived.Laws.MakeOwn
import Derived.Laws.OwnMore
import Derived.Deep.OwnRows
import Derived.Tactics
import Derived.Lib.ConvBytes
import Derived.Laws.Slices
import Derived.WalkKit
import Derived.KernelRfl
import Derived.RowKit3
import Derived.Deep.LoopGhost
import Derived.Deep.QuietTactic
import Derived.BigQuiet
import Derived.WideLaws
import Derived.Deep.DeepCutAuto
import Derived.Deep.CutBlock
import Derived.Deep.RegionHeld3
import Derived.Laws.Rows
import Derived.Lib.AppendStr
import Derived.ArgAppend
import Derived.Laws.IdiomCopy
import Derived.OrdersHeld
import Derived.Laws.BitsLemmas
import Derived.RowKit
import Derived.WalkSpells
import Derived.Outline
import Derived.Test.YtlpffldeogapmaaGreatDoorWWords
import Derived.Test.YtlpffldeogapmaaGreatDoorWLast
import Derived.Test.YtlpffldeogapmaaGreatDoorWMore
import Derived.Test.YtlpffldeogapmaaGreatDoorWArr
import Derived.Test.YtlpffldeogapmaaGreatDoorWTab
import Derived.Test.YtlpffldeogapmaaGreatDoorWZeros
import Derived.Test.YtlpffldeogapmaaGreatDoorWRepsOne
import Derived.Test.YtlpffldeogapmaaGreatDoorRu
import Derived.Test.YtlpffldeogapmaaGreatDoorRr
namespace Go.Proofs.YtlpffldeogapmaaGreatDoor.Rq
open Go.RowKit Go.Proofs.YtlpffldeogapmaaGreatDoorW.PrintWords Go.Proofs.YtlpffldeogapmaaGreatDoorW.PrintLast Go.Proofs.YtlpffldeogapmaaGreatDoorW.PrintMore Go.Proofs.YtlpffldeogapmaaGreatDoor.Ev Go.Proofs.YtlpffldeogapmaaGreatDoor.EvZ Go.Proofs.YtlpffldeogapmaaGreatDoor.EuC Go.Proofs.YtlpffldeogapmaaGreatDoor.EuE Go.Proofs.YtlpffldeogapmaaGreatDoor.Sm Go.Proofs.YtlpffldeogapmaaGreatDoor.Fo Go.Proofs.YtlpffldeogapmaaGreatDoor.Me Go.Proofs.YtlpffldeogapmaaGreatDoor.Rx Go.Proofs.YtlpffldeogapmaaGreatDoor.Ru Go.Proofs.YtlpffldeogapmaaGreatDoor.EuF Go.Proofs.YtlpffldeogapmaaGreatDoor.EuG Go.Proofs.YtlpffldeogapmaaGreatDoor.Rr
set_option linter.unusedSimpArgs false
set_option linter.unusedVariables false
attribute [local go_sem] max2_int min2_int max_two min_two

open Go.MapKept
set_option maxRecDepth 1000000
set_option maxHeartbeats 4000000
noncomputable section
def sm : Sums := fun g => ([(13, smallS), (197, usedS), (17, (sumS [])), (44, (sortFFN [58])), (286, (sortFF [300, 373] keyI)), (16, rotS), (198, fourS), (379, encT)] : List (Nat × FF)).lookup g
theorem sums : SumsOk Tryz.prog sm := fun g x h => by
  unfold sm at h
  simp only [List.lookup] at h
  split at h
  · rename_i q
    cases h; rw [eq_of_beq q]; exact small_ok
  · split at h
    · rename_i q
      cases h; rw [eq_of_beq q]; exact used_ok
    · split at h
      · rename_i q
        cases h; rw [eq_of_beq q]; exact (sum_ok (fun t h => by cases h))
      · split at h
        · rename_i q
          cases h; rw [eq_of_beq q]; exact sortSN_ok
        · split at h
          · rename_i q
            cases h; rw [eq_of_beq q]; exact sortI_ok
          · split at h
            · rename_i q
              cases h; rw [eq_of_beq q]; exact rot_ok
            · split at h
              · rename_i q
                cases h; rw [eq_of_beq q]; exact four_ok
              · split at h
                · rename_i q
                  cases h; rw [eq_of_beq q]; exact enc_ok
                · cases h

abbrev CHx : CH := run Tryz.prog pls sm 200
theorem chx_ok : CHok Tryz.prog CHx := runs sums 200

abbrev hW0 : H := .mk (dflt .no 5) 1
def KR : KT := fun t h => (resOf Tryz.prog Tryz.f3.results.toList).run t h (onB (fun b => b))
def fin (cH : CH) (t : T) (h : H) : R := (compC Tryz.prog (pls 3) cS).run cH (fun _ _ _ => false) KR t h KR
def slimT (b o : Nat) (y1 y2 : AV) : T := put 3 12 y2 (put 3 11 y1 (put 3 8 (.p b o) T0))
def slim (b o : Nat) (y1 y2 : AV) (f : T → R) : R := (pcc AV 3 8).run (.p b o) (fun t => (pcc AV 3 11).run y1 (fun t => (pcc AV 3 12).run y2 f t) t) T0
def isB (x : AV) : Bool := AV.rec (motive_1 := fun _ => Bool) (motive_2 := fun _ => Unit) false false (fun _ => false) (fun _ _ => false) (fun _ _ => false) (fun _ _ _ => false) (fun _ _ => false) (fun _ _ _ _ => false) (fun _ _ _ => false) (fun _ _ => false) false false false false false (fun _ _ _ _ _ => false) (fun _ _ _ => false) (fun _ => false) (fun _ _ => false) (fun _ _ => false) (fun _ => false) (fun _ _ _ _ => false) (fun _ _ => false) (fun _ => false) (fun k _ => Nat.beq (kc k) (kc .u8)) () (fun _ _ _ _ => ()) x
def allB (l : List AV) : Bool := List.rec (motive := fun _ => Bool) true (fun x _ ih => and (isB x) ih) l
def uis : List AV := List.replicate 161 (.ui .u8)
def ujs (f : Bool) (s : Nat) : List AV := (List.range 161).map (AV.uj f s 161)
/-- A round leaves the heap, and finds what it needs. -/
def roundOk (cH : CH) (b o : Nat) (y1 : AV) (h : H) : R := ldc h b o (onP (fun pb po => cH 14 [.p pb po] h (fun v h' => gd (heq h h') (cH 16 [v, y1, .rg .i64 9223372036854775808 3, .ui .u8] h (fun _ h' => heq h h')))))
/-- The bytes of the file, none of them known, their sum as it was or not. -/
def turned (cH : CH) (fb s : Nat) (t : T) (h : H) (f : Bool) : R := sts h fb 0 (ujs f s) (fun h => fin cH t h)
def bodyH (cH : CH) (fb s b o : Nat) (y1 : AV) (t : T) (h : H) : R :=
  gd (Nat.blt 0 fb) (lds h fb 0 161 (fun l => gd (allB l) (sts h fb 0 uis (fun h => gd (roundOk cH b o y1 h) (gd (turned cH fb s t h true) (turned cH fb s t h false))))))
def isNe (r : R) (x : AV) : R := AV.rec (motive_1 := fun _ => R) (motive_2 := fun _ => Unit) false false (fun _ => false) (fun _ _ => false) (fun k n => keq k .u8 r) (fun _ _ _ => false) (fun _ _ => false) (fun _ _ _ _ => false) (fun _ _ _ => false) (fun _ _ => false) false false false false false (fun _ _ _ _ _ => false) (fun _ _ _ => false) (fun _ => false) (fun _ _ => false) (fun _ _ => false) (fun _ => false) (fun _ _ _ _ => false) (fun _ _ => false) (fun _ => false) (fun _ _ => false) () (fun _ _ _ _ => ()) x
def headK (cH : CH) (fb s : Nat) (t : T) (h : H) : R :=
  (acc AV 3 2).run (isNe ((acc AV 3 14).run (onI (fun k n => keq k .i64 (gd (Nat.beq n 0) ((acc AV 3 8).run (onP (fun b o => (acc AV 3 11).run (fun y1 => (acc AV 3 12).run (onSl (fun ob oo n c => gd (Nat.beq n 161) (slim b o y1 (.sl ob oo 161 c) (fun t' => bodyH cH fb s b o y1 t' h)))) t) t)) t)))) t)) t
theorem isNe_true {r : R} {x : AV} (e : isNe r x = true) : ∃ n, x = .ne .u8 n ∧ r = true := by
  cases x <;> try exact (Bool.false_ne_true e).elim
  case ne k n =>
    obtain ⟨rfl, e⟩ := keq_true (show keq k .u8 r = true from e)
    exact ⟨n, rfl, e⟩
theorem headK_true {cH : CH} {fb s : Nat} {t : T} {h : H} (e : headK cH fb s t h = true) : ∃ b o y1 ob oo c m, get 3 2 t = .ne .u8 m ∧ get 3 14 t = .i .i64 0 ∧ get 3 8 t = .p b o ∧ get 3 11 t = y1 ∧ get 3 12 t = .sl ob oo 161 c ∧ bodyH cH fb s b o y1 (slimT b o y1 (.sl ob oo 161 c)) h = true := by
  obtain ⟨_, e⟩ := acc_run e
  obtain ⟨q2, h2, e⟩ := isNe_true e
  obtain ⟨_, e⟩ := acc_run e
  obtain ⟨k, n, h9, e2⟩ := onI_true e
  obtain ⟨hk, e3⟩ := keq_true (show keq k .i64 (gd (Nat.beq n 0) _) = true from e2)
  obtain ⟨hn, e4⟩ := gd_true e3
  have hn0 : n = 0 := Nat.eq_of_beq_eq_true hn
  rw [hk, hn0] at h9
  obtain ⟨_, e5⟩ := acc_run e4
  obtain ⟨b, o, h6, e6⟩ := onP_true e5
  obtain ⟨_, e7⟩ := acc_run e6
  obtain ⟨_, e8⟩ := acc_run e7
  obtain ⟨ob, oo, m, c, hs, e9⟩ := onSl_true e8
  obtain ⟨hm, e10⟩ := gd_true e9
  have hm : m = 161 := Nat.eq_of_beq_eq_true hm
  rw [hm] at hs
  obtain ⟨_, e11⟩ := pcc_run (show (pcc AV 3 8).run (.p b o) (fun t' => (pcc AV 3 11).run (get 3 11 t) (fun t' => (pcc AV 3 12).run (.sl ob oo 161 c) (fun t' => bodyH cH fb s b o (get 3 11 t) t' h) t') t') T0 = true from e10)
  obtain ⟨_, e12⟩ := pcc_run e11
  obtain ⟨_, e13⟩ := pcc_run e12
  exact ⟨b, o, _, ob, oo, c, q2, h2, h9, h6, rfl, hs, e13⟩
def prefixRun (cH : CH) (j fb s : Nat) : R :=
  argsT [.sm j 3, .un, .ne .u8 0] 0 T0 (fun t => (preC Tryz.prog (pls 3) 11 cB).run cH (fun _ _ _ => false) (fun _ _ => false) t hW0 (fun t h => (compC Tryz.prog (pls 3) cI).run cH (fun _ _ _ => false) (fun _ _ => false) t h (headK cH fb s)))
theorem ok_cB : codeOk Tryz.prog (pls 3) 179 cB = true := all_ok 3 Tryz.f3 cB Tryz.func3 cB_eq
theorem ok_cT : codeOk Tryz.prog (pls 3) 179 (.seq (.seq cI (.block 2 (.loop cLp))) cS) = true := by
  rw [← cT_eq]; exact tail_ok 11 cB ok_cB
theorem ok_cI : codeOk Tryz.prog (pls 3) 179 cI = true := by
  have := ok_cT
  simp only [codeOk, Bool.and_eq_true] at this
  exact this.1.1
theorem ok_cS : codeOk Tryz.prog (pls 3) 179 cS = true := by
  have := ok_cT
  simp only [codeOk, Bool.and_eq_true] at this
  exact this.2
def ρ0 : Ren := fun _ => none
theorem hW0_at (b : Nat) : hW0.at b = .no := by
  show H.at (.mk (dflt .no 5) 1) b = .no
  unfold H.at
  split
  · exact get_dflt _ _ _
  · rfl
theorem hr0 (w : World) : HR ρ0 hW0 w := ⟨fun _ _ h => (by cases h), fun _ _ h => (by cases h), fun _ _ _ _ h => (by cases h), fun b _ => hW0_at b⟩
/-! ### What is kept besides the relation -/
/-- The heap's blocks are none of those that were there at first; block 0 is nothing's. -/
structure Kp (w0 : World) (ρ : Ren) (h : H) (w : World) : Prop where
  hr : HR ρ h w
  own : ∀ B, Own ρ h B → w0.heap.size ≤ B
  bl : Below w0.heap.size w0 w
  z0 : ρ 0 = none
  zn : h.at 0 = .no
  zx : 0 < h.nx
theorem Kp.ext {w0 : World} {ρ ρ' : Ren} {h h' : H} {w w' : World} (k : Kp w0 ρ h w) (hr : HR ρ' h' w') (e : Ext ρ h w ρ' h' w') : Kp w0 ρ' h' w' where
  hr := hr
  own := fun B hB => (e.own B hB).elim (fun q => k.own B q) (fun q => Nat.le_trans k.bl.size q)
  bl := ⟨e.below.os.trans k.bl.os, e.below.tape.trans k.bl.tape, e.below.output.trans k.bl.output, Nat.le_trans k.bl.size e.below.size, fun B hB => by
    rw [e.keep B (Nat.lt_of_lt_of_le hB k.bl.size) (fun q => absurd (k.own B q) (by omega))]
    exact k.bl.block B hB⟩
  z0 := (e.ghost 0 k.zx k.z0).1
  zn := (e.ghost 0 k.zx k.z0).2.trans k.zn
  zx := Nat.lt_of_lt_of_le k.zx e.nx
theorem Kp.start (w0 : World) : Kp w0 ρ0 hW0 w0 := ⟨hr0 w0, fun B ⟨b, l, h, _⟩ => (by cases h), .refl _ _, rfl, hW0_at 0, by decide⟩
theorem Kp.same {w0 : World} {ρ : Ren} {h : H} {w w' : World} (k : Kp w0 ρ h w) (e : w'.heap = w.heap) (hb : Below 0 w w') : Kp w0 ρ h w' :=
  k.ext (k.hr.same e) ⟨Sub.refl ρ, fun _ h => .inl h, fun _ _ _ => by rw [e], hb, fun _ _ h => ⟨h, rfl⟩, Nat.le_refl _⟩
/-- Some cells are said otherwise; nothing is turned. -/
theorem Kp.said {w0 : World} {ρ ρ' : Ren} {h : H} {w : World} {b d n z : Nat} {t t' : Dt AV d} (k : Kp w0 ρ h w) (hb0 : 0 < b) (hb5 : b < 8 ^ 5) (hk : h.at b = .c d t n z) (hs : ∀ q, q ≠ 0 → ρ' q = ρ q) (hsub : Sub ρ ρ')
    (hv : ∀ l, ρ b = some l → n ≤ 8 ^ d → ∀ i v, i < n → w.cell? ⟨l.B, l.O + i, none⟩ = some v → VR ρ (get d i t) v → VR ρ' (get d i t') v) :
    HR ρ' (.mk (put 5 b (.c d t' n z) h.t) h.nx) w ∧ (∀ B, Own ρ' (.mk (put 5 b (.c d t' n z) h.t) h.nx) B → w0.heap.size ≤ B) ∧ (H.mk (put 5 b (.c d t' n z) h.t) h.nx).at 0 = .no := by
  have hat : ∀ q, (H.mk (put 5 b (.c d t' n z) h.t) h.nx).at q = if q = b then .c d t' n z else h.at q := fun q => by
    rw [H.at_put hb5]; rw [H.eta]
  have h00 : (H.mk (put 5 b (.c d t' n z) h.t) h.nx).at 0 = .no := by rw [hat, if_neg (by omega)]; exact k.zn
  have hne : ∀ q, (H.mk (put 5 b (.c d t' n z) h.t) h.nx).at q ≠ .no → q ≠ 0 ∧ h.at q ≠ .no := fun q hq => by
    refine ⟨fun e => hq (by rw [e]; exact h00), fun e => ?_⟩
    rw [hat] at hq
    by_cases hqb : q = b
    · rw [hqb, hk] at e; cases e
    · rw [if_neg hqb] at hq; exact hq e
  refine ⟨⟨fun q l hq => ?_, fun q l hq hn => ?_, fun q1 q2 l1 l2 e1 e2 n1 n2 e => ?_, fun q hq => ?_⟩, fun B ⟨q, l, e1, e2, e3⟩ => ?_, h00⟩
  · show q < h.nx
    by_cases h0 : q = 0
    · rw [h0]; exact k.zx
    · exact k.hr.dom q l (by rw [← hs q h0]; exact hq)
  · obtain ⟨h0, hn'⟩ := hne q hn
    have hq' : ρ q = some l := by rw [← hs q h0]; exact hq
    obtain ⟨ob, g1, g2⟩ := k.hr.blk q l hq' hn'
    refine ⟨ob, g1, ?_⟩
    rw [hat]
    by_cases hqb : q = b
    · subst hqb
      rw [if_pos rfl]
      rw [hk] at g2
      obtain ⟨p0, cs, elem, fz, rfl, p1, p2, p3⟩ := g2
      refine ⟨p0, cs, elem, fz, rfl, p1, fun i hi => ?_, p3⟩
      obtain ⟨v, v1, v2⟩ := p2 i hi
      exact ⟨v, v1, hv l hq' p0 i v hi (by simp [World.cell?, g1, v1]) v2⟩
    · rw [if_neg hqb]; exact g2.mono hsub
  · obtain ⟨a1, b1⟩ := hne q1 n1
    obtain ⟨a2, b2⟩ := hne q2 n2
    exact k.hr.inj q1 q2 l1 l2 (by rw [← hs q1 a1]; exact e1) (by rw [← hs q2 a2]; exact e2) b1 b2 e
  · have hq : h.nx ≤ q := hq
    have := k.hr.cl q hq
    rw [hat]
    by_cases hqb : q = b
    · rw [hqb, hk] at this; cases this
    · rw [if_neg hqb]; exact this
  · obtain ⟨a1, b1⟩ := hne q e2
    exact k.own B ⟨q, l, by rw [← hs q a1]; exact e1, b1, e3⟩
/-! ### Bytes as one number -/
def encG (l : List Nat) : Nat := List.rec 0 (fun c _ ih => c + 256 * ih) l
theorem uB_encG : ∀ (l : List Nat), (∀ c ∈ l, c < 256) → ∀ i, uB (encG l) i = l.getD i 0
  | [], _, i => by show (0 / 256 ^ i) % 256 = _; simp
  | c :: l, h, 0 => by
    show ((c + 256 * encG l) / 256 ^ 0) % 256 = c
    have := h c (by simp)
    simp
    omega
  | c :: l, h, i + 1 => by
    have h1 := uB_encG l (fun d hd => h d (by simp [hd])) i
    have hc := h c (by simp)
    have h2 : (c + 256 * encG l) / 256 ^ (i + 1) = encG l / 256 ^ i := by
      rw [Nat.pow_succ, show 256 ^ i * 256 = 256 * 256 ^ i from Nat.mul_comm _ _, ← Nat.div_div_eq_div_mul]
      congr 1
      omega
    show ((c + 256 * encG l) / 256 ^ (i + 1)) % 256 = l.getD i 0
    rw [h2]
    exact h1
theorem at_lt {h : H} {b : Nat} (hk : h.at b ≠ .no) : b < 8 ^ 5 := by
  rcases Nat.lt_or_ge b (8 ^ 5) with h1 | h1
  · exact h1
  · exact absurd (by unfold H.at; rw [if_neg (by omega)]) hk
theorem rl_at {d : Nat} {tr : Dt AV d} : ∀ (k o j : Nat), j < k → (rlist d tr o k)[j]? = some (get d (o + j) tr)
  | 0, _, _, h => absurd h (Nat.not_lt_zero _)
  | k + 1, o, 0, _ => rfl
  | k + 1, o, j + 1, h => by
    show (rlist d tr (o + 1) k)[j]? = _
    rw [rl_at k (o + 1) j (by omega), show o + 1 + j = o + (j + 1) by omega]
theorem allB_true : ∀ {l : List AV}, allB l = true → ∀ (i : Nat) x, l[i]? = some x → isB x = true
  | [], _, i, x, h => by simp at h
  | y :: l, e, i, x, h => by
    obtain ⟨e1, e2⟩ := and_t (show and (isB y) (allB l) = true from e)
    cases i with
    | zero => simp at h; subst h; exact e1
    | succ i => exact allB_true e2 i x (by simpa using h)
theorem isB_ui {ρ : Ren} {x : AV} {v : Value} (e : isB x = true) (h : VR ρ x v) : VR ρ (.ui .u8) v := by
  cases x <;> try exact (Bool.false_ne_true e).elim
  case i k n =>
    obtain rfl : k = .u8 := kc_inj (nbeq e)
    obtain ⟨_, rfl⟩ := VR_i h
    simp only [VR]
    exact ⟨n, rfl⟩
theorem uis_at {i : Nat} (h : i < 161) : uis.getD i .un = .ui .u8 := by
  unfold uis
  rw [List.getD_eq_getElem?_getD, List.getElem?_replicate, if_pos h]; rfl
theorem ujs_at {f : Bool} {s i : Nat} (h : i < 161) : (ujs f s).getD i .un = .uj f s 161 i := by
  unfold ujs
  rw [List.getD_eq_getElem?_getD, List.getElem?_map, List.getElem?_range h]; rfl
theorem uis_len : uis.length = 161 := by simp [uis]
theorem ujs_len (f : Bool) (s : Nat) : (ujs f s).length = 161 := by simp [ujs]
theorem slR3 {ρ : Ren} {b o : Nat} {y1 y2 : AV} {a : Act} (hsz : a.tmps.size = 179) (h6 : VR ρ (.p b o) (a.tmps.getD 8 undef)) (h7 : VR ρ y1 (a.tmps.getD 11 undef)) (h8 : VR ρ y2 (a.tmps.getD 12 undef)) : SlR 179 ρ (slimT b o y1 y2) a := by
  refine ⟨hsz, fun n hn => ?_⟩
  unfold slimT
  rw [get_put 3 12 n _ _ (by decide) hn, get_put 3 11 n _ _ (by decide) hn, get_put 3 8 n _ _ (by decide) hn]
  by_cases e8 : n = 12
  · rw [if_pos e8, e8]; exact h8
  · rw [if_neg e8]
    by_cases e7 : n = 11
    · rw [if_pos e7, e7]; exact h7
    · rw [if_neg e7]
      by_cases e6 : n = 8
      · rw [if_pos e6, e6]; exact h6
      · rw [if_neg e6, T0, get_dflt]; simp only [VR]
def mu (a : Act) (_ : World) : Nat := match a.tmps.getD 14 undef with | .int _ n => (100 - n).toNat | _ => 0
theorem mu_of {a : Act} {w : World} {i : Nat} (h : a.tmps.getD 14 undef = .int .i64 (i : Int)) : mu a w = (100 - (i : Int)).toNat := by
  unfold mu; rw [h]
theorem rd_rng {l : List Int} (h : ∀ n ∈ l, (Lit.int .i64 n).wf = true) (i : Int) : -9223372036854775808 ≤ rd l i ∧ rd l i < 9223372036854775808 := by
  have hr : rd l i = 0 ∨ rd l i ∈ l := by
    unfold rd
    rw [List.getD_eq_getElem?_getD]
    cases hq : l[i.toNat]? with
    | none => exact .inl rfl
    | some x => exact .inr (List.mem_of_getElem? hq)
  rcases hr with hr | hr
  · rw [hr]; omega
  · have := h _ hr
    simp [Lit.wf, IntKind.min, IntKind.max, IntKind.bits, IntKind.signed] at this
    omega
def InvR (hw : H) (b o : Nat) (y1 y2 : AV) (w0 : World) (A : Option Addr) (l : List Int) (c : Nat) (a : Act) (w2 : World) : Prop :=
  ∃ (i : Nat) (ρ2 : Ren) (xb : Int), i ≤ 4 ∧ a.tmps.size = 179 ∧ a.defers = [] ∧ a.tmps.getD 1 undef = .slice A l.length c ∧ a.tmps.getD 14 undef = .int .i64 (i : Int) ∧ a.tmps.getD 2 undef = .int .u8 xb ∧ VR ρ2 (.p b o) (a.tmps.getD 8 undef) ∧ VR ρ2 y1 (a.tmps.getD 11 undef) ∧ VR ρ2 y2 (a.tmps.getD 12 undef) ∧ Kp w0 ρ2 hw w2
theorem VR_pp {ρ : Ren} {b o : Nat} {v u : Value} (h1 : VR ρ (.p b o) v) (h2 : VR ρ (.p b o) u) : v = u := by
  obtain ⟨l, e1, rfl⟩ := VR_p h1
  obtain ⟨l', e2, rfl⟩ := VR_p h2
  rw [e1] at e2; cases e2; rfl
theorem VRs_start (A : Option Addr) (L c : Nat) (zq xb : Int) (hq : -9223372036854775808 ≤ zq ∧ zq < 9223372036854775808) (hx : 0 < xb ∧ xb < 256) (j : Nat) (hj : (zq.tmod 3).natAbs = j) : VRs ρ0 [.sm j 3, .un, .ne .u8 0] (#[Value.int .i64 zq, Value.slice A L c, Value.int .u8 xb]).toList := by
  have wa : IntKind.i64.wrap zq = zq := by rw [IntKind.wrap_i64]; omega
  have wb : IntKind.u8.wrap xb = xb := by rw [IntKind.wrap_u8]; omega
  simp only [VRs, VR]
  exact ⟨_, _, rfl, ⟨zq, by rw [wa], by rw [wa]; exact hj⟩, _, _, rfl, trivial, _, _, rfl, ⟨xb, by rw [wb], by rw [wb]; intro h; have h : xb = IntKind.u8.wrap ((0 : Nat) : Int) := h; rw [show IntKind.u8.wrap ((0 : Nat) : Int) = 0 from by decide] at h; omega⟩, rfl⟩
/-- The bytes that stand in a block. -/
def bytesAt (w : World) (B O : Nat) : List Nat := (List.range 161).map fun i => match w.cell? ⟨B, O + i, none⟩ with | some (.int _ n) => n.toNat % 256 | _ => 0
theorem bytesAt_lt {w : World} {B O : Nat} : ∀ c ∈ bytesAt w B O, c < 256 := fun c hc => by
  obtain ⟨i, _, rfl⟩ := List.mem_map.1 hc
  split
  · exact Nat.mod_lt _ (by decide)
  · decide
theorem bytesAt_at {w : World} {B O i : Nat} {v : Value} {ρ : Ren} (hi : i < 161) (h : w.cell? ⟨B, O + i, none⟩ = some v) (hv : VR ρ (.ui .u8) v) : v = .int .u8 (((bytesAt w B O).getD i 0 : Nat) : Int) := by
  simp only [VR] at hv
  obtain ⟨n, rfl⟩ := hv
  unfold bytesAt
  rw [List.getD_eq_getElem?_getD, List.getElem?_map, List.getElem?_range hi]
  simp only [Option.map_some, Option.getD_some, h]
  congr 1
  rw [IntKind.wrap_u8]
  omega
theorem below_end {w0 w2 w3 : World} {ρ3 ρ4 : Ren} {h3 h4 : H} (bl : Below w0.heap.size w0 w2) (hown : ∀ B, Own ρ3 h3 B → w0.heap.size ≤ B) (e : Ext ρ3 h3 w2 ρ4 h4 w3) : Below w0.heap.size w0 w3 :=
  ⟨e.below.os.trans bl.os, e.below.tape.trans bl.tape, e.below.output.trans bl.output, Nat.le_trans bl.size e.below.size, fun B hB => by
    rw [e.keep B (Nat.lt_of_lt_of_le hB bl.size) (fun q => absurd (hown B q) (by omega))]
    exact bl.block B hB⟩
/-- The file's bytes, as one number; their sum is as it was, or not. -/
theorem turn {w0 w2 : World} {ρ : Ren} {hw : H} {fb s : Nat} {t : T} (K : Kp w0 ρ hw w2) (hfb : 0 < fb) (hT : turned CHx fb s t hw true = true) (hF : turned CHx fb s t hw false = true)
    (hc : ∀ lf, ρ fb = some lf → ∀ i, i < 161 → ∃ v, w2.cell? ⟨lf.B, lf.O + i, none⟩ = some v ∧ VR ρ (.ui .u8) v) :
    ∃ (ρ3 : Ren) (h3 : H), fin CHx t h3 = true ∧ HR ρ3 h3 w2 ∧ (∀ B, Own ρ3 h3 B → w0.heap.size ≤ B) ∧ Sub ρ ρ3 := by
  obtain ⟨G, hG⟩ : ∃ G, G = encG (bytesAt w2 ((ρ fb).getD ⟨0, 0, 0⟩).B ((ρ fb).getD ⟨0, 0, 0⟩).O) := ⟨_, rfl⟩
  have hsub : Sub ρ (upd ρ 0 ⟨G, 0, 0⟩) := Sub.upd K.z0
  have key : ∀ f : Bool, (uS G 161 = s ↔ f = true) → turned CHx fb s t hw f = true → ∃ (ρ3 : Ren) (h3 : H), fin CHx t h3 = true ∧ HR ρ3 h3 w2 ∧ (∀ B, Own ρ3 h3 B → w0.heap.size ≤ B) ∧ Sub ρ ρ3 := fun f hf e => by
    obtain ⟨d, tr, n, z, hk, hn, e⟩ := sts_true (show sts hw fb 0 (ujs f s) (fun h => fin CHx t h) = true from e)
    rw [ujs_len] at hn
    obtain ⟨r1, r2, r3⟩ := K.said (ρ' := upd ρ 0 ⟨G, 0, 0⟩) (t' := putl d (ujs f s) 0 tr) hfb (at_lt (by rw [hk]; simp)) hk (fun q hq => by simp only [upd]; rw [if_neg hq]) hsub (fun lf hlf h8 i v hi hcv hv => by
      rw [putl_get (ujs f s) 0 tr i (by rw [ujs_len]; omega) (by omega)]
      by_cases h161 : i < 161
      · rw [if_pos (by rw [ujs_len]; omega), Nat.sub_zero, ujs_at h161]
        obtain ⟨u, c1, c2⟩ := hc lf hlf i h161
        rw [hcv] at c1; cases c1
        have hb := bytesAt_at h161 hcv c2
        rw [hlf] at hG
        have hu := uB_encG (bytesAt w2 lf.B lf.O) bytesAt_lt i
        rw [show encG (bytesAt w2 lf.B lf.O) = G from hG.symm] at hu
        simp only [VR]
        exact ⟨⟨G, 0, 0⟩, upd_at _ _ _, by rw [hb, hu], h161, hf⟩
      · rw [if_neg (by rw [ujs_len]; omega)]
        exact VR.mono hsub _ _ hv)
    exact ⟨_, _, e, r1, r2, hsub⟩
  by_cases hs : uS G 161 = s
  · exact key true ⟨fun _ => rfl, fun _ => hs⟩ hT
  · exact key false ⟨fun h => absurd h hs, fun h => by cases h⟩ hF
theorem law_run (zq : Int) (hzq : -9223372036854775808 ≤ zq ∧ zq < 9223372036854775808) (j fb s : Nat) (hj : (zq.tmod 3).natAbs = j) (hrun : prefixRun CHx j fb s = true) (A : Option Addr) (c : Nat) (l : List Int) (xb : Int) (hxb : 0 < xb ∧ xb < 256) (w : World) (hR : (Kd.int .i64).C w A l.length l) (hL : l.length ≤ 9223372036854775807) (hwf : ∀ n ∈ l, (Lit.int .i64 n).wf = true) :
    Calls Tryz.prog 3 #[Value.int .i64 zq, Value.slice A l.length c, Value.int .u8 xb] w fun e w' => e = .returned (.bool true) ∧ Below w.heap.size w w' := by
  refine calls_of_wp Tryz.func3 cB_eq ?_
  rw [Tryz.ntmps3]
  obtain ⟨t, e1, ht⟩ := argsT_run hrun
  have hs : St 179 ρ0 t hW0 { tmps := #[Value.int .i64 zq, Value.slice A l.length c, Value.int .u8 xb] ++ Array.replicate (179 - #[Value.int .i64 zq, Value.slice A l.length c, Value.int .u8 xb].size) undef, defers := [] } w := ⟨SlR.enter (VRs_start A l.length c zq xb hzq hxb j hj) ht _, hr0 w, rfl⟩
  have hxs : ({ tmps := #[Value.int .i64 zq, Value.slice A l.length c, Value.int .u8 xb] ++ Array.replicate (179 - #[Value.int .i64 zq, Value.slice A l.length c, Value.int .u8 xb].size) undef, defers := [] } : Act).tmps.getD 1 undef = .slice A l.length c := by simp
  generalize ({ tmps := #[Value.int .i64 zq, Value.slice A l.length c, Value.int .u8 xb] ++ Array.replicate (179 - #[Value.int .i64 zq, Value.slice A l.length c, Value.int .u8 xb].size) undef, defers := [] } : Act) = a0 at hs hxs
  show cB.wp Tryz.prog _ a0 w
  refine pre_ok (P := Tryz.prog) (E := fun _ _ _ => false) (Z := fun _ _ => false) (K := fun t h => (compC Tryz.prog (pls 3) cI).run CHx (fun _ _ _ => false) (fun _ _ => false) t h (headK CHx fb s)) mixed_ok clone_ok (pls 3) (M := 179) (N := 179) (Nat.le_refl _) 1 (.slice A l.length c) _ chx_ok 11 cB ok_cB keep_run t hW0 e1 ρ0 a0 w hs hxs ?_ (fun _ _ _ ⟨_, _, _, _, _, q⟩ => (Bool.false_ne_true q).elim) (fun _ _ ⟨_, _, _, _, _, q⟩ => (Bool.false_ne_true q).elim)
  intro t' h' ρ' a' w' s' hx' hE hK
  rw [show tailC 11 cB = .seq (.seq cI (.block 2 (.loop cLp))) cS from cT_eq]
  refine wp_seq (wp_seq (wp_mono (code_okK mixed_ok clone_ok (pls 3) (Nat.le_refl 179) 1 _ cI ok_cI keep_cI CHx _ _ t' h' (headK CHx fb s) chx_ok hK ρ' a' w' s' hx') ?_))
  intro e a1 w1 q
  cases e with
  | exit id => obtain ⟨⟨_, _, _, _, _, q⟩, _⟩ := q; exact (Bool.false_ne_true q).elim
  | ret => obtain ⟨⟨_, _, _, _, _, q⟩, _⟩ := q; exact (Bool.false_ne_true q).elim
  | goto _ => exact q.1.elim
  | panic _ => exact q.1.elim
  | outgrown => exact q.1.elim
  | normal =>
    obtain ⟨⟨t1, h1, ρ1, s1, hE1, k1⟩, hx1⟩ := q
    obtain ⟨b, o, y1, ob, oo, c12, m2, g2, g14, g8, g11, g12, hbody⟩ := headK_true k1
    have K1 : Kp w ρ1 h1 w1 := (Kp.start w).ext s1.hp (hE.trans hE1)
    have v2 := s1.sl.2 2 (by decide)
    rw [g2] at v2
    obtain ⟨z2, v2, _⟩ := VR_ne v2
    have v14 := s1.sl.2 14 (by decide)
    rw [g14] at v14
    obtain ⟨_, v14⟩ := VR_i v14
    have v8 := s1.sl.2 8 (by decide)
    rw [g8] at v8
    have v11 := s1.sl.2 11 (by decide)
    rw [g11] at v11
    have v12 := s1.sl.2 12 (by decide)
    rw [g12] at v12
    obtain ⟨hfb, eb⟩ := gd_true (show gd (Nat.blt 0 fb) (lds h1 fb 0 161 (fun l => gd (allB l) (sts h1 fb 0 uis (fun h => gd (roundOk CHx b o y1 h) (gd (turned CHx fb s (slimT b o y1 (.sl ob oo 161 c12)) h true) (turned CHx fb s (slimT b o y1 (.sl ob oo 161 c12)) h false)))))) = true from hbody)
    have hfb : 0 < fb := by simpa [Nat.blt_eq] using hfb
    obtain ⟨d, tr, nn, z, hk, hon, eb⟩ := lds_true eb
    obtain ⟨hall, eb⟩ := gd_true eb
    obtain ⟨d', tr', nn', z', hk', hon', eb⟩ := sts_true eb
    rw [hk] at hk'
    cases hk'
    obtain ⟨hro, eb⟩ := gd_true eb
    obtain ⟨hT, hF⟩ := gd_true eb
    have hb5 : fb < 8 ^ 5 := at_lt (by rw [hk]; simp)
    obtain ⟨hw, ehw⟩ : ∃ hw, hw = H.mk (put 5 fb (.c d (putl d uis 0 tr) nn z) h1.t) h1.nx := ⟨_, rfl⟩
    rw [← ehw] at hro hT hF
    have hget : nn ≤ 8 ^ d → ∀ i, i < 161 → get d i (putl d uis 0 tr) = .ui .u8 := fun h8 i hi => by
      rw [putl_get uis 0 tr i (by rw [uis_len]; omega) (by omega), if_pos (by rw [uis_len]; omega), Nat.sub_zero, uis_at hi]
    have hkw : hw.at fb = .c d (putl d uis 0 tr) nn z := by rw [ehw, H.at_put (nx := h1.nx) hb5, if_pos rfl]
    have K2 : Kp w ρ1 hw w1 := by
      obtain ⟨r1, r2, r3⟩ := K1.said (ρ' := ρ1) (t' := putl d uis 0 tr) hfb hb5 hk (fun _ _ => rfl) (Sub.refl _) (fun lf hlf h8 i v hi hc hv => by
        by_cases h161 : i < 161
        · rw [hget h8 i h161]
          exact isB_ui (allB_true hall i _ (by rw [rl_at 161 0 i h161, Nat.zero_add])) hv
        · rw [putl_get uis 0 tr i (by rw [uis_len]; omega) (by omega), if_neg (by rw [uis_len]; omega)]
          exact hv)
      rw [← ehw] at r1 r2 r3
      exact ⟨r1, r2, K1.bl, K1.z0, r3, by rw [ehw]; exact K1.zx⟩
    have hcells : ∀ (ρ : Ren) (w2 : World), Kp w ρ hw w2 → ∀ lf, ρ fb = some lf → ∀ i, i < 161 → ∃ v, w2.cell? ⟨lf.B, lf.O + i, none⟩ = some v ∧ VR ρ (.ui .u8) v := fun ρ w2 K lf hlf i hi => by
      obtain ⟨v, c1, c2, _⟩ := cell_at K.hr.blk hlf hkw (o := i) (by omega)
      obtain ⟨ob, _, g2⟩ := K.hr.blk fb lf hlf (by rw [hkw]; simp)
      rw [hkw] at g2
      rw [hget g2.1 i hi] at c2
      exact ⟨v, c1, c2⟩
    obtain ⟨db, tb, nb, zb, hkb, hob, eRo⟩ := ldc_true hro
    obtain ⟨pb, po, hpv, hFS⟩ := onP_true eRo
    clear eRo hro hall hon hon' hk eb hbody k1 hE hE1 hK s' hx' hs ht e1 hrun g2 g14 g8 g11 g12
    refine wp_block (wp_loop (InvR hw b o y1 (.sl ob oo 161 c12) w A l c) mu ⟨0, ρ1, _, Nat.zero_le _, s1.sl.1, s1.df, hx1, v14, v2, v8, v11, v12, K2⟩ ?_)
    clear v14 v2 v8 v11 v12 K2 K1 s1 hx1
    rintro ⟨tm, df⟩ w2 ⟨i, ρ2, xb2, hi, hsz, hdf, q1, q14, q2, q8, q11, q12, K⟩
    simp only at hsz hdf q1 q14 q2 q8 q11 q12
    subst hdf
    obtain ⟨lb, hlb, e8⟩ := VR_p q8
    obtain ⟨l12, ad12, c12', _, e12, _⟩ := VR_sl q12
    obtain ⟨vp, hcp, hvp, _⟩ := cell_at K.hr.blk hlb hkb hob
    rw [hpv] at hvp
    have hcell : ∀ (ρ : Ren) (w3 : World), Kp w ρ hw w3 → Sub ρ2 ρ → w3.cell? ⟨lb.B, lb.O + o, none⟩ = some vp := fun ρ w3 K3 hs => by
      obtain ⟨u, c1, c2, _⟩ := cell_at K3.hr.blk (hs _ _ hlb) hkb hob
      rw [hpv] at c2
      rw [c1, VR_pp c2 (VR.mono hs _ _ hvp)]
    refine roundA tm hsz A l.length c i l ⟨lb.B, lb.O + o, none⟩ ad12 vp c12' xb2 w w2 q1 q14 e8 q2 e12 hcp hR rfl K.bl hL _ ?_ ?_
    · rintro a' ⟨z1, z2, z3, z4, z5, z6, z7⟩ _
      show if (2 : Nat) = 2 then cS.wp Tryz.prog (bodyPost Tryz.prog Tryz.f3 (fun e w' => e = Ending.returned (.bool true) ∧ Below w.heap.size w w')) a' w2 else bodyPost Tryz.prog Tryz.f3 (fun e w' => e = Ending.returned (.bool true) ∧ Below w.heap.size w w') (.exit 2) a' w2
      rw [if_pos rfl]
      obtain ⟨ρ3, h3, hf3, hr3, hown, hsub⟩ := turn K hfb hT hF (hcells ρ2 w2 K)
      have hsl : SlR 179 ρ3 (slimT b o y1 (.sl ob oo 161 c12)) a' := slR3 z1 (by rw [z5]; exact VR.mono hsub _ _ q8) (by rw [z6]; exact VR.mono hsub _ _ q11) (by rw [z7]; exact VR.mono hsub _ _ q12)
      refine wp_mono (code_ok mixed_ok clone_ok (pls 3) (Nat.le_refl 179) cS ok_cS CHx (fun _ _ _ => false) KR (slimT b o y1 (.sl ob oo 161 c12)) h3 KR chx_ok hf3 ρ3 a' w2 ⟨hsl, hr3, z2⟩) fun e a3 w3 q => ?_
      have fin3 : Nxt 179 ρ3 h3 w2 KR a3 w3 → a3.defers = [] ∧ ∃ v, (results Tryz.f3 a3.tmps).run Tryz.prog w3 = .ok v w3 ∧ (Ending.returned v = .returned (.bool true) ∧ Below w.heap.size w w3) := fun ⟨t4, h4, ρ4, s4, e4, k4⟩ => by
        obtain ⟨v, u1, u2⟩ := resOf_ok (fn := Tryz.f3) k4
        obtain ⟨v', u3, u4⟩ := u2 _ ρ4 a3 w3 s4.sl s4.hp
        obtain ⟨bb, rfl, u5⟩ := onB_true u1
        have u5 : bb = true := u5
        subst u5
        rw [VR_b u4] at u3
        exact ⟨s4.df, _, u3, rfl, below_end K.bl hown e4⟩
      cases e with
      | normal => exact fin3 q
      | ret => exact fin3 q
      | exit id => obtain ⟨_, _, _, _, _, q⟩ := q; exact (Bool.false_ne_true q).elim
      | goto _ => exact q.elim
      | panic _ => exact q.elim
      | outgrown => exact q.elim
    · intro hlt hcap W hW hWb
      have KW : Kp w ρ2 hw W := K.same hW (below_0 hWb)
      refine (chx_ok 14 [.p pb po] hw _ hFS ρ2 #[vp] W KW.hr (by simp only [VRs]; exact ⟨_, _, rfl, hvp, rfl⟩)).mono ?_
      rintro e_ w3 ⟨v', rfl, v, h3, ρ3, hF3, hr3, hE3, hv3⟩
      obtain ⟨hq, hF4⟩ := gd_true hF3
      obtain ⟨k1, k2⟩ := back hq KW.hr hr3 hE3
      have K3 : Kp w ρ3 hw w3 := KW.ext k1 k2
      refine ⟨v', rfl, hcell ρ3 w3 K3 k2.sub, K3.bl, ?_⟩
      have hrng := rd_rng hwf (i : Int)
      refine (small_exact (rd l (i : Int)) 3 hrng (by omega) w3).mono ?_
      rintro e_ w4 ⟨rfl, hb4, hh4⟩
      have K4 : Kp w ρ3 hw w4 := K3.same hh4 (below_0 hb4)
      refine ⟨_, rfl, hcell ρ3 w4 K4 k2.sub, K4.bl, ?_⟩
      intro zz hz0 hz1
      have hvr : VR ρ3 (.rg .i64 9223372036854775808 3) (.int .i64 (((rd l (i : Int)).tmod 3).natAbs : Int)) := by
        have t1 := Int.tmod_lt_of_pos (rd l (i : Int)) (show (0 : Int) < 3 by decide)
        have t2 := Int.lt_tmod_of_pos (rd l (i : Int)) (show (0 : Int) < 3 by decide)
        have hwq : IntKind.i64.wrap (((rd l (i : Int)).tmod 3).natAbs : Int) = (((rd l (i : Int)).tmod 3).natAbs : Int) := by rw [IntKind.wrap_i64]; omega
        have hf : (hf IntKind.i64 : Int) = 9223372036854775808 := rfl
        simp only [VR]
        exact ⟨_, by rw [hwq], .inr (by rw [hwq, hf]; omega)⟩
      have hvz : VR ρ3 (.ui .u8) (.int .u8 zz) := by
        have hwz : IntKind.u8.wrap zz = zz := by rw [IntKind.wrap_u8]; omega
        simp only [VR]
        exact ⟨zz, by rw [hwz]⟩
      refine (chx_ok 16 [v, y1, .rg .i64 9223372036854775808 3, .ui .u8] hw _ hF4 ρ3 #[v', tm.getD 11 undef, .int .i64 (((rd l (i : Int)).tmod 3).natAbs : Int), .int .u8 zz] w4 K4.hr (by simp only [VRs]; exact ⟨_, _, rfl, hv3, _, _, rfl, VR.mono k2.sub _ _ q11, _, _, rfl, hvr, _, _, rfl, hvz, rfl⟩)).mono ?_
      rintro e_ w5 ⟨v5, rfl, v6, h5, ρ5, hF5, hr5, hE5, _⟩
      obtain ⟨k5, k6⟩ := back hF5 K4.hr hr5 hE5
      have K5 : Kp w ρ5 hw w5 := K4.ext k5 k6
      have hs5 : Sub ρ2 ρ5 := k2.sub.trans k6.sub
      refine ⟨⟨_, rfl⟩, hcell ρ5 w5 K5 hs5, K5.bl, ?_⟩
      rintro a' ⟨z1, z2, z3, z4, z5, z6, z7, z14⟩
      refine ⟨⟨i + 1, ρ5, xb2, by omega, z1, z2, z3.trans q1, z14, z4.trans q2, by rw [z5]; exact VR.mono hs5 _ _ q8, by rw [z6]; exact VR.mono hs5 _ _ q11, by rw [z7]; exact VR.mono hs5 _ _ q12, K5⟩, ?_⟩
      have hm : mu ⟨tm, []⟩ w2 = (100 - (i : Int)).toNat := mu_of q14
      show mu a' w5 < mu ⟨tm, []⟩ w2
      rw [hm, mu_of z14]
      omega

end
end Go.Proofs.YtlpffldeogapmaaGreatDoor.Rq
