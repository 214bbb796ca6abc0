/- What a function of bytes answers, out of a table: shown once, on a heap that bears its bytes alone. No condition. -/
import Derived.Test.YtlpffldeogapmaaGreatDoorProg
import Derived.Below
import Derived.Deep.Draws
import Derived.Deep.AppendLies
import Derived.Maps.AppendAt
import Derived.OwnWalk
import Derived.Laws.BytesArg
import Derived.Laws.MakeOwn
import Derived.Laws.OwnMore
import Derived.Deep.OwnRows
import Derived.Tactics
import Derived.Lib.ConvBytes
import Derived.Laws.Slices
import Derived.WalkKit
import Derived.KernelRfl
import Derived.RowKit3
import Derived.Deep.LoopGhost
import Derived.Deep.QuietTactic
import Derived.BigQuiet
import Derived.WideLaws
import Derived.Deep.DeepCutAuto
import Derived.Deep.CutBlock
import Derived.Deep.RegionHeld3
import Derived.Laws.Rows
import Derived.Lib.AppendStr
import Derived.ArgAppend
import Derived.Laws.IdiomCopy
import Derived.OrdersHeld
import Derived.Laws.BitsLemmas
import Derived.RowKit
import Derived.WalkSpells
import Derived.Outline
import Derived.Test.YtlpffldeogapmaaGreatDoorWWords
import Derived.Test.YtlpffldeogapmaaGreatDoorWLast
import Derived.Test.YtlpffldeogapmaaGreatDoorWMore
import Derived.Test.YtlpffldeogapmaaGreatDoorWArr
import Derived.Test.YtlpffldeogapmaaGreatDoorWTab
import Derived.Test.YtlpffldeogapmaaGreatDoorWZeros
import Derived.Test.YtlpffldeogapmaaGreatDoorWRepsOne
import Derived.Test.YtlpffldeogapmaaGreatDoorEuE
namespace Go.Proofs.YtlpffldeogapmaaGreatDoor.Me
open Go.RowKit Go.Proofs.YtlpffldeogapmaaGreatDoorW.PrintWords Go.Proofs.YtlpffldeogapmaaGreatDoorW.PrintLast Go.Proofs.YtlpffldeogapmaaGreatDoorW.PrintMore Go.Proofs.YtlpffldeogapmaaGreatDoor.Ev Go.Proofs.YtlpffldeogapmaaGreatDoor.EuE
set_option linter.unusedSimpArgs false
set_option linter.unusedVariables false
attribute [local go_sem] max2_int min2_int max_two min_two

open Go.MapKept
set_option linter.unusedSectionVars false
variable [GO]
noncomputable section
/-- Block (z, bytes) and slice (o, n, c) that are given, and that are answered. -/
structure Ent where
  z : Nat
  l : List Nat
  o : Nat
  n : Nat
  c : Nat
  z' : Nat
  l' : List Nat
  o' : Nat
  n' : Nat
  c' : Nat
def bys (l : List Nat) : List AV := List.rec (motive := fun _ => List AV) [] (fun x _ ih => .i .u8 x :: ih) l
def eqBs (l : List AV) : List Nat → R := List.rec (motive := fun _ => List Nat → R) (fun m => List.rec (motive := fun _ => R) true (fun _ _ _ => false) m) (fun x _ ih m => List.rec (motive := fun _ => R) false (fun y r _ => onI (fun k n => keq k .u8 (gd (Nat.beq n y) (ih r))) x) m) l
def blkEq (h : H) (b z : Nat) (l : List Nat) : R := onH (fun ht _ => (acc Blk 5 b).run (onC (fun d tr n z' => gd (Nat.beq z' z) (gd (Nat.beq n (llen l)) (rdl d tr n 0 (fun m => eqBs m l))))) ht) h
def entAt (e : Ent) (h : H) (b o n c : Nat) : R := gd (Nat.beq o e.o) (gd (Nat.beq n e.n) (gd (Nat.beq c e.c) (blkEq h b e.z e.l)))
def entDo (e : Ent) (h : H) (k : AV → H → R) : R := mkBlk e.z' (bys e.l') (fun kb => Ev.new h kb (fun nx h => k (.sl nx e.o' e.n' e.c') h))
def memoF (x : FF) (tab : List Ent) : FF := ⟨fun cH l h k => gd (Nat.beq (llen l) 1) (nth 0 l (onSl (fun b o n c => List.rec (motive := fun _ => R) (x.run cH l h k) (fun e _ ih => Bool.rec (motive := fun _ => R) ih (entDo e h k) (entAt e h b o n c)) tab)))⟩
def H0 (k : Blk) : H := .mk (put 5 1 k (dflt .no 5)) 2
def chkE (e : Ent) (v : AV) (h : H) : R := onSl (fun r o n c => Bool.rec (motive := fun _ => R) (gd (Nat.beq o e.o') (gd (Nat.beq n e.n') (gd (Nat.beq c e.c') (gd (blkEq h 1 e.z e.l) (blkEq h r e.z' e.l'))))) false (Nat.beq r 1)) v
def entOk (cH : CH) (g : Nat) (e : Ent) : R := mkBlk e.z (bys e.l) (fun kb => cH g [.sl 1 e.o e.n e.c] (H0 kb) (chkE e))
def entsOk (cH : CH) (g : Nat) (l : List Ent) : R := List.rec (motive := fun _ => R) true (fun e _ ih => gd (entOk cH g e) ih) l

theorem bys_eq : ∀ (l : List Nat), bys l = l.map (AV.i .u8)
  | [] => rfl
  | x :: l => by show AV.i .u8 x :: bys l = _; rw [bys_eq l]; rfl
theorem eqBs_true : ∀ {l : List AV} {m : List Nat}, eqBs l m = true → l = bys m
  | [], [], _ => rfl
  | [], _ :: _, h => (Bool.false_ne_true h).elim
  | _ :: _, [], h => (Bool.false_ne_true h).elim
  | x :: l, y :: m, h => by
    obtain ⟨k, n, rfl, h1⟩ := onI_true (show onI (fun k n => keq k .u8 (gd (Nat.beq n y) (eqBs l m))) x = true from h)
    obtain ⟨rfl, h2⟩ := keq_true h1
    obtain ⟨h3, h4⟩ := gd_true h2
    rw [Nat.eq_of_beq_eq_true h3, eqBs_true h4]; rfl
theorem rlist_at {d : Nat} {tr : Dt AV d} : ∀ (k o j : Nat), j < k → (rlist d tr o k)[j]? = some (get d (o + j) tr)
  | 0, _, _, h => absurd h (Nat.not_lt_zero _)
  | k + 1, o, 0, _ => rfl
  | k + 1, o, j + 1, h => by
    show (rlist d tr (o + 1) k)[j]? = _
    rw [rlist_at k (o + 1) j (by omega), show o + 1 + j = o + (j + 1) by omega]
/-- The block bears these bytes. -/
def IsB (k : Blk) (z : Nat) (l : List Nat) : Prop := ∃ d t, k = .c d t l.length z ∧ ∀ (i : Nat) (x : Nat), l[i]? = some x → get d i t = .i .u8 x
def Bnd : Blk → Prop
  | .c d _ n _ => n ≤ 8 ^ d
  | _ => True
theorem BlkR.bnd {ρ : Ev.Ren} {k : Blk} {l : Ev.Loc} {o : Obj} (h : BlkR ρ k l o) : Bnd k := by
  cases k <;> first | trivial | exact h.1
theorem IsB.laid {k : Blk} {z : Nat} {l : List Nat} (h : LaidBy k (bys l) z) : IsB k z l ∧ Bnd k := by
  obtain ⟨d, t, rfl, h1, h2⟩ := h
  rw [bys_eq] at h1 h2 ⊢
  rw [List.length_map] at h1 ⊢
  exact ⟨⟨d, t, rfl, fun i x hx => h2 i _ (by rw [List.getElem?_map, hx]; rfl)⟩, h1⟩
theorem IsB.of {h : H} {b z : Nat} {l : List Nat} (e : blkEq h b z l = true) : IsB (h.at b) z l := by
  cases h with
  | mk ht nx =>
    obtain ⟨hb, q1⟩ := acc_run (show (acc Blk 5 b).run _ ht = true from e)
    obtain ⟨d, t, n, z1, hk, q2⟩ := onC_true q1
    obtain ⟨h1, q3⟩ := gd_true q2
    obtain ⟨h2, q4⟩ := gd_true q3
    have h1 := Nat.eq_of_beq_eq_true h1
    have h2 := Nat.eq_of_beq_eq_true h2
    rw [llen_eq] at h2
    subst h1 h2
    have h3 := eqBs_true (rdl_true q4)
    refine ⟨d, t, H.at_of hb hk, fun i x hx => ?_⟩
    have hi : i < l.length := (List.getElem?_eq_some_iff.1 hx).1
    have := rlist_at (tr := t) l.length 0 i hi
    rw [h3, bys_eq, List.getElem?_map, hx, Nat.zero_add] at this
    injection this with this
    exact this.symm
theorem BlkR.bytes {ρ ρ' : Ev.Ren} {k k' : Blk} {z : Nat} {l : List Nat} {lc : Ev.Loc} {o : Obj} (h1 : IsB k z l) (h2 : IsB k' z l) (hb : Bnd k') (r : BlkR ρ k lc o) : BlkR ρ' k' lc o := by
  obtain ⟨d, t, rfl, g1⟩ := h1
  obtain ⟨d2, t2, rfl, g2⟩ := h2
  obtain ⟨_, cs, elem, fz, e, s, hc, hf⟩ := r
  refine ⟨hb, cs, elem, fz, e, s, fun i hi => ?_, hf⟩
  obtain ⟨v, hv, hr⟩ := hc i hi
  have hx : l[i]? = some (l[i]'hi) := List.getElem?_eq_getElem hi
  refine ⟨v, hv, ?_⟩
  rw [g1 i _ hx] at hr
  rw [g2 i _ hx]
  simpa only [VR] using hr
theorem IsB.ne {k : Blk} {z : Nat} {l : List Nat} (h : IsB k z l) : k ≠ .no := by
  obtain ⟨d, t, rfl, _⟩ := h
  simp
theorem memo_rec {x : FF} {cH : CH} {l : List AV} {h : H} {k : AV → H → R} {b o n c : Nat} : ∀ {tab : List Ent}, (List.rec (motive := fun _ => R) (x.run cH l h k) (fun e _ ih => Bool.rec (motive := fun _ => R) ih (entDo e h k) (entAt e h b o n c)) tab : R) = true →
    x.run cH l h k = true ∨ ∃ e ∈ tab, entAt e h b o n c = true ∧ entDo e h k = true
  | [], e => .inl e
  | en :: tab, e => by
    have e : (Bool.rec (motive := fun _ => R) (List.rec (motive := fun _ => R) (x.run cH l h k) (fun e _ ih => Bool.rec (motive := fun _ => R) ih (entDo e h k) (entAt e h b o n c)) tab) (entDo en h k) (entAt en h b o n c) : R) = true := e
    cases hh : entAt en h b o n c with
    | true => rw [hh] at e; exact .inr ⟨en, by simp, hh, e⟩
    | false =>
      rw [hh] at e
      rcases memo_rec (tab := tab) e with h1 | ⟨q, h1, h2⟩
      · exact .inl h1
      · exact .inr ⟨q, by simp [h1], h2⟩
theorem entsOk_at {cH : CH} {g : Nat} : ∀ {l : List Ent}, entsOk cH g l = true → ∀ e ∈ l, entOk cH g e = true
  | [], _, _, h => by cases h
  | x :: l, e, y, h => by
    obtain ⟨h1, h2⟩ := gd_true (show gd (entOk cH g x) (entsOk cH g l) = true from e)
    rcases List.mem_cons.1 h with rfl | h
    · exact h1
    · exact entsOk_at h2 y h
theorem H0_at (k : Blk) (b : Nat) : (H0 k).at b = if b = 1 then k else .no := by
  have h := H.at_put (ht := dflt .no 5) (nx := 2) (nx' := 2) (b := 1) (by decide) k b
  unfold H0
  rw [h]
  by_cases hb : b = 1
  · rw [if_pos hb, if_pos hb]
  · rw [if_neg hb, if_neg hb]
    unfold H.at
    split
    · exact get_dflt _ _ _
    · rfl
def ρ1 (ρ : Ev.Ren) (b : Nat) : Ev.Ren := fun x => if x = 1 then ρ b else none
theorem ρ1_some {ρ : Ev.Ren} {b x : Nat} {l : Ev.Loc} (h : ρ1 ρ b x = some l) : x = 1 ∧ ρ b = some l := by
  unfold ρ1 at h
  split at h
  · rename_i q; exact ⟨q, h⟩
  · cases h
theorem ρ1_at (ρ : Ev.Ren) (b : Nat) : ρ1 ρ b 1 = ρ b := if_pos rfl
theorem memo_ok {P : Program} {g : Nat} {x : FF} {cH0 : CH} (h0 : CHok P cH0) (hx : FnOk P g x) {tab : List Ent} (ht : entsOk cH0 g tab = true) : FnOk P g (memoF x tab) := by
  intro cH hc args h F e ρ vs w hr hv
  obtain ⟨hl, e⟩ := gd_true (show gd (Nat.beq (llen args) 1) (nth 0 args (onSl (fun b o n c => List.rec (motive := fun _ => R) (x.run cH args h F) (fun e _ ih => Bool.rec (motive := fun _ => R) ih (entDo e h F) (entAt e h b o n c)) tab))) = true from e)
  obtain ⟨v0, hv0, e⟩ := nth_true e
  obtain ⟨b, o, n, c, rfl, e⟩ := onSl_true e
  rcases memo_rec e with e1 | ⟨en, hm, e1, e2⟩
  · exact hx cH hc args h F e1 ρ vs w hr hv
  have eo := entsOk_at ht en hm
  obtain ⟨a1, y1⟩ := gd_true e1
  obtain ⟨a2, y2⟩ := gd_true y1
  obtain ⟨a3, y3⟩ := gd_true y2
  have a1 := Nat.eq_of_beq_eq_true a1
  have a2 := Nat.eq_of_beq_eq_true a2
  have a3 := Nat.eq_of_beq_eq_true a3
  subst a1 a2 a3
  have hb := IsB.of y3
  obtain ⟨kb, ek, hlk⟩ := mkBlk_true eo
  obtain ⟨ik, bk⟩ := IsB.laid hlk
  obtain ⟨v, pv, qv⟩ := hv.at 0 _ hv0
  obtain ⟨lc, ad, cc, hρ, _⟩ := VR_sl qv
  have hargs : vs.toList = [v] := by
    have hn := hv.length
    rw [← llen_eq args, Nat.eq_of_beq_eq_true hl] at hn
    match hvl : vs.toList, hn, pv with
    | [a], _, pv => simp at pv; rw [pv]
  have hr1 : HR (ρ1 ρ b) (H0 kb) w := ⟨fun x l hq => by rw [(ρ1_some hq).1]; exact Nat.lt_succ_self 1, fun x l hq hk => by
      obtain ⟨rfl, hq⟩ := ρ1_some hq
      obtain ⟨ob, g1, g2⟩ := hr.blk b l hq hb.ne
      rw [H0_at, if_pos rfl]
      exact ⟨ob, g1, BlkR.bytes hb ik bk g2⟩, fun x y l l' hx hy _ _ _ => by rw [(ρ1_some hx).1, (ρ1_some hy).1], fun x hx => by
      have hx : 2 ≤ x := hx
      rw [H0_at, if_neg (by omega)]⟩
  have hv1 : VRs (ρ1 ρ b) [.sl 1 en.o en.n en.c] vs.toList := by
    rw [hargs]
    simp only [VRs]
    refine ⟨v, [], rfl, ?_, rfl⟩
    simp only [VR] at qv ⊢
    rw [ρ1_at]; exact qv
  refine (h0 g _ _ _ ek (ρ1 ρ b) vs w hr1 hv1).mono ?_
  rintro e_ w' ⟨v', rfl, rv, h', ρ', f1, hr', hE, f4⟩
  obtain ⟨r, o', n', c', rfl, f2⟩ := onSl_true f1
  have hne : r ≠ 1 ∧ (gd (Nat.beq o' en.o') (gd (Nat.beq n' en.n') (gd (Nat.beq c' en.c') (gd (blkEq h' 1 en.z en.l) (blkEq h' r en.z' en.l'))))) = true := by
    cases hq : Nat.beq r 1 with
    | true => rw [hq] at f2; exact (Bool.false_ne_true f2).elim
    | false => rw [hq] at f2; exact ⟨fun q => (by rw [q] at hq; exact absurd hq (by decide)), f2⟩
  have hr1n := hne.1
  obtain ⟨b1, y4⟩ := gd_true hne.2
  obtain ⟨b2, y5⟩ := gd_true y4
  obtain ⟨b3, y6⟩ := gd_true y5
  obtain ⟨b4, b5⟩ := gd_true y6
  have b1 := Nat.eq_of_beq_eq_true b1
  have b2 := Nat.eq_of_beq_eq_true b2
  have b3 := Nat.eq_of_beq_eq_true b3
  subst b1 b2 b3
  have i1 := IsB.of b4
  have i2 := IsB.of b5
  obtain ⟨kr, e3, hlr⟩ := mkBlk_true e2
  obtain ⟨ir, br⟩ := IsB.laid hlr
  obtain ⟨hn5, e4⟩ := new_true e3
  have hr0 : HR ρ (.mk h.t h.nx) w := by rw [H.eta]; exact hr
  have hs1 : ρ' 1 = some lc := hE.sub 1 lc (by rw [ρ1_at]; exact hρ)
  have hvr := f4
  obtain ⟨lr, _, _, hlr', _⟩ := VR_sl f4
  obtain ⟨ob, go1, go2⟩ := hr'.blk r lr hlr' i2.ne
  have hneB : lr.B ≠ lc.B := fun q => hr1n (hr'.inj r 1 lr lc hlr' hs1 i2.ne i1.ne q)
  have hge : w.heap.size ≤ lr.B := by
    rcases hE.own lr.B ⟨r, lr, hlr', i2.ne, rfl⟩ with ⟨q, l, hq, _, hB⟩ | h1
    · have hq' := (ρ1_some hq).2
      rw [hρ] at hq'; cases hq'
      exact absurd hB.symm hneB
    · exact h1
  -- the old blocks, behind the call
  have hA : ∀ q l, ρ q = some l → h.at q ≠ .no → ∃ ob, w'.heap[l.B]? = some ob ∧ BlkR ρ (h.at q) l ob := fun q l hq hk => by
    obtain ⟨ob, g1, g2⟩ := hr.blk q l hq hk
    by_cases hqb : q = b
    · subst hqb
      rw [hρ] at hq; cases hq
      obtain ⟨ob', k1, k2⟩ := hr'.blk 1 lc hs1 i1.ne
      exact ⟨ob', k1, BlkR.bytes i1 hb (BlkR.bnd g2) k2⟩
    · refine ⟨ob, ?_, g2⟩
      rw [hE.keep l.B (hr.lt hq hk) (fun ⟨q', l', hq', _, hB⟩ => by
        obtain ⟨rfl, hq'⟩ := ρ1_some hq'
        exact hqb (hr.inj q b l l' hq hq' hk hb.ne hB.symm))]
      exact g1
  have hs := Sub.upd (l := lr) hr0.fresh
  have ltA : ∀ q l, q ≠ h.nx → upd ρ h.nx lr q = some l → h.at q ≠ .no → l.B < w.heap.size := fun q l e hb hk => hr.lt (b := q) (by simpa [upd, e] using hb) hk
  have hat : ∀ q, (H.mk (put 5 h.nx kr h.t) (h.nx + 1)).at q = if q = h.nx then kr else h.at q := fun q => by
    rw [H.at_put hn5 kr q]; congr 1
  have hR : HR (upd ρ h.nx lr) (.mk (put 5 h.nx kr h.t) (h.nx + 1)) w' := by
    refine ⟨fun q l hq => ?_, fun q l hq hk => ?_, fun q1 q2 l1 l2 k1 k2 k3 k4 q => ?_, fun q hq => ?_⟩
    · show q < h.nx + 1
      by_cases e : q = h.nx
      · omega
      · have : q < h.nx := hr.dom q l (by simpa [upd, e] using hq)
        omega
    · rw [hat] at hk ⊢
      by_cases e : q = h.nx
      · subst e
        rw [upd_at] at hq; cases hq
        rw [if_pos rfl]
        exact ⟨ob, go1, BlkR.bytes i2 ir br go2⟩
      · rw [if_neg e] at hk ⊢
        obtain ⟨o2, g1, g2⟩ := hA q l (by simpa [upd, e] using hq) hk
        exact ⟨o2, g1, g2.mono hs⟩
    · rw [hat] at k3
      rw [hat] at k4
      by_cases e1 : q1 = h.nx <;> by_cases e2 : q2 = h.nx
      · rw [e1, e2]
      · exfalso
        rw [e1, upd_at] at k1; cases k1
        rw [if_neg e2] at k4
        have := ltA q2 l2 e2 k2 k4
        omega
      · exfalso
        rw [e2, upd_at] at k2; cases k2
        rw [if_neg e1] at k3
        have := ltA q1 l1 e1 k1 k3
        omega
      · rw [if_neg e1] at k3
        rw [if_neg e2] at k4
        exact hr.inj q1 q2 l1 l2 (by simpa [upd, e1] using k1) (by simpa [upd, e2] using k2) k3 k4 q
    · have hq : h.nx + 1 ≤ q := hq
      rw [hat, if_neg (by omega)]
      exact hr.cl q (by omega)
  have hX : Ext ρ h w (upd ρ h.nx lr) (.mk (put 5 h.nx kr h.t) (h.nx + 1)) w' := by
    refine ⟨hs, fun B hB => ?_, fun B hB hn => ?_, hE.below, fun q hq hn => ?_, by show h.nx ≤ h.nx + 1; omega⟩
    · obtain ⟨q, l, h1, h2, h3⟩ := hB
      rw [hat] at h2
      by_cases e : q = h.nx
      · rw [e, upd_at] at h1; cases h1
        exact .inr (by omega)
      · rw [if_neg e] at h2
        exact .inl ⟨q, l, by simpa [upd, e] using h1, h2, h3⟩
    · exact hE.keep B hB (fun ⟨q', l', hq', _, hB'⟩ => by
        obtain ⟨rfl, hq'⟩ := ρ1_some hq'
        exact hn ⟨b, l', hq', hb.ne, hB'⟩)
    · exact ⟨by simp only [upd]; rw [if_neg (by omega)]; exact hn, by rw [hat, if_neg (by omega)]⟩
  refine ⟨_, rfl, _, _, _, e4, hR, hX, ?_⟩
  simp only [VR] at hvr ⊢
  rw [upd_at]
  rw [hlr'] at hvr
  exact hvr
end
end Go.Proofs.YtlpffldeogapmaaGreatDoor.Me
