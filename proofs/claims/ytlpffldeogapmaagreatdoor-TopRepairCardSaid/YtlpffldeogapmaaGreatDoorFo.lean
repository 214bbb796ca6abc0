/- number.GetFour in the evaluator: four bytes that were changed. No condition. -/
import Derived.Test.YtlpffldeogapmaaGreatDoorProg
import Derived.Below
import Derived.Deep.Draws
import Derived.Deep.AppendLies
import Derived.Maps.AppendAt
import Derived.OwnWalk
import Derived.Laws.BytesArg
import Derived.Laws.MakeOwn
import Derived.Laws.OwnMore
import Derived.Deep.OwnRows
import Derived.Tactics
import Derived.Lib.ConvBytes
import Derived.Laws.Slices
import Derived.WalkKit
import Derived.KernelRfl
import Derived.RowKit3
import Derived.Deep.LoopGhost
import Derived.Deep.QuietTactic
import Derived.BigQuiet
import Derived.WideLaws
import Derived.Deep.DeepCutAuto
import Derived.Deep.CutBlock
import Derived.Deep.RegionHeld3
import Derived.Laws.Rows
import Derived.Lib.AppendStr
import Derived.ArgAppend
import Derived.Laws.IdiomCopy
import Derived.OrdersHeld
import Derived.Laws.BitsLemmas
import Derived.RowKit
import Derived.WalkSpells
import Derived.Outline
import Derived.Test.YtlpffldeogapmaaGreatDoorWWords
import Derived.Test.YtlpffldeogapmaaGreatDoorWLast
import Derived.Test.YtlpffldeogapmaaGreatDoorWMore
import Derived.Test.YtlpffldeogapmaaGreatDoorWArr
import Derived.Test.YtlpffldeogapmaaGreatDoorWTab
import Derived.Test.YtlpffldeogapmaaGreatDoorWZeros
import Derived.Test.YtlpffldeogapmaaGreatDoorWRepsOne
import Derived.Test.YtlpffldeogapmaaGreatDoorSm
namespace Go.Proofs.YtlpffldeogapmaaGreatDoor.Fo
open Go.RowKit Go.Proofs.YtlpffldeogapmaaGreatDoorW.PrintWords Go.Proofs.YtlpffldeogapmaaGreatDoorW.PrintLast Go.Proofs.YtlpffldeogapmaaGreatDoorW.PrintMore Go.Proofs.YtlpffldeogapmaaGreatDoor.Ev Go.Proofs.YtlpffldeogapmaaGreatDoor.Sm
set_option linter.unusedSimpArgs false
set_option linter.unusedVariables false
attribute [local go_sem] max2_int min2_int max_two min_two

open Go.MapKept
theorem bits_or_comm (k : IntKind) (x y : Int) : Go.bits .or k x y = Go.bits .or k y x := by
  simp only [Go.bits, BitVec.or_comm]
theorem or4 {a b c d : Int} (ha : 0 ≤ a ∧ a < 256) (hb : 0 ≤ b ∧ b < 256) (hc : 0 ≤ c ∧ c < 256) (hd : 0 ≤ d ∧ d < 256) :
    Go.bits .or .u32 (Go.bits .or .u32 (Go.bits .or .u32 (a % 4294967296) (((b % 4294967296) * 256) % 4294967296)) (((c % 4294967296) * 65536) % 4294967296)) (((d % 4294967296) * 16777216) % 4294967296) = a + 256 * b + 65536 * c + 16777216 * d := by
  have wr : ∀ n : Int, 0 ≤ n → n < 2 ^ 32 → IntKind.u32.wrap n = n := fun n h h' => by rw [IntKind.wrap_u32]; have : (2 : Int) ^ 32 = 4294967296 := by decide
                                                                                       omega
  have e1 : Go.bits .or .u32 (a % 4294967296) (((b % 4294967296) * 256) % 4294967296) = a + 256 * b := by
    rw [bits_or_comm, bits_join .u32 32 (by decide) wr 8 _ _ (by omega) (by omega) (by omega) (by omega) (by omega) (by omega)]; omega
  have e2 : Go.bits .or .u32 (a + 256 * b) (((c % 4294967296) * 65536) % 4294967296) = a + 256 * b + 65536 * c := by
    rw [bits_or_comm, bits_join .u32 32 (by decide) wr 16 _ _ (by omega) (by omega) (by omega) (by omega) (by omega) (by omega)]; omega
  have e3 : Go.bits .or .u32 (a + 256 * b + 65536 * c) (((d % 4294967296) * 16777216) % 4294967296) = a + 256 * b + 65536 * c + 16777216 * d := by
    rw [bits_or_comm, bits_join .u32 32 (by decide) wr 24 _ _ (by omega) (by omega) (by omega) (by omega) (by omega) (by omega)]; omega
  rw [e1, e2, e3]
theorem four_at (ad : Addr) (n c : Nat) (hn : 4 ≤ n) (hn2 : n ≤ 140737488351232) (x0 x1 x2 x3 : Int) (b0 : 0 ≤ x0 ∧ x0 < 256) (b1 : 0 ≤ x1 ∧ x1 < 256) (b2 : 0 ≤ x2 ∧ x2 < 256) (b3 : 0 ≤ x3 ∧ x3 < 256) (w : World)
    (hx0 : w.cell? (ad.add 0) = some (.int .u8 x0)) (hx1 : w.cell? (ad.add 1) = some (.int .u8 x1)) (hx2 : w.cell? (ad.add 2) = some (.int .u8 x2)) (hx3 : w.cell? (ad.add 3) = some (.int .u8 x3)) :
    Calls Tryz.prog 198 #[.slice (some ad) n c] w fun e w' => e = .returned (.int .u32 (x0 + 256 * x1 + 65536 * x2 + 16777216 * x3)) ∧ Below w.heap.size w w' := by
  have c2b0 : decide ((n : Int) < 4) = false := decide_eq_false (by omega)
  have c2b1 : decide (n < 4) = false := decide_eq_false (by omega)
  have HE := Aside0.mk (or4 b0 b1 b2 b3)
  rw [Addr.add_zero'] at hx0
  simp only [Nat.reduceEqDiff, Go.Addr.add, ↓reduceIte] at hx1 hx2 hx3
  have g0 : decide (0 < n) = true := decide_eq_true (by omega)
  have g1 : decide (1 < n) = true := decide_eq_true (by omega)
  have g2 : decide (2 < n) = true := decide_eq_true (by omega)
  have g3 : decide (3 < n) = true := decide_eq_true (by omega)
  have q0 : (0 < n) = True := eq_true (by omega)
  have q1 : (1 < n) = True := eq_true (by omega)
  have q2 : (2 < n) = True := eq_true (by omega)
  have q3 : (3 < n) = True := eq_true (by omega)
  have r0 : ((0 : Int) < (n : Int)) = True := eq_true (by omega)
  have r1 : ((1 : Int) < (n : Int)) = True := eq_true (by omega)
  have r2 : ((2 : Int) < (n : Int)) = True := eq_true (by omega)
  have r3 : ((3 : Int) < (n : Int)) = True := eq_true (by omega)
  clear hn hn2 b0 b1 b2 b3
  go_enter Tryz.func198, Tryz.ntmps198
  go_wp2
  repeat (go_quiet (fail); try go_wp2)
  go_ret
  exact ⟨by rw [← HE.out]; rfl, Drawn0.below (by repeat (first | exact Drawn0.refl _ | apply Drawn0.step))⟩
noncomputable section
def fourB (cH : CH) (l : List AV) (h : H) (k : AV → H → R) : R := (body Tryz.prog pls 198).run cH l h k
def fourU (cH : CH) (l : List AV) (h : H) (k : AV → H → R) (ns ds : List Nat) : R := Bool.rec (motive := fun _ => R) (k (.tx 0 ns ds) h) (fourB cH l h k) (noneZ (trimA ds))
def fourT (cH : CH) (l : List AV) (h : H) (k : AV → H → R) (b o n c : Nat) : R := gd (Nat.blt n 1000000) (Bool.rec (motive := fun _ => R) (fourB cH l h k) (lds h b o 4 (fun q => splitB q (fourU cH l h k))) (Nat.ble 4 n))
def slD (f : Nat → Nat → Nat → Nat → R) (d : R) (x : AV) : R := AV.rec (motive_1 := fun _ => R) (motive_2 := fun _ => Unit) d d (fun _ => d) (fun _ _ => d) (fun _ _ => d) (fun _ _ _ => d) (fun _ _ => d) (fun _ _ _ _ => d) (fun _ _ _ => d) (fun _ _ => d) d d d d d (fun _ _ _ _ _ => d) (fun _ _ _ => d) (fun _ => d) (fun _ _ => d) (fun _ _ => d) (fun _ => d) f (fun _ _ => d) (fun _ => d) (fun _ _ => d) () (fun _ _ _ _ => ()) x
theorem slD_true {f : Nat → Nat → Nat → Nat → R} {d : R} {x : AV} (h : slD f d x = true) : d = true ∨ ∃ b o n c, x = .sl b o n c ∧ f b o n c = true := by
  cases x <;> first | exact .inl h | exact .inr ⟨_, _, _, _, rfl, h⟩
def fourX (cH : CH) (l : List AV) (h : H) (k : AV → H → R) (x : AV) : R := slD (fun b o n c => fourT cH l h k b o n c) (fourB cH l h k) x
def fourS : FF := ⟨fun cH l h k => gd (Nat.beq (llen l) 1) (nth 0 l (fourX cH l h k))⟩
theorem list4 {α : Type} {l : List α} (h : l.length = 4) : ∃ a b c d, l = [a, b, c, d] := by
  match l, h with
  | [a, b, c, d], _ => exact ⟨a, b, c, d, rfl⟩
theorem four_ok : FnOk Tryz.prog 198 fourS := by
  intro cH hc args h F e ρ vs w hr hv
  obtain ⟨hl1, e⟩ := gd_true (show gd (Nat.beq (llen args) 1) (nth 0 args (fourX cH args h F)) = true from e)
  obtain ⟨x, hx, e⟩ := nth_true e
  have hbody : fourB cH args h F = true → Calls Tryz.prog 198 vs w fun e w' => ∃ v', e = .returned v' ∧ Res ρ h w F v' w' := fun e => body_ok mixed_ok clone_ok all_ok _ cH hc args h F e ρ vs w hr hv
  rcases slD_true (show slD (fun b o n c => fourT cH args h F b o n c) (fourB cH args h F) x = true from e) with e | ⟨b, o, n, c, rfl, e⟩
  · exact hbody e
  · obtain ⟨hn6, e⟩ := gd_true (show gd (Nat.blt n 1000000) (Bool.rec (motive := fun _ => R) (fourB cH args h F) (lds h b o 4 (fun q => splitB q (fourU cH args h F))) (Nat.ble 4 n)) = true from e)
    have hn6 : n < 1000000 := by simpa [Nat.blt_eq] using hn6
    cases h4 : Nat.ble 4 n with
    | false => rw [h4] at e; exact hbody e
    | true =>
      rw [h4] at e
      have h4 : 4 ≤ n := Nat.le_of_ble_eq_true h4
      obtain ⟨x', g1, g2⟩ := hv.at 0 _ hx
      have hn := hv.length
      rw [← llen_eq args, Nat.eq_of_beq_eq_true hl1] at hn
      have hvs : vs = #[x'] := by
        apply Array.toList_inj.1
        match hvl : vs.toList, hn, g1 with
        | [a], _, g1 => simp at g1; rw [g1]
      obtain ⟨lc, ad, c', hb, rfl, hnc, _, had⟩ := VR_sl g2
      have had := had.resolve_right (by omega)
      obtain ⟨d, t, nn, z, hk, hon, e⟩ := lds_true (show lds h b o 4 (fun q => splitB q (fourU cH args h F)) = true from e)
      obtain ⟨cs, hcl, hcv, hcc⟩ := cells_at hr.blk hb hk 4 o hon
      obtain ⟨X, hX⟩ : ∃ X : Nat, ∀ l, ρ 0 = some l → 0 < l.B → l.B < 256 → l.B = X := by
        cases hq : ρ 0 with
        | none => exact ⟨0, fun l h => by cases h⟩
        | some l0 => exact ⟨l0.B, fun l h _ _ => by cases h; rfl⟩
      obtain ⟨ns, ds, e, k1, k2, k3, k4⟩ := splitB_true hX e hcv
      have e : (Bool.rec (motive := fun _ => R) (F (.tx 0 ns ds) h) (fourB cH args h F) (noneZ (trimA ds)) : R) = true := e
      cases hz : noneZ (trimA ds) with
      | true => rw [hz] at e; exact hbody e
      | false =>
        rw [hz] at e
        obtain ⟨l0, r0, r1, r2⟩ := k4 (noneZ_false hz)
        have hXe := hX l0 r0 r1 r2
        have hxl : (xl ns (ds.map (dif X))).length = 4 := by
          have := congrArg List.length k3
          simpa [hcl] using this.symm
        have hlt : ∀ c ∈ xl ns (ds.map (dif X)), c < 256 := xl_lt k2 (fun c hc => by
          obtain ⟨m, _, rfl⟩ := List.mem_map.1 hc
          exact dif_lt X m)
        obtain ⟨y0, y1, y2, y3, hy⟩ := list4 hxl
        rw [hy] at k3 hlt
        subst hvs
        subst k3
        have c0 := hcc 0 _ rfl
        have c1 := hcc 1 _ rfl
        have c2 := hcc 2 _ rfl
        have c3 := hcc 3 _ rfl
        rw [← had] at c0 c1 c2 c3
        have m0 := hlt y0 (by simp)
        have m1 := hlt y1 (by simp)
        have m2 := hlt y2 (by simp)
        have m3 := hlt y3 (by simp)
        refine (four_at ad n c' h4 (by omega) (y0 : Nat) (y1 : Nat) (y2 : Nat) (y3 : Nat) (by omega) (by omega) (by omega) (by omega) w c0 c1 c2 c3).mono ?_
        rintro e_ w' ⟨rfl, hb⟩
        have hk : ∀ B, B < w.heap.size → w'.heap[B]? = w.heap[B]? := fun B hB => hb.block B hB
        refine ⟨_, rfl, .tx 0 ns ds, h, ρ, e, ⟨hr.dom, fun b l h1 h2 => by
          obtain ⟨ob, g1, g2⟩ := hr.blk b l h1 h2
          exact ⟨ob, by rw [hk _ (Array.getElem?_eq_some_iff.1 g1).1]; exact g1, g2⟩, hr.inj, hr.cl⟩,
          ⟨Sub.refl ρ, fun _ h => .inl h, fun B hB _ => hk B hB, ⟨hb.os, hb.tape, hb.output, hb.size, fun k hk => absurd hk (Nat.not_lt_zero k)⟩, fun _ _ h => ⟨h, rfl⟩, Nat.le_refl _⟩, ?_⟩
        have hv : txv 0 l0.B ns ds = y0 + 256 * (y1 + 256 * (y2 + 256 * (y3 + 256 * 0))) := by
          show leN (xl ns (ds.map (dif l0.B))) = _
          rw [hXe, hy]; rfl
        simp only [VR]
        refine ⟨l0, r0, r1, r2, by rw [hv]; omega, ?_⟩
        rw [hv]
        congr 1
        omega
end
end Go.Proofs.YtlpffldeogapmaaGreatDoor.Fo
