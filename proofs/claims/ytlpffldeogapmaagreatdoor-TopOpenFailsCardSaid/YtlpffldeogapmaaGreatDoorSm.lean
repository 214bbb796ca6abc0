/- crc.Sum in the evaluator: a law of its own; bytes that were changed change it. -/
import Derived.Test.YtlpffldeogapmaaGreatDoorProg
import Derived.Below
import Derived.Deep.Draws
import Derived.Deep.AppendLies
import Derived.Maps.AppendAt
import Derived.OwnWalk
import Derived.Laws.BytesArg
import Derived.Laws.MakeOwn
import Derived.Laws.OwnMore
import Derived.Deep.OwnRows
import Derived.Tactics
import Derived.Lib.ConvBytes
import Derived.Laws.Slices
import Derived.WalkKit
import Derived.KernelRfl
import Derived.RowKit3
import Derived.Deep.LoopGhost
import Derived.Deep.QuietTactic
import Derived.BigQuiet
import Derived.WideLaws
import Derived.Deep.DeepCutAuto
import Derived.Deep.CutBlock
import Derived.Deep.RegionHeld3
import Derived.Laws.Rows
import Derived.Lib.AppendStr
import Derived.ArgAppend
import Derived.Laws.IdiomCopy
import Derived.OrdersHeld
import Derived.Laws.BitsLemmas
import Derived.RowKit
import Derived.Laws.BitsAllLaws
import Derived.WalkSpells
import Derived.Outline
import Derived.Test.YtlpffldeogapmaaGreatDoorWWords
import Derived.Test.YtlpffldeogapmaaGreatDoorWLast
import Derived.Test.YtlpffldeogapmaaGreatDoorWMore
import Derived.Test.YtlpffldeogapmaaGreatDoorWArr
import Derived.Test.YtlpffldeogapmaaGreatDoorWTab
import Derived.Test.YtlpffldeogapmaaGreatDoorWZeros
import Derived.Test.YtlpffldeogapmaaGreatDoorWRepsOne
import Derived.Test.YtlpffldeogapmaaGreatDoorEvY
namespace Go.Proofs.YtlpffldeogapmaaGreatDoor.Sm
open Go.RowKit Go.Proofs.YtlpffldeogapmaaGreatDoorW.PrintWords Go.Proofs.YtlpffldeogapmaaGreatDoorW.PrintLast Go.Proofs.YtlpffldeogapmaaGreatDoorW.PrintMore Go.Proofs.YtlpffldeogapmaaGreatDoor.Ev
set_option linter.unusedSimpArgs false
set_option linter.unusedVariables false
attribute [local go_sem] max2_int min2_int max_two min_two

open Go.MapKept
set_option linter.unusedSectionVars false
variable [GO]
/-! ### The sum, as numbers -/
def Bys (l : List Int) : Prop := ∀ c ∈ l, 0 ≤ c ∧ c < 256
theorem rd_bys {l : List Int} (h : Bys l) {i : Nat} (hi : i < l.length) : 0 ≤ rd l i ∧ rd l i < 256 := by
  unfold rd; rw [Int.toNat_natCast, List.getD_eq_getElem?_getD, List.getElem?_eq_getElem hi]
  exact h _ (List.getElem_mem _)
theorem cell_at {k : IntKind} {w wq : World} {ad : Addr} {l : List Int} {n : Nat} (h : (Kd.int k).C w (some ad) n l) (hb : Below w.heap.size w wq) (q : Nat) (hq : q < n) :
    wq.cell? (ad.add q) = some (.int k (rd l (q : Int))) := by
  obtain ⟨ad', e, hx⟩ := Kd.at_int h (q : Int) (by omega) (by omega)
  simp only [Int.toNat_natCast] at hx
  obtain rfl : ad = ad' := by injection e
  exact (hb.cell (World.block_lt_of_cell? w _ hx)).trans hx
/-- One byte. -/
def stp (x : Nat) (c : Int) : Nat := gs 8 (x ^^^ c.toNat)
def crun (x : Nat) : List Int → Nat
  | [] => x
  | c :: l => crun (stp x c) l
def crc (l : List Int) : Nat := 4294967295 ^^^ crun 4294967295 l
theorem g_lt {x : Nat} (h : x < 4294967296) : g x < 4294967296 := by
  unfold g
  split
  · exact Nat.xor_lt_two_pow (n := 32) (by omega) (by omega)
  · omega
theorem gs_lt (k : Nat) {x : Nat} (h : x < 4294967296) : gs k x < 4294967296 := by
  induction k with
  | zero => exact h
  | succ k ih => exact g_lt ih
theorem stp_lt {x : Nat} {c : Int} (h : x < 4294967296) (hc : c < 256) : stp x c < 4294967296 :=
  gs_lt 8 (Nat.xor_lt_two_pow (n := 32) (by omega) (by omega))
theorem run_lt {l : List Int} (hl : Bys l) : ∀ {x : Nat}, x < 4294967296 → crun x l < 4294967296 := by
  induction l with
  | nil => intro x h; exact h
  | cons c l ih => intro x h; exact ih (fun y hy => hl y (by simp [hy])) (stp_lt h (hl c (by simp)).2)
theorem crc_lt {l : List Int} (h : Bys l) : crc l < 4294967296 := Nat.xor_lt_two_pow (n := 32) (by omega) (run_lt h (by omega))
theorem drop_rd {l : List Int} {i : Nat} (h : i < l.length) : l.drop i = rd l (i : Int) :: l.drop (i + 1) := by
  rw [List.drop_eq_getElem_cons h]
  congr 1
  unfold rd; rw [Int.toNat_natCast, List.getD_eq_getElem?_getD, List.getElem?_eq_getElem h]; rfl
set_option maxRecDepth 100000 in
theorem sum_calls (A : Option Addr) (c : Nat) (l : List Int) (hby : Bys l) (w : World) (hr : Kd.C (Kd.int .u8) w A l.length l) (hl : l.length ≤ 140737488351232) :
    Calls Tryz.prog 17 #[.slice A l.length c] w fun e w' => e = .returned (.int .u32 (crc l : Int)) ∧ Below w.heap.size w w' := by
  have HR := Aside0.mk hr
  have HBY := Aside0.mk hby
  have HENC : Aside0 (∃ e, crun 4294967295 l = e) := ⟨⟨_, rfl⟩⟩
  obtain ⟨E, hE⟩ := HENC.out
  have HE := Aside0.mk hE
  have HB := Aside0.mk (Below.refl w.heap.size w)
  clear hr hby hE HENC
  go_enter Tryz.func17, Tryz.ntmps17
  go_wp2_with fail
  go_loopg [3, 8] l.length (fun q v3 v8 w' => ∃ (i x : Nat), v8 = .int .i64 (i : Int) ∧ v3 = .int .u32 (x : Int) ∧ Aside0 (i + q = l.length ∧ x < 4294967296 ∧ crun x (l.drop i) = E) ∧ Aside0 (Below w.heap.size w w'))
  case atStart => exact ⟨0, 4294967295, rfl, rfl, ⟨by omega, by decide, HE.out⟩, HB⟩
  case round =>
    clear HB
    obtain ⟨i, x, rfl, rfl, HI, HB⟩ := hrel
    by_cases hlt : i < l.length
    · obtain ⟨ad, e_, _⟩ := Kd.at_int HR.out (i : Int) (by omega) (by omega)
      subst e_
      have hx := cell_at HR.out HB.out i hlt
      have hbx := rd_bys HBY.out hlt
      have hst : crun x (l.drop i) = crun (stp x (rd l (i : Int))) (l.drop (i + 1)) := by rw [drop_rd hlt]; rfl
      generalize rd l (i : Int) = y at *
      obtain ⟨yn, rfl⟩ := Int.eq_ofNat_of_zero_le hbx.1
      have hxl := HI.out.2.1
      have hxr : bits .xor .u32 (x : Int) (yn : Int) = ((x ^^^ yn : Nat) : Int) := u32_xor_nat x yn hxl (by omega)
      have HZ : Aside0 (x ^^^ yn < 4294967296) := ⟨Nat.xor_lt_two_pow (n := 32) (by omega) (by omega)⟩
      have HST : Aside0 (crun (gs 8 (x ^^^ yn)) (l.drop (i + 1)) = E) := ⟨by rw [← HI.out.2.2, hst]; rfl⟩
      clear hst
      generalize x ^^^ yn = z at *
      go_wp2_with fail
      go_loopg [3, 16] 8 (fun q v3 v16 w' => ∃ (k u : Nat), v16 = .int .i64 (k : Int) ∧ v3 = .int .u32 (u : Int) ∧ Aside0 (k + q = 8 ∧ u = gs k z) ∧ Aside0 (Below w.heap.size w w'))
      case atStart => exact ⟨0, z, rfl, rfl, ⟨by omega, rfl⟩, HB⟩
      case round =>
        clear HB hx hxr
        obtain ⟨k, u, rfl, rfl, HK, HB⟩ := hrel
        by_cases hk : k < 8
        · have hul : u < 4294967296 := by rw [HK.out.2]; exact gs_lt k HZ.out
          have ha : bits .and .u32 (u : Int) 1 = ((u % 2 : Nat) : Int) := by
            have := u32_and_nat u 1 hul (by decide)
            rw [Nat.and_one_is_mod] at this
            exact this
          have m0 : bits .and .u32 3988292384 0 = 0 := by decide
          have m1 : bits .and .u32 3988292384 4294967295 = 3988292384 := by decide
          rcases Nat.mod_two_eq_zero_or_one u with h2 | h2
          · rw [h2] at ha
            have hv : bits .xor .u32 ((u : Int) / 2) 0 = ((g u : Nat) : Int) := by
              have h3 := u32_xor_nat (u / 2) 0 (by omega) (by decide)
              rw [Nat.xor_zero] at h3
              rw [show g u = u / 2 from by unfold g; rw [if_neg (by omega)]]
              exact h3
            have HV : Aside0 (g u = gs (k + 1) z) := ⟨by rw [HK.out.2]; rfl⟩
            generalize g u = v at *
            go_wp2_with fail
            go_roundg (8 - (k + 1))
            case measure => have := HK.out; omega
            case rel => exact ⟨k + 1, v, by simp, rfl, ⟨by omega, HV.out⟩, HB⟩
          · rw [h2] at ha
            have hv : bits .xor .u32 ((u : Int) / 2) 3988292384 = ((g u : Nat) : Int) := by
              have h3 := u32_xor_nat (u / 2) 3988292384 (by omega) (by decide)
              rw [show g u = (u / 2) ^^^ 3988292384 from by unfold g; rw [if_pos h2]]
              exact h3
            have HV : Aside0 (g u = gs (k + 1) z) := ⟨by rw [HK.out.2]; rfl⟩
            generalize g u = v at *
            go_wp2_with fail
            go_roundg (8 - (k + 1))
            case measure => have := HK.out; omega
            case rel => exact ⟨k + 1, v, by simp, rfl, ⟨by omega, HV.out⟩, HB⟩
        · go_wp2_with fail
          go_roundg (l.length - (i + 1))
          case measure => have := HI.out; omega
          case rel => exact ⟨i + 1, u, by simp, rfl, ⟨by omega, by rw [HK.out.2]; exact gs_lt k HZ.out, by rw [HK.out.2, show k = 8 by have := HK.out; omega]; exact HST.out⟩, HB⟩
    · have hi : i = l.length := by have := HI.out; omega
      have he := HI.out.2.2
      rw [hi, List.drop_length] at he
      have HF : Aside0 (x = E) := ⟨he⟩
      have hxl := HI.out.2.1
      clear he hi
      have hv : bits .xor .u32 IntKind.u32.max (x : Int) = ((crc l : Nat) : Int) := by
        rw [crc, HE.out, ← HF.out]
        exact u32_xor_nat 4294967295 x (by decide) hxl
      obtain ⟨r, hr⟩ : ∃ r, crc l = r := ⟨_, rfl⟩
      have HRR := Aside0.mk hr
      rw [hr] at hv
      clear hr
      go_wp2
      go_ret
      exact ⟨by rw [HRR.out]; first | rfl | rw [hv] | simp, HB.out⟩
theorem xc (a b c d : Nat) : (a ^^^ b) ^^^ (c ^^^ d) = (a ^^^ c) ^^^ (b ^^^ d) := by
  rw [Nat.xor_assoc, Nat.xor_assoc]
  congr 1
  rw [← Nat.xor_assoc, Nat.xor_comm b c, Nat.xor_assoc]
theorem xor_cancel {a b c : Nat} (h : a ^^^ b = a ^^^ c) : b = c := by
  have := congrArg (a ^^^ ·) h
  simpa [← Nat.xor_assoc] using this
theorem g_eq (x : Nat) : g x = (x / 2) ^^^ (if x % 2 = 1 then 3988292384 else 0) := by
  unfold g
  split <;> simp
theorem g_xor (a b : Nat) : g (a ^^^ b) = g a ^^^ g b := by
  rw [g_eq, g_eq a, g_eq b, Nat.xor_div_two, xc]
  congr 1
  have h := @Nat.xor_mod_two_eq_one a b
  rcases Nat.mod_two_eq_zero_or_one a with ha | ha <;> rcases Nat.mod_two_eq_zero_or_one b with hb | hb <;> rcases Nat.mod_two_eq_zero_or_one (a ^^^ b) with hc | hc <;> simp [ha, hb, hc] at h ⊢
theorem g_zero {a : Nat} (h : a < 4294967296) (h0 : g a = 0) : a = 0 := by
  unfold g at h0
  split at h0
  · have e : a / 2 = 3988292384 := by
      have := congrArg (· ^^^ 3988292384) h0
      simpa [Nat.xor_assoc] using this
    omega
  · omega
theorem gs_xor (k a b : Nat) : gs k (a ^^^ b) = gs k a ^^^ gs k b := by
  induction k with
  | zero => rfl
  | succ k ih => simp only [gs]; rw [ih, g_xor]
theorem gs_zero (k : Nat) {a : Nat} (h : a < 4294967296) (h0 : gs k a = 0) : a = 0 := by
  induction k with
  | zero => exact h0
  | succ k ih => exact ih (g_zero (gs_lt k h) h0)

/-! ### .. over naturals, and quickly -/
theorem run_rN : ∀ (l : List Nat) (x : Nat), crun x (l.map fun n : Nat => (n : Int)) = rN x l
  | [], _ => rfl
  | c :: l, x => by show crun (gs 8 (x ^^^ ((c : Int)).toNat)) _ = rN _ l; rw [Int.toNat_natCast]; exact run_rN l _
theorem rN_xl : ∀ (a b : List Nat) (x y : Nat), a.length = b.length → rN (x ^^^ y) (xl a b) = rN x a ^^^ rN y b
  | [], [], _, _, _ => rfl
  | [], _ :: _, _, _, h => by simp at h
  | _ :: _, [], _, _, h => by simp at h
  | a :: l, b :: m, x, y, h => by
    show rN (gs 8 ((x ^^^ y) ^^^ (a ^^^ b))) (xl l m) = rN (gs 8 (x ^^^ a)) l ^^^ rN (gs 8 (y ^^^ b)) m
    rw [xc, gs_xor]
    exact rN_xl l m _ _ (by simpa using h)
theorem rN_lt : ∀ (l : List Nat) (x : Nat), x < 4294967296 → (∀ c ∈ l, c < 256) → rN x l < 4294967296
  | [], _, h, _ => h
  | c :: l, x, h, hl => rN_lt l _ (gs_lt 8 (Nat.xor_lt_two_pow (n := 32) h (Nat.lt_of_lt_of_le (hl c (by simp)) (by decide)))) (fun d hd => hl d (by simp [hd]))
noncomputable section
/-! ### Bytes that were changed: 0: this one was not; c + 1: by what is not known, moved on by c -/
theorem dif_lt (x : Nat) : ∀ c, dif x c < 256
  | 0 => (by show 0 < 256; decide)
  | c + 1 => Nat.mod_lt _ (by decide)
def splitB (l : List AV) : (List Nat → List Nat → R) → R :=
  List.rec (motive := fun _ => (List Nat → List Nat → R) → R) (fun f => f [] []) (fun x _ ih f => AV.rec (motive_1 := fun _ => R) (motive_2 := fun _ => Unit) false false (fun _ => false) (fun n c => ih (fun a b => f (n :: a) (Nat.add c 1 :: b))) (fun _ _ => false) (fun _ _ _ => false) (fun _ _ => false) (fun _ _ _ _ => false) (fun _ _ _ => false) (fun _ _ => false) false (fun _ _ => false) false false false false false (fun _ _ _ _ _ => false) (fun _ _ _ => false) (fun _ => false) (fun _ _ => false) (fun _ _ => false) (fun _ => false) (fun _ _ _ _ => false) (fun _ _ => false) (fun _ => false) (fun k n => keq k .u8 (ih (fun a b => f (n :: a) (0 :: b)))) () (fun _ _ _ _ => ()) x) l
theorem gs_0 (k : Nat) : gs k 0 = 0 := by
  induction k with
  | zero => rfl
  | succ k ih => simp only [gs, ih]; decide
/-- The zeros ahead, the zeros behind go. -/
def trimA (l : List Nat) : List Nat := List.rec (motive := fun _ => List Nat) [] (fun d t ih => Nat.rec (motive := fun _ => List Nat) ih (fun _ _ => d :: t) d) l
def trimZ (l : List Nat) : List Nat := List.rec (motive := fun _ => List Nat) [] (fun d _ ih => List.rec (motive := fun _ => List Nat) (Nat.rec (motive := fun _ => List Nat) [] (fun _ _ => [d]) d) (fun a t _ => d :: a :: t) ih) l
theorem trimA_rN (x : Nat) : ∀ l : List Nat, rN 0 ((trimA l).map (dif x)) = rN 0 (l.map (dif x))
  | [] => rfl
  | 0 :: l => by
    show rN 0 ((trimA l).map (dif x)) = rN (gs 8 (0 ^^^ dif x 0)) (l.map (dif x))
    rw [trimA_rN x l, show (0 ^^^ dif x 0) = 0 from Nat.xor_self 0, gs_0]
  | (c + 1) :: l => rfl
theorem rN_zeros : ∀ (n z : Nat), z < 4294967296 → z ≠ 0 → rN z (List.replicate n 0) ≠ 0
  | 0, z, _, h => h
  | n + 1, z, hz, h => by
    show rN (gs 8 (z ^^^ 0)) (List.replicate n 0) ≠ 0
    rw [Nat.xor_zero]
    exact rN_zeros n _ (gs_lt 8 hz) (fun q => h (gs_zero 8 hz q))
theorem trimZ_eq (x : Nat) : ∀ l : List Nat, ∃ n, l.map (dif x) = (trimZ l).map (dif x) ++ List.replicate n 0
  | [] => ⟨0, rfl⟩
  | d :: l => by
    obtain ⟨n, h⟩ := trimZ_eq x l
    have e : trimZ (d :: l) = (List.rec (motive := fun _ => List Nat) (Nat.rec (motive := fun _ => List Nat) [] (fun _ _ => [d]) d) (fun a t _ => d :: a :: t) (trimZ l) : List Nat) := rfl
    rw [e]
    cases ht : trimZ l with
    | nil =>
      rw [ht] at h
      cases d with
      | zero => exact ⟨n + 1, by rw [List.map_cons, h]; rfl⟩
      | succ d => exact ⟨n, by rw [List.map_cons, h]; rfl⟩
    | cons a t =>
      rw [ht] at h
      exact ⟨n, by rw [List.map_cons, h]; rfl⟩
theorem rN_append : ∀ (a b : List Nat) (x : Nat), rN x (a ++ b) = rN (rN x a) b
  | [], _, _ => rfl
  | c :: a, b, x => rN_append a b _
/-- Whatever is not known, the changes turn the sum. -/
def allX (l : List Nat) (n : Nat) : R := Nat.rec (motive := fun _ => R) true (fun m ih => Bool.rec (motive := fun _ => R) false ih (runK (List.map (dif (Nat.add m 1)) l) 0 (fun z => nt (Nat.beq z 0)))) n
theorem allX_true {l : List Nat} : ∀ {n : Nat}, allX l n = true → ∀ x, 0 < x → x ≤ n → rN 0 (l.map (dif x)) ≠ 0
  | 0, _, x, h1, h2 => by omega
  | n + 1, h, x, h1, h2 => by
    have h : (Bool.rec (motive := fun _ => R) false (allX l n) (runK (List.map (dif (n + 1)) l) 0 (fun z => nt (Nat.beq z 0))) : R) = true := h
    rw [runK_eq] at h
    cases hq : nt (Nat.beq (rN 0 (List.map (dif (n + 1)) l)) 0) with
    | false => rw [hq] at h; exact (Bool.false_ne_true h).elim
    | true =>
      rw [hq] at h
      rcases Nat.lt_or_ge n x with hx | hx
      · obtain rfl : x = n + 1 := by omega
        intro hz
        rw [hz] at hq
        exact (Bool.false_ne_true hq).elim
      · exact allX_true h x h1 hx
def noneZ (l : List Nat) : Bool := List.rec (motive := fun _ => Bool) true (fun _ _ _ => false) l
/-- Changes that are known to turn the sum. -/
def inT (tab : List (List Nat)) (l : List Nat) : Bool := List.rec (motive := fun _ => Bool) false (fun t _ ih => Bool.rec (motive := fun _ => Bool) ih true (leq t l)) tab
theorem inT_true {l : List Nat} : ∀ {tab : List (List Nat)}, inT tab l = true → l ∈ tab
  | [], e => (Bool.false_ne_true e).elim
  | t :: tab, e => by
    have e : (Bool.rec (motive := fun _ => Bool) (inT tab l) true (leq t l) : Bool) = true := e
    cases hq : leq t l with
    | true =>
      rw [leq_eq] at hq
      rw [of_decide_eq_true hq]; simp
    | false => rw [hq] at e; exact List.mem_cons_of_mem _ (inT_true (tab := tab) e)
def turns (tab : List (List Nat)) (l : List Nat) : R := Bool.rec (motive := fun _ => R) (allX l 255) true (inT tab l)
theorem turns_true {tab : List (List Nat)} (ht : ∀ t ∈ tab, allX t 255 = true) {l : List Nat} (e : turns tab l = true) : allX l 255 = true := by
  unfold turns at e
  cases hq : inT tab l with
  | true => exact ht l (inT_true hq)
  | false => rw [hq] at e; exact e
def sumR0 (tab : List (List Nat)) (h : H) (k : AV → H → R) (ns ds : List Nat) : R := runK ns 4294967295 (fun x => fc (fun s => Bool.rec (motive := fun _ => R) (gd (turns tab (trimZ (trimA ds))) (k (.ne .u32 s) h)) (k (.i .u32 s) h) (noneZ (trimA ds))) (Nat.xor 4294967295 x))
/-- Of few bytes that were changed: the sum as it is. -/
def sumR (tab : List (List Nat)) (h : H) (k : AV → H → R) (ns ds : List Nat) : R := Bool.rec (motive := fun _ => R) (sumR0 tab h k ns ds) (Bool.rec (motive := fun _ => R) (k (.tx 1 ns ds) h) (sumR0 tab h k ns ds) (noneZ (trimA ds))) (Nat.ble (llen ns) 8)
theorem sumR_true {tab : List (List Nat)} {h : H} {k : AV → H → R} {ns ds : List Nat} (e : sumR tab h k ns ds = true) : sumR0 tab h k ns ds = true ∨ (noneZ (trimA ds) = false ∧ k (.tx 1 ns ds) h = true) := by
  unfold sumR at e
  cases h1 : Nat.ble (llen ns) 8 with
  | false => rw [h1] at e; exact .inl e
  | true =>
    rw [h1] at e
    cases h2 : noneZ (trimA ds) with
    | true => rw [h2] at e; exact .inl e
    | false => rw [h2] at e; exact .inr ⟨rfl, e⟩
/-- Bytes that are not known, all of them, in a row. -/
def ujA (f : Bool) (s n : Nat) (l : List AV) : Nat → Bool := List.rec (motive := fun _ => Nat → Bool) (fun i => Nat.beq i n) (fun x _ ih i => AV.rec (motive_1 := fun _ => Bool) (motive_2 := fun _ => Unit) false false (fun _ => false) (fun _ _ => false) (fun _ _ => false) (fun _ _ _ => false) (fun _ _ => false) (fun g t m j => and (beqB f g) (and (Nat.beq s t) (and (Nat.beq n m) (and (Nat.beq i j) (ih (Nat.add i 1)))))) (fun _ _ _ => false) (fun _ _ => false) false (fun _ _ => false) false false false false false (fun _ _ _ _ _ => false) (fun _ _ _ => false) (fun _ => false) (fun _ _ => false) (fun _ _ => false) (fun _ => false) (fun _ _ _ _ => false) (fun _ _ => false) (fun _ => false) (fun _ _ => false) () (fun _ _ _ _ => ()) x) l
def sumL (tab : List (List Nat)) (h : H) (k : AV → H → R) (l : List AV) : R := List.rec (motive := fun _ => R) (splitB l (sumR tab h k)) (fun x _ _ => AV.rec (motive_1 := fun _ => R) (motive_2 := fun _ => Unit) (splitB l (sumR tab h k)) (splitB l (sumR tab h k)) (fun _ => (splitB l (sumR tab h k))) (fun _ _ => (splitB l (sumR tab h k))) (fun _ _ => (splitB l (sumR tab h k))) (fun _ _ _ => (splitB l (sumR tab h k))) (fun _ _ => (splitB l (sumR tab h k))) (fun f s n j => gd (Nat.blt s 4294967296) (gd (ujA f s n l 0) (Bool.rec (motive := fun _ => R) (k (.ne .u32 s) h) (k (.i .u32 s) h) f))) (fun _ _ _ => (splitB l (sumR tab h k))) (fun _ _ => (splitB l (sumR tab h k))) (splitB l (sumR tab h k)) (fun _ _ => (splitB l (sumR tab h k))) (splitB l (sumR tab h k)) (splitB l (sumR tab h k)) (splitB l (sumR tab h k)) (splitB l (sumR tab h k)) (splitB l (sumR tab h k)) (fun _ _ _ _ _ => (splitB l (sumR tab h k))) (fun _ _ _ => (splitB l (sumR tab h k))) (fun _ => (splitB l (sumR tab h k))) (fun _ _ => (splitB l (sumR tab h k))) (fun _ _ => (splitB l (sumR tab h k))) (fun _ => (splitB l (sumR tab h k))) (fun _ _ _ _ => (splitB l (sumR tab h k))) (fun _ _ => (splitB l (sumR tab h k))) (fun _ => (splitB l (sumR tab h k))) (fun _ _ => (splitB l (sumR tab h k))) () (fun _ _ _ _ => ()) x) l
theorem sumL_true {tab : List (List Nat)} {h : H} {k : AV → H → R} {l : List AV} (e : sumL tab h k l = true) : splitB l (sumR tab h k) = true ∨ ∃ f s n, s < 4294967296 ∧ ujA f s n l 0 = true ∧ l ≠ [] ∧ k (if f = true then .i .u32 s else .ne .u32 s) h = true := by
  cases l with
  | nil => exact .inl e
  | cons x l =>
    cases x <;> try exact .inl e
    case uj f s n j =>
      obtain ⟨h1, e⟩ := gd_true (show gd (Nat.blt s 4294967296) (gd (ujA f s n (.uj f s n j :: l) 0) (Bool.rec (motive := fun _ => R) (k (.ne .u32 s) h) (k (.i .u32 s) h) f)) = true from e)
      obtain ⟨h2, e⟩ := gd_true e
      refine .inr ⟨f, s, n, by simpa [Nat.blt_eq] using h1, h2, by simp, ?_⟩
      cases f
      · exact e
      · exact e
theorem ujA_true {ρ : Ren} {f : Bool} {s n : Nat} {lc : Ev.Loc} (h0 : ρ 0 = some lc) : ∀ {l : List AV} {vs : List Value} {i : Nat}, ujA f s n l i = true → VRs ρ l vs →
    i + l.length = n ∧ vs = (List.range' i l.length).map (fun j => Value.int .u8 ((uB lc.B j : Nat) : Int))
  | [], vs, i, e, hv => by
    simp only [VRs] at hv
    subst hv
    exact ⟨Nat.eq_of_beq_eq_true e, rfl⟩
  | x :: l, vs, i, e, hv => by
    simp only [VRs] at hv
    obtain ⟨v, r, rfl, h1, h2⟩ := hv
    cases x <;> try exact (Bool.false_ne_true e).elim
    case uj g t m j =>
      obtain ⟨_, e⟩ := and_t (show and (beqB f g) (and (Nat.beq s t) (and (Nat.beq n m) (and (Nat.beq i j) (ujA f s n l (i + 1))))) = true from e)
      obtain ⟨_, e⟩ := and_t e
      obtain ⟨_, e⟩ := and_t e
      obtain ⟨e4, e5⟩ := and_t e
      obtain rfl := Nat.eq_of_beq_eq_true e4
      obtain ⟨k1, k2⟩ := ujA_true h0 e5 h2
      simp only [VR] at h1
      obtain ⟨l1, p1, rfl, _, _⟩ := h1
      rw [h0] at p1; cases p1
      refine ⟨by simp; omega, ?_⟩
      rw [k2, List.length_cons, List.range'_succ]
      rfl
theorem ujA_head {ρ : Ren} {f : Bool} {s n : Nat} {l : List AV} {vs : List Value} (e : ujA f s n l 0 = true) (hn : l ≠ []) (hv : VRs ρ l vs) : ∃ lc, ρ 0 = some lc ∧ (uS lc.B n = s ↔ f = true) := by
  cases l with
  | nil => exact absurd rfl hn
  | cons x l =>
    simp only [VRs] at hv
    obtain ⟨v, r, rfl, h1, h2⟩ := hv
    cases x <;> try exact (Bool.false_ne_true e).elim
    case uj g t m j =>
      obtain ⟨e1, e⟩ := and_t (show and (beqB f g) (and (Nat.beq s t) (and (Nat.beq n m) (and (Nat.beq 0 j) (ujA f s n l 1)))) = true from e)
      obtain ⟨e2, e⟩ := and_t e
      obtain ⟨e3, e⟩ := and_t e
      rw [beqB_eq] at e1
      obtain rfl := beq_iff_eq.1 e1
      obtain rfl := Nat.eq_of_beq_eq_true e2
      obtain rfl := Nat.eq_of_beq_eq_true e3
      simp only [VR] at h1
      obtain ⟨l1, p1, _, _, p4⟩ := h1
      exact ⟨l1, p1, p4⟩
def sumV (tab : List (List Nat)) (h : H) (k : AV → H → R) (x : AV) : R := AV.rec (motive_1 := fun _ => R) (motive_2 := fun _ => Unit) false false (fun _ => false) (fun _ _ => false) (fun _ _ => false) (fun _ _ _ => false) (fun _ _ => false) (fun _ _ _ _ => false) (fun _ _ _ => false) (fun _ _ => false) false (fun _ _ => false) false false false false (k (.i .u32 0) h) (fun _ _ _ _ _ => false) (fun _ _ _ => false) (fun _ => false) (fun _ _ => false) (fun _ _ => false) (fun _ => false) (fun b o n _ => gd (Nat.blt n 1000000) (lds h b o n (fun l => sumL tab h k l))) (fun _ _ => false) (fun _ => false) (fun _ _ => false) () (fun _ _ _ _ => ()) x
def sumS (tab : List (List Nat)) : FF := ⟨fun _ l h k => gd (Nat.beq (llen l) 1) (nth 0 l (sumV tab h k))⟩
/-- What the bytes are. -/
theorem splitB_true {ρ : Ren} {X : Nat} (hX : ∀ l, ρ 0 = some l → 0 < l.B → l.B < 256 → l.B = X) : ∀ {l : List AV} {vs : List Value} {f : List Nat → List Nat → R}, splitB l f = true → VRs ρ l vs →
    ∃ ns ds, f ns ds = true ∧ ns.length = ds.length ∧ (∀ c ∈ ns, c < 256) ∧ vs = (xl ns (ds.map (dif X))).map (fun c => Value.int .u8 ((c : Nat) : Int)) ∧ ((∃ c ∈ ds, c ≠ 0) → ∃ l, ρ 0 = some l ∧ 0 < l.B ∧ l.B < 256)
  | [], vs, f, e, hv => by
    simp only [VRs] at hv
    subst hv
    exact ⟨[], [], e, rfl, by simp, rfl, by simp⟩
  | x :: l, vs, f, e, hv => by
    simp only [VRs] at hv
    obtain ⟨v, r, rfl, h1, h2⟩ := hv
    cases x <;> try exact (Bool.false_ne_true e).elim
    case i k n =>
      obtain ⟨hk, e2⟩ := keq_true (show keq k .u8 (splitB l (fun a b => f (n :: a) (0 :: b))) = true from e)
      subst hk
      obtain ⟨ns, ds, e3, g1, g2, g3, g4⟩ := splitB_true hX e2 h2
      obtain ⟨hn, rfl⟩ := VR_i h1
      have hn : n < 256 := hn
      refine ⟨n :: ns, 0 :: ds, e3, by simp [g1], fun c hc => ?_, ?_, fun ⟨c, hc, hc0⟩ => ?_⟩
      · rcases List.mem_cons.1 hc with rfl | hc
        · exact hn
        · exact g2 c hc
      · rw [g3, wrap_u8n hn]
        show _ = Value.int .u8 (((n ^^^ dif X 0 : Nat)) : Int) :: _
        rw [show n ^^^ dif X 0 = n from Nat.xor_zero n]
      · rcases List.mem_cons.1 hc with rfl | hc
        · exact absurd rfl hc0
        · exact g4 ⟨c, hc, hc0⟩
    case bx n c =>
      obtain ⟨ns, ds, e3, g1, g2, g3, g4⟩ := splitB_true (f := fun a b => f (n :: a) ((c + 1) :: b)) hX e h2
      obtain ⟨lc, p0, p1, p2, hn, rfl⟩ := VR_bx h1
      refine ⟨n :: ns, (c + 1) :: ds, e3, by simp [g1], fun c hc => ?_, ?_, fun _ => ⟨lc, p0, p1, p2⟩⟩
      · rcases List.mem_cons.1 hc with rfl | hc
        · exact hn
        · exact g2 c hc
      · rw [g3, hX lc p0 p1 p2]; rfl
theorem xl_lt : ∀ {a b : List Nat}, (∀ c ∈ a, c < 256) → (∀ c ∈ b, c < 256) → ∀ c ∈ xl a b, c < 256
  | [], _, _, _, c, hc => by simp [xl] at hc
  | _ :: _, [], _, _, c, hc => by simp [xl] at hc
  | a :: l, b :: m, h1, h2, c, hc => by
    rcases List.mem_cons.1 (show c ∈ (a ^^^ b) :: xl l m from hc) with rfl | hc
    · exact Nat.xor_lt_two_pow (n := 8) (h1 a (by simp)) (h2 b (by simp))
    · exact xl_lt (fun c h => h1 c (by simp [h])) (fun c h => h2 c (by simp [h])) c hc
theorem xl_zero : ∀ (a : List Nat) (b : List Nat), a.length = b.length → (∀ c ∈ b, c = 0) → xl a b = a
  | [], [], _, _ => rfl
  | [], _ :: _, h, _ => by simp at h
  | _ :: _, [], h, _ => by simp at h
  | a :: l, b :: m, h, hz => by
    show (a ^^^ b) :: xl l m = a :: l
    rw [hz b (by simp), Nat.xor_zero, xl_zero l m (by simpa using h) (fun c hc => hz c (by simp [hc]))]
theorem noneZ_true : ∀ {ds : List Nat}, noneZ (trimA ds) = true → ∀ c ∈ ds, c = 0
  | [], _, c, hc => by simp at hc
  | 0 :: l, h, c, hc => by
    rcases List.mem_cons.1 hc with rfl | hc
    · rfl
    · exact noneZ_true (ds := l) h c hc
  | (d + 1) :: l, h, _, _ => (Bool.false_ne_true h).elim
theorem noneZ_false : ∀ {ds : List Nat}, noneZ (trimA ds) = false → ∃ c ∈ ds, c ≠ 0
  | [], h => (Bool.false_ne_true h.symm).elim
  | 0 :: l, h => by
    obtain ⟨c, hc, h0⟩ := noneZ_false (ds := l) h
    exact ⟨c, by simp [hc], h0⟩
  | (d + 1) :: l, _ => ⟨d + 1, by simp, by simp⟩
theorem crc_rN (l : List Nat) : crc (l.map fun n : Nat => (n : Int)) = 4294967295 ^^^ rN 4294967295 l := by unfold crc; rw [run_rN]
theorem bys_map {l : List Nat} (h : ∀ c ∈ l, c < 256) : Bys (l.map fun n : Nat => (n : Int)) := fun c hc => by
  obtain ⟨n, hn, rfl⟩ := List.mem_map.1 hc
  have := h n hn
  omega
theorem nxor (a b : Nat) : Nat.xor a b = a ^^^ b := rfl
theorem txv_1 (X : Nat) (ns ds : List Nat) : txv 1 X ns ds = 4294967295 ^^^ rN 4294967295 (xl ns (ds.map (dif X))) := by
  simp only [txv]
  exact nxor _ _
theorem uS_eq (G n : Nat) : uS G n = 4294967295 ^^^ rN 4294967295 (uL G n) := by unfold uS; exact Eq.refl _
theorem sum_ok {tab : List (List Nat)} (ht : ∀ t ∈ tab, allX t 255 = true) : FnOk Tryz.prog 17 (sumS tab) := by
  intro cH hc args h F e ρ vs w hr hv
  obtain ⟨hl1, e⟩ := gd_true (show gd (Nat.beq (llen args) 1) (nth 0 args (sumV tab h F)) = true from e)
  obtain ⟨x, hx, e⟩ := nth_true e
  obtain ⟨x', g1, g2⟩ := hv.at 0 _ hx
  have hn := hv.length
  rw [← llen_eq args, Nat.eq_of_beq_eq_true hl1] at hn
  have hvs : vs = #[x'] := by
    apply Array.toList_inj.1
    match hvl : vs.toList, hn, g1 with
    | [a], _, g1 => simp at g1; rw [g1]
  subst hvs
  have fin : ∀ (A : Option Addr) (c : Nat) (rs : List Nat) (v : AV), ReadsOf (Value.int .u8) 0 w A rs.length (rs.map fun n : Nat => (n : Int)) → rs.length < 1000000 → (∀ c ∈ rs, c < 256) → F v h = true → VR ρ v (.int .u32 (crc (rs.map fun n : Nat => (n : Int)) : Nat)) →
      Calls Tryz.prog 17 #[.slice A rs.length c] w fun e w' => ∃ v', e = .returned v' ∧ Res ρ h w F v' w' := fun A c rs v q1 q2 q3 q4 q5 => by
    have hlen : (rs.map fun n : Nat => (n : Int)).length = rs.length := by simp
    have := sum_calls A c (rs.map fun n : Nat => (n : Int)) (bys_map q3) w (by rw [hlen]; exact Kd.C_of_reads (d := (0 : Int)) (h1 := fun _ => rfl) q1) (by rw [hlen]; omega)
    rw [hlen] at this
    refine this.mono ?_
    rintro e_ w' ⟨rfl, hb⟩
    have hk : ∀ B, B < w.heap.size → w'.heap[B]? = w.heap[B]? := fun B hB => hb.block B hB
    exact ⟨_, rfl, v, h, ρ, q4, ⟨hr.dom, fun b l h1 h2 => by
      obtain ⟨ob, g1, g2⟩ := hr.blk b l h1 h2
      exact ⟨ob, by rw [hk _ (Array.getElem?_eq_some_iff.1 g1).1]; exact g1, g2⟩, hr.inj, hr.cl⟩,
      ⟨Sub.refl ρ, fun _ h => .inl h, fun B hB _ => hk B hB, ⟨hb.os, hb.tape, hb.output, hb.size, fun k hk => absurd hk (Nat.not_lt_zero k)⟩, fun _ _ h => ⟨h, rfl⟩, Nat.le_refl _⟩, q5⟩
  cases x <;> try exact (Bool.false_ne_true e).elim
  case sl0 =>
    have : x' = .slice none 0 0 := by simpa only [VR] using g2
    subst this
    exact fin none 0 [] _ ⟨rfl, by simp, fun hp => absurd hp (by simp)⟩ (by simp) (by simp) e (by
      have := VR_mki (ρ := ρ) (k := .u32) (n := 0) (by decide)
      exact this)
  case sl b o n c =>
    obtain ⟨hn6, e⟩ := gd_true (show gd (Nat.blt n 1000000) (lds h b o n (fun l => sumL tab h F l)) = true from e)
    have hn6 : n < 1000000 := by simpa [Nat.blt_eq] using hn6
    obtain ⟨lc, ad, c', hb, rfl, hnc, _, had⟩ := VR_sl g2
    obtain ⟨d, t, nn, z, hk, hon, e⟩ := lds_true e
    obtain ⟨cs, hcl, hcv, hcc⟩ := cells_at hr.blk hb hk n o hon
    rcases sumL_true e with e | ⟨f, s, m, hs, eu, hne, eF⟩
    case inr =>
      obtain ⟨l0, hl0, hiff⟩ := ujA_head eu hne hcv
      obtain ⟨hm, hcs⟩ := ujA_true hl0 eu hcv
      have hll : (List.range' 0 n).map (uB l0.B) = uL l0.B n := by unfold uL; rw [List.range_eq_range']
      have hlen2 : (rlist d t o n).length = n := by have := hcv.length; omega
      have hmn : m = n := by rw [← hm, Nat.zero_add]; exact hlen2
      subst hmn
      rw [hlen2] at hcs
      have hrl : (uL l0.B m).length = m := by simp [uL]
      have hrs : ∀ c ∈ uL l0.B m, c < 256 := fun c hc => by
        obtain ⟨j, _, rfl⟩ := List.mem_map.1 hc
        exact Nat.mod_lt _ (by decide)
      have hcs2 : cs = (uL l0.B m).map (fun c => Value.int .u8 ((c : Nat) : Int)) := by
        rw [hcs, ← hll, List.map_map]; rfl
      have hreads : ReadsOf (Value.int .u8) 0 w (some ad) (uL l0.B m).length ((uL l0.B m).map fun n : Nat => (n : Int)) := by
        refine ⟨by simp, by rw [hrl]; omega, fun hp => ⟨ad, rfl, fun j hj => ?_⟩⟩
        have had := had.resolve_right (by rw [hrl] at hp; omega)
        have := hcc j (.int .u8 ((((uL l0.B m).map fun n : Nat => (n : Int)).getD j 0))) (by
          rw [hcs2]
          simp [List.getElem?_map, List.getD_eq_getElem?_getD, List.getElem?_eq_getElem hj])
        rw [had]
        exact this
      have hfin := fin (some ad) c' (uL l0.B m) (if f = true then .i .u32 s else .ne .u32 s)
      rw [hrl] at hfin
      rw [hrl] at hreads
      have hcrc : crc ((uL l0.B m).map fun n : Nat => (n : Int)) = uS l0.B m := by rw [crc_rN, uS_eq]
      have hw32 : ∀ q : Nat, q < 4294967296 → IntKind.u32.wrap (q : Int) = (q : Int) := fun q hq => by rw [IntKind.wrap_u32]; omega
      have hlt : uS l0.B m < 4294967296 := by rw [← hcrc]; exact crc_lt (bys_map hrs)
      refine hfin hreads hn6 hrs eF ?_
      rw [hcrc]
      cases f with
      | true =>
        rw [if_pos rfl]
        have hq := hiff.2 rfl
        rw [hq]
        have := VR_mki (ρ := ρ) (k := .u32) (n := s) hs
        rwa [hw32 _ hs] at this
      | false =>
        rw [if_neg (by decide)]
        have hq : ¬ uS l0.B m = s := fun q => by have := hiff.1 q; cases this
        simp only [VR]
        refine ⟨((uS l0.B m : Nat) : Int), by rw [hw32 _ hlt], ?_⟩
        rw [hw32 _ hlt, hw32 _ hs]
        omega
    obtain ⟨X, hX⟩ : ∃ X : Nat, ∀ l, ρ 0 = some l → 0 < l.B → l.B < 256 → l.B = X := by
      cases hq : ρ 0 with
      | none => exact ⟨0, fun l h => by cases h⟩
      | some l0 => exact ⟨l0.B, fun l h _ _ => by cases h; rfl⟩
    obtain ⟨ns, ds, e, k1, k2, k3, k4⟩ := splitB_true hX e hcv
    have hdl : (ds.map (dif X)).length = ns.length := by simp [k1]
    have hxl : (xl ns (ds.map (dif X))).length = n := by
      have := congrArg List.length k3
      simpa [hcl] using this.symm
    have hlt : ∀ c ∈ xl ns (ds.map (dif X)), c < 256 := xl_lt k2 (fun c hc => by
      obtain ⟨m, _, rfl⟩ := List.mem_map.1 hc
      exact dif_lt X m)
    have hreads : ReadsOf (Value.int .u8) 0 w (some ad) (xl ns (ds.map (dif X))).length ((xl ns (ds.map (dif X))).map fun n : Nat => (n : Int)) := by
      refine ⟨by simp, by rw [hxl]; omega, fun hp => ⟨ad, rfl, fun j hj => ?_⟩⟩
      have had := had.resolve_right (by rw [hxl] at hp; omega)
      have := hcc j (.int .u8 ((((xl ns (ds.map (dif X))).map fun n : Nat => (n : Int)).getD j 0))) (by
        rw [k3]
        simp [List.getElem?_map, List.getD_eq_getElem?_getD, List.getElem?_eq_getElem hj])
      rw [had]
      exact this
    have hs32 : ∀ l : List Nat, (∀ c ∈ l, c < 256) → 4294967295 ^^^ rN 4294967295 l < 4294967296 := fun l hl => Nat.xor_lt_two_pow (n := 32) (by decide) (rN_lt l _ (by decide) hl)
    have hw32 : ∀ q : Nat, q < 4294967296 → IntKind.u32.wrap (q : Int) = (q : Int) := fun q hq => by rw [IntKind.wrap_u32]; omega
    have hfin := fin (some ad) c' (xl ns (ds.map (dif X)))
    rw [hxl] at hfin
    rw [hxl] at hreads
    rcases sumR_true e with e | ⟨hz, e⟩
    case inr =>
      obtain ⟨l0, r0, r1, r2⟩ := k4 (noneZ_false hz)
      have hXe := hX l0 r0 r1 r2
      refine hfin _ hreads hn6 hlt e ?_
      rw [crc_rN]
      simp only [VR]
      refine ⟨l0, r0, r1, r2, ?_, ?_⟩
      · rw [hXe, txv_1]; exact hs32 _ hlt
      · rw [hXe, txv_1]
    have e := (show runK ns 4294967295 (fun x => fc (fun s => Bool.rec (motive := fun _ => R) (gd (turns tab (trimZ (trimA ds))) (F (.ne .u32 s) h)) (F (.i .u32 s) h) (noneZ (trimA ds))) (Nat.xor 4294967295 x)) = true from e)
    rw [runK_eq] at e
    have e : (Bool.rec (motive := fun _ => R) (gd (turns tab (trimZ (trimA ds))) (F (.ne .u32 (4294967295 ^^^ rN 4294967295 ns)) h)) (F (.i .u32 (4294967295 ^^^ rN 4294967295 ns)) h) (noneZ (trimA ds)) : R) = true := e
    cases hz : noneZ (trimA ds) with
    | true =>
      rw [hz] at e
      refine hfin _ hreads hn6 hlt e ?_
      rw [crc_rN, xl_zero ns _ hdl.symm (fun c hc => by
        obtain ⟨m, hm, rfl⟩ := List.mem_map.1 hc
        rw [noneZ_true hz m hm]; rfl)]
      have := VR_mki (ρ := ρ) (k := .u32) (n := 4294967295 ^^^ rN 4294967295 ns) (hs32 ns k2)
      rwa [hw32 _ (hs32 ns k2)] at this
    | false =>
      rw [hz] at e
      obtain ⟨e1, e2⟩ := gd_true e
      refine hfin _ hreads hn6 hlt e2 ?_
      obtain ⟨l0, r0, r1, r2⟩ := k4 (noneZ_false hz)
      have hXe := hX l0 r0 r1 r2
      have hne := allX_true (turns_true ht e1) X (by omega) (by omega)
      rw [crc_rN]
      have hlin := rN_xl ns (ds.map (dif X)) 4294967295 0 hdl.symm
      rw [Nat.xor_zero] at hlin
      simp only [VR]
      refine ⟨((4294967295 ^^^ rN 4294967295 (xl ns (ds.map (dif X))) : Nat) : Int), by rw [hw32 _ (hs32 _ hlt)], ?_⟩
      rw [hw32 _ (hs32 _ hlt), hw32 _ (hs32 ns k2)]
      intro heq
      have heq : 4294967295 ^^^ rN 4294967295 (xl ns (ds.map (dif X))) = 4294967295 ^^^ rN 4294967295 ns := by omega
      have h1 := xor_cancel heq
      rw [hlin] at h1
      have h2 : rN 0 (ds.map (dif X)) = 0 := by
        have := congrArg (rN 4294967295 ns ^^^ ·) h1
        simpa [← Nat.xor_assoc] using this
      -- the zeros ahead and behind change nothing
      have h3 := trimA_rN X ds
      rw [h2] at h3
      obtain ⟨q, hq⟩ := trimZ_eq X (trimA ds)
      rw [hq, rN_append] at h3
      exact rN_zeros q _ (rN_lt _ _ (by decide) (fun c hc => by
        obtain ⟨m, _, rfl⟩ := List.mem_map.1 hc
        exact dif_lt X m)) hne h3
end
end Go.Proofs.YtlpffldeogapmaaGreatDoor.Sm
