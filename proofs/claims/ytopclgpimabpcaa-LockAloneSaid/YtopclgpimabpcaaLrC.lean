/- The reference's lock: contract of Leave. -/
import Derived.Test.YtopclgpimabpcaaProg
import Derived.Below
import Derived.Deep.Draws
import Derived.Deep.AppendLies
import Derived.Maps.AppendAt
import Derived.OwnWalk
import Derived.Laws.BytesArg
import Derived.Laws.MakeOwn
import Derived.Laws.OwnMore
import Derived.Deep.OwnRows
import Derived.Tactics
import Derived.Lib.ConvBytes
import Derived.Laws.Slices
import Derived.WalkKit
import Derived.KernelRfl
import Derived.RowKit3
import Derived.Deep.LoopGhost
import Derived.Deep.QuietTactic
import Derived.BigQuiet
import Derived.WideLaws
import Derived.Deep.DeepCutAuto
import Derived.Deep.CutBlock
import Derived.Deep.RegionHeld3
import Derived.Laws.Rows
import Derived.Lib.AppendStr
import Derived.ArgAppend
import Derived.Laws.IdiomCopy
import Derived.OrdersHeld
import Derived.Laws.BitsLemmas
import Derived.RowKit
import Derived.Deep.DeepCutAuto
import Derived.WalkSpells
import Derived.Outline
import Derived.Test.YtopclgpimabpcaaWWords
import Derived.Test.YtopclgpimabpcaaWLast
import Derived.Test.YtopclgpimabpcaaWMore
import Derived.Test.YtopclgpimabpcaaWArr
import Derived.Test.YtopclgpimabpcaaWTab
import Derived.Test.YtopclgpimabpcaaWZeros
import Derived.Test.YtopclgpimabpcaaWRepsOne
import Derived.Test.YtopclgpimabpcaaLrB
namespace Go.Proofs.Ytopclgpimabpcaa.LrC
open Go.RowKit Go.Proofs.YtopclgpimabpcaaW.PrintWords Go.Proofs.YtopclgpimabpcaaW.PrintLast Go.Proofs.YtopclgpimabpcaaW.PrintMore Go.Proofs.Ytopclgpimabpcaa.Mix Go.Proofs.Ytopclgpimabpcaa.MixB Go.Proofs.Ytopclgpimabpcaa.MixT Go.Proofs.Ytopclgpimabpcaa.LkA Go.Proofs.Ytopclgpimabpcaa.LkB Go.Proofs.Ytopclgpimabpcaa.LkC Go.Proofs.Ytopclgpimabpcaa.LkD Go.Proofs.Ytopclgpimabpcaa.LkE Go.Proofs.Ytopclgpimabpcaa.LkF Go.Proofs.Ytopclgpimabpcaa.LrA Go.Proofs.Ytopclgpimabpcaa.LrB
set_option linter.unusedSimpArgs false
set_option linter.unusedVariables false
attribute [local go_sem] max2_int min2_int max_two min_two

/-- All readers, or one alone. -/
def Uni (hs : List (Int × Bool)) : Prop := (∀ h ∈ hs, h.2 = false) ∨ hs.length ≤ 1
theorem uni_may {hs : List (Int × Bool)} (h : Uni hs) (wr : Bool) : mayR hs wr = mayL hs wr := by
  cases hs with
  | nil => rfl
  | cons o os =>
    obtain ⟨w, b⟩ := o
    show (((w, b) :: os).all (fun h => !(wr || h.2))) = (!wr && !b)
    rw [List.all_cons]
    cases wr with
    | true => simp
    | false =>
      cases b with
      | true => simp
      | false =>
        have ha : os.all (fun h => !(false || h.2)) = true := by
          rw [List.all_eq_true]
          intro x hx
          rcases h with h | h
          · rw [h x (by simp [hx])]; rfl
          · have : os = [] := List.eq_nil_of_length_eq_zero (by simp only [List.length_cons] at h; omega)
            subst this
            simp at hx
        rw [ha]
        rfl
theorem uni_snoc {hs : List (Int × Bool)} {o : Int × Bool} (h : Uni hs) (hm : mayL hs o.2 = true) : Uni (hs ++ [o]) := by
  cases hs with
  | nil => exact .inr (by simp)
  | cons x xs =>
    unfold mayL at hm
    simp only [Bool.and_eq_true, Bool.not_eq_true'] at hm
    left
    intro y hy
    rcases List.mem_append.1 hy with hy | hy
    · rcases h with h | h
      · exact h y hy
      · have : xs = [] := List.eq_nil_of_length_eq_zero (by simp at h; simp [h])
        subst this
        rw [List.mem_singleton.1 hy]
        exact hm.2
    · rw [List.mem_singleton.1 hy]
      exact hm.1
theorem uni_wo {hs : List (Int × Bool)} (h : Uni hs) (id : Int) : Uni (wo id hs) := by
  rcases h with h | h
  · exact .inl (fun x hx => h x ((List.mem_filter.1 hx).1))
  · exact .inr (Nat.le_trans (List.length_filter_le _ _) h)
def Nd (os : List (Int × Bool)) : Prop := (os.map Prod.fst).Nodup
theorem nd_wo {os : List (Int × Bool)} (h : Nd os) (id : Int) : Nd (wo id os) := by
  unfold Nd wo at *
  exact List.Sublist.nodup (List.Sublist.map _ List.filter_sublist) h
theorem wo_none {os : List (Int × Bool)} {id : Int} (h : isIn id os = false) : wo id os = os := by
  unfold wo
  rw [List.filter_eq_self]
  intro o ho
  unfold isIn at h
  have := List.any_eq_false.1 h o ho
  simpa using this
theorem wo_head {o : Int × Bool} {os : List (Int × Bool)} (h : Nd (o :: os)) : wo o.1 (o :: os) = os := by
  unfold Nd at h
  rw [List.map_cons, List.nodup_cons] at h
  unfold wo
  rw [List.filter_cons, if_neg (by simp)]
  rw [List.filter_eq_self]
  intro x hx
  have : x.1 ≠ o.1 := fun e => h.1 (e ▸ List.mem_map_of_mem hx)
  exact bne_iff_ne.2 this
theorem wo_erase : ∀ (os : List (Int × Bool)) (id : Int) (i : Nat), Nd os → 0 ≤ findF id i os → wo id os = os.eraseIdx ((findF id i os).toNat - i) := by
  intro os
  induction os with
  | nil => intro id i _ h; simp [findF] at h
  | cons o os ih =>
    intro id i hn h
    unfold findF at h ⊢
    by_cases ho : o.1 = id
    · rw [if_pos ho, Int.toNat_natCast, Nat.sub_self, ← ho, wo_head hn]
      rfl
    · rw [if_neg ho] at h ⊢
      have hlt := findF_lt id os (i + 1) h
      have hn2 : Nd os := by unfold Nd at *; rw [List.map_cons, List.nodup_cons] at hn; exact hn.2
      have := ih id (i + 1) hn2 h
      rw [show (findF id (i + 1) os).toNat - i = ((findF id (i + 1) os).toNat - (i + 1)) + 1 by omega, List.eraseIdx_cons_succ, ← this]
      unfold wo
      rw [List.filter_cons, if_pos (bne_iff_ne.2 ho)]
theorem wo_find {os : List (Int × Bool)} {id : Int} (hn : Nd os) (h : isIn id os = true) : wo id os = os.eraseIdx (findL id os).toNat := by
  obtain ⟨k, hk, _⟩ := find_lt h
  have := wo_erase os id 0 hn (by unfold findL at hk; omega)
  rw [Nat.sub_zero] at this
  exact this
theorem isIn_mem {id : Int} {os : List (Int × Bool)} : isIn id os = true ↔ id ∈ os.map Prod.fst := by
  unfold isIn
  rw [List.any_eq_true]
  constructor
  · rintro ⟨o, ho, he⟩
    exact List.mem_map.2 ⟨o, ho, by simpa using he⟩
  · intro h
    obtain ⟨o, ho, he⟩ := List.mem_map.1 h
    exact ⟨o, ho, by simpa using he⟩
/-- What Leave comes to, by without. -/
theorem leave_wo {hs ws : List (Int × Bool)} (hn : Nd (hs ++ ws)) {id : Int} (h : isIn id hs = true ∨ isIn id ws = true) : leaveL (hs, ws) id = grantL (wo id hs) (wo id ws) := by
  unfold Nd at hn
  rw [List.map_append, List.nodup_append] at hn
  unfold leaveL
  simp only []
  by_cases h1 : isIn id hs = true
  · rw [if_pos h1, wo_find hn.1 h1, wo_none (os := ws)]
    cases h2 : isIn id ws with
    | false => rfl
    | true => exact absurd rfl (hn.2.2 _ (isIn_mem.1 h1) _ (isIn_mem.1 h2))
  · rw [if_neg h1]
    have h2 : isIn id ws = true := by rcases h with h | h; exact absurd h h1; exact h
    rw [if_pos h2, wo_find hn.2.1 h2, wo_none (os := hs) (by simpa using h1)]
theorem nd_left {hs ws : List (Int × Bool)} (hn : Nd (hs ++ ws)) : Nd ws := by
  unfold Nd at *
  rw [List.map_append, List.nodup_append] at hn
  exact hn.2.1
end Go.Proofs.Ytopclgpimabpcaa.LrC
