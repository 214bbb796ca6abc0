/- What stays true of a lock: plain law. -/
import Derived.Test.YtopclgpimabpcaaProg
import Derived.Below
import Derived.Deep.Draws
import Derived.Deep.AppendLies
import Derived.Maps.AppendAt
import Derived.OwnWalk
import Derived.Laws.BytesArg
import Derived.Laws.MakeOwn
import Derived.Laws.OwnMore
import Derived.Deep.OwnRows
import Derived.Tactics
import Derived.Lib.ConvBytes
import Derived.Laws.Slices
import Derived.WalkKit
import Derived.KernelRfl
import Derived.RowKit3
import Derived.Deep.LoopGhost
import Derived.Deep.QuietTactic
import Derived.BigQuiet
import Derived.WideLaws
import Derived.Deep.DeepCutAuto
import Derived.Deep.CutBlock
import Derived.Deep.RegionHeld3
import Derived.Laws.Rows
import Derived.Lib.AppendStr
import Derived.ArgAppend
import Derived.Laws.IdiomCopy
import Derived.OrdersHeld
import Derived.Laws.BitsLemmas
import Derived.RowKit
import Derived.WalkSpells
import Derived.Outline
import Derived.Test.YtopclgpimabpcaaWWords
import Derived.Test.YtopclgpimabpcaaWLast
import Derived.Test.YtopclgpimabpcaaWMore
import Derived.Test.YtopclgpimabpcaaWArr
import Derived.Test.YtopclgpimabpcaaWTab
import Derived.Test.YtopclgpimabpcaaWZeros
import Derived.Test.YtopclgpimabpcaaWRepsOne
import Derived.Test.YtopclgpimabpcaaLrD
namespace Go.Proofs.Ytopclgpimabpcaa.LaP
open Go.RowKit Go.Proofs.YtopclgpimabpcaaW.PrintWords Go.Proofs.YtopclgpimabpcaaW.PrintLast Go.Proofs.YtopclgpimabpcaaW.PrintMore Go.Proofs.Ytopclgpimabpcaa.Mix Go.Proofs.Ytopclgpimabpcaa.MixB Go.Proofs.Ytopclgpimabpcaa.MixT Go.Proofs.Ytopclgpimabpcaa.LkA Go.Proofs.Ytopclgpimabpcaa.LkB Go.Proofs.Ytopclgpimabpcaa.LkC Go.Proofs.Ytopclgpimabpcaa.LkD Go.Proofs.Ytopclgpimabpcaa.LkE Go.Proofs.Ytopclgpimabpcaa.LkF Go.Proofs.Ytopclgpimabpcaa.LrA Go.Proofs.Ytopclgpimabpcaa.LrB Go.Proofs.Ytopclgpimabpcaa.LrC
set_option linter.unusedSimpArgs false
set_option linter.unusedVariables false
attribute [local go_sem] max2_int min2_int max_two min_two

/-- A lock as it may be: all readers or one alone; nobody twice. -/
def Okl (s : LS) (n : Nat) : Prop := Uni s.1 ∧ Nd (s.1 ++ s.2) ∧ s.1.length + s.2.length ≤ n
theorem okl_nil : Okl ([], []) 0 := ⟨.inr (by simp), by unfold Nd; simp, by simp⟩
theorem grant_app : ∀ (ws hs : List (Int × Bool)), (grantL hs ws).1.1 ++ (grantL hs ws).1.2 = hs ++ ws := by
  intro ws
  induction ws with
  | nil => intro hs; simp [grant_nil]
  | cons o ws ih =>
    intro hs
    cases h : mayL hs o.2 with
    | true => rw [grant_go h, ih]; simp
    | false => rw [grant_stop h]
theorem grant_uni : ∀ (ws hs : List (Int × Bool)), Uni hs → Uni (grantL hs ws).1.1 := by
  intro ws
  induction ws with
  | nil => intro hs h; exact h
  | cons o ws ih =>
    intro hs h
    cases hm : mayL hs o.2 with
    | true => rw [grant_go hm]; exact ih _ (uni_snoc h hm)
    | false => rw [grant_stop hm]; exact h
theorem okl_grant {hs ws : List (Int × Bool)} {n : Nat} (h : Okl (hs, ws) n) : Okl (grantL hs ws).1 n := by
  have ha := grant_app ws hs
  refine ⟨grant_uni ws hs h.1, by rw [ha]; exact h.2.1, ?_⟩
  rw [← List.length_append, ha, List.length_append]
  exact h.2.2
theorem grant_len : ∀ (ws hs : List (Int × Bool)), (grantL hs ws).2.length ≤ ws.length := by
  intro ws
  induction ws with
  | nil => intro hs; simp [grant_nil]
  | cons o ws ih =>
    intro hs
    cases hm : mayL hs o.2 with
    | true => rw [grant_go hm]; have := ih (hs ++ [o]); simp only [List.length_cons]; omega
    | false => rw [grant_stop hm]; simp
theorem leave_len (s : LS) (who : Int) : (leaveL s who).2.length ≤ s.2.length := by
  unfold leaveL
  split
  · exact grant_len _ _
  · split
    · exact Nat.le_trans (grant_len _ _) (List.length_eraseIdx_le _ _)
    · simp
theorem okl_leave {s : LS} {n : Nat} (h : Okl s n) (who : Int) : Okl (leaveL s who).1 n := by
  obtain ⟨hs, ws⟩ := s
  obtain ⟨h1, h2, h3⟩ := h
  simp only at h1 h2 h3
  unfold leaveL
  split
  · refine okl_grant ⟨?_, ?_, ?_⟩
    · rcases h1 with h1 | h1
      · exact .inl (fun x hx => h1 x (List.mem_of_mem_eraseIdx hx))
      · exact .inr (Nat.le_trans (List.length_eraseIdx_le _ _) h1)
    · exact List.Sublist.nodup (List.Sublist.map _ (List.Sublist.append (List.eraseIdx_sublist _ _) (List.Sublist.refl _))) h2
    · exact Nat.le_trans (Nat.add_le_add_right (List.length_eraseIdx_le _ _) _) h3
  · split
    · refine okl_grant ⟨h1, ?_, ?_⟩
      · exact List.Sublist.nodup (List.Sublist.map _ (List.Sublist.append (List.Sublist.refl _) (List.eraseIdx_sublist _ _))) h2
      · exact Nat.le_trans (Nat.add_le_add_left (List.length_eraseIdx_le _ _) _) h3
    · exact ⟨h1, h2, h3⟩
theorem okl_mono {s : LS} {n m : Nat} (h : Okl s n) (hm : n ≤ m) : Okl s m := ⟨h.1, h.2.1, Nat.le_trans h.2.2 hm⟩
theorem nd_snoc {os : List (Int × Bool)} {o : Int × Bool} (h : Nd os) (hn : isIn o.1 os = false) : Nd (os ++ [o]) := by
  unfold Nd at *
  rw [List.map_append, List.nodup_append]
  refine ⟨h, by simp, ?_⟩
  intro a ha b hb e
  have hb' : b = o.1 := by simpa using hb
  subst e
  subst hb'
  rw [isIn_mem.2 ha] at hn
  cases hn
theorem okl_ask {s : LS} {n : Nat} (h : Okl s n) (who : Int) (wr : Bool) : Okl (askL s who wr).2 (n + 1) := by
  obtain ⟨hs, ws⟩ := s
  obtain ⟨h1, h2, h3⟩ := h
  simp only at h1 h2 h3
  unfold askL
  simp only []
  split
  · exact ⟨h1, h2, Nat.le_succ_of_le h3⟩
  · rename_i hn
    have hin : isIn who (hs ++ ws) = false := by
      unfold isIn at *
      rw [List.any_append]
      simp only [not_or, Bool.not_eq_true] at hn
      rw [hn.2.1, hn.2.2]
      rfl
    have hnd := nd_snoc (o := (who, wr)) h2 hin
    split
    · exact ⟨h1, by rw [← List.append_assoc]; exact hnd, by rw [List.length_append]; simp; omega⟩
    · rename_i hc
      have hw : ws = [] := List.eq_nil_of_length_eq_zero (by omega)
      subst hw
      have hm : mayL hs wr = true := by
        cases hmm : mayL hs wr with
        | true => rfl
        | false => exact absurd (.inr hmm) hc
      rw [List.append_nil] at hnd
      exact ⟨uni_snoc (o := (who, wr)) h1 hm, by rw [List.append_nil]; exact hnd, by simp at h3 ⊢; omega⟩
theorem R_kt {α : Type} {d : Kd α} {e S E : Nat} {w w' : World} {base : Nat} {ok : Nat → Prop} {v : Value} {xs : List α} (hE : d.E = []) (h1 : e ≠ S) (h2 : e ≠ E) (h : d.R e w base ok v xs) (hk : Kt S E w w') : d.R e w' base ok v xs := by
  refine Kd.R_mono (Kd.R_move (Kd.R_bound h) (fun k hk' => ?_)) (fun _ hk' => hk'.1)
  obtain ⟨_, _, _, q, hq, cells, hc⟩ := hk'
  rw [hE] at hq
  have hq' : q = e := by simpa using hq
  subst hq'
  rw [hk k _ hc (fun cs t he => by injection he with _ e2; subst e2; exact ⟨h1, h2⟩), hc]
theorem ints_same {w : World} {A A2 : Option Addr} {c c2 : Nat} {l : List Int} (h1 : (Kd.int .i64).C w A l.length l) (h2 : (Kd.int .i64).C w A2 l.length l) (hl : l.length ≤ 1000000000) :
    Calls Try.prog 23 #[.slice A l.length c, .slice A2 l.length c2] w fun e w' => e = .returned (.bool true) ∧ Below w.heap.size w w' := by
  refine (Go.Proofs.Ytopclgpimabpcaa.InA.ints_calls A c l A2 c2 l w h1 h2 hl).mono ?_
  rintro e w' ⟨h3, h4⟩
  exact ⟨by rw [h3, decide_eq_true rfl], h4⟩
end Go.Proofs.Ytopclgpimabpcaa.LaP
