/- An operation of a drawn region by the laws that are made for plain regions. (Own law.) No condition of a claim. -/
import Derived.Test.YtfojeegepfjbiaaMix
import Derived.Tactics
namespace Go.Proofs.Ytfojeegepfjbiaa.MixB
open Go.RowKit Go.Proofs.Ytfojeegepfjbiaa.Mix
variable {P : Program} {ops : Array Oper} {E : World → World → Prop} {Q : Act → World → Prop} {o : Oper} {i : Nat} {l : List (Bool × Nat)} {a : Act} {w : World}
theorem wp_to_only {K K' : Act → World → Prop} (h : o.wp P a w K (only K')) : o.wp P a w K (only fun _ _ => False) := by
  unfold Oper.wp at *
  generalize (execOp a.eval o).run P w = r at *
  cases r with
  | ok n w' =>
    cases n <;> simp only [Oper.upon] at h ⊢ <;>
      first
        | exact h
        | exact Calls.mono h (fun e w'' he => by
            cases e with
            | returned u => exact he
            | panicked c => exact (he : False).elim
            | outgrown => obtain ⟨_, _, hf⟩ := he; exact (hf : False).elim)
  | halt x w' =>
    cases x <;> simp only [Oper.upon] at h ⊢
    case panic v => exact (h : False).elim
/-- One operation by a law for plain regions. -/
theorem mix_list (hi : ops[i]? = some o) (hw : Region.wanted o (yielded ops a.tmps) = true) (h : wpList P ops (only fun a' w' => E w w' ∧ wpMix P ops E Q l a' w') [o] a w) : wpMix P ops E Q ((true, i) :: l) a w := by
  refine ⟨o, hi, ?_⟩
  rw [if_pos hw]
  unfold wpList at h
  rw [if_pos hw] at h
  rcases h with h | ⟨_, a', w', h⟩
  · exact wp_to_only h
  · exact (h : False).elim
end Go.Proofs.Ytfojeegepfjbiaa.MixB
