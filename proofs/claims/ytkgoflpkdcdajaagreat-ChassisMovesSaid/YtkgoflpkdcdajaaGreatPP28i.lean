/- Plain Lean: what the laws of this program's functions come to, in numbers and lists; no program is run here. -/
import Derived.Test.YtkgoflpkdcdajaaGreatPPVec
set_option linter.unusedVariables false
set_option linter.unusedSimpArgs false
set_option maxRecDepth 100000
namespace Go.Proofs.YtkgoflpkdcdajaaGreat
open Go Go.Ab Go.Proofs Go.IntWalk
/- The document's sums of numbers that are not below 0, and its lengths, in plain Lean (r28). -/
theorem lenS68 (o : Bool) (l : List Int) (hl : ∀ a ∈ l, I64 a) (hlen : l.length ≤ 1000) : fn68 (o, ()) (l, ()) = some (res (lenS o (sqs l))) := by
  show law68 (10 ^ 30) _ _ = _
  unfold law68
  have hnn := sqs_nn l
  unfold lenS
  rcases len_loop (10 ^ 30) (o, ()) l _ hl hlen l.length (10 ^ 30) 0 0 (by omega) (by omega) (Int.le_refl 0) (by decide) with ⟨h1, h2⟩ | ⟨h1, h2⟩
  · simp only [List.drop_zero, Int.zero_add] at h1 h2
    obtain ⟨r, e5, r0, r1, r2, r3⟩ := root39 (sqs l) ⟨hnn, h1⟩
    rw [if_pos h1, rootV_eq r0 r2 r3]
    by_cases hr : r > 9223372036854775807
    · rw [if_pos hr]
      exact h2.trans ((bindT e5).trans ((bifF rfl).trans (bifT (by rw [decide_eq_true_eq]; exact hr))))
    · rw [if_neg hr]
      refine h2.trans ((bindT e5).trans ((bifF rfl).trans ((bifF (by rw [decide_eq_false_iff_not]; exact hr)).trans ?_)))
      rw [i64_in r (by omega)]; rfl
  · simp only [List.drop_zero, Int.zero_add] at h1 h2
    obtain ⟨r, e5, _⟩ := root39 0 (by omega)
    rw [if_neg h1]
    exact h2.trans ((bindT e5).trans (bifT rfl))
end Go.Proofs.YtkgoflpkdcdajaaGreat
