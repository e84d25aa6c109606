/- Plain Lean: what the laws of this program's functions come to, in numbers and lists; no program is run here. -/
import Derived.Test.YtkgoflpkdcdajaaGreatPP28h
set_option linter.unusedVariables false
set_option linter.unusedSimpArgs false
set_option maxRecDepth 100000
namespace Go.Proofs.YtkgoflpkdcdajaaGreat
open Go Go.Ab Go.Proofs Go.IntWalk
/- Lengths of any many parts, vectors, the air's force in plain Lean (r28). -/
theorem airT {c : Car} (hv : (rightR c).1 = 0) (r : Int) : (evalS false (c.snd.snd.snd.snd.snd.snd.snd.fst) r).1 = false ∧ 0 ≤ (evalS false (c.snd.snd.snd.snd.snd.snd.snd.fst) r).2 ∧ (evalS false (c.snd.snd.snd.snd.snd.snd.snd.fst) r).2 ≤ 140737488355328 ∧ List.length (c.snd.snd.snd.snd.snd.snd.snd.fst) ≤ 32 := by
  have h := rightR_zero hv (valR (fun _ => true) (c.snd.snd.snd.snd.snd.snd.snd.fst) 0 140737488355328) (by simp [allR])
  generalize (c.snd.snd.snd.snd.snd.snd.snd.fst : List Dot) = l at h ⊢
  unfold valR at h
  cases ht : (tabR l != 0)
  · rw [ht] at h
    simp only [cond_false] at h
    cases ha : (l.any (fun d => decide (d.2.1 < 0) || decide (d.2.1 > 140737488355328) || !true))
    · have hR := right13 ht
      obtain ⟨e1, e2, e3⟩ := hR.eval false r
      obtain ⟨c1, _, _⟩ := hR.cell r
      have hY : ∀ i, i < l.length → 0 ≤ tY l i ∧ tY l i ≤ 140737488355328 := fun i hi => by
        have hm := nth_mem (l := l) hi
        have := (List.any_eq_false.1 ha) _ hm
        simp only [Bool.not_true, Bool.or_false, Bool.or_eq_true, decide_eq_true_eq, not_or] at this
        unfold tY; omega
      have y0 := hY (cellV l r) (by omega)
      have y1 := hY (cellV l r + 1) c1
      refine ⟨e1, ?_, ?_, hR.most⟩
      · rcases Int.le_total (tY l (cellV l r)) (tY l (cellV l r + 1)) with hh | hh
        · have := e2 hh; omega
        · have := e3 hh; omega
      · rcases Int.le_total (tY l (cellV l r)) (tY l (cellV l r + 1)) with hh | hh
        · have := e2 hh; omega
        · have := e3 hh; omega
    · rw [ha] at h; exact absurd h (by decide)
  · rw [ht] at h
    simp only [cond_true] at h
    rw [h] at ht; exact absurd ht (by decide)
end Go.Proofs.YtkgoflpkdcdajaaGreat
