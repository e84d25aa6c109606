/- Plain Lean: what the laws of this program's functions come to, in numbers and lists; no program is run here. -/
import Derived.Test.YtkamnpkcjokncaaPP09t
set_option linter.unusedVariables false
set_option linter.unusedSimpArgs false
set_option maxRecDepth 100000
namespace Go.Proofs.Ytkamnpkcjokncaa
open Go Go.Ab Go.Proofs Go.IntWalk
/- Small cars (r17). -/
theorem lx7 (M : Nat) (hM : 100 ≤ M) (p : Pan) : ∃ b, law7 M (p, ()) = some (b, ()) ∧ (b = true → FewP p) := by
  unfold law7
  cases h1 : decide ((p.1.length : Int) > 40)
  case true => exact ⟨false, rfl, fun h => by cases h⟩
  cases h2 : decide ((p.2.1.length : Int) > 40)
  case true => exact ⟨false, rfl, fun h => by cases h⟩
  cases h3 : decide ((p.2.2.1.length : Int) > 40)
  case true => exact ⟨false, rfl, fun h => by cases h⟩
  have h1 := of_decide_eq_false h1
  have h2 := of_decide_eq_false h2
  have h3 := of_decide_eq_false h3
  have := any_law p.2.2.1 (fun r => decide ((List.length r : Int) > 40)) (some (false, ())) (some (true, ())) (fun n j => law7o0 M (p, ()) (some (false, ())) (some (true, ())) n j) (by omega) (fun n j v hv => ?_) (fun n j hj => ?_) M (by omega)
  · refine ⟨_, this.trans (show _ = some (bif p.2.2.1.any (fun r => decide ((List.length r : Int) > 40)) then false else true, ()) from ?_), fun hb => ⟨by omega, by omega, by omega, fun r hr => ?_⟩⟩
    · cases p.2.2.1.any (fun r => decide ((List.length r : Int) > 40)) <;> rfl
    · cases ha : p.2.2.1.any (fun r => decide ((List.length r : Int) > 40)) with
      | true => rw [ha] at hb; cases hb
      | false =>
        have := List.any_eq_false.1 ha r hr
        simp at this; omega
  · conv => lhs; unfold law7o0
    simp only [idx0, idxB hv, Bool.and_self, cond_true, Int.toNat_natCast, hv, Option.bind_some]
  · conv => lhs; unfold law7o0
    simp only [hj, decide_false, cond_false]
end Go.Proofs.Ytkamnpkcjokncaa
