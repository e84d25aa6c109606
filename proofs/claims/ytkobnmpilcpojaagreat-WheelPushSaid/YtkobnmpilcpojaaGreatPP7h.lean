/- Plain Lean: what the laws of this program's functions come to, in numbers and lists; no program is run here. -/
import Derived.Test.YtkobnmpilcpojaaGreatPP7e
set_option linter.unusedVariables false
set_option linter.unusedSimpArgs false
set_option maxRecDepth 100000
namespace Go.Proofs.YtkobnmpilcpojaaGreat
open Go Go.Ab Go.Proofs Go.IntWalk
theorem lx19 (M : Nat) (hM : 100 ≤ M) (p : Pan) : ∃ b, law19 M (p, ()) = some (b, ()) ∧ (b = true → FewP p) := by
  unfold law19
  cases h1 : decide ((p.1.length : Int) > 40)
  case true => exact ⟨false, rfl, fun h => by cases h⟩
  cases h2 : decide ((p.2.1.length : Int) > 40)
  case true => exact ⟨false, rfl, fun h => by cases h⟩
  cases h3 : decide ((p.2.2.1.length : Int) > 40)
  case true => exact ⟨false, rfl, fun h => by cases h⟩
  have h1 := of_decide_eq_false h1
  have h2 := of_decide_eq_false h2
  have h3 := of_decide_eq_false h3
  have := any_law p.2.2.1 (fun r => decide ((List.length r : Int) > 40)) (some (false, ())) (some (true, ())) (fun n j => law19o0 M (p, ()) (some (false, ())) (some (true, ())) n j) (by omega) (fun n j v hv => ?_) (fun n j hj => ?_) M (by omega)
  · refine ⟨_, this.trans (show _ = some (bif p.2.2.1.any (fun r => decide ((List.length r : Int) > 40)) then false else true, ()) from ?_), fun hb => ⟨by omega, by omega, by omega, fun r hr => ?_⟩⟩
    · cases p.2.2.1.any (fun r => decide ((List.length r : Int) > 40)) <;> rfl
    · cases ha : p.2.2.1.any (fun r => decide ((List.length r : Int) > 40)) with
      | true => rw [ha] at hb; cases hb
      | false =>
        have := List.any_eq_false.1 ha r hr
        simp at this; omega
  · conv => lhs; unfold law19o0
    simp only [idx0, idxB hv, Bool.and_self, cond_true, Int.toNat_natCast, hv, Option.bind_some]
  · conv => lhs; unfold law19o0
    simp only [hj, decide_false, cond_false]
theorem ex6 (c : Car) (hs : 0 ≤ (c.snd.snd.snd.snd.snd.snd.snd.snd.snd.snd.snd.snd.snd.snd.snd.snd.snd.snd.snd.snd.snd.snd.snd.fst : Int) ∧ (c.snd.snd.snd.snd.snd.snd.snd.snd.snd.snd.snd.snd.snd.snd.snd.snd.snd.snd.snd.snd.snd.snd.snd.fst : Int) < 4294967296) (hr : 0 ≤ (c.snd.snd.snd.snd.snd.snd.snd.snd.snd.snd.snd.snd.snd.snd.snd.snd.snd.snd.snd.snd.snd.snd.snd.snd.fst : Int) ∧ (c.snd.snd.snd.snd.snd.snd.snd.snd.snd.snd.snd.snd.snd.snd.snd.snd.snd.snd.snd.snd.snd.snd.snd.snd.fst : Int) < 4294967296) : ∃ b, fn6 (c, ()) = some (b, ()) ∧ (b = true → FewC c) := by
  unfold fn6 law6
  obtain ⟨b, hb, hp⟩ := lx19 (10 ^ 30) (by decide) (c.snd.snd.snd.snd.snd.fst)
  have hb : fn19 (c.snd.snd.snd.snd.snd.fst, ()) = some (b, ()) := hb
  cases h1 : decide ((List.length (c.snd.snd.snd.snd.fst) : Int) ≤ 40)
  case false => exact ⟨false, rfl, fun h => by cases h⟩
  cases h2 : decide ((List.length (c.snd.snd.snd.snd.snd.snd.fst) : Int) ≤ 40)
  case false => exact ⟨false, rfl, fun h => by cases h⟩
  cases h3 : decide ((List.length (c.snd.snd.snd.snd.snd.snd.snd.fst) : Int) ≤ 40)
  case false => exact ⟨false, rfl, fun h => by cases h⟩
  cases h4 : decide ((List.length (c.snd.snd.snd.snd.snd.snd.snd.snd.snd.snd.snd.snd.snd.snd.snd.snd.fst) : Int) ≤ 20)
  case false => exact ⟨false, rfl, fun h => by cases h⟩
  have h1 := of_decide_eq_true h1
  have h2 := of_decide_eq_true h2
  have h3 := of_decide_eq_true h3
  have h4 := of_decide_eq_true h4
  exact ⟨b, (bindSome hb).trans rfl, fun h => ⟨by omega, hp h, by omega, by omega, by omega, hs, hr⟩⟩
end Go.Proofs.YtkobnmpilcpojaaGreat
