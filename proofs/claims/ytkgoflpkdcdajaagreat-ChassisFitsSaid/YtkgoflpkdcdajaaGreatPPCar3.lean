/- Plain Lean: what the laws of this program's functions come to, in numbers and lists; no program is run here. -/
import Derived.Test.YtkgoflpkdcdajaaGreatPPCar2
set_option linter.unusedVariables false
set_option linter.unusedSimpArgs false
set_option maxRecDepth 100000
namespace Go.Ab
open Go Go.IntWalk
/-
  Cars that may be: what follows from it. One text for all seats; it names no program.
-/
theorem rightR_zero {c : Car} (h : (rightR c).1 = 0) : ∀ v ∈ allR c, v = 0 := by
  unfold rightR at h
  cases hs : scanL (fun v => v != 0) (allR c) 0 with
  | none =>
    have := (scanL_none (allR c) 0).1 hs
    intro v hv
    rw [List.any_eq_false] at this
    have := this v hv
    simpa using this
  | some z =>
    obtain ⟨i, v⟩ := z
    rw [hs] at h
    obtain ⟨-, h2, -⟩ := scanL_some _ _ _ _ hs
    have h : v = 0 := h
    simp [h] at h2
theorem farI_false {a : Int} (h : farI a = false) : -4503599627370496 ≤ a ∧ a ≤ 4503599627370496 := by
  unfold farI at h
  rw [Bool.or_eq_false_iff] at h
  have h1 := of_decide_eq_false h.1
  have h2 := of_decide_eq_false h.2
  omega
theorem rangedR_zero {l : List Bnd} (h : rangedR l = 0) : ∀ b ∈ l, b.2.1 ≤ b.1 ∧ b.1 ≤ b.2.2.1 := by
  rw [rangedR_in] at h
  intro b hb
  cases ha : l.all inB with
  | false => rw [ha] at h; exact absurd h (by decide)
  | true =>
    have := List.all_eq_true.1 ha b hb
    unfold inB at this
    simpa using this
end Go.Ab
