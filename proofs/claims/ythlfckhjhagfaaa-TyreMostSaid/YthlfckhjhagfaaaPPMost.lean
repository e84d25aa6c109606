/- Plain Lean: what the laws of this program's functions come to, in numbers and lists; no program is run here. -/
import Derived.Test.YthlfckhjhagfaaaPPFit
set_option linter.unusedVariables false
set_option linter.unusedSimpArgs false
set_option maxRecDepth 100000
namespace Go.Ab
open Go Go.IntWalk
/-
  That a force shared by two slips is no greater than the whole, but for one, in plain Lean. One text for all seats; it names no program.
-/
theorem sq_le_sq' {x y : Int} (h : -y ≤ x ∧ x ≤ y) : x * x ≤ y * y := by
  have h1 := Int.mul_nonneg (show 0 ≤ y - x by omega) (show 0 ≤ y + x by omega)
  have e : (y - x) * (y + x) = y * y - x * x := by grind
  omega
theorem le_of_sq {x y : Int} (hy : 0 ≤ y) (h : x * x ≤ y * y) : x ≤ y := by
  rcases Int.lt_or_le y x with k | k
  · exfalso
    have : (y + 1) * (y + 1) ≤ x * x := Int.mul_le_mul k k (by omega) (by omega)
    have e : (y + 1) * (y + 1) = y * y + 2 * y + 1 := by grind
    omega
  · exact k
theorem unit_sq {r A B U V : Int} (hr : 16777216 ≤ r) (hA : 0 ≤ A ∧ A ≤ r) (hB : 0 ≤ B ∧ B ≤ r) (hS : A * A + B * B ≤ r * r + 2 * r) (hU : 0 ≤ U) (hU2 : 2 * (U * r) ≤ 8589934592 * A + r) (hV : 0 ≤ V) (hV2 : 2 * (V * r) ≤ 8589934592 * B + r) : U * U + V * V ≤ 18446746281322741760 := by
  have u0 : 0 ≤ U * r := Int.mul_nonneg hU (by omega)
  have v0 : 0 ≤ V * r := Int.mul_nonneg hV (by omega)
  have s1 := sq_le_sq' (x := 2 * (U * r)) (y := 8589934592 * A + r) ⟨by omega, hU2⟩
  have s2 := sq_le_sq' (x := 2 * (V * r)) (y := 8589934592 * B + r) ⟨by omega, hV2⟩
  have e1 : (2 * (U * r)) * (2 * (U * r)) = 4 * ((r * r) * (U * U)) := by grind
  have e2 : (2 * (V * r)) * (2 * (V * r)) = 4 * ((r * r) * (V * V)) := by grind
  have e3 : (8589934592 * A + r) * (8589934592 * A + r) = 73786976294838206464 * (A * A) + 17179869184 * (A * r) + r * r := by grind
  have e4 : (8589934592 * B + r) * (8589934592 * B + r) = 73786976294838206464 * (B * B) + 17179869184 * (B * r) + r * r := by grind
  have rA : A * r ≤ r * r := Int.mul_le_mul_of_nonneg_right hA.2 (by omega)
  have rB : B * r ≤ r * r := Int.mul_le_mul_of_nonneg_right hB.2 (by omega)
  have rr : 16777216 * r ≤ r * r := Int.mul_le_mul_of_nonneg_right hr (by omega)
  have e5 : (r * r) * (U * U + V * V) = (r * r) * (U * U) + (r * r) * (V * V) := Int.mul_add _ _ _
  rcases Int.lt_or_le 18446746281322741760 (U * U + V * V) with k | k
  · exfalso
    have h1 : (r * r) * 18446746281322741761 ≤ (r * r) * (U * U + V * V) := Int.mul_le_mul_of_nonneg_left k (by omega)
    omega
  · exact k
theorem give_sq {W U V P Q : Int} (hW : 0 ≤ W ∧ W ≤ 9007199254740992) (hU : 0 ≤ U ∧ U ≤ 4294967296) (hV : 0 ≤ V ∧ V ≤ 4294967296) (hS : U * U + V * V ≤ 18446746281322741760) (hP : 0 ≤ P) (hP2 : 8589934592 * P ≤ 2 * (W * U) + 4294967296) (hQ : 0 ≤ Q) (hQ2 : 8589934592 * Q ≤ 2 * (W * V) + 4294967296) : P * P + Q * Q ≤ (W + 4294967296) * (W + 4294967296) := by
  have s1 := sq_le_sq' (x := 8589934592 * P) (y := 2 * (W * U) + 4294967296) ⟨by omega, hP2⟩
  have s2 := sq_le_sq' (x := 8589934592 * Q) (y := 2 * (W * V) + 4294967296) ⟨by omega, hQ2⟩
  have e1 : (8589934592 * P) * (8589934592 * P) = 73786976294838206464 * (P * P) := by grind
  have e2 : (8589934592 * Q) * (8589934592 * Q) = 73786976294838206464 * (Q * Q) := by grind
  have e3 : (2 * (W * U) + 4294967296) * (2 * (W * U) + 4294967296) = 4 * ((W * W) * (U * U)) + 17179869184 * (W * U) + 18446744073709551616 := by grind
  have e4 : (2 * (W * V) + 4294967296) * (2 * (W * V) + 4294967296) = 4 * ((W * W) * (V * V)) + 17179869184 * (W * V) + 18446744073709551616 := by grind
  have wU : W * U ≤ W * 4294967296 := Int.mul_le_mul_of_nonneg_left hU.2 hW.1
  have wV : W * V ≤ W * 4294967296 := Int.mul_le_mul_of_nonneg_left hV.2 hW.1
  have ww0 : 0 ≤ W * W := Int.mul_nonneg hW.1 hW.1
  have h1 : (W * W) * (U * U + V * V) ≤ (W * W) * 18446746281322741760 := Int.mul_le_mul_of_nonneg_left hS ww0
  have e5 : (W * W) * (U * U + V * V) = (W * W) * (U * U) + (W * W) * (V * V) := Int.mul_add _ _ _
  have ww : W * W ≤ W * 9007199254740992 := Int.mul_le_mul_of_nonneg_left hW.2 hW.1
  have e6 : (W + 4294967296) * (W + 4294967296) = W * W + 8589934592 * W + 18446744073709551616 := by grind
  omega
def mag (a : Int) : Int := if a < 0 then -a else a
theorem mag_nn (a : Int) : 0 ≤ mag a := by unfold mag; split <;> omega
theorem mag_sq (a : Int) : mag a * mag a = a * a := by
  unfold mag; split
  · exact Int.neg_mul_neg a a
  · rfl
theorem mag_le {a k : Int} (h : -k ≤ a ∧ a ≤ k) : mag a ≤ k := by unfold mag; split <;> omega
theorem div_mag {a r : Int} (hr : 0 < r) : 2 * (mag (divV a r) * r) ≤ 8589934592 * mag a + r := by
  have h := rnd_near (a * 4294967296) hr
  have e : divV a r = rnd (a * 4294967296) r := by unfold divV; rw [if_neg (by omega)]
  rw [← e] at h
  have hm : a ≤ mag a ∧ -a ≤ mag a := by unfold mag; split <;> omega
  unfold mag at *
  by_cases hd : divV a r < 0
  · rw [if_pos hd, Int.neg_mul]; omega
  · rw [if_neg hd]; omega
theorem mul_mag {W u : Int} (hW : 0 ≤ W) : 8589934592 * mag (mulV W u) ≤ 2 * (W * mag u) + 4294967296 := by
  have h := rnd_near (W * u) (show (0 : Int) < 4294967296 by decide)
  have e : mulV W u = rnd (W * u) 4294967296 := rfl
  rw [← e] at h
  have hm : W * u ≤ W * mag u ∧ -(W * u) ≤ W * mag u := by
    have h1 : u ≤ mag u ∧ -u ≤ mag u := by unfold mag; split <;> omega
    refine ⟨Int.mul_le_mul_of_nonneg_left h1.1 hW, ?_⟩
    have := Int.mul_le_mul_of_nonneg_left h1.2 hW
    rw [Int.mul_neg] at this; exact this
  generalize W * mag u = M at hm ⊢
  unfold mag
  split <;> omega
/-- The two parts together are no greater than the whole, but for one. -/
theorem most_sq {W a w r : Int} (hW : 0 ≤ W ∧ W ≤ 9007199254740992) (hr : 16777216 ≤ r) (ha : -r ≤ a ∧ a ≤ r) (hw : -r ≤ w ∧ w ≤ r) (h : a * a + w * w < (r + 1) * (r + 1)) (hu : -4294967296 ≤ divV a r ∧ divV a r ≤ 4294967296) (hv : -4294967296 ≤ divV w r ∧ divV w r ≤ 4294967296) :
    mulV W (divV a r) * mulV W (divV a r) + -(mulV W (divV w r)) * -(mulV W (divV w r)) ≤ (W + 4294967296) * (W + 4294967296) := by
  have e : (r + 1) * (r + 1) = r * r + 2 * r + 1 := by grind
  have s := unit_sq (r := r) (A := mag a) (B := mag w) (U := mag (divV a r)) (V := mag (divV w r)) hr ⟨mag_nn _, mag_le ha⟩ ⟨mag_nn _, mag_le hw⟩ (by rw [mag_sq, mag_sq]; omega) (mag_nn _) (div_mag (by omega)) (mag_nn _) (div_mag (by omega))
  have g := give_sq (W := W) (U := mag (divV a r)) (V := mag (divV w r)) (P := mag (mulV W (divV a r))) (Q := mag (mulV W (divV w r))) hW ⟨mag_nn _, mag_le hu⟩ ⟨mag_nn _, mag_le hv⟩ s (mag_nn _) (mul_mag hW.1) (mag_nn _) (mul_mag hW.1)
  rw [mag_sq, mag_sq] at g
  rw [Int.neg_mul_neg]
  exact g
end Go.Ab
