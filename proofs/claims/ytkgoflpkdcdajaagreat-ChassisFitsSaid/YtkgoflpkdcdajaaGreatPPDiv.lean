/- Plain Lean: what the laws of this program's functions come to, in numbers and lists; no program is run here. -/
import Derived.Test.YtkgoflpkdcdajaaGreatPP28l
set_option linter.unusedVariables false
set_option linter.unusedSimpArgs false
set_option maxRecDepth 100000
namespace Go.Ab
open Go Go.IntWalk
/-
  Quotients by digits of 32 bits, in plain Lean. One text for all seats; it names no program.
-/
theorem quot_of {U Y q : Int} (hY : 0 < Y) (h1 : q * Y ≤ U) (h2 : U < (q + 1) * Y) : U / Y = q := by
  have := qr_unique (n := U) (d := Y) (q := q) (r := U - q * Y) hY (by omega) (by omega) (by rw [Int.add_mul, Int.one_mul] at h2; omega)
  exact this.1
theorem digit_loop {β : Type} (A U1 Y1 Y0 : Int) (k : Int → Option β) (F : Nat → Int → Int → Option β)
    (hF : ∀ n q p, F (n + 1) q p = bif decide (q ≥ 4294967296) then (bif decide (IntKind.u64.wrap (p + Y1) ≥ 4294967296) then k (IntKind.u64.wrap (q - 1)) else F n (IntKind.u64.wrap (q - 1)) (IntKind.u64.wrap (p + Y1))) else (bif decide (IntKind.u64.wrap (q * Y0) > IntKind.u64.wrap (IntKind.u64.wrap (4294967296 * p) + U1)) then (bif decide (IntKind.u64.wrap (p + Y1) ≥ 4294967296) then k (IntKind.u64.wrap (q - 1)) else F n (IntKind.u64.wrap (q - 1)) (IntKind.u64.wrap (p + Y1))) else k q))
    (hY1 : 2147483648 ≤ Y1 ∧ Y1 < 4294967296) (hY0 : 0 ≤ Y0 ∧ Y0 < 4294967296) (hA : 0 ≤ A ∧ A < Y1 * 4294967296 + Y0) (hU : 0 ≤ U1 ∧ U1 < 4294967296) : ∀ (n : Nat) (q p : Int), p = A - q * Y1 → 0 ≤ p → p < 4294967296 → (A * 4294967296 + U1) / (Y1 * 4294967296 + Y0) ≤ q → q ≤ 4294967297 → 4294967296 ≤ p + n * Y1 → F (n + 1) q p = k ((A * 4294967296 + U1) / (Y1 * 4294967296 + Y0))
  | n, q, p, hp, hp0, hp1, hq, hq1, hn => by
    have hYpos : 0 < Y1 * 4294967296 + Y0 := by omega
    obtain ⟨g1, g2, g3⟩ := qr (A * 4294967296 + U1) hYpos
    generalize hQ : (A * 4294967296 + U1) / (Y1 * 4294967296 + Y0) = Q at *
    generalize (A * 4294967296 + U1) % (Y1 * 4294967296 + Y0) = R at *
    have hQ0 : 0 ≤ Q := by rw [← hQ]; exact Int.ediv_nonneg (by omega) (by omega)
    have e1 : q * (Y1 * 4294967296 + Y0) = q * Y1 * 4294967296 + q * Y0 := by grind
    -- what stands against going on
    have stop : q * (Y1 * 4294967296 + Y0) ≤ A * 4294967296 + U1 → q = Q := fun h => by
      rw [← hQ]; refine (quot_of hYpos h ?_).symm
      have : (Q + 1) * (Y1 * 4294967296 + Y0) ≤ (q + 1) * (Y1 * 4294967296 + Y0) := Int.mul_le_mul_of_nonneg_right (by omega) (by omega)
      rw [Int.add_mul, Int.one_mul] at this; omega
    have more : A * 4294967296 + U1 < q * (Y1 * 4294967296 + Y0) → Q ≤ q - 1 := fun h => by
      apply Int.not_lt.1
      intro hlt
      have : q * (Y1 * 4294967296 + Y0) ≤ Q * (Y1 * 4294967296 + Y0) := Int.mul_le_mul_of_nonneg_right (by omega) (by omega)
      omega
    have w1 : IntKind.u64.wrap (p + Y1) = p + Y1 := u64in _ (by omega)
    have hqpos : A * 4294967296 + U1 < q * (Y1 * 4294967296 + Y0) → IntKind.u64.wrap (q - 1) = q - 1 := fun h => u64in _ (by have := more h; omega)
    -- one step down
    have step : A * 4294967296 + U1 < q * (Y1 * 4294967296 + Y0) → (bif decide (IntKind.u64.wrap (p + Y1) ≥ 4294967296) then k (IntKind.u64.wrap (q - 1)) else F n (IntKind.u64.wrap (q - 1)) (IntKind.u64.wrap (p + Y1))) = k Q := fun h => by
      have hm := more h
      rw [w1, hqpos h]
      by_cases hc : p + Y1 ≥ 4294967296
      · rw [decide_eq_true hc, cond_true]
        congr 1
        have e2 : (q - 1) * (Y1 * 4294967296 + Y0) = q * Y1 * 4294967296 - Y1 * 4294967296 + (q - 1) * Y0 := by grind
        have e3 : (q - 1) * Y0 ≤ 4294967296 * Y0 := Int.mul_le_mul_of_nonneg_right (by omega) hY0.1
        rw [← hQ]
        refine (quot_of hYpos ?_ ?_).symm
        · rw [e2]; omega
        · have : (Q + 1) * (Y1 * 4294967296 + Y0) ≤ (q - 1 + 1) * (Y1 * 4294967296 + Y0) := Int.mul_le_mul_of_nonneg_right (by omega) (by omega)
          rw [Int.add_mul, Int.one_mul] at this; omega
      · rw [decide_eq_false hc, cond_false]
        cases n with
        | zero => omega
        | succ n =>
          have := digit_loop A U1 Y1 Y0 k F hF hY1 hY0 hA hU n (q - 1) (p + Y1) (by rw [hp, Int.sub_mul]; omega) (by omega) (by omega) (by rw [hQ]; omega) (by omega) (by
            have : ((n + 1 : Nat) : Int) * Y1 = n * Y1 + Y1 := by rw [Int.natCast_succ, Int.add_mul, Int.one_mul]
            omega)
          rw [this, hQ]
    rw [hF]
    by_cases c1 : q ≥ 4294967296
    · rw [decide_eq_true c1, cond_true]
      refine step ?_
      have : 4294967296 * (Y1 * 4294967296 + Y0) ≤ q * (Y1 * 4294967296 + Y0) := Int.mul_le_mul_of_nonneg_right c1 (by omega)
      omega
    · rw [decide_eq_false c1, cond_false]
      have hq0 : 0 ≤ q := by omega
      have b1 := prod_bound q Y0 hq0 (by omega) hY0.1 (by omega)
      have w2 : IntKind.u64.wrap (q * Y0) = q * Y0 := u64in _ (by omega)
      have w3 : IntKind.u64.wrap (4294967296 * p) = 4294967296 * p := u64in _ (by omega)
      have w4 : IntKind.u64.wrap (4294967296 * p + U1) = 4294967296 * p + U1 := u64in _ (by omega)
      rw [w2, w3, w4]
      by_cases c2 : q * Y0 > 4294967296 * p + U1
      · rw [decide_eq_true c2, cond_true]
        exact step (by rw [e1]; omega)
      · rw [decide_eq_false c2, cond_false]
        rw [stop (by rw [e1]; omega)]
theorem digit {β : Type} (A U1 Y1 Y0 : Int) (k : Int → Option β) (F : Nat → Int → Int → Option β)
    (hF : ∀ n q p, F (n + 1) q p = bif decide (q ≥ 4294967296) then (bif decide (IntKind.u64.wrap (p + Y1) ≥ 4294967296) then k (IntKind.u64.wrap (q - 1)) else F n (IntKind.u64.wrap (q - 1)) (IntKind.u64.wrap (p + Y1))) else (bif decide (IntKind.u64.wrap (q * Y0) > IntKind.u64.wrap (IntKind.u64.wrap (4294967296 * p) + U1)) then (bif decide (IntKind.u64.wrap (p + Y1) ≥ 4294967296) then k (IntKind.u64.wrap (q - 1)) else F n (IntKind.u64.wrap (q - 1)) (IntKind.u64.wrap (p + Y1))) else k q))
    (hY1 : 2147483648 ≤ Y1 ∧ Y1 < 4294967296) (hY0 : 0 ≤ Y0 ∧ Y0 < 4294967296) (hA : 0 ≤ A ∧ A < Y1 * 4294967296 + Y0) (hU : 0 ≤ U1 ∧ U1 < 4294967296) (N : Nat) (hN : 4 ≤ N) : F N (IntKind.u64.wrap (A.tdiv Y1)) (IntKind.u64.wrap (A - IntKind.u64.wrap (IntKind.u64.wrap (A.tdiv Y1) * Y1))) = k ((A * 4294967296 + U1) / (Y1 * 4294967296 + Y0)) := by
  have ht : A.tdiv Y1 = A / Y1 := Int.tdiv_eq_ediv_of_nonneg hA.1
  obtain ⟨h, h0, h1⟩ := qr A (show 0 < Y1 by omega)
  rw [ht]
  generalize A / Y1 = q at *
  generalize A % Y1 = r at *
  have hYpos : 0 < Y1 * 4294967296 + Y0 := by omega
  obtain ⟨g1, g2, g3⟩ := qr (A * 4294967296 + U1) hYpos
  have hQ0 : 0 ≤ (A * 4294967296 + U1) / (Y1 * 4294967296 + Y0) := Int.ediv_nonneg (by omega) (by omega)
  have hqQ : (A * 4294967296 + U1) / (Y1 * 4294967296 + Y0) ≤ q := by
    generalize (A * 4294967296 + U1) / (Y1 * 4294967296 + Y0) = Q at *
    generalize (A * 4294967296 + U1) % (Y1 * 4294967296 + Y0) = R at *
    apply Int.not_lt.1
    intro hlt
    have e1 : (q + 1) * Y1 ≤ Q * Y1 := Int.mul_le_mul_of_nonneg_right (by omega) (by omega)
    have e2 : Q * (Y1 * 4294967296 + Y0) = Q * Y1 * 4294967296 + Q * Y0 := by grind
    have e3 : 0 ≤ Q * Y0 := Int.mul_nonneg hQ0 hY0.1
    rw [Int.add_mul, Int.one_mul] at e1
    omega
  have hq1 : q ≤ 4294967297 := by
    apply Int.not_lt.1
    intro hlt
    have e1 : 4294967298 * Y1 ≤ q * Y1 := Int.mul_le_mul_of_nonneg_right (by omega) (by omega)
    omega
  have w1 : IntKind.u64.wrap q = q := u64in _ (by omega)
  have hqY : 0 ≤ q * Y1 := Int.mul_nonneg (by omega) (by omega)
  have hA1 : A < 18446744073709551616 := by omega
  have w2 : IntKind.u64.wrap (q * Y1) = q * Y1 := u64in _ (by omega)
  have w3 : IntKind.u64.wrap (A - q * Y1) = A - q * Y1 := u64in _ (by omega)
  rw [w1, w2, w3]
  obtain ⟨M, rfl⟩ : ∃ M, N = M + 1 := ⟨N - 1, by omega⟩
  refine digit_loop A U1 Y1 Y0 k F hF hY1 hY0 hA hU M q (A - q * Y1) rfl (by omega) (by omega) hqQ hq1 ?_
  have : (3 : Int) * Y1 ≤ (M : Int) * Y1 := Int.mul_le_mul_of_nonneg_right (by omega) (by omega)
  omega
end Go.Ab
