/- Plain Lean: what the laws of this program's functions come to, in numbers and lists; no program is run here. -/
import Derived.Test.YtkobnmpilcpojaaGreatPP7l
set_option linter.unusedVariables false
set_option linter.unusedSimpArgs false
set_option maxRecDepth 100000
namespace Go.Ab
open Go Go.IntWalk
theorem quot_of {U Y q : Int} (hY : 0 < Y) (h1 : q * Y ≤ U) (h2 : U < (q + 1) * Y) : U / Y = q := by
  have := qr_unique (n := U) (d := Y) (q := q) (r := U - q * Y) hY (by omega) (by omega) (by rw [Int.add_mul, Int.one_mul] at h2; omega)
  exact this.1
theorem digit_loop {β : Type} (A U1 Y1 Y0 : Int) (k : Int → Option β) (F : Nat → Int → Int → Option β)
    (hF : ∀ n q p, F (n + 1) q p = bif decide (q ≥ 4294967296) then (bif decide (IntKind.u64.wrap (p + Y1) ≥ 4294967296) then k (IntKind.u64.wrap (q - 1)) else F n (IntKind.u64.wrap (q - 1)) (IntKind.u64.wrap (p + Y1))) else (bif decide (IntKind.u64.wrap (q * Y0) > IntKind.u64.wrap (IntKind.u64.wrap (4294967296 * p) + U1)) then (bif decide (IntKind.u64.wrap (p + Y1) ≥ 4294967296) then k (IntKind.u64.wrap (q - 1)) else F n (IntKind.u64.wrap (q - 1)) (IntKind.u64.wrap (p + Y1))) else k q))
    (hY1 : 2147483648 ≤ Y1 ∧ Y1 < 4294967296) (hY0 : 0 ≤ Y0 ∧ Y0 < 4294967296) (hA : 0 ≤ A ∧ A < Y1 * 4294967296 + Y0) (hU : 0 ≤ U1 ∧ U1 < 4294967296) : ∀ (n : Nat) (q p : Int), p = A - q * Y1 → 0 ≤ p → p < 4294967296 → (A * 4294967296 + U1) / (Y1 * 4294967296 + Y0) ≤ q → q ≤ 4294967297 → 4294967296 ≤ p + n * Y1 → F (n + 1) q p = k ((A * 4294967296 + U1) / (Y1 * 4294967296 + Y0))
  | n, q, p, hp, hp0, hp1, hq, hq1, hn => by
    have hYpos : 0 < Y1 * 4294967296 + Y0 := by omega
    obtain ⟨g1, g2, g3⟩ := qr (A * 4294967296 + U1) hYpos
    generalize hQ : (A * 4294967296 + U1) / (Y1 * 4294967296 + Y0) = Q at *
    generalize (A * 4294967296 + U1) % (Y1 * 4294967296 + Y0) = R at *
    have hQ0 : 0 ≤ Q := by rw [← hQ]; exact Int.ediv_nonneg (by omega) (by omega)
    have e1 : q * (Y1 * 4294967296 + Y0) = q * Y1 * 4294967296 + q * Y0 := by grind
    -- what stands against going on
    have stop : q * (Y1 * 4294967296 + Y0) ≤ A * 4294967296 + U1 → q = Q := fun h => by
      rw [← hQ]; refine (quot_of hYpos h ?_).symm
      have : (Q + 1) * (Y1 * 4294967296 + Y0) ≤ (q + 1) * (Y1 * 4294967296 + Y0) := Int.mul_le_mul_of_nonneg_right (by omega) (by omega)
      rw [Int.add_mul, Int.one_mul] at this; omega
    have more : A * 4294967296 + U1 < q * (Y1 * 4294967296 + Y0) → Q ≤ q - 1 := fun h => by
      apply Int.not_lt.1
      intro hlt
      have : q * (Y1 * 4294967296 + Y0) ≤ Q * (Y1 * 4294967296 + Y0) := Int.mul_le_mul_of_nonneg_right (by omega) (by omega)
      omega
    have w1 : IntKind.u64.wrap (p + Y1) = p + Y1 := u64in _ (by omega)
    have hqpos : A * 4294967296 + U1 < q * (Y1 * 4294967296 + Y0) → IntKind.u64.wrap (q - 1) = q - 1 := fun h => u64in _ (by have := more h; omega)
    -- one step down
    have step : A * 4294967296 + U1 < q * (Y1 * 4294967296 + Y0) → (bif decide (IntKind.u64.wrap (p + Y1) ≥ 4294967296) then k (IntKind.u64.wrap (q - 1)) else F n (IntKind.u64.wrap (q - 1)) (IntKind.u64.wrap (p + Y1))) = k Q := fun h => by
      have hm := more h
      rw [w1, hqpos h]
      by_cases hc : p + Y1 ≥ 4294967296
      · rw [decide_eq_true hc, cond_true]
        congr 1
        have e2 : (q - 1) * (Y1 * 4294967296 + Y0) = q * Y1 * 4294967296 - Y1 * 4294967296 + (q - 1) * Y0 := by grind
        have e3 : (q - 1) * Y0 ≤ 4294967296 * Y0 := Int.mul_le_mul_of_nonneg_right (by omega) hY0.1
        rw [← hQ]
        refine (quot_of hYpos ?_ ?_).symm
        · rw [e2]; omega
        · have : (Q + 1) * (Y1 * 4294967296 + Y0) ≤ (q - 1 + 1) * (Y1 * 4294967296 + Y0) := Int.mul_le_mul_of_nonneg_right (by omega) (by omega)
          rw [Int.add_mul, Int.one_mul] at this; omega
      · rw [decide_eq_false hc, cond_false]
        cases n with
        | zero => omega
        | succ n =>
          have := digit_loop A U1 Y1 Y0 k F hF hY1 hY0 hA hU n (q - 1) (p + Y1) (by rw [hp, Int.sub_mul]; omega) (by omega) (by omega) (by rw [hQ]; omega) (by omega) (by
            have : ((n + 1 : Nat) : Int) * Y1 = n * Y1 + Y1 := by rw [Int.natCast_succ, Int.add_mul, Int.one_mul]
            omega)
          rw [this, hQ]
    rw [hF]
    by_cases c1 : q ≥ 4294967296
    · rw [decide_eq_true c1, cond_true]
      refine step ?_
      have : 4294967296 * (Y1 * 4294967296 + Y0) ≤ q * (Y1 * 4294967296 + Y0) := Int.mul_le_mul_of_nonneg_right c1 (by omega)
      omega
    · rw [decide_eq_false c1, cond_false]
      have hq0 : 0 ≤ q := by omega
      have b1 := prod_bound q Y0 hq0 (by omega) hY0.1 (by omega)
      have w2 : IntKind.u64.wrap (q * Y0) = q * Y0 := u64in _ (by omega)
      have w3 : IntKind.u64.wrap (4294967296 * p) = 4294967296 * p := u64in _ (by omega)
      have w4 : IntKind.u64.wrap (4294967296 * p + U1) = 4294967296 * p + U1 := u64in _ (by omega)
      rw [w2, w3, w4]
      by_cases c2 : q * Y0 > 4294967296 * p + U1
      · rw [decide_eq_true c2, cond_true]
        exact step (by rw [e1]; omega)
      · rw [decide_eq_false c2, cond_false]
        rw [stop (by rw [e1]; omega)]
theorem digit {β : Type} (A U1 Y1 Y0 : Int) (k : Int → Option β) (F : Nat → Int → Int → Option β)
    (hF : ∀ n q p, F (n + 1) q p = bif decide (q ≥ 4294967296) then (bif decide (IntKind.u64.wrap (p + Y1) ≥ 4294967296) then k (IntKind.u64.wrap (q - 1)) else F n (IntKind.u64.wrap (q - 1)) (IntKind.u64.wrap (p + Y1))) else (bif decide (IntKind.u64.wrap (q * Y0) > IntKind.u64.wrap (IntKind.u64.wrap (4294967296 * p) + U1)) then (bif decide (IntKind.u64.wrap (p + Y1) ≥ 4294967296) then k (IntKind.u64.wrap (q - 1)) else F n (IntKind.u64.wrap (q - 1)) (IntKind.u64.wrap (p + Y1))) else k q))
    (hY1 : 2147483648 ≤ Y1 ∧ Y1 < 4294967296) (hY0 : 0 ≤ Y0 ∧ Y0 < 4294967296) (hA : 0 ≤ A ∧ A < Y1 * 4294967296 + Y0) (hU : 0 ≤ U1 ∧ U1 < 4294967296) (N : Nat) (hN : 4 ≤ N) : F N (IntKind.u64.wrap (A.tdiv Y1)) (IntKind.u64.wrap (A - IntKind.u64.wrap (IntKind.u64.wrap (A.tdiv Y1) * Y1))) = k ((A * 4294967296 + U1) / (Y1 * 4294967296 + Y0)) := by
  have ht : A.tdiv Y1 = A / Y1 := Int.tdiv_eq_ediv_of_nonneg hA.1
  obtain ⟨h, h0, h1⟩ := qr A (show 0 < Y1 by omega)
  rw [ht]
  generalize A / Y1 = q at *
  generalize A % Y1 = r at *
  have hYpos : 0 < Y1 * 4294967296 + Y0 := by omega
  obtain ⟨g1, g2, g3⟩ := qr (A * 4294967296 + U1) hYpos
  have hQ0 : 0 ≤ (A * 4294967296 + U1) / (Y1 * 4294967296 + Y0) := Int.ediv_nonneg (by omega) (by omega)
  have hqQ : (A * 4294967296 + U1) / (Y1 * 4294967296 + Y0) ≤ q := by
    generalize (A * 4294967296 + U1) / (Y1 * 4294967296 + Y0) = Q at *
    generalize (A * 4294967296 + U1) % (Y1 * 4294967296 + Y0) = R at *
    apply Int.not_lt.1
    intro hlt
    have e1 : (q + 1) * Y1 ≤ Q * Y1 := Int.mul_le_mul_of_nonneg_right (by omega) (by omega)
    have e2 : Q * (Y1 * 4294967296 + Y0) = Q * Y1 * 4294967296 + Q * Y0 := by grind
    have e3 : 0 ≤ Q * Y0 := Int.mul_nonneg hQ0 hY0.1
    rw [Int.add_mul, Int.one_mul] at e1
    omega
  have hq1 : q ≤ 4294967297 := by
    apply Int.not_lt.1
    intro hlt
    have e1 : 4294967298 * Y1 ≤ q * Y1 := Int.mul_le_mul_of_nonneg_right (by omega) (by omega)
    omega
  have w1 : IntKind.u64.wrap q = q := u64in _ (by omega)
  have hqY : 0 ≤ q * Y1 := Int.mul_nonneg (by omega) (by omega)
  have hA1 : A < 18446744073709551616 := by omega
  have w2 : IntKind.u64.wrap (q * Y1) = q * Y1 := u64in _ (by omega)
  have w3 : IntKind.u64.wrap (A - q * Y1) = A - q * Y1 := u64in _ (by omega)
  rw [w1, w2, w3]
  obtain ⟨M, rfl⟩ : ∃ M, N = M + 1 := ⟨N - 1, by omega⟩
  refine digit_loop A U1 Y1 Y0 k F hF hY1 hY0 hA hU M q (A - q * Y1) rfl (by omega) (by omega) hqQ hq1 ?_
  have : (3 : Int) * Y1 ≤ (M : Int) * Y1 := Int.mul_le_mul_of_nonneg_right (by omega) (by omega)
  omega
theorem bits_loop {β : Type} (x y : Int) (k0 : Option β) (k1 : Int → Int → Option β) (F : Nat → Int → Int → Int → Option β) (hx : 0 ≤ x) (hy : 0 < y ∧ y ≤ 9223372036854775808)
    (h0 : ∀ n q r, F (n + 1) q r (-1) = k1 q r)
    (h1 : ∀ n q r (i : Nat), i < 96 → F (n + 1) q r (i : Int) = bif decide (q ≥ 9223372036854775808) then k0 else bif decide (IntKind.u64.wrap (IntKind.u64.wrap (2 * r) + x * 4294967296 / 2 ^ i % 2) ≥ y) then F n (IntKind.u64.wrap (IntKind.u64.wrap (2 * q) + 1)) (IntKind.u64.wrap (IntKind.u64.wrap (IntKind.u64.wrap (2 * r) + x * 4294967296 / 2 ^ i % 2) - y)) ((i : Int) - 1) else F n (IntKind.u64.wrap (2 * q)) (IntKind.u64.wrap (IntKind.u64.wrap (2 * r) + x * 4294967296 / 2 ^ i % 2)) ((i : Int) - 1)) : ∀ (i n : Nat) (q r : Int), i ≤ 96 → i < n → x * 4294967296 / 2 ^ i = q * y + r → 0 ≤ r → r < y → 0 ≤ q → q < 18446744073709551616 → F n q r ((i : Int) - 1) = if x * 4294967296 / y < 18446744073709551616 then k1 (x * 4294967296 / y) (x * 4294967296 % y) else k0
  | i, 0, _, _, _, h, _, _, _, _, _ => by omega
  | 0, n + 1, q, r, _, _, h, hr0, hr1, hq0, hq1 => by
    rw [Int.pow_zero, Int.ediv_one] at h
    obtain ⟨e1, e2⟩ := qr_unique hy.1 h hr0 hr1
    rw [e1, e2, if_pos hq1]
    exact h0 n q r
  | i + 1, n + 1, q, r, hi, hin, h, hr0, hr1, hq0, hq1 => by
    have e : (((i + 1 : Nat) : Int) - 1) = (i : Int) := by omega
    rw [e, h1 n q r i (by omega)]
    have hN : 0 ≤ x * 4294967296 := by omega
    have p0 : (0 : Int) < 2 ^ i := Int.pow_pos (by decide)
    have hdd : x * 4294967296 / 2 ^ (i + 1) = x * 4294967296 / 2 ^ i / 2 := by
      rw [Int.pow_succ, Int.ediv_ediv_of_nonneg (by omega)]
    have hzle : x * 4294967296 / 2 ^ i ≤ x * 4294967296 := Int.ediv_le_self _ hN
    rw [hdd] at h
    have ih := fun n q r => bits_loop x y k0 k1 F hx hy h0 h1 i n q r (by omega)
    generalize hz : x * 4294967296 / 2 ^ i = z at *
    by_cases c1 : q ≥ 9223372036854775808
    · rw [decide_eq_true c1, cond_true, if_neg]
      have e1 : 18446744073709551616 ≤ x * 4294967296 / y := by
        refine Int.le_ediv_of_mul_le hy.1 ?_
        have e2 : 9223372036854775808 * y ≤ q * y := Int.mul_le_mul_of_nonneg_right c1 (by omega)
        omega
      omega
    · rw [decide_eq_false c1, cond_false]
      have w1 : IntKind.u64.wrap (2 * r) = 2 * r := u64in _ (by omega)
      have w2 : IntKind.u64.wrap (2 * r + z % 2) = 2 * r + z % 2 := u64in _ (by omega)
      have w3 : IntKind.u64.wrap (2 * q) = 2 * q := u64in _ (by omega)
      have w4 : IntKind.u64.wrap (2 * q + 1) = 2 * q + 1 := u64in _ (by omega)
      have e2 : 2 * q * y = 2 * (q * y) := by rw [Int.mul_assoc]
      rw [w1, w2, w3, w4]
      by_cases c2 : 2 * r + z % 2 ≥ y
      · rw [decide_eq_true c2, cond_true, u64in _ (by omega)]
        exact ih n (2 * q + 1) (2 * r + z % 2 - y) (by omega) (by rw [Int.add_mul, Int.one_mul, e2]; omega) (by omega) (by omega) (by omega) (by omega)
      · rw [decide_eq_false c2, cond_false]
        exact ih n (2 * q) (2 * r + z % 2) (by omega) (by rw [e2]; omega) (by omega) (by omega) (by omega) (by omega)
end Go.Ab
