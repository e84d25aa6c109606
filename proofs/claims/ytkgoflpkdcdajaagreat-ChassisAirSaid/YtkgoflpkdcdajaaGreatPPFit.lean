/- Plain Lean: what the laws of this program's functions come to, in numbers and lists; no program is run here. -/
import Derived.Test.YtkgoflpkdcdajaaGreatPPOk
set_option linter.unusedVariables false
set_option linter.unusedSimpArgs false
set_option maxRecDepth 100000
namespace Go.Ab
open Go Go.IntWalk
/-
  What fits, in plain Lean: sums, products, quotients within bounds, and their signs. One text for all seats; it names no program.
-/
theorem subF {o : Bool} {a b : Int} (h : I64 (a - b)) : subS o a b = (o, a - b) := satS_in h
theorem addF {o : Bool} {a b : Int} (h : I64 (a + b)) : addS o a b = (o, a + b) := satS_in h
theorem mulF {o : Bool} {a b : Int} (h : I64 (mulV a b)) : mulS o a b = (o, mulV a b) := satS_in h
theorem divF {o : Bool} {a b : Int} (hb : 0 < b) (h : I64 (divV a b)) : divS o a b = (o, divV a b) := by
  unfold divS
  rw [if_neg (by omega)]; exact satS_in h
theorem mulV_in {a b A B k : Int} (ha : -A ≤ a ∧ a ≤ A) (hb : -B ≤ b ∧ b ≤ B) (hA : 0 ≤ A) (hB : 0 ≤ B) (hk : A * B ≤ k * 4294967296) : -k ≤ mulV a b ∧ mulV a b ≤ k := by
  have h := prod_le (a := a) (b := b) (A := A.toNat) (B := B.toNat) (by omega) (by omega)
  have e : ((A.toNat * B.toNat : Nat) : Int) = A * B := by
    rw [Int.natCast_mul, Int.toNat_of_nonneg hA, Int.toNat_of_nonneg hB]
  rw [e] at h
  unfold mulV
  exact ⟨le_rnd (by decide) (by rw [Int.neg_mul]; omega), rnd_le (by decide) (by omega)⟩
theorem divV_in {a b A b0 k : Int} (ha : -A ≤ a ∧ a ≤ A) (hb : b0 ≤ b) (h0 : 0 < b0) (hk0 : 0 ≤ k) (hk : A * 4294967296 ≤ k * b0) : -k ≤ divV a b ∧ divV a b ≤ k := by
  have h1 : k * b0 ≤ k * b := Int.mul_le_mul_of_nonneg_left hb hk0
  unfold divV
  rw [if_neg (by omega)]
  exact ⟨le_rnd (by omega) (by rw [Int.neg_mul]; omega), rnd_le (by omega) (by omega)⟩
theorem divV_pos {a b : Int} (hb : 0 < b) (ha : 0 ≤ a) : 0 ≤ divV a b := by
  unfold divV; rw [if_neg (by omega)]; exact rnd_nonneg hb (by omega)
theorem divV_neg {a b : Int} (hb : 0 < b) (ha : a ≤ 0) : divV a b ≤ 0 := by
  unfold divV; rw [if_neg (by omega)]; exact rnd_nonpos hb (by omega)
theorem mulV_pos {a b : Int} (ha : 0 ≤ a) (hb : 0 ≤ b) : 0 ≤ mulV a b := rnd_nonneg (by decide) (Int.mul_nonneg ha hb)
theorem mulV_neg {a b : Int} (ha : 0 ≤ a) (hb : b ≤ 0) : mulV a b ≤ 0 := rnd_nonpos (by decide) (Int.mul_nonpos_of_nonneg_of_nonpos ha hb)
theorem absF {o : Bool} {a k : Int} (h : -k ≤ a ∧ a ≤ k) (hk : k ≤ 9223372036854775807) : ∃ v, absS o a = (o, v) ∧ 0 ≤ v ∧ v ≤ k ∧ (v = a ∨ v = -a) := by
  unfold absS
  by_cases c : a < 0
  · refine ⟨-a, ?_, by omega, by omega, .inr rfl⟩
    rw [if_pos c]; unfold subS; rw [satS_in (by unfold I64; omega), Int.zero_sub]
  · exact ⟨a, by rw [if_neg c], by omega, by omega, .inl rfl⟩
theorem mulV_le {a b : Int} (ha : 0 ≤ a) (hb : 0 ≤ b ∧ b ≤ 4294967296) : mulV a b ≤ a := by
  unfold mulV
  refine rnd_le (by decide) ?_
  exact Int.mul_le_mul_of_nonneg_left hb.2 ha
/-- What lies between a number's opposite and it. -/
def clampW (a lo hi : Int) : Int := if a < lo then lo else if a > hi then hi else a
theorem clampW_in {a k : Int} (hk : 0 ≤ k) : -k ≤ clampW a (-k) k ∧ clampW a (-k) k ≤ k ∧ (0 ≤ a → 0 ≤ clampW a (-k) k) ∧ (a ≤ 0 → clampW a (-k) k ≤ 0) := by
  unfold clampW
  split
  · omega
  · split <;> omega
end Go.Ab
