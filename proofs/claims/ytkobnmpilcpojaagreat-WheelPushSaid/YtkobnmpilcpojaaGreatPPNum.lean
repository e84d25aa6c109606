/- Plain Lean: what the laws of this program's functions come to, in numbers and lists; no program is run here. -/
import Derived.Test.YtkobnmpilcpojaaGreatPP7z
set_option linter.unusedVariables false
set_option linter.unusedSimpArgs false
set_option maxRecDepth 100000
namespace Go.Ab
open Go Go.IntWalk
def ov (v : Int) : Bool := decide (v > 9223372036854775807) || decide (v < -9223372036854775808)
def sv (v : Int) : Int := if v > 9223372036854775807 then 9223372036854775807 else if v < -9223372036854775808 then -9223372036854775808 else v
theorem satS_eq (o : Bool) (v : Int) : satS o v = (o || ov v, sv v) := by
  unfold satS ov sv
  by_cases h : v > 9223372036854775807
  · simp [h]
  · by_cases h2 : v < -9223372036854775808 <;> simp [h, h2]
theorem sv_r (v : Int) : I64 (sv v) := by unfold sv I64; split <;> (try split) <;> omega
theorem ov_in {v : Int} (h : I64 v) : ov v = false := by unfold I64 at h; unfold ov; rw [decide_eq_false (by omega), decide_eq_false (by omega)]; rfl
theorem sv_in {v : Int} (h : I64 v) : sv v = v := by unfold I64 at h; unfold sv; rw [if_neg (by omega), if_neg (by omega)]
def mo (a b : Int) : Bool := ov (mulV a b)
def mv (a b : Int) : Int := sv (mulV a b)
def ao (a b : Int) : Bool := ov (a + b)
def av (a b : Int) : Int := sv (a + b)
def zv (a b : Int) : Int := sv (a - b)
def dv (a b : Int) : Int := if b = 0 then (if a = 0 then 0 else if a < 0 then -9223372036854775808 else 9223372036854775807) else sv (divV a b)
theorem mulS_eq (o : Bool) (a b : Int) : mulS o a b = (o || mo a b, mv a b) := satS_eq _ _
theorem addS_eq (o : Bool) (a b : Int) : addS o a b = (o || ao a b, av a b) := satS_eq _ _
theorem mv_r (a b : Int) : I64 (mv a b) := sv_r _
theorem av_r (a b : Int) : I64 (av a b) := sv_r _
theorem root_one {S r s : Int} (h0 : 0 ≤ r) (h1 : r * r ≤ S) (h2 : S < (r + 1) * (r + 1)) (k0 : 0 ≤ s) (k1 : s * s ≤ S) (k2 : S < (s + 1) * (s + 1)) : r = s := by
  rcases Int.lt_trichotomy r s with h | h | h
  · exfalso
    have : (r + 1) * (r + 1) ≤ s * s := Int.mul_le_mul (by omega) (by omega) (by omega) (by omega)
    omega
  · exact h
  · exfalso
    have : (s + 1) * (s + 1) ≤ r * r := Int.mul_le_mul (by omega) (by omega) (by omega) (by omega)
    omega
noncomputable def rootV (S : Int) : Int := Classical.epsilon fun r => 0 ≤ r ∧ r * r ≤ S ∧ S < (r + 1) * (r + 1)
theorem rootV_eq {S r : Int} (h0 : 0 ≤ r) (h1 : r * r ≤ S) (h2 : S < (r + 1) * (r + 1)) : rootV S = r := by
  obtain ⟨k0, k1, k2⟩ := Classical.epsilon_spec (p := fun r => 0 ≤ r ∧ r * r ≤ S ∧ S < (r + 1) * (r + 1)) ⟨r, h0, h1, h2⟩
  exact root_one k0 k1 k2 h0 h1 h2
noncomputable def lenO (S : Int) : Bool := if S < 170141183460469231731687303715884105728 then decide (rootV S > 9223372036854775807) else true
noncomputable def lenV (S : Int) : Int := if S < 170141183460469231731687303715884105728 then (if rootV S > 9223372036854775807 then 9223372036854775807 else rootV S) else 9223372036854775807
noncomputable def lenS (o : Bool) (S : Int) : Bool × Int := if S < 170141183460469231731687303715884105728 then (if rootV S > 9223372036854775807 then (true, 9223372036854775807) else (o, rootV S)) else (true, 9223372036854775807)
theorem lenS_eq (o : Bool) (S : Int) : lenS o S = (o || lenO S, lenV S) := by
  unfold lenS lenO lenV
  by_cases h : S < 170141183460469231731687303715884105728
  · rw [if_pos h, if_pos h, if_pos h]
    by_cases h2 : rootV S > 9223372036854775807 <;> simp [h2]
  · rw [if_neg h, if_neg h, if_neg h, Bool.or_true]
theorem root_is : ∀ n : Nat, ∃ r : Int, 0 ≤ r ∧ r * r ≤ n ∧ (n : Int) < (r + 1) * (r + 1)
  | 0 => ⟨0, by omega, by decide, by decide⟩
  | n + 1 => by
    obtain ⟨r, h0, h1, h2⟩ := root_is n
    by_cases h : ((n + 1 : Nat) : Int) < (r + 1) * (r + 1)
    · exact ⟨r, h0, by omega, h⟩
    · refine ⟨r + 1, by omega, by omega, ?_⟩
      have : (r + 1 + 1) * (r + 1 + 1) = (r + 1) * (r + 1) + 2 * r + 3 := by grind
      omega
theorem rootV_is {S : Int} (h : 0 ≤ S) : 0 ≤ rootV S ∧ rootV S * rootV S ≤ S ∧ S < (rootV S + 1) * (rootV S + 1) := by
  obtain ⟨r, h0, h1, h2⟩ := root_is S.toNat
  rw [Int.toNat_of_nonneg h] at h1 h2
  rw [rootV_eq h0 h1 h2]
  exact ⟨h0, h1, h2⟩
theorem lenV_r {S : Int} (h : 0 ≤ S) : I64 (lenV S) := by
  have := rootV_is h
  unfold lenV I64
  split
  · split <;> omega
  · omega
end Go.Ab
