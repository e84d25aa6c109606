/- Plain Lean: what the laws of this program's functions come to, in numbers and lists; no program is run here. -/
import Derived.Test.YtnpmcpodpdimpaaPP10w
set_option linter.unusedVariables false
set_option linter.unusedSimpArgs false
set_option maxRecDepth 100000
namespace Go.Proofs.Ytnpmcpodpdimpaa
open Go Go.Ab Go.Proofs
/- WireBack in plain Lean (r10). -/
theorem sz5 : Try.prog.types[5].size = 1 := by kernel_rfl
theorem orAdd (k a c : Nat) (ha : a < 2 ^ k) (hc : c * 2 ^ k < 2 ^ 64) (hk : 2 ^ k ≤ 2 ^ 64) : (BitVec.ofInt 64 (a : Int) ||| BitVec.ofInt 64 ((c * 2 ^ k : Nat) : Int)).toNat = a + c * 2 ^ k := by
  have e : ∀ n : Nat, n < 2 ^ 64 → (BitVec.ofInt 64 (n : Int)).toNat = n := fun n hn => by
    rw [BitVec.toNat_ofInt]
    have : ((n : Int) % ((2 ^ 64 : Nat) : Int)) = ((n % 2 ^ 64 : Nat) : Int) := by simp
    rw [this, Int.toNat_natCast, Nat.mod_eq_of_lt hn]
  rw [BitVec.toNat_or, e a (by omega), e _ hc, Nat.mul_comm c, Nat.or_comm, ← Nat.two_pow_add_eq_or_of_lt ha]
  omega
noncomputable def bv : List Int → Int
  | [] => 0
  | c :: l => c + 256 * bv l
theorem step30 (N0 : Nat) (x : (List Int) × Unit) (k : Int → Option (Int × Unit)) (n i a : Nat) (c : Int) (hc : x.fst[i]? = some c) (hc1 : 0 ≤ c ∧ c < 256) (hi : i < 8) (ha : a < 2 ^ (8 * i)) :
    law30o0 N0 x k (n + 1) a i = law30o0 N0 x k n ((a + c.toNat * 2 ^ (8 * i) : Nat) : Int) ((i + 1 : Nat) : Int) := by
  have hil := (List.getElem?_eq_some_iff.1 hc).1
  conv => lhs; unfold law30o0
  have w8 : IntKind.i64.wrap (8 * (i : Int)) = ((8 * i : Nat) : Int) := by rw [IntKind.wrap_i64]; omega
  refine (bifT (by rw [decide_eq_true_eq]; omega)).trans ((bifT (by simp; omega)).trans ((bindT (v := c) (by rw [Int.toNat_natCast]; exact hc)).trans ((bifT (by rw [w8, decide_eq_true_eq]; omega)).trans ?_)))
  obtain ⟨m, rfl⟩ := Int.eq_ofNat_of_zero_le hc1.1
  have hm : m < 256 := by omega
  have hp : 2 ^ (8 * i) ≤ 2 ^ 56 := Nat.pow_le_pow_right (by decide) (by omega)
  have hmul : m * 2 ^ (8 * i) ≤ 255 * 2 ^ 56 := Nat.mul_le_mul (by omega) hp
  have e1 : IntKind.u64.wrap (IntKind.u64.wrap ((m : Nat) : Int) * 2 ^ min (IntKind.i64.wrap (8 * (i : Int))).toNat 64) = ((m * 2 ^ (8 * i) : Nat) : Int) := by
    rw [u64i ((m : Nat) : Int) (by omega) (by omega), w8, Int.toNat_natCast, Nat.min_eq_left (by omega)]
    rw [show ((m : Nat) : Int) * 2 ^ (8 * i) = ((m * 2 ^ (8 * i) : Nat) : Int) by simp]
    exact u64i _ (by omega) (by omega)
  rw [e1, orAdd (8 * i) a m ha (by omega) (by omega), u64i _ (by omega) (by omega), Int.toNat_natCast]
  rw [wrapNat i (by omega)]
theorem from30 (N0 : Nat) (x : (List Int) × Unit) (k : Int → Option (Int × Unit)) (h8 : x.fst.length ≤ 8) (hx : ∀ c ∈ x.fst, 0 ≤ c ∧ c < 256) : ∀ (m n i a : Nat), i + m = x.fst.length → a < 2 ^ (8 * i) → m < n → law30o0 N0 x k n a i = k (a + 2 ^ (8 * i) * bv (x.fst.drop i))
  | 0, 0, i, a, h1, h2, h3 => by omega
  | 0, n + 1, i, a, h1, h2, h3 => by
    conv => lhs; unfold law30o0
    refine (bifF (by rw [decide_eq_false_iff_not]; omega)).trans ?_
    rw [List.drop_eq_nil_of_le (by omega)]; simp [bv]
  | m + 1, 0, i, a, h1, h2, h3 => by omega
  | m + 1, n + 1, i, a, h1, h2, h3 => by
    have hi : i < x.fst.length := by omega
    have hc := hx x.fst[i] (List.getElem_mem hi)
    have hp : 2 ^ (8 * (i + 1)) = 256 * 2 ^ (8 * i) := by rw [show 8 * (i + 1) = 8 + 8 * i by omega, Nat.pow_add]
    have hlt : x.fst[i].toNat * 2 ^ (8 * i) ≤ 255 * 2 ^ (8 * i) := Nat.mul_le_mul (by omega) (Nat.le_refl _)
    rw [step30 N0 x k n i a _ (List.getElem?_eq_getElem hi) hc (by omega) h2, from30 N0 x k h8 hx m n (i + 1) _ (by omega) (by omega) (by omega)]
    rw [List.drop_eq_getElem_cons hi]
    congr 1
    have hcc : ((x.fst[i].toNat : Nat) : Int) = x.fst[i] := Int.toNat_of_nonneg hc.1
    have hp2 : (2 : Int) ^ (8 * (i + 1)) = 256 * 2 ^ (8 * i) := by exact_mod_cast hp
    simp only [bv]
    rw [hp2]
    push_cast
    rw [hcc]
    grind
theorem fn30_v (l : List Int) (h8 : l.length ≤ 8) (hx : ∀ c ∈ l, 0 ≤ c ∧ c < 256) : fn30 (l, ()) = some (bv l, ()) := by
  show law30 (10 ^ 30) (l, ()) = _
  unfold law30
  refine (from30 _ (l, ()) _ h8 hx l.length (10 ^ 30) 0 0 (by simp) (by simp) (Nat.lt_of_le_of_lt h8 (by decide))).trans ?_
  simp
end Go.Proofs.Ytnpmcpodpdimpaa
