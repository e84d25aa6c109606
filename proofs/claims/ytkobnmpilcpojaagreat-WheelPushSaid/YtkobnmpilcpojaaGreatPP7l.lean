/- Plain Lean: what the laws of this program's functions come to, in numbers and lists; no program is run here. -/
import Derived.Test.YtkobnmpilcpojaaGreatPP7a
set_option linter.unusedVariables false
set_option linter.unusedSimpArgs false
set_option maxRecDepth 100000
namespace Go.Proofs.YtkobnmpilcpojaaGreat
open Go Go.Ab Go.Proofs Go.IntWalk
theorem tab8 : ∀ k : Nat, k < 256 → (((ByteArray.mk (([0, 1, 2, 2, 3, 3, 3, 3, 4, 4, 4, 4, 4, 4, 4, 4, 5, 5, 5, 5, 5, 5, 5, 5, 5, 5, 5, 5, 5, 5, 5, 5, 6, 6, 6, 6, 6, 6, 6, 6, 6, 6, 6, 6, 6, 6, 6, 6, 6, 6, 6, 6, 6, 6, 6, 6, 6, 6, 6, 6, 6, 6, 6, 6].append [7, 7, 7, 7, 7, 7, 7, 7, 7, 7, 7, 7, 7, 7, 7, 7, 7, 7, 7, 7, 7, 7, 7, 7, 7, 7, 7, 7, 7, 7, 7, 7, 7, 7, 7, 7, 7, 7, 7, 7, 7, 7, 7, 7, 7, 7, 7, 7, 7, 7, 7, 7, 7, 7, 7, 7, 7, 7, 7, 7, 7, 7, 7, 7]).append ([8, 8, 8, 8, 8, 8, 8, 8, 8, 8, 8, 8, 8, 8, 8, 8, 8, 8, 8, 8, 8, 8, 8, 8, 8, 8, 8, 8, 8, 8, 8, 8, 8, 8, 8, 8, 8, 8, 8, 8, 8, 8, 8, 8, 8, 8, 8, 8, 8, 8, 8, 8, 8, 8, 8, 8, 8, 8, 8, 8, 8, 8, 8, 8].append [8, 8, 8, 8, 8, 8, 8, 8, 8, 8, 8, 8, 8, 8, 8, 8, 8, 8, 8, 8, 8, 8, 8, 8, 8, 8, 8, 8, 8, 8, 8, 8, 8, 8, 8, 8, 8, 8, 8, 8, 8, 8, 8, 8, 8, 8, 8, 8, 8, 8, 8, 8, 8, 8, 8, 8, 8, 8, 8, 8, 8, 8, 8, 8])).toArray).data.toList.getD k 0).1.toNat ≤ 8 ∧ k < 2 ^ ((ByteArray.mk (([0, 1, 2, 2, 3, 3, 3, 3, 4, 4, 4, 4, 4, 4, 4, 4, 5, 5, 5, 5, 5, 5, 5, 5, 5, 5, 5, 5, 5, 5, 5, 5, 6, 6, 6, 6, 6, 6, 6, 6, 6, 6, 6, 6, 6, 6, 6, 6, 6, 6, 6, 6, 6, 6, 6, 6, 6, 6, 6, 6, 6, 6, 6, 6].append [7, 7, 7, 7, 7, 7, 7, 7, 7, 7, 7, 7, 7, 7, 7, 7, 7, 7, 7, 7, 7, 7, 7, 7, 7, 7, 7, 7, 7, 7, 7, 7, 7, 7, 7, 7, 7, 7, 7, 7, 7, 7, 7, 7, 7, 7, 7, 7, 7, 7, 7, 7, 7, 7, 7, 7, 7, 7, 7, 7, 7, 7, 7, 7]).append ([8, 8, 8, 8, 8, 8, 8, 8, 8, 8, 8, 8, 8, 8, 8, 8, 8, 8, 8, 8, 8, 8, 8, 8, 8, 8, 8, 8, 8, 8, 8, 8, 8, 8, 8, 8, 8, 8, 8, 8, 8, 8, 8, 8, 8, 8, 8, 8, 8, 8, 8, 8, 8, 8, 8, 8, 8, 8, 8, 8, 8, 8, 8, 8].append [8, 8, 8, 8, 8, 8, 8, 8, 8, 8, 8, 8, 8, 8, 8, 8, 8, 8, 8, 8, 8, 8, 8, 8, 8, 8, 8, 8, 8, 8, 8, 8, 8, 8, 8, 8, 8, 8, 8, 8, 8, 8, 8, 8, 8, 8, 8, 8, 8, 8, 8, 8, 8, 8, 8, 8, 8, 8, 8, 8, 8, 8, 8, 8])).toArray).data.toList.getD k 0).1.toNat ∧ (0 < k → 2 ^ ((ByteArray.mk (([0, 1, 2, 2, 3, 3, 3, 3, 4, 4, 4, 4, 4, 4, 4, 4, 5, 5, 5, 5, 5, 5, 5, 5, 5, 5, 5, 5, 5, 5, 5, 5, 6, 6, 6, 6, 6, 6, 6, 6, 6, 6, 6, 6, 6, 6, 6, 6, 6, 6, 6, 6, 6, 6, 6, 6, 6, 6, 6, 6, 6, 6, 6, 6].append [7, 7, 7, 7, 7, 7, 7, 7, 7, 7, 7, 7, 7, 7, 7, 7, 7, 7, 7, 7, 7, 7, 7, 7, 7, 7, 7, 7, 7, 7, 7, 7, 7, 7, 7, 7, 7, 7, 7, 7, 7, 7, 7, 7, 7, 7, 7, 7, 7, 7, 7, 7, 7, 7, 7, 7, 7, 7, 7, 7, 7, 7, 7, 7]).append ([8, 8, 8, 8, 8, 8, 8, 8, 8, 8, 8, 8, 8, 8, 8, 8, 8, 8, 8, 8, 8, 8, 8, 8, 8, 8, 8, 8, 8, 8, 8, 8, 8, 8, 8, 8, 8, 8, 8, 8, 8, 8, 8, 8, 8, 8, 8, 8, 8, 8, 8, 8, 8, 8, 8, 8, 8, 8, 8, 8, 8, 8, 8, 8].append [8, 8, 8, 8, 8, 8, 8, 8, 8, 8, 8, 8, 8, 8, 8, 8, 8, 8, 8, 8, 8, 8, 8, 8, 8, 8, 8, 8, 8, 8, 8, 8, 8, 8, 8, 8, 8, 8, 8, 8, 8, 8, 8, 8, 8, 8, 8, 8, 8, 8, 8, 8, 8, 8, 8, 8, 8, 8, 8, 8, 8, 8, 8, 8])).toArray).data.toList.getD k 0).1.toNat ≤ 2 * k)) := by decide +kernel
theorem tabsize : (((ByteArray.mk (([0, 1, 2, 2, 3, 3, 3, 3, 4, 4, 4, 4, 4, 4, 4, 4, 5, 5, 5, 5, 5, 5, 5, 5, 5, 5, 5, 5, 5, 5, 5, 5, 6, 6, 6, 6, 6, 6, 6, 6, 6, 6, 6, 6, 6, 6, 6, 6, 6, 6, 6, 6, 6, 6, 6, 6, 6, 6, 6, 6, 6, 6, 6, 6].append [7, 7, 7, 7, 7, 7, 7, 7, 7, 7, 7, 7, 7, 7, 7, 7, 7, 7, 7, 7, 7, 7, 7, 7, 7, 7, 7, 7, 7, 7, 7, 7, 7, 7, 7, 7, 7, 7, 7, 7, 7, 7, 7, 7, 7, 7, 7, 7, 7, 7, 7, 7, 7, 7, 7, 7, 7, 7, 7, 7, 7, 7, 7, 7]).append ([8, 8, 8, 8, 8, 8, 8, 8, 8, 8, 8, 8, 8, 8, 8, 8, 8, 8, 8, 8, 8, 8, 8, 8, 8, 8, 8, 8, 8, 8, 8, 8, 8, 8, 8, 8, 8, 8, 8, 8, 8, 8, 8, 8, 8, 8, 8, 8, 8, 8, 8, 8, 8, 8, 8, 8, 8, 8, 8, 8, 8, 8, 8, 8].append [8, 8, 8, 8, 8, 8, 8, 8, 8, 8, 8, 8, 8, 8, 8, 8, 8, 8, 8, 8, 8, 8, 8, 8, 8, 8, 8, 8, 8, 8, 8, 8, 8, 8, 8, 8, 8, 8, 8, 8, 8, 8, 8, 8, 8, 8, 8, 8, 8, 8, 8, 8, 8, 8, 8, 8, 8, 8, 8, 8, 8, 8, 8, 8])).toArray).size : Nat) : Int) = 256 := by decide +kernel
theorem fd16' (a : Int) : Int.fdiv a (2 ^ min (Int.toNat 16) IntKind.u64.bits) = a / 65536 := by
  rw [show (2 : Int) ^ min (Int.toNat 16) IntKind.u64.bits = 65536 from by decide, Int.fdiv_eq_ediv_of_nonneg _ (by omega)]
theorem fd8' (a : Int) : Int.fdiv a (2 ^ min (Int.toNat 8) IntKind.u64.bits) = a / 256 := by
  rw [show (2 : Int) ^ min (Int.toNat 8) IntKind.u64.bits = 256 from by decide, Int.fdiv_eq_ediv_of_nonneg _ (by omega)]
def Len (x : Int) (z : Option ((Int × Unit))) : Prop := ∃ n : Nat, z = some ((n : Int), ()) ∧ n ≤ 64 ∧ x < 2 ^ n ∧ (0 < x → (2 : Int) ^ n ≤ 2 * x)
theorem len_cond {x : Int} {c : Bool} {p q : Option ((Int × Unit))} (hp : c = true → Len x p) (hq : c = false → Len x q) : Len x (bif c then p else q) := by
  cases c
  · exact hq rfl
  · exact hp rfl
theorem len_leaf (x z : Int) (k : Nat) (hk : k ≤ 56) (hx : 0 ≤ x) (hz0 : 0 ≤ z) (hz : z < 256) (h1 : z * 2 ^ k ≤ x) (h2 : x < (z + 1) * 2 ^ k) (h3 : k = 0 ∨ 0 < z) {E : Int} {c : Int} (hc : c = k) (hE : E = IntKind.i64.wrap (c + IntKind.i64.wrap ((((ByteArray.mk (([0, 1, 2, 2, 3, 3, 3, 3, 4, 4, 4, 4, 4, 4, 4, 4, 5, 5, 5, 5, 5, 5, 5, 5, 5, 5, 5, 5, 5, 5, 5, 5, 6, 6, 6, 6, 6, 6, 6, 6, 6, 6, 6, 6, 6, 6, 6, 6, 6, 6, 6, 6, 6, 6, 6, 6, 6, 6, 6, 6, 6, 6, 6, 6].append [7, 7, 7, 7, 7, 7, 7, 7, 7, 7, 7, 7, 7, 7, 7, 7, 7, 7, 7, 7, 7, 7, 7, 7, 7, 7, 7, 7, 7, 7, 7, 7, 7, 7, 7, 7, 7, 7, 7, 7, 7, 7, 7, 7, 7, 7, 7, 7, 7, 7, 7, 7, 7, 7, 7, 7, 7, 7, 7, 7, 7, 7, 7, 7]).append ([8, 8, 8, 8, 8, 8, 8, 8, 8, 8, 8, 8, 8, 8, 8, 8, 8, 8, 8, 8, 8, 8, 8, 8, 8, 8, 8, 8, 8, 8, 8, 8, 8, 8, 8, 8, 8, 8, 8, 8, 8, 8, 8, 8, 8, 8, 8, 8, 8, 8, 8, 8, 8, 8, 8, 8, 8, 8, 8, 8, 8, 8, 8, 8].append [8, 8, 8, 8, 8, 8, 8, 8, 8, 8, 8, 8, 8, 8, 8, 8, 8, 8, 8, 8, 8, 8, 8, 8, 8, 8, 8, 8, 8, 8, 8, 8, 8, 8, 8, 8, 8, 8, 8, 8, 8, 8, 8, 8, 8, 8, 8, 8, 8, 8, 8, 8, 8, 8, 8, 8, 8, 8, 8, 8, 8, 8, 8, 8])).toArray).data.toList.getD (IntKind.u8.wrap z).toNat 0).1.toNat : Nat) : Int))) :
    Len x (bif decide (0 ≤ IntKind.u8.wrap z) && decide (IntKind.u8.wrap z < ((ByteArray.mk (([0, 1, 2, 2, 3, 3, 3, 3, 4, 4, 4, 4, 4, 4, 4, 4, 5, 5, 5, 5, 5, 5, 5, 5, 5, 5, 5, 5, 5, 5, 5, 5, 6, 6, 6, 6, 6, 6, 6, 6, 6, 6, 6, 6, 6, 6, 6, 6, 6, 6, 6, 6, 6, 6, 6, 6, 6, 6, 6, 6, 6, 6, 6, 6].append [7, 7, 7, 7, 7, 7, 7, 7, 7, 7, 7, 7, 7, 7, 7, 7, 7, 7, 7, 7, 7, 7, 7, 7, 7, 7, 7, 7, 7, 7, 7, 7, 7, 7, 7, 7, 7, 7, 7, 7, 7, 7, 7, 7, 7, 7, 7, 7, 7, 7, 7, 7, 7, 7, 7, 7, 7, 7, 7, 7, 7, 7, 7, 7]).append ([8, 8, 8, 8, 8, 8, 8, 8, 8, 8, 8, 8, 8, 8, 8, 8, 8, 8, 8, 8, 8, 8, 8, 8, 8, 8, 8, 8, 8, 8, 8, 8, 8, 8, 8, 8, 8, 8, 8, 8, 8, 8, 8, 8, 8, 8, 8, 8, 8, 8, 8, 8, 8, 8, 8, 8, 8, 8, 8, 8, 8, 8, 8, 8].append [8, 8, 8, 8, 8, 8, 8, 8, 8, 8, 8, 8, 8, 8, 8, 8, 8, 8, 8, 8, 8, 8, 8, 8, 8, 8, 8, 8, 8, 8, 8, 8, 8, 8, 8, 8, 8, 8, 8, 8, 8, 8, 8, 8, 8, 8, 8, 8, 8, 8, 8, 8, 8, 8, 8, 8, 8, 8, 8, 8, 8, 8, 8, 8])).toArray).size : Int)) then some (E, ()) else none) := by
  have hw : IntKind.u8.wrap z = z := by rw [IntKind.wrap_u8]; omega
  rw [hw] at hE ⊢
  rw [tabsize]
  simp only [hz0, hz, decide_true, Bool.and_self, cond_true]
  obtain ⟨t1, t2, t3⟩ := tab8 z.toNat (by omega)
  generalize ((ByteArray.mk (([0, 1, 2, 2, 3, 3, 3, 3, 4, 4, 4, 4, 4, 4, 4, 4, 5, 5, 5, 5, 5, 5, 5, 5, 5, 5, 5, 5, 5, 5, 5, 5, 6, 6, 6, 6, 6, 6, 6, 6, 6, 6, 6, 6, 6, 6, 6, 6, 6, 6, 6, 6, 6, 6, 6, 6, 6, 6, 6, 6, 6, 6, 6, 6].append [7, 7, 7, 7, 7, 7, 7, 7, 7, 7, 7, 7, 7, 7, 7, 7, 7, 7, 7, 7, 7, 7, 7, 7, 7, 7, 7, 7, 7, 7, 7, 7, 7, 7, 7, 7, 7, 7, 7, 7, 7, 7, 7, 7, 7, 7, 7, 7, 7, 7, 7, 7, 7, 7, 7, 7, 7, 7, 7, 7, 7, 7, 7, 7]).append ([8, 8, 8, 8, 8, 8, 8, 8, 8, 8, 8, 8, 8, 8, 8, 8, 8, 8, 8, 8, 8, 8, 8, 8, 8, 8, 8, 8, 8, 8, 8, 8, 8, 8, 8, 8, 8, 8, 8, 8, 8, 8, 8, 8, 8, 8, 8, 8, 8, 8, 8, 8, 8, 8, 8, 8, 8, 8, 8, 8, 8, 8, 8, 8].append [8, 8, 8, 8, 8, 8, 8, 8, 8, 8, 8, 8, 8, 8, 8, 8, 8, 8, 8, 8, 8, 8, 8, 8, 8, 8, 8, 8, 8, 8, 8, 8, 8, 8, 8, 8, 8, 8, 8, 8, 8, 8, 8, 8, 8, 8, 8, 8, 8, 8, 8, 8, 8, 8, 8, 8, 8, 8, 8, 8, 8, 8, 8, 8])).toArray).data.toList.getD z.toNat 0).1.toNat = t at *
  subst hc
  have e1 : IntKind.i64.wrap (t : Int) = t := i64_in _ (by omega)
  have e2 : IntKind.i64.wrap ((k : Int) + t) = ((k + t : Nat) : Int) := by rw [i64_in _ (by omega)]; simp
  rw [e1, e2] at hE
  subst hE
  refine ⟨k + t, rfl, by omega, ?_, fun h0 => ?_⟩
  · have h4 : z + 1 ≤ 2 ^ t := by
      have : ((z.toNat + 1 : Nat) : Int) ≤ ((2 ^ t : Nat) : Int) := by exact_mod_cast t2
      simp at this; omega
    have h5 : (z + 1) * 2 ^ k ≤ 2 ^ t * 2 ^ k := Int.mul_le_mul_of_nonneg_right h4 (Int.le_of_lt (Int.pow_pos (by omega)))
    rw [Nat.add_comm, Int.pow_add]; omega
  · have hz1 : 0 < z := by
      rcases h3 with h3 | h3
      · subst h3; simp at h1 h2; omega
      · exact h3
    have h4 : (2 : Int) ^ t ≤ 2 * z := by
      have := t3 (by omega)
      have : ((2 ^ t : Nat) : Int) ≤ ((2 * z.toNat : Nat) : Int) := by exact_mod_cast this
      simp at this; omega
    have h5 : (2 : Int) ^ t * 2 ^ k ≤ 2 * z * 2 ^ k := Int.mul_le_mul_of_nonneg_right h4 (Int.le_of_lt (Int.pow_pos (by omega)))
    rw [Int.mul_assoc] at h5
    rw [Nat.add_comm, Int.pow_add]; omega
theorem len92 (x : Int) (hx : 0 ≤ x ∧ x < 18446744073709551616) : Len x (fn190 (x, ())) := by
  unfold fn190 law190
  simp only [fd32', fd16', fd8']
  refine len_cond (fun a => ?_) fun a => ?_ <;> refine len_cond (fun b => ?_) fun b => ?_ <;> refine len_cond (fun c => ?_) fun c => ?_
  · have a : x ≥ 4294967296 := of_decide_eq_true a
    have b : x / 4294967296 ≥ 65536 := of_decide_eq_true b
    have c : x / 4294967296 / 65536 ≥ 256 := of_decide_eq_true c
    exact len_leaf x _ 56 (by omega) (by omega) (by omega) (by omega) (by omega) (by omega) (by omega) (c := 56) rfl rfl
  · have a : x ≥ 4294967296 := of_decide_eq_true a
    have b : x / 4294967296 ≥ 65536 := of_decide_eq_true b
    have c : ¬ (x / 4294967296 / 65536 ≥ 256) := of_decide_eq_false c
    exact len_leaf x _ 48 (by omega) (by omega) (by omega) (by omega) (by omega) (by omega) (by omega) (c := 48) rfl rfl
  · have a : x ≥ 4294967296 := of_decide_eq_true a
    have b : ¬ (x / 4294967296 ≥ 65536) := of_decide_eq_false b
    have c : x / 4294967296 ≥ 256 := of_decide_eq_true c
    exact len_leaf x _ 40 (by omega) (by omega) (by omega) (by omega) (by omega) (by omega) (by omega) (c := 40) rfl rfl
  · have a : x ≥ 4294967296 := of_decide_eq_true a
    have b : ¬ (x / 4294967296 ≥ 65536) := of_decide_eq_false b
    have c : ¬ (x / 4294967296 ≥ 256) := of_decide_eq_false c
    exact len_leaf x _ 32 (by omega) (by omega) (by omega) (by omega) (by omega) (by omega) (by omega) (c := 32) rfl rfl
  · have a : ¬ (x ≥ 4294967296) := of_decide_eq_false a
    have b : x ≥ 65536 := of_decide_eq_true b
    have c : x / 65536 ≥ 256 := of_decide_eq_true c
    exact len_leaf x _ 24 (by omega) (by omega) (by omega) (by omega) (by omega) (by omega) (by omega) (c := 24) rfl rfl
  · have a : ¬ (x ≥ 4294967296) := of_decide_eq_false a
    have b : x ≥ 65536 := of_decide_eq_true b
    have c : ¬ (x / 65536 ≥ 256) := of_decide_eq_false c
    exact len_leaf x _ 16 (by omega) (by omega) (by omega) (by omega) (by omega) (by omega) (by omega) (c := 16) rfl rfl
  · have a : ¬ (x ≥ 4294967296) := of_decide_eq_false a
    have b : ¬ (x ≥ 65536) := of_decide_eq_false b
    have c : x ≥ 256 := of_decide_eq_true c
    exact len_leaf x _ 8 (by omega) (by omega) (by omega) (by omega) (by omega) (by omega) (by omega) (c := 8) rfl rfl
  · have a : ¬ (x ≥ 4294967296) := of_decide_eq_false a
    have b : ¬ (x ≥ 65536) := of_decide_eq_false b
    have c : ¬ (x ≥ 256) := of_decide_eq_false c
    exact len_leaf x _ 0 (by omega) (by omega) (by omega) (by omega) (by omega) (by omega) (by omega) (c := 0) rfl rfl
theorem lz84 (y : Int) (hy : 0 < y ∧ y < 18446744073709551616) : ∃ s : Nat, fn172 (y, ()) = some ((s : Int), ()) ∧ s ≤ 63 ∧ 9223372036854775808 ≤ y * 2 ^ s ∧ y * 2 ^ s < 18446744073709551616 := by
  unfold fn172 law172
  obtain ⟨n, h1, h2, h3, h4⟩ := len92 y (by omega)
  rw [h1]
  simp only [Option.bind_some]
  have hn : n ≠ 0 := fun e => by subst e; simp at h3; omega
  have e1 : IntKind.i64.wrap (64 - (n : Int)) = ((64 - n : Nat) : Int) := by rw [i64_in _ (by omega)]; omega
  refine ⟨64 - n, by rw [e1], by omega, ?_, ?_⟩
  · have h5 := h4 (by omega)
    have h6 : (2 : Int) ^ n * 2 ^ (64 - n) ≤ 2 * y * 2 ^ (64 - n) := Int.mul_le_mul_of_nonneg_right h5 (Int.le_of_lt (Int.pow_pos (by omega)))
    rw [← Int.pow_add, show n + (64 - n) = 64 by omega, Int.mul_assoc] at h6
    have : (2 : Int) ^ 64 = 18446744073709551616 := by decide
    omega
  · have h6 : y * 2 ^ (64 - n) < 2 ^ n * 2 ^ (64 - n) := Int.mul_lt_mul_of_pos_right h3 (Int.pow_pos (by omega))
    rw [← Int.pow_add, show n + (64 - n) = 64 by omega] at h6
    have : (2 : Int) ^ 64 = 18446744073709551616 := by decide
    omega
end Go.Proofs.YtkobnmpilcpojaaGreat
