/- Plain Lean: what the laws of this program's functions come to, in numbers and lists; no program is run here. -/
import Derived.Test.YtkobnmpilcpojaaGreatPPl0
import Derived.IntWalk
import Derived.Laws.Bits64
import Derived.Laws.BitsLemmas
import Derived.Laws.MathBits
set_option linter.unusedVariables false
set_option linter.unusedSimpArgs false
set_option maxRecDepth 100000
namespace Go.Ab
open Go Go.IntWalk
def I64 (a : Int) : Prop := -9223372036854775808 ≤ a ∧ a ≤ 9223372036854775807
def satS (o : Bool) (v : Int) : Bool × Int := if v > 9223372036854775807 then (true, 9223372036854775807) else if v < -9223372036854775808 then (true, -9223372036854775808) else (o, v)
def res (p : Bool × Int) : (Bool × Unit) × (Int × Unit) := ((p.1, ()), p.2, ())
theorem satS_in {o : Bool} {v : Int} (h : I64 v) : satS o v = (o, v) := by
  unfold satS; unfold I64 at h
  rw [if_neg (by omega), if_neg (by omega)]
theorem satS_range (o : Bool) (v : Int) : I64 (satS o v).2 := by
  unfold satS I64
  split
  · exact ⟨by decide, by decide⟩
  · split
    · exact ⟨by decide, by decide⟩
    · exact ⟨by show _ ≤ v; omega, by show v ≤ _; omega⟩
def rnd (n d : Int) : Int := if n % d * 2 > d ∨ (n % d * 2 = d ∧ n / d % 2 = 1) then n / d + 1 else n / d
theorem qr_unique {n d q r : Int} (hd : 0 < d) (h : n = q * d + r) (h0 : 0 ≤ r) (h1 : r < d) : n / d = q ∧ n % d = r := by
  subst h
  rw [Int.add_ediv_of_dvd_left (Int.dvd_mul_left q d), Int.mul_ediv_cancel _ (by omega), Int.ediv_eq_zero_of_lt h0 h1, Int.add_emod, Int.mul_emod_left, Int.emod_eq_of_lt h0 h1]
  constructor
  · omega
  · rw [Int.zero_add, Int.emod_eq_of_lt h0 h1]
theorem rnd_of {n d q r : Int} (hd : 0 < d) (h : n = q * d + r) (h0 : 0 ≤ r) (h1 : r < d) : rnd n d = if r * 2 > d ∨ (r * 2 = d ∧ q % 2 = 1) then q + 1 else q := by
  obtain ⟨e1, e2⟩ := qr_unique hd h h0 h1
  unfold rnd; rw [e1, e2]
theorem qr (n : Int) {d : Int} (hd : 0 < d) : n = (n / d) * d + n % d ∧ 0 ≤ n % d ∧ n % d < d := by
  refine ⟨?_, Int.emod_nonneg n (by omega), Int.emod_lt_of_pos n hd⟩
  have := Int.mul_ediv_add_emod n d
  rw [Int.mul_comm] at this; omega
theorem rnd_neg (n : Int) {d : Int} (hd : 0 < d) : rnd (-n) d = -rnd n d := by
  obtain ⟨h, h0, h1⟩ := qr n hd
  generalize n / d = q at h
  generalize n % d = r at h h0 h1
  rw [rnd_of hd h h0 h1]
  by_cases hr : r = 0
  · subst hr
    rw [rnd_of (q := -q) (r := 0) hd (by rw [h, Int.neg_mul]; omega) (by omega) hd]
    rw [if_neg (by omega), if_neg (by omega)]
  · rw [rnd_of (q := -q - 1) (r := d - r) hd (by rw [h, Int.sub_mul, Int.neg_mul]; omega) (by omega) (by omega)]
    split <;> split <;> omega
theorem rnd_mono {a b d : Int} (hd : 0 < d) (h : a ≤ b) : rnd a d ≤ rnd b d := by
  obtain ⟨ha, ha0, ha1⟩ := qr a hd
  obtain ⟨hb, hb0, hb1⟩ := qr b hd
  generalize a / d = q at ha
  generalize a % d = r at ha ha0 ha1
  generalize b / d = p at hb
  generalize b % d = s at hb hb0 hb1
  rw [rnd_of hd ha ha0 ha1, rnd_of hd hb hb0 hb1]
  have hqp : q ≤ p := by
    apply Int.not_lt.1
    intro hlt
    have : (p + 1) * d ≤ q * d := Int.mul_le_mul_of_nonneg_right (by omega) (by omega)
    rw [Int.add_mul, Int.one_mul] at this; omega
  by_cases he : q = p
  · subst he
    split <;> split <;> omega
  · split <;> split <;> omega
theorem rnd_mul (q : Int) {d : Int} (hd : 0 < d) : rnd (q * d) d = q := by
  rw [rnd_of (q := q) (r := 0) hd (by omega) (by omega) hd, if_neg (by omega)]
theorem rnd_zero {d : Int} (hd : 0 < d) : rnd 0 d = 0 := by
  have := rnd_mul 0 hd; rwa [Int.zero_mul] at this
theorem rnd_nonneg {n d : Int} (hd : 0 < d) (h : 0 ≤ n) : 0 ≤ rnd n d := by
  have := rnd_mono hd h; rwa [rnd_zero hd] at this
theorem rnd_nonpos {n d : Int} (hd : 0 < d) (h : n ≤ 0) : rnd n d ≤ 0 := by
  have := rnd_mono hd h; rwa [rnd_zero hd] at this
theorem rnd_le {n d k : Int} (hd : 0 < d) (h : n ≤ k * d) : rnd n d ≤ k := by
  have := rnd_mono hd h; rwa [rnd_mul k hd] at this
theorem le_rnd {n d k : Int} (hd : 0 < d) (h : k * d ≤ n) : k ≤ rnd n d := by
  have := rnd_mono hd h; rwa [rnd_mul k hd] at this
def mulV (a b : Int) : Int := rnd (a * b) 4294967296
def divV (a b : Int) : Int := if b < 0 then rnd (-(a * 4294967296)) (-b) else rnd (a * 4294967296) b
def addS (o : Bool) (a b : Int) : Bool × Int := satS o (a + b)
def subS (o : Bool) (a b : Int) : Bool × Int := satS o (a - b)
def mulS (o : Bool) (a b : Int) : Bool × Int := satS o (mulV a b)
def divS (o : Bool) (a b : Int) : Bool × Int := if b = 0 then (true, if a = 0 then 0 else if a < 0 then -9223372036854775808 else 9223372036854775807) else satS o (divV a b)
def absS (o : Bool) (a : Int) : Bool × Int := if a < 0 then subS o 0 a else (o, a)
def wd (v : Int) : Int × Int × Unit := (v / 18446744073709551616, v % 18446744073709551616, ())
theorem u64r (a : Int) : 0 ≤ IntKind.u64.wrap a ∧ IntKind.u64.wrap a < 18446744073709551616 := by rw [IntKind.wrap_u64]; omega
theorem u64m (a : Int) : IntKind.u64.wrap a = a % 18446744073709551616 := IntKind.wrap_u64 a
theorem u64in (a : Int) (h : 0 ≤ a ∧ a < 18446744073709551616) : IntKind.u64.wrap a = a := by rw [IntKind.wrap_u64]; omega
theorem u32m (a : Int) : IntKind.u32.wrap a = a % 4294967296 := IntKind.wrap_u32 a
theorem i64m (a : Int) : IntKind.i64.wrap a = (a + 9223372036854775808) % 18446744073709551616 - 9223372036854775808 := IntKind.wrap_i64 a
theorem min63 : (2 : Int) ^ min (Int.toNat 63) 64 = 9223372036854775808 := by decide
theorem min32 : (2 : Int) ^ min (Int.toNat 32) 64 = 4294967296 := by decide
theorem fd63 (a : Int) : Int.fdiv a (2 ^ min (Int.toNat 63) 64) = a / 9223372036854775808 := by
  rw [min63, Int.fdiv_eq_ediv_of_nonneg _ (by omega)]
theorem fd32 (a : Int) : Int.fdiv a (2 ^ min (Int.toNat 32) 64) = a / 4294967296 := by
  rw [min32, Int.fdiv_eq_ediv_of_nonneg _ (by omega)]
theorem fdl (a : Int) : Int.fdiv a 4294967296 = a / 4294967296 := Int.fdiv_eq_ediv_of_nonneg _ (by omega)
theorem min32' : (2 : Int) ^ min (Int.toNat 32) IntKind.i64.bits = 4294967296 := by decide
theorem min32u : (2 : Int) ^ min (Int.toNat 32) IntKind.u64.bits = 4294967296 := by decide
theorem fd32' (a : Int) : Int.fdiv a (2 ^ min (Int.toNat 32) IntKind.u64.bits) = a / 4294967296 := fd32 a
theorem and32 (x : Int) : (((BitVec.ofInt 64 x &&& BitVec.ofInt 64 4294967295).toNat : Nat) : Int) = x % 4294967296 := by
  rw [BitVec.toNat_and, BitVec.toNat_ofInt, BitVec.toNat_ofInt]
  have e : (4294967295 % ((2 ^ 64 : Nat) : Int)).toNat = 2 ^ 32 - 1 := by decide
  rw [e, Nat.and_two_pow_sub_one_eq_mod]
  omega
theorem and1 (x : Int) : (((BitVec.ofInt 64 x &&& BitVec.ofInt 64 1).toNat : Nat) : Int) = x % 2 := by
  rw [BitVec.toNat_and, BitVec.toNat_ofInt, BitVec.toNat_ofInt]
  have e : (1 % ((2 ^ 64 : Nat) : Int)).toNat = 2 ^ 1 - 1 := by decide
  rw [e, Nat.and_two_pow_sub_one_eq_mod]
  omega
theorem or_add (p q : Int) (i : Nat) (hi : i ≤ 64) (h0 : 0 ≤ p) (h1 : p < 18446744073709551616) (h2 : p % 2 ^ i = 0) (h3 : 0 ≤ q) (h4 : q < 2 ^ i) : (((BitVec.ofInt 64 p ||| BitVec.ofInt 64 q).toNat : Nat) : Int) = p + q := by
  have hq : q < 18446744073709551616 := Int.lt_of_lt_of_le h4 (by
    have h : 2 ^ i ≤ 2 ^ 64 := Nat.pow_le_pow_right (by decide) hi
    have h : ((2 ^ i : Nat) : Int) ≤ ((2 ^ 64 : Nat) : Int) := Int.ofNat_le.2 h
    have e : ((2 ^ i : Nat) : Int) = (2 : Int) ^ i := by norm_cast
    rw [e] at h
    exact h)
  obtain ⟨P, rfl⟩ := Int.eq_ofNat_of_zero_le h0
  obtain ⟨Q, rfl⟩ := Int.eq_ofNat_of_zero_le h3
  rw [BitVec.toNat_or, BitVec.toNat_ofInt, BitVec.toNat_ofInt]
  have e1 : (((P : Int) % ((2 ^ 64 : Nat) : Int)).toNat) = P := by omega
  have e2 : (((Q : Int) % ((2 ^ 64 : Nat) : Int)).toNat) = Q := by omega
  rw [e1, e2]
  have h2' : P % 2 ^ i = 0 := by exact_mod_cast h2
  have h4' : Q < 2 ^ i := by exact_mod_cast h4
  have hP : P = (P / 2 ^ i) <<< i := by
    rw [Nat.shiftLeft_eq]
    have := Nat.div_add_mod P (2 ^ i)
    rw [h2', Nat.mul_comm] at this; omega
  rw [hP, ← Nat.shiftLeft_add_eq_or_of_lt h4']
  omega
theorem prod_le {a b : Int} {A B : Nat} (ha : a.natAbs ≤ A) (hb : b.natAbs ≤ B) : -((A * B : Nat) : Int) ≤ a * b ∧ a * b ≤ ((A * B : Nat) : Int) := by
  have h := Nat.mul_le_mul ha hb
  rw [← Int.natAbs_mul] at h
  omega
theorem prod_i64 {a b : Int} (ha : I64 a) (hb : I64 b) : -85070591730234615865843651857942052864 ≤ a * b ∧ a * b ≤ 85070591730234615865843651857942052864 := by
  unfold I64 at ha hb
  exact prod_le (A := 9223372036854775808) (B := 9223372036854775808) (by omega) (by omega)
end Go.Ab
