/- Plain Lean: what the laws of this program's functions come to, in numbers and lists; no program is run here. -/
import Derived.Test.YtkobnmpilcpojaaGreatPP7q
set_option linter.unusedVariables false
set_option linter.unusedSimpArgs false
set_option maxRecDepth 100000
namespace Go.Proofs.YtkobnmpilcpojaaGreat
open Go Go.Ab Go.Proofs Go.IntWalk
theorem bound35 (m : MT) (b : Bool) : fn73 m (b, ()) = some (res (true, bif b then -9223372036854775808 else 9223372036854775807)) := by
  unfold fn73 law73; cases b <;> rfl
theorem wd_of (a : Int) (h : I64 a) : (Int.fdiv a (2 ^ min (Int.toNat 63) 64), IntKind.u64.wrap a, ()) = wd a := by
  unfold I64 at h
  unfold wd
  rw [fd63, u64m]
  have : a / 9223372036854775808 = a / 18446744073709551616 := by omega
  rw [this]
def I128 (v : Int) : Prop := -170141183460469231731687303715884105728 ≤ v ∧ v ≤ 170141183460469231731687303715884105727
theorem add33 (u v : Int) (hu : I128 u) (hv : I128 v) (h : I128 (u + v)) : fn70 (wd u, wd v, ()) = some (wd (u + v), true, ()) := by
  unfold I128 at hu hv h
  unfold fn70 law70 fn128 add64Law wd
  simp only
  have h1 : decide (((u % 18446744073709551616).toNat + (v % 18446744073709551616).toNat + Int.toNat 0) / 18446744073709551616 ≤ 1) = true := by
    simp only [decide_eq_true_eq]; omega
  have e0 : ((((u % 18446744073709551616).toNat + (v % 18446744073709551616).toNat + Int.toNat 0) / 18446744073709551616 : Nat) : Int).toNat = ((u % 18446744073709551616).toNat + (v % 18446744073709551616).toNat + Int.toNat 0) / 18446744073709551616 := by omega
  rw [e0, h1]
  simp only [cond_true, Option.bind_some]
  have key : IntKind.i64.wrap (((((IntKind.u64.wrap (u / 18446744073709551616)).toNat + (IntKind.u64.wrap (v / 18446744073709551616)).toNat + ((u % 18446744073709551616).toNat + (v % 18446744073709551616).toNat + Int.toNat 0) / 18446744073709551616) % 18446744073709551616 : Nat) : Int)) = (u + v) / 18446744073709551616 := by
    rw [u64m, u64m, i64m]
    omega
  have key2 : (((((u % 18446744073709551616).toNat + (v % 18446744073709551616).toNat + Int.toNat 0) % 18446744073709551616 : Nat) : Int)) = (u + v) % 18446744073709551616 := by omega
  rw [key, key2]
  have hs : (decide (u / 18446744073709551616 < 0) == decide (v / 18446744073709551616 < 0)) = true → (!(decide ((u + v) / 18446744073709551616 < 0) == decide (u / 18446744073709551616 < 0))) = false := by
    by_cases a : u / 18446744073709551616 < 0 <;> by_cases b : v / 18446744073709551616 < 0 <;> by_cases c : (u + v) / 18446744073709551616 < 0 <;> simp [a, b, c] <;> omega
  cases hc : (decide (u / 18446744073709551616 < 0) == decide (v / 18446744073709551616 < 0))
  · rfl
  · rw [hs hc]; rfl
theorem neg31 (v : Int) (hv : I128 v) (h : v ≠ -170141183460469231731687303715884105728) : fn119 (wd v, ()) = some (wd (-v), true, ()) := by
  unfold I128 at hv
  unfold fn119 law119 fn148 sub64Law wd
  simp only
  have h1 : decide (Int.toNat (if Int.toNat 0 < (v % 18446744073709551616).toNat + Int.toNat 0 then 1 else 0) ≤ 1) = true := by
    simp only [decide_eq_true_eq]; split <;> decide
  rw [h1]
  simp only [cond_true, Option.bind_some]
  have key : IntKind.i64.wrap ((((Int.toNat 0 + 18446744073709551616 - (IntKind.u64.wrap (v / 18446744073709551616)).toNat - Int.toNat (if Int.toNat 0 < (v % 18446744073709551616).toNat + Int.toNat 0 then 1 else 0)) % 18446744073709551616 : Nat) : Int)) = (-v) / 18446744073709551616 := by
    rw [u64m, i64m]
    split <;> omega
  have key2 : ((((Int.toNat 0 + 18446744073709551616 - (v % 18446744073709551616).toNat - Int.toNat 0) % 18446744073709551616 : Nat) : Int)) = (-v) % 18446744073709551616 := by omega
  rw [key, key2]
  cases hc : decide (v / 18446744073709551616 < 0)
  · rfl
  · have := of_decide_eq_true hc
    have hd : decide (-v / 18446744073709551616 < 0) = false := decide_eq_false (by omega)
    rw [hd]; rfl
theorem fit_law (m : MT) (v : Int) (hv : I128 v) : (bif (wd v).1 != (IntKind.i64.wrap (wd v).2.1).fdiv (2 ^ min (Int.toNat 63) 64) then Option.bind (fn73 m (decide ((wd v).1 < 0), ())) (fun v1 => some ((v1.1.1, ()), v1.2.1, ())) else some ((m.1, ()), IntKind.i64.wrap (wd v).2.1, ())) = some (res (satS m.1 v)) := by
  unfold I128 at hv
  unfold wd
  simp only
  rw [fd63, i64m]
  by_cases h : I64 v
  · rw [satS_in h]
    unfold I64 at h
    have e : (v / 18446744073709551616 != ((v % 18446744073709551616 + 9223372036854775808) % 18446744073709551616 - 9223372036854775808) / 9223372036854775808) = false := by
      rw [bne_eq_false_iff_eq]; omega
    rw [e]
    have e2 : (v % 18446744073709551616 + 9223372036854775808) % 18446744073709551616 - 9223372036854775808 = v := by omega
    rw [e2]; rfl
  · unfold I64 at h
    have e : (v / 18446744073709551616 != ((v % 18446744073709551616 + 9223372036854775808) % 18446744073709551616 - 9223372036854775808) / 9223372036854775808) = true := by
      rw [bne_iff_ne]; omega
    rw [e]
    simp only [cond_true, bound35, Option.bind_some]
    unfold satS
    by_cases hn : v < 0
    · rw [if_neg (by omega), if_pos (by omega), decide_eq_true (by omega)]; rfl
    · rw [if_pos (by omega), decide_eq_false (by omega)]; rfl
theorem i128_of {v : Int} (h : -85070591730234615865843651857942052864 ≤ v ∧ v ≤ 85070591730234615865843651857942052864) : I128 v := by unfold I128; omega
theorem sub16 (m : MT) (x : Int × Int × Unit) (ha : I64 x.1) (hb : I64 x.2.1) : fn55 m x = some (res (subS m.1 x.1 x.2.1)) := by
  obtain ⟨a, b, u⟩ := x
  have ha : I64 a := ha
  have hb : I64 b := hb
  unfold fn55 law55
  simp only
  rw [wd_of a ha, wd_of b hb]
  unfold I64 at ha hb
  rw [neg31 b (i128_of (by omega)) (by omega)]
  simp only [Option.bind_some]
  rw [add33 a (-b) (i128_of (by omega)) (i128_of (by omega)) (i128_of (by omega))]
  simp only [Option.bind_some]
  exact fit_law m (a + -b) (i128_of (by omega))
theorem add38 (m : MT) (x : Int × Int × Unit) (ha : I64 x.1) (hb : I64 x.2.1) : fn23 m x = some (res (addS m.1 x.1 x.2.1)) := by
  obtain ⟨a, b, u⟩ := x
  have ha : I64 a := ha
  have hb : I64 b := hb
  unfold fn23 law23
  simp only
  rw [wd_of a ha, wd_of b hb]
  unfold I64 at ha hb
  rw [add33 a b (i128_of (by omega)) (i128_of (by omega)) (i128_of (by omega))]
  simp only [Option.bind_some]
  exact fit_law m (a + b) (i128_of (by omega))
theorem neg29 (m : MT) (x : Int × Unit) (ha : I64 x.1) : fn77 m x = some (res (subS m.1 0 x.1)) := by
  unfold fn77 law77
  exact (bindSome (sub16 m (0, x) (show I64 0 from ⟨by decide, by decide⟩) ha)).trans rfl
theorem abs14 (m : MT) (x : Int × Unit) (ha : I64 x.1) : fn66 m x = some (res (absS m.1 x.1)) := by
  obtain ⟨a, u⟩ := x
  unfold fn66 law66 absS
  simp only
  by_cases h : a < 0
  · rw [decide_eq_true h, if_pos h]
    exact (bindSome (neg29 m (a, u) ha)).trans rfl
  · rw [decide_eq_false h, if_neg h]; rfl
theorem mul62 (x y : Int) (hx : 0 ≤ x ∧ x < 18446744073709551616) (hy : 0 ≤ y ∧ y < 18446744073709551616) : fn127 (x, y, ()) = some (x * y / 18446744073709551616, x * y % 18446744073709551616, ()) := by
  unfold fn127 law127
  simp only [fd32, and32, u64m]
  have e1 : ∀ z : Int, z % 4294967296 % 18446744073709551616 = z % 4294967296 := fun z => by omega
  simp only [e1]
  rw [mul64_arith x y hx.1 hx.2 hy.1 hy.2]
theorem mul39 (x : Int × Int × Unit) (ha : I64 x.1) (hb : I64 x.2.1) : fn69 x = some (wd (x.1 * x.2.1), ()) := by
  obtain ⟨a, b, u⟩ := x
  have ha : I64 a := ha
  have hb : I64 b := hb
  unfold I64 at ha hb
  have h := mul62 (IntKind.u64.wrap a) (IntKind.u64.wrap b) (u64r a) (u64r b)
  unfold fn127 law127 at h
  have h := Option.some.inj h
  have h1 := congrArg Prod.fst h
  have h2 := congrArg (fun z => z.2.1) h
  simp only at h1 h2
  unfold fn69 law69
  simp only [h1, h2]
  have hp := prod_i64 (a := a) (b := b) ha hb
  rw [u64m a, u64m b]
  simp only [u64m, i64m]
  unfold wd
  have e1 : decide (a < 0) = true → a % 18446744073709551616 = a + 18446744073709551616 := fun h => by have := of_decide_eq_true h; omega
  have e2 : decide (a < 0) = false → a % 18446744073709551616 = a := fun h => by have := of_decide_eq_false h; omega
  have e3 : decide (b < 0) = true → b % 18446744073709551616 = b + 18446744073709551616 := fun h => by have := of_decide_eq_true h; omega
  have e4 : decide (b < 0) = false → b % 18446744073709551616 = b := fun h => by have := of_decide_eq_false h; omega
  have m1 : (a + 18446744073709551616) * (b + 18446744073709551616) = a * b + (a + b) * 18446744073709551616 + 340282366920938463463374607431768211456 := by grind
  have m2 : (a + 18446744073709551616) * b = a * b + b * 18446744073709551616 := by grind
  have m3 : a * (b + 18446744073709551616) = a * b + a * 18446744073709551616 := by grind
  cases h1 : decide (a < 0) <;> cases h2 : decide (b < 0)
  · rw [e2 h1, e4 h2]
    generalize a * b = P at *
    have q1 : (P / 18446744073709551616 + 9223372036854775808) % 18446744073709551616 - 9223372036854775808 = P / 18446744073709551616 := by omega
    simp only [cond_false]
    rw [q1]
  · rw [e2 h1, e3 h2, m3]
    generalize a * b = P at *
    have q1 : (((P + a * 18446744073709551616) / 18446744073709551616 - a) % 18446744073709551616 + 9223372036854775808) % 18446744073709551616 - 9223372036854775808 = P / 18446744073709551616 := by omega
    have q2 : (P + a * 18446744073709551616) % 18446744073709551616 = P % 18446744073709551616 := by omega
    simp only [cond_false, cond_true]
    rw [q1, q2]
  · rw [e1 h1, e4 h2, m2]
    generalize a * b = P at *
    have q1 : (((P + b * 18446744073709551616) / 18446744073709551616 - b) % 18446744073709551616 + 9223372036854775808) % 18446744073709551616 - 9223372036854775808 = P / 18446744073709551616 := by omega
    have q2 : (P + b * 18446744073709551616) % 18446744073709551616 = P % 18446744073709551616 := by omega
    simp only [cond_false, cond_true]
    rw [q1, q2]
  · rw [e1 h1, e3 h2, m1]
    generalize a * b = P at *
    have q1 : ((((P + (a + b) * 18446744073709551616 + 340282366920938463463374607431768211456) / 18446744073709551616 - (b + 18446744073709551616)) % 18446744073709551616 - (a + 18446744073709551616)) % 18446744073709551616 + 9223372036854775808) % 18446744073709551616 - 9223372036854775808 = P / 18446744073709551616 := by omega
    have q2 : (P + (a + b) * 18446744073709551616 + 340282366920938463463374607431768211456) % 18446744073709551616 = P % 18446744073709551616 := by omega
    simp only [cond_true]
    rw [q1, q2]
theorem shift20 (v : Int) : IntKind.u64.wrap (((BitVec.ofInt 64 (IntKind.u64.wrap (IntKind.u64.wrap (v / 18446744073709551616) * 4294967296)) ||| BitVec.ofInt 64 (v % 18446744073709551616 / 4294967296)).toNat : Nat) : Int) = v / 4294967296 % 18446744073709551616 := by
  rw [or_add _ _ 32 (by decide) (u64r _).1 (u64r _).2 (by rw [u64m, u64m]; omega) (by omega) (by omega), u64m, u64m, u64m]
  omega
theorem mul20 (m : MT) (x : Int × Int × Unit) (ha : I64 x.1) (hb : I64 x.2.1) : fn21 m x = some (res (mulS m.1 x.1 x.2.1)) := by
  unfold fn21 law21 mulS mulV
  rw [bindSome (mul39 x ha hb)]
  have hp := prod_i64 (a := x.1) (b := x.2.1) ha hb
  generalize x.1 * x.2.1 = P at *
  simp only [min32, min32', fdl, and1]
  have w1 : (IntKind.u32.wrap (wd P).2.1) = P % 4294967296 := by unfold wd; rw [u32m]; show P % 18446744073709551616 % 4294967296 = _; omega
  have w2 := shift20 P
  have w3 : (wd P).1 / 4294967296 = P / 4294967296 / 18446744073709551616 := by show P / 18446744073709551616 / 4294967296 = _; omega
  have w3' : P / 18446744073709551616 / 4294967296 = P / 4294967296 / 18446744073709551616 := by omega
  have w4 : (wd P).2.1 = P % 18446744073709551616 := rfl
  have w5 : (wd P).1 = P / 18446744073709551616 := rfl
  rw [w1, w4, w5, w3']
  simp only [w2]
  have w6 : ∀ q : Int, ((q / 18446744073709551616, q % 18446744073709551616, ()) : Int × Int × Unit) = wd q := fun _ => rfl
  have w7 : ((1 / 9223372036854775808, IntKind.u64.wrap 1, ()) : Int × Int × Unit) = wd 1 := by unfold wd; rw [u64m]; rfl
  rw [fd63, w6, w7]
  have hr : rnd P 4294967296 = if P % 4294967296 * 2 > 4294967296 ∨ (P % 4294967296 * 2 = 4294967296 ∧ P / 4294967296 % 2 = 1) then P / 4294967296 + 1 else P / 4294967296 := rfl
  have up : Option.bind (fn70 (wd (P / 4294967296), wd 1, ())) (fun v1 => (bif v1.1.1 != (IntKind.i64.wrap v1.1.2.1).fdiv (2 ^ min (Int.toNat 63) 64) then (Option.bind (fn73 m (decide (v1.1.1 < 0), ())) fun v2 => some ((v2.1.1, ()), v2.2.1, ())) else some ((m.1, ()), IntKind.i64.wrap v1.1.2.1, ()))) = some (res (satS m.1 (P / 4294967296 + 1))) := by
    rw [bindSome (add33 (P / 4294967296) 1 (i128_of (by omega)) (i128_of (by omega)) (i128_of (by omega)))]
    exact fit_law m _ (i128_of (by omega))
  have dn := fit_law m (P / 4294967296) (i128_of (by omega))
  by_cases h1 : P % 4294967296 > 2147483648
  · rw [decide_eq_true h1, hr, if_pos (by omega)]
    exact up
  · rw [decide_eq_false h1]
    by_cases h2 : P % 4294967296 = 2147483648
    · have e : (P % 4294967296 == 2147483648) = true := by rw [h2]; rfl
      rw [e]
      have e3 : IntKind.u64.wrap (P / 4294967296 % 18446744073709551616 % 2) = P / 4294967296 % 2 := by rw [u64m]; omega
      rw [e3]
      by_cases h3 : P / 4294967296 % 2 = 1
      · rw [hr, if_pos (by omega), h3]
        exact up
      · rw [hr, if_neg (by omega)]
        have e4 : (P / 4294967296 % 2 == 1) = false := by simpa using h3
        rw [e4]
        exact dn
    · have e : (P % 4294967296 == 2147483648) = false := by simpa using h2
      rw [e, hr, if_neg (by omega)]
      exact dn
end Go.Proofs.YtkobnmpilcpojaaGreat
