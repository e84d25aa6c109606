/- Plain Lean: what the laws of this program's functions come to, in numbers and lists; no program is run here. -/
import Derived.Test.YtkobnmpilcpojaaGreatPPDiv
set_option linter.unusedVariables false
set_option linter.unusedSimpArgs false
set_option maxRecDepth 100000
namespace Go.Proofs.YtkobnmpilcpojaaGreat
open Go Go.Ab Go.Proofs Go.IntWalk
theorem lx151 (N0 N1 : Nat) (hN0 : 4 ≤ N0) (hN1 : 4 ≤ N1) (a b y : Int) (ha : 0 ≤ a ∧ a < y) (hb : 0 ≤ b ∧ b < 18446744073709551616) (hy : 0 < y ∧ y < 18446744073709551616) : law151 N0 N1 (a, b, y, ()) = some ((a * 18446744073709551616 + b) / y, (a * 18446744073709551616 + b) % y, ()) := by
  unfold law151
  simp only
  have c1 : (y == 0) = false := by simp; omega
  have c2 : decide (y ≤ a) = false := by simp; omega
  have c3 : decide (y = 0) = false := by simp; omega
  rw [c1, c2, c3]
  simp only [cond_false, Bool.not_false, cond_true]
  by_cases hz : a = 0
  · have hz' : (a == 0) = true := by simpa using hz
    rw [hz', hz]
    simp only [cond_true]
    rw [Int.tdiv_eq_ediv_of_nonneg hb.1, Int.tmod_eq_emod_of_nonneg hb.1, u64in (b / y) ⟨Int.ediv_nonneg hb.1 (by omega), Int.lt_of_le_of_lt (Int.ediv_le_self _ hb.1) hb.2⟩]
    simp
  · have hz' : (a == 0) = false := by simpa using hz
    rw [hz']
    simp only [cond_false]
    obtain ⟨s, k1, k2, k3, k4⟩ := lz84 y hy
    rw [k1]
    have g1 : ∀ z : Int, decide (0 ≤ IntKind.u64.wrap z) = true := fun z => decide_eq_true (u64r z).1
    have es : min (IntKind.u64.wrap (s : Int)).toNat 64 = s := by rw [u64in _ (by omega)]; simp; omega
    have es' : min (IntKind.u64.wrap (s : Int)).toNat IntKind.u64.bits = s := es
    have et : min (IntKind.u64.wrap (64 - IntKind.u64.wrap (s : Int))).toNat 64 = 64 - s := by rw [u64in (s : Int) (by omega), u64in _ (by omega)]; omega
    have pS : (0 : Int) < 2 ^ s := Int.pow_pos (by decide)
    have pT : (0 : Int) < 2 ^ (64 - s) := Int.pow_pos (by decide)
    have eST : (2 : Int) ^ s * 2 ^ (64 - s) = 18446744073709551616 := by
      rw [← Int.pow_add, show s + (64 - s) = 64 by omega]; decide
    simp only [Option.bind_some, g1, cond_true, es, es', et, min32, min32u, fdl, and32]
    rw [Int.fdiv_eq_ediv_of_nonneg b (Int.le_of_lt pT)]
    have hor : ∀ p : Int, p = a * 2 ^ s → IntKind.u64.wrap (((BitVec.ofInt 64 (IntKind.u64.wrap p) ||| BitVec.ofInt 64 (b / 2 ^ (64 - s))).toNat : Nat) : Int) = a * 2 ^ s + b / 2 ^ (64 - s) := by
      intro p hp
      have h1 : 0 ≤ a * 2 ^ s := Int.mul_nonneg ha.1 (by omega)
      have h2 : (a + 1) * 2 ^ s ≤ y * 2 ^ s := Int.mul_le_mul_of_nonneg_right (by omega) (by omega)
      rw [Int.add_mul, Int.one_mul] at h2
      have h4 : b / 2 ^ (64 - s) < 2 ^ s := Int.ediv_lt_of_lt_mul pT (by rw [eST]; exact hb.2)
      have h3 : 0 ≤ b / 2 ^ (64 - s) := Int.ediv_nonneg hb.1 (by omega)
      rw [hp, u64in _ ⟨h1, by omega⟩, or_add _ _ s (by omega) h1 (by omega) (Int.mul_emod_left a _) h3 h4, u64in _ (by omega)]
    rw [hor _ rfl, u64in (y * 2 ^ s) (by omega)]
    have hB : IntKind.u64.wrap (b * 2 ^ s) = b * 2 ^ s % 18446744073709551616 := u64m _
    rw [hB]
    -- the digits
    have hlo : b * 2 ^ s = b / 2 ^ (64 - s) * 18446744073709551616 + b * 2 ^ s % 18446744073709551616 := by
      have h1 : b * 2 ^ s / 18446744073709551616 = b / 2 ^ (64 - s) := by
        rw [← eST, Int.mul_comm b, Int.mul_ediv_mul_of_pos _ _ pS]
      have := Int.mul_ediv_add_emod (b * 2 ^ s) 18446744073709551616
      rw [h1] at this; omega
    have hA0 : 0 ≤ a * 2 ^ s + b / 2 ^ (64 - s) := Int.add_nonneg (Int.mul_nonneg ha.1 (by omega)) (Int.ediv_nonneg hb.1 (by omega))
    have hAY : a * 2 ^ s + b / 2 ^ (64 - s) < y * 2 ^ s := by
      have h2 : (a + 1) * 2 ^ s ≤ y * 2 ^ s := Int.mul_le_mul_of_nonneg_right (by omega) (by omega)
      rw [Int.add_mul, Int.one_mul] at h2
      have h4 : b / 2 ^ (64 - s) < 2 ^ s := Int.ediv_lt_of_lt_mul pT (by rw [eST]; exact hb.2)
      omega
    have hall : (a * 18446744073709551616 + b) * 2 ^ s = (a * 2 ^ s + b / 2 ^ (64 - s)) * 18446744073709551616 + b * 2 ^ s % 18446744073709551616 := by
      have : (a * 18446744073709551616 + b) * 2 ^ s = a * 2 ^ s * 18446744073709551616 + b * 2 ^ s := by grind
      rw [this]; omega
    have hfin : ((a * 18446744073709551616 + b) * 2 ^ s) / (y * 2 ^ s) = (a * 18446744073709551616 + b) / y := Int.mul_ediv_mul_of_pos_left _ _ pS
    have hfin2 : ((a * 18446744073709551616 + b) * 2 ^ s) % (y * 2 ^ s) / 2 ^ s = (a * 18446744073709551616 + b) % y := by
      rw [Int.mul_comm _ (2 ^ s), Int.mul_comm y, Int.mul_emod_mul_of_pos _ _ pS, Int.mul_ediv_cancel_left _ (by omega)]
    generalize hAA : a * 2 ^ s + b / 2 ^ (64 - s) = A at *
    generalize hYY : y * 2 ^ s = Y at *
    have hBr : 0 ≤ b * 2 ^ s % 18446744073709551616 ∧ b * 2 ^ s % 18446744073709551616 < 18446744073709551616 := by omega
    generalize b * 2 ^ s % 18446744073709551616 = B at *
    have hd : (!decide (Y / 4294967296 = 0)) = true := by rw [Bool.not_eq_true', decide_eq_false_iff_not]; omega
    rw [hd]
    simp only [cond_true]
    have wA : IntKind.u64.wrap (B % 4294967296) = B % 4294967296 := u64in _ (by omega)
    have wY : IntKind.u64.wrap (Y % 4294967296) = Y % 4294967296 := u64in _ (by omega)
    have eY : Y / 4294967296 * 4294967296 + Y % 4294967296 = Y := by omega
    have rY : 2147483648 ≤ Y / 4294967296 ∧ Y / 4294967296 < 4294967296 := by omega
    have rY0 : 0 ≤ Y % 4294967296 ∧ Y % 4294967296 < 4294967296 := by omega
    have uY : IntKind.u64.wrap Y = Y := u64in Y (by omega)
    have D0 : ∀ k : Int → Option (Int × Int × Unit), law151o0 N0 N1 (a, b, y, ()) ((s : Int), ()) k N0 (IntKind.u64.wrap (A.tdiv (Y / 4294967296))) (IntKind.u64.wrap (A - IntKind.u64.wrap (IntKind.u64.wrap (A.tdiv (Y / 4294967296)) * (Y / 4294967296)))) = k ((A * 4294967296 + B / 4294967296) / (Y / 4294967296 * 4294967296 + Y % 4294967296)) := fun k =>
      digit A (B / 4294967296) (Y / 4294967296) (Y % 4294967296) k (fun n q p => law151o0 N0 N1 (a, b, y, ()) ((s : Int), ()) k n q p) (fun n q p => by
        conv => lhs; unfold law151o0
        simp only [es, min32, fdl, and32, hYY, uY, wY, hB]) rY rY0 (by omega) (by omega) N0 hN0
    have D1 : ∀ (w C : Int) (k : Int → Option (Int × Int × Unit)), 0 ≤ C → C < Y → law151o1o1 N0 N1 (a, b, y, ()) ((s : Int), ()) w k N1 (IntKind.u64.wrap (C - IntKind.u64.wrap (IntKind.u64.wrap (C.tdiv (Y / 4294967296)) * (Y / 4294967296)))) (IntKind.u64.wrap (C.tdiv (Y / 4294967296))) = k ((C * 4294967296 + B % 4294967296) / (Y / 4294967296 * 4294967296 + Y % 4294967296)) := fun w C k hC0 hC1 =>
      digit C (B % 4294967296) (Y / 4294967296) (Y % 4294967296) k (fun n q p => law151o1o1 N0 N1 (a, b, y, ()) ((s : Int), ()) w k n p q) (fun n q p => by
        conv => lhs; unfold law151o1o1
        simp only [es, min32, fdl, and32, hYY, uY, wY, hB, wA]) rY rY0 ⟨hC0, by omega⟩ (by omega) N1 hN1
    rw [D0, eY]
    obtain ⟨q1, q2, q3⟩ := qr (A * 4294967296 + B / 4294967296) (show 0 < Y by omega)
    have q4 : 0 ≤ (A * 4294967296 + B / 4294967296) / Y := Int.ediv_nonneg (by omega) (by omega)
    have q5 : (A * 4294967296 + B / 4294967296) / Y < 4294967296 := Int.ediv_lt_of_lt_mul (by omega) (by omega)
    generalize (A * 4294967296 + B / 4294967296) / Y = Q1 at *
    generalize (A * 4294967296 + B / 4294967296) % Y = C at *
    have e21 : IntKind.u64.wrap (IntKind.u64.wrap (IntKind.u64.wrap (A * 4294967296) + B / 4294967296) - IntKind.u64.wrap (Q1 * Y)) = C := by
      simp only [u64m]
      generalize Q1 * Y = P at *
      omega
    rw [e21, D1 Q1 C _ q2 q3, eY]
    obtain ⟨r1, r2, r3⟩ := qr (C * 4294967296 + B % 4294967296) (show 0 < Y by omega)
    have r4 : 0 ≤ (C * 4294967296 + B % 4294967296) / Y := Int.ediv_nonneg (by omega) (by omega)
    have r5 : (C * 4294967296 + B % 4294967296) / Y < 4294967296 := Int.ediv_lt_of_lt_mul (by omega) (by omega)
    generalize (C * 4294967296 + B % 4294967296) / Y = Q0 at *
    generalize (C * 4294967296 + B % 4294967296) % Y = R at *
    have eQ : IntKind.u64.wrap (IntKind.u64.wrap (Q1 * 4294967296) + Q0) = Q1 * 4294967296 + Q0 := by
      rw [u64in (Q1 * 4294967296) (by omega), u64in _ (by omega)]
    have eR : IntKind.u64.wrap (IntKind.u64.wrap (IntKind.u64.wrap (C * 4294967296) + IntKind.u64.wrap (B % 4294967296)) - IntKind.u64.wrap (Q0 * Y)) = R := by
      simp only [u64m]
      generalize Q0 * Y = P at *
      omega
    rw [eQ, eR, Int.fdiv_eq_ediv_of_nonneg _ (Int.le_of_lt pS)]
    have etot : (a * 18446744073709551616 + b) * 2 ^ s = (Q1 * 4294967296 + Q0) * Y + R := by
      rw [hall]
      have e1 : (Q1 * 4294967296 + Q0) * Y = Q1 * Y * 4294967296 + Q0 * Y := by grind
      rw [e1]
      generalize Q1 * Y = P at *
      generalize Q0 * Y = P' at *
      omega
    obtain ⟨z1, z2⟩ := qr_unique (show 0 < Y by omega) etot r2 r3
    rw [← hfin, ← hfin2, z1, z2]
theorem div73 (x : Int × Int × Int × Unit) (ha : 0 ≤ x.1 ∧ x.1 < x.2.2.1) (hb : 0 ≤ x.2.1 ∧ x.2.1 < 18446744073709551616) (hy : 0 < x.2.2.1 ∧ x.2.2.1 < 18446744073709551616) : fn151 x = some ((x.1 * 18446744073709551616 + x.2.1) / x.2.2.1, (x.1 * 18446744073709551616 + x.2.1) % x.2.2.1, ()) :=
  lx151 _ _ (by decide) (by decide) x.1 x.2.1 x.2.2.1 ha hb hy
def absV (v : Int) : Int := if v < 0 then -v else v
theorem sized72 (v : Int) (hv : I128 v) : fn150 (wd v, ()) = some (wd (absV v), decide (v < 0), ()) := by
  unfold I128 at hv
  unfold fn150 law150 fn148 sub64Law wd absV
  simp only
  by_cases h : v < 0
  · rw [decide_eq_false (show ¬ v / 18446744073709551616 ≥ 0 by omega), decide_eq_true h, if_pos h]
    simp only [cond_false]
    have h1 : decide (Int.toNat (if Int.toNat 0 < (v % 18446744073709551616).toNat + Int.toNat 0 then 1 else 0) ≤ 1) = true := by
      simp only [decide_eq_true_eq]; split <;> decide
    rw [h1]
    simp only [cond_true, Option.bind_some]
    have key : ((((Int.toNat 0 + 18446744073709551616 - (IntKind.u64.wrap (v / 18446744073709551616)).toNat - Int.toNat (if Int.toNat 0 < (v % 18446744073709551616).toNat + Int.toNat 0 then 1 else 0)) % 18446744073709551616 : Nat) : Int)) = (-v) / 18446744073709551616 := by
      rw [u64m]
      split <;> omega
    have key2 : ((((Int.toNat 0 + 18446744073709551616 - (v % 18446744073709551616).toNat - Int.toNat 0) % 18446744073709551616 : Nat) : Int)) = (-v) % 18446744073709551616 := by omega
    rw [key, key2]
  · rw [decide_eq_true (show v / 18446744073709551616 ≥ 0 by omega), decide_eq_false h, if_neg h]
    simp only [cond_true]
    rw [u64in _ (by omega)]
def Z59 (neg : Bool) (q : Int) : Option (Int × Bool × Unit) := (bif neg then (bif decide (q ≤ 9223372036854775808) then some ((IntKind.i64.wrap (IntKind.u64.wrap (0 - q)), true, ())) else (bif !neg then (bif decide (q < 9223372036854775808) then some ((IntKind.i64.wrap q, true, ())) else some ((0, false, ()))) else some ((0, false, ())))) else (bif !neg then (bif decide (q < 9223372036854775808) then some ((IntKind.i64.wrap q, true, ())) else some ((0, false, ()))) else some ((0, false, ()))))
def T59 (neg : Bool) (q r d : Int) : Option (Int × Bool × Unit) := (bif decide (r > IntKind.u64.wrap (d - r)) then (bif decide (r > 0) then (bif IntKind.u64.wrap (q + 1) == 0 then some ((0, false, ())) else Z59 neg (IntKind.u64.wrap (q + 1))) else Z59 neg q) else (bif r == IntKind.u64.wrap (d - r) then (bif IntKind.u64.wrap (((BitVec.ofInt 64 q &&& BitVec.ofInt 64 1).toNat : Nat) : Int) == 1 then (bif decide (r > 0) then (bif IntKind.u64.wrap (q + 1) == 0 then some ((0, false, ())) else Z59 neg (IntKind.u64.wrap (q + 1))) else Z59 neg q) else Z59 neg q) else Z59 neg q))
def A59 (v : Int) : Option (Int × Bool × Unit) := some (if -9223372036854775808 ≤ v ∧ v ≤ 9223372036854775807 then (v, true, ()) else (0, false, ()))
theorem Z59_law (neg : Bool) (q : Int) (h : 0 ≤ q ∧ q < 18446744073709551616) : Z59 neg q = A59 (if neg = true then -q else q) := by
  unfold Z59 A59
  cases neg
  · simp only [cond_false, Bool.not_false, cond_true]
    by_cases c : q < 9223372036854775808
    · rw [decide_eq_true c, if_pos (by simp; omega), i64_in _ (by omega)]; rfl
    · rw [decide_eq_false c, if_neg (by simp; omega)]; rfl
  · simp only [cond_false, Bool.not_true, cond_true]
    by_cases c : q ≤ 9223372036854775808
    · have e : IntKind.i64.wrap (IntKind.u64.wrap (0 - q)) = -q := by rw [u64m, i64m]; omega
      rw [decide_eq_true c, if_pos (by simp; omega), e]; rfl
    · rw [decide_eq_false c, if_neg (by simp; omega)]; rfl
theorem T59_law (neg : Bool) (q r d : Int) (hq : 0 ≤ q ∧ q < 18446744073709551616) (hr : 0 ≤ r ∧ r < d) (hd : d ≤ 9223372036854775808) : T59 neg q r d = A59 (if neg = true then -(if r * 2 > d ∨ (r * 2 = d ∧ q % 2 = 1) then q + 1 else q) else (if r * 2 > d ∨ (r * 2 = d ∧ q % 2 = 1) then q + 1 else q)) := by
  have w1 : IntKind.u64.wrap (d - r) = d - r := u64in _ (by omega)
  have up : (bif IntKind.u64.wrap (q + 1) == 0 then some ((0, false, ())) else Z59 neg (IntKind.u64.wrap (q + 1))) = A59 (if neg = true then -(q + 1) else q + 1) := by
    by_cases c : q = 18446744073709551615
    · subst c
      have e : (IntKind.u64.wrap (18446744073709551615 + 1) == 0) = true := by decide
      rw [e]
      unfold A59
      cases neg <;> rfl
    · have e : IntKind.u64.wrap (q + 1) = q + 1 := u64in _ (by omega)
      have e2 : (q + 1 == 0) = false := by simp; omega
      rw [e, e2]
      exact Z59_law neg (q + 1) (by omega)
  have dn := Z59_law neg q hq
  unfold T59
  rw [w1, up, dn, and1, u64in (q % 2) (by omega)]
  by_cases c1 : r > d - r
  · rw [decide_eq_true c1, decide_eq_true (show r > 0 by omega), if_pos (show r * 2 > d ∨ (r * 2 = d ∧ q % 2 = 1) by omega)]; rfl
  · rw [decide_eq_false c1]
    by_cases c2 : r = d - r
    · have e : (r == d - r) = true := by simpa using c2
      rw [e]
      by_cases c3 : q % 2 = 1
      · have e3 : (q % 2 == 1) = true := by simpa using c3
        rw [e3, decide_eq_true (show r > 0 by omega), if_pos (show r * 2 > d ∨ (r * 2 = d ∧ q % 2 = 1) by omega)]; rfl
      · have e3 : (q % 2 == 1) = false := by simpa using c3
        rw [e3, if_neg (show ¬ (r * 2 > d ∨ (r * 2 = d ∧ q % 2 = 1)) by omega)]; rfl
    · have e : (r == d - r) = false := by simpa using c2
      rw [e, if_neg (show ¬ (r * 2 > d ∨ (r * 2 = d ∧ q % 2 = 1)) by omega)]; rfl
def divQ (n b : Int) : Int := if b < 0 then rnd (-n) (-b) else rnd n b
theorem div59_part (n d : Int) (neg : Bool) (hn : I128 n) (hd : 0 < d ∧ d ≤ 9223372036854775808) : (bif decide ((wd (absV n)).1 ≥ d) then some ((0, false, ())) else Option.bind (fn151 ((wd (absV n)).1, (wd (absV n)).2.1, d, ())) fun v1 => T59 neg v1.1 v1.2.1 d) = A59 (if neg = true then -rnd (absV n) d else rnd (absV n) d) := by
  have hN : 0 ≤ absV n := by unfold absV; split <;> omega
  have hN2 : absV n ≤ 170141183460469231731687303715884105728 := by unfold I128 at hn; unfold absV; split <;> omega
  generalize absV n = N at *
  have e1 : (wd N).1 = N / 18446744073709551616 := rfl
  have e2 : (wd N).2.1 = N % 18446744073709551616 := rfl
  rw [e1, e2]
  obtain ⟨q1, q2, q3⟩ := qr N hd.1
  by_cases c : N / 18446744073709551616 ≥ d
  · rw [decide_eq_true c]
    have h1 : 18446744073709551616 * d ≤ N := by omega
    have h2 : 18446744073709551616 ≤ rnd N d := le_rnd hd.1 h1
    unfold A59
    rw [if_neg (by split <;> omega)]; rfl
  · rw [decide_eq_false c, cond_false]
    rw [bindSome (div73 (N / 18446744073709551616, N % 18446744073709551616, d, ()) ⟨by show 0 ≤ N / 18446744073709551616; omega, by show N / 18446744073709551616 < d; omega⟩ ⟨by show 0 ≤ N % 18446744073709551616; omega, by show N % 18446744073709551616 < _; omega⟩ ⟨hd.1, by show d < _; omega⟩)]
    show T59 neg ((N / 18446744073709551616 * 18446744073709551616 + N % 18446744073709551616) / d) ((N / 18446744073709551616 * 18446744073709551616 + N % 18446744073709551616) % d) d = _
    rw [show N / 18446744073709551616 * 18446744073709551616 + N % 18446744073709551616 = N by omega]
    have hq : 0 ≤ N / d ∧ N / d < 18446744073709551616 := ⟨Int.ediv_nonneg hN (by omega), Int.ediv_lt_of_lt_mul hd.1 (by
      have : N < (N / 18446744073709551616 + 1) * 18446744073709551616 := by omega
      omega)⟩
    rw [T59_law neg _ _ d hq ⟨q2, q3⟩ hd.2]
    rfl
theorem div59 (n b : Int) (hn : I128 n) (hb : I64 b) (hb0 : b ≠ 0) : fn126 (wd n, b, ()) = A59 (divQ n b) := by
  unfold I64 at hb
  unfold fn126 law126
  rw [bindSome (sized72 n hn)]
  simp only
  have hb2 := u64m b
  unfold divQ
  by_cases c : b < 0
  · have e : IntKind.u64.wrap (0 - IntKind.u64.wrap b) = -b := by rw [u64m, u64m]; omega
    rw [decide_eq_true c, if_pos c, e]
    have := div59_part n (-b) (!decide (n < 0)) hn (by omega)
    refine Eq.trans ?_ (this.trans ?_)
    · rfl
    · unfold absV
      by_cases hc : n < 0
      · rw [decide_eq_true hc, if_pos hc]; rfl
      · rw [decide_eq_false hc, if_neg hc, rnd_neg n (by omega)]; rfl
  · have e : IntKind.u64.wrap b = b := u64in _ (by omega)
    rw [decide_eq_false c, if_neg c, e]
    have := div59_part n b (decide (n < 0)) hn (by omega)
    refine Eq.trans ?_ (this.trans ?_)
    · rfl
    · unfold absV
      by_cases hc : n < 0
      · rw [decide_eq_true hc, if_pos hc, if_pos rfl, rnd_neg n (by omega), Int.neg_neg]
      · rw [decide_eq_false hc, if_neg hc]; rfl
theorem div30 (m : MT) (x : Int × Int × Unit) (ha : I64 x.1) (hb : I64 x.2.1) : fn68 m x = some (res (divS m.1 x.1 x.2.1)) := by
  obtain ⟨a, b, u⟩ := x
  have ha : I64 a := ha
  have hb : I64 b := hb
  unfold fn68 law68 divS
  simp only
  by_cases c : b = 0
  · subst c
    rw [if_pos rfl]
    unfold fn125 law125
    rw [bindSome (bound35 m _)]
    simp only
    by_cases c0 : a = 0
    · subst c0; rfl
    · have e : (a == 0) = false := by simpa using c0
      rw [e, if_neg c0]
      by_cases c1 : a < 0
      · rw [decide_eq_true c1, if_pos c1]; rfl
      · rw [decide_eq_false c1, if_neg c1]; rfl
  · have e : (b == 0) = false := by simpa using c
    rw [e, if_neg c]
    simp only [cond_false]
    have hI : I128 (a * 4294967296) := by unfold I64 at ha; unfold I128; omega
    have ew : (Int.fdiv a (2 ^ min (Int.toNat 32) 64), IntKind.u64.wrap (IntKind.u64.wrap a * 2 ^ min (Int.toNat 32) 64), ()) = wd (a * 4294967296) := by
      unfold wd
      rw [min32, fdl, u64m, u64m]
      have e1 : a / 4294967296 = a * 4294967296 / 18446744073709551616 := by omega
      have e2 : a % 18446744073709551616 * 4294967296 % 18446744073709551616 = a * 4294967296 % 18446744073709551616 := by omega
      rw [e1, e2]
    rw [ew, bindSome (div59 (a * 4294967296) b hI hb c)]
    have ed : divQ (a * 4294967296) b = divV a b := rfl
    rw [ed]
    by_cases hf : -9223372036854775808 ≤ divV a b ∧ divV a b ≤ 9223372036854775807
    · rw [if_pos hf, satS_in hf]; rfl
    · rw [if_neg hf]
      simp only [Bool.not_false, cond_true]
      rw [bindSome (bound35 m _)]
      have hs : (decide (a < 0) == decide (b < 0)) = true → 0 ≤ divV a b := fun h => by
        unfold divV
        by_cases h1 : a < 0 <;> by_cases h2 : b < 0 <;> simp [h1, h2] at h ⊢
        · exact rnd_nonneg (by omega) (by omega)
        · exact rnd_nonneg (by omega) (by omega)
      have hs2 : (decide (a < 0) == decide (b < 0)) = false → divV a b ≤ 0 := fun h => by
        unfold divV
        by_cases h1 : a < 0 <;> by_cases h2 : b < 0 <;> simp [h1, h2] at h ⊢
        · exact rnd_nonpos (by omega) (by omega)
        · exact rnd_nonpos (by omega) (by omega)
      unfold satS
      cases hc : (decide (a < 0) == decide (b < 0))
      · have := hs2 hc
        rw [if_neg (by omega), if_pos (by omega)]; rfl
      · have := hs hc
        rw [if_pos (by omega)]; rfl
end Go.Proofs.YtkobnmpilcpojaaGreat
